/- EvOpG, EvOp, EvOps, EvDraw, EvSched, EvMake, EvDraws, EvDrawEnd. -/
import Derived.Test.YtdiccmapankckaaDoorMa
set_option linter.unusedSimpArgs false
set_option linter.unusedVariables false
set_option linter.unusedSectionVars false
set_option linter.defProp false
set_option maxRecDepth 20000
set_option maxHeartbeats 8000000
namespace Go.Proofs.YtdiccmapankckaaDoor.Ev
open Go
section
section
variable {base : Nat} {ρ : ep} {m : Mem} {w : World} {P : Program}
theorem LO (hR : R base ρ m w) {t u e : TypeId} {size : Nat} (ht : P.underlying t = some (.slice e)) (hs : fW P e = some size) {d s : EV} {d' s' : Value} (hd : VR ρ d d') (hx : VR ρ s s') {v : EV} {m' : Mem} (h : xR m size d s = some (v, m')) :
  Ai P (Builtin.copy_ #[t, u] t #[d', s']) base ρ m w v m' := by
 unfold xR at h
 cases hd <;> simp only [reduceCtorEq] at h
 case ae =>
  obtain ⟨nx, jy, h2⟩ := j6.1 h
  cases h2
  obtain ⟨s1, s2, s3⟩ := jc (P := P) hR hx size (n := nx.1) (xs := nx.2) jy
  obtain ⟨vs, f1, f2, f3⟩ := s3 0 (lu _)
  refine ⟨ρ, w, .int .i64 0, ?_, .int _ _, hR, .refl _ _ _⟩
  unfold Builtin.copy_;simp only [List.getElem?_toArray, List.getElem?_cons_zero, List.getElem?_cons_succ, Sem.run_bind, run_underlying ht, Result.andThen_ok, s1, b8 hs];rw [show Nat.min nx.1 0 = 0 by simp];simp only [f1, Result.andThen_ok, Sem.run_pure, goInt]
  rfl
 case slice b off len c o L hL hc ho hr =>
  cases jy : m.source size s with
  | none => simp [jy] at h
  | some nx =>
  obtain ⟨n, xs⟩ := nx
  simp only [jy] at h;obtain ⟨m1, Uw, h2⟩ := j6.1 h
  cases h2
  obtain ⟨s1, s2, s3⟩ := jc (P := P) hR hx size jy
  obtain ⟨vs, f1, f2, f3⟩ := s3 (min n len) (Nat.min_le_left _ _)
  obtain ⟨w', r1, r2, r3⟩ := pK (P := P) hR hL f2 f3 Uw
  have ei : (storeCells ⟨L.c9, o, none⟩ vs).run P w = .ok () w' := by
   rcases Nat.eq_zero_or_pos len with h0 | h0
   ·have : vs = [] := by
     have := f2.length
     rw [h0] at this;simp at this
     exact List.eq_nil_of_length_eq_zero this.symm
    subst this;exact r1
   ·rw [ho h0]; exact r1
  refine ⟨ρ, w', .int .i64 (min n len : Nat), ?_, .int _ _, r2, r3⟩
  unfold Builtin.copy_;simp only [List.getElem?_toArray, List.getElem?_cons_zero, List.getElem?_cons_succ, Sem.run_bind, run_underlying ht, Result.andThen_ok, s1, b8 hs];rw [show Nat.min n len = min n len from rfl];simp only [f1, Result.andThen_ok, Sem.run_pure, goInt, ei]
 case gJ b off a =>
  cases jy : m.source size s with
  | none => simp [jy] at h
  | some nx =>
  obtain ⟨n, xs⟩ := nx
  simp only [jy] at h;obtain ⟨m1, Uw, h2⟩ := j6.1 h
  cases h2
  obtain ⟨s1, s2, s3⟩ := jc (P := P) hR hx size jy
  obtain ⟨vs, f1, f2, f3⟩ := s3 (min n 0) (Nat.min_le_left _ _)
  obtain ⟨q1, q2⟩ := NO (by rw [Nat.min_zero, Nat.zero_mul, List.take_zero] at Uw; exact Uw)
  obtain ⟨r2, r3⟩ := hR.P8 q1 q2
  have x8 : vs = [] := by
   have := f2.length
   simp at this
   exact List.eq_nil_of_length_eq_zero this.symm
  subst x8;refine ⟨ρ, w, .int .i64 (min n 0 : Nat), ?_, .int _ _, r2, r3⟩
  unfold Builtin.copy_;simp only [List.getElem?_toArray, List.getElem?_cons_zero, List.getElem?_cons_succ, Sem.run_bind, run_underlying ht, Result.andThen_ok, s1, b8 hs];rw [show Nat.min n 0 = min n 0 from rfl];simp only [f1, Result.andThen_ok, Sem.run_pure, goInt, storeCells]
 case fD b off len c o L hL hc ho =>
  cases jy : m.source size s with
  | none => simp [jy] at h
  | some nx =>
  obtain ⟨n, xs⟩ := nx
  simp only [jy] at h;obtain ⟨m1, Uw, h2⟩ := j6.1 h
  cases h2
  obtain ⟨s1, s2, s3⟩ := jc (P := P) hR hx size jy
  obtain ⟨vs, f1, f2, f3⟩ := s3 (min n len) (Nat.min_le_left _ _)
  obtain ⟨w', r1, r2, r3⟩ := pK (P := P) hR hL f2 f3 Uw
  have ei : (storeCells ⟨L.c9, o, none⟩ vs).run P w = .ok () w' := by
   rcases Nat.eq_zero_or_pos len with h0 | h0
   ·have : vs = [] := by
     have := f2.length
     rw [h0] at this;simp at this
     exact List.eq_nil_of_length_eq_zero this.symm
    subst this;exact r1
   ·rw [ho (by omega)]; exact r1
  refine ⟨ρ, w', .int .i64 (min n len : Nat), ?_, .int _ _, r2, r3⟩
  unfold Builtin.copy_;simp only [List.getElem?_toArray, List.getElem?_cons_zero, List.getElem?_cons_succ, Sem.run_bind, run_underlying ht, Result.andThen_ok, s1, b8 hs];rw [show Nat.min n len = min n len from rfl];simp only [f1, Result.andThen_ok, Sem.run_pure, goInt, ei]
def UO (P : Program) (kt : TypeId) (c : Nat) : Prop := ∃ d, P.underlying kt = some d /\ ((c = 0 /\ d = .bool) \/ (c = 1 /\ d = .string) \/ (c = 2 /\ ∃ k, d = .int k))
theorem xW {kt : TypeId} {c : Nat} (h : HZ P kt = some c) : UO P kt c := by
 unfold HZ at h
 cases hu : P.underlying kt with
 | none => simp [hu] at h
 | some d =>
  rw [hu] at h;refine ⟨d, hu, ?_⟩
  cases d <;> simp at h <;> subst h <;> simp
theorem gR {kt : TypeId} {c : Nat} (h : UO P kt c) (b : Bool) (n : Nat) (v : Value) (w : World) : (Instr.checkKey b (n + 1) kt v).run P w = .ok () w := by
 obtain ⟨d, hu, h⟩ := h
 rcases h with ⟨_, rfl⟩ | ⟨_, rfl⟩ | ⟨_, k, rfl⟩ <;> simp [Instr.checkKey, run_underlying hu]
theorem xB : ∀ {a b : Int}, sQ a b = decide (a = b)
 | .ofNat a, .ofNat b => by
  simp only [sQ]
  cases h : a.beq b with
  | true => simp [aR h]
  | false => have := jY h; simp; omega
 | .negSucc a, .negSucc b => by
  simp only [sQ]
  cases h : a.beq b with
  | true => simp [aR h]
  | false => have := jY h; simp [this]
 | .ofNat a, .negSucc b => by simp [sQ]
 | .negSucc a, .ofNat b => by simp [sQ]
theorem OG {k l : IntKind} (h : 2 + bY k = 2 + bY l) : k = l := jL (by rw [show bY k = bY l by omega]; exact dM _)
theorem QZ {kt : TypeId} {c : Nat} {d : TypeDesc} (hu : P.underlying kt = some d) (hd : (c = 0 /\ d = .bool) \/ (c = 1 /\ d = .string) \/ (c = 2 /\ ∃ k, d = .int k)) {k l : EV} {k' l' : Value} (hk : VR ρ k k') (hl : VR ρ l l') (th : lK c k = true) (hs : kH l = kH k) :
  Instr.sameNow d k' l' = some (EV.same k l) /\ (EV.same k l = true -> Instr.sameBits 10000 l' k' = true) := by
 cases hk <;> simp only [lK, re] at th
 case bool a =>
  cases hl <;> simp only [kH] at hs <;> (try (omega))
  ·have := aR th; subst this
   rcases hd with ⟨_, rfl⟩ | ⟨h, _⟩ | ⟨h, _⟩
   ·exact ⟨rfl, fun h => by simp [EV.same] at h; simp [Instr.sameBits, h]⟩
   ·cases h
   ·cases h
 case int x a =>
  cases hl <;> simp only [kH] at hs <;> (try (exfalso; cases x <;> simp [bY] at hs; done))
  ·have := aR th; subst this
   obtain rfl := OG hs
   rcases hd with ⟨h, _⟩ | ⟨h, _⟩ | ⟨_, kk, rfl⟩
   ·cases h
   ·cases h
   ·refine ⟨?_, fun h => ?_⟩
    ·simp only [Instr.sameNow, if_true, EV.same, dM, cond_true, xB]; rfl
    ·simp only [EV.same, dM, cond_true, xB, decide_eq_true_eq] at h
     simp [Instr.sameBits, h]
 case str a =>
  cases hl <;> simp only [kH] at hs <;> (try omega)
  ·have := aR th; subst this
   rcases hd with ⟨h, _⟩ | ⟨_, rfl⟩ | ⟨h, _⟩
   ·cases h
   ·refine ⟨?_, fun h => ?_⟩
    ·simp only [Instr.sameNow, EV.same, fB, bytes_beq]
    ·simp only [EV.same, fB, decide_eq_true_eq] at h
     simp [Instr.sameBits, bytes_beq, h]
   ·cases h
def GM (ρ : ep) (es : List (EV × EV)) (ds : List MapEntry) : Prop := es.length = ds.length /\ ∀ (i : Nat) (e : EV × EV) (d : MapEntry), es[i]? = some e -> ds[i]? = some d -> V8 ρ e d
theorem GM.cons {e : EV × EV} {es : List (EV × EV)} {ds : List MapEntry} (h : GM ρ (e :: es) ds) : ∃ d vc, ds = d :: vc /\ V8 ρ e d /\ GM ρ es vc := by
 cases ds with
 | nil => have := h.1; simp at this
 | cons d vc => exact ⟨d, vc, rfl, h.2 0 e d rfl rfl, by have := h.1; simpa using this, fun i a b ha hb => h.2 (i + 1) a b (by simpa using ha) (by simpa using hb)⟩
theorem xO {kt : TypeId} {c : Nat} {d : TypeDesc} (hu : P.underlying kt = some d) (hd : (c = 0 /\ d = .bool) \/ (c = 1 /\ d = .string) \/ (c = 2 /\ ∃ k, d = .int k)) {k : EV} {k' : Value} (hk : VR ρ k k') (th : lK c k = true) :
  ∀ (es : List (EV × EV)) (ds : List MapEntry) (i : Nat), GM ρ es ds -> oh k es = true ->
   (Instr.findNow d k' ds i = some none /\ find k es = none /\ (∀ v, update k v es = es ++ [(k, v)]) /\ erase k es = es) \/
   (∃ j v v' old, Instr.findNow d k' ds i = some (some (i + j, v')) /\ find k es = some v /\ VR ρ v v' /\ ds[j]? = some old /\ old.val = v' /\ (∀ u, update k u es = es.set j (k, u)) /\ erase k es = es.eraseIdx j /\ j < es.length /\ Instr.sameBits 10000 old.key k' = true) := by
 intro es
 induction es with
 | nil =>
  intro ds i h _
  have : ds = [] := by have := h.1; simp at this; exact List.eq_nil_of_length_eq_zero this.symm
  subst this;exact .inl ⟨rfl, rfl, fun _ => rfl, rfl⟩
 | cons e es ih =>
  intro ds i h hs
  obtain ⟨x, vc, rfl, hx, hr⟩ := h.cons
  obtain ⟨l, u⟩ := e
  simp only [oh] at hs
  cases Q9 : (kH l).beq (kH k) <;> simp only [Q9, cond_true, cond_false, re] at hs
  obtain ⟨rK, Su⟩ := QZ hu hd hk hx.1 th (aR Q9)
  cases hq : EV.same k l with
  | true =>
   right
   refine ⟨0, u, x.val, x, ?_, ?_, hx.2, rfl, rfl, fun z => ?_, ?_, by simp, Su hq⟩
   ·simp only [Instr.findNow, rK, hq]; rfl
   ·simp [find, hq]
   ·simp [update, hq]
   ·simp [erase, hq]
  | false =>
   rcases ih vc (i + 1) hr hs with ⟨a1, a2, a3, a4⟩ | ⟨j, v, v', old, a1, a2, a3, a4, a5, a6, a7, a8, a9⟩
   ·left
    refine ⟨?_, by simp [find, hq, a2], fun z => by simp [update, hq, a3], by simp [erase, hq, a4]⟩
    simp only [Instr.findNow, rK, hq]; exact a1
   ·right
    refine ⟨j + 1, v, v', old, ?_, by simp [find, hq, a2], a3, by simpa using a4, a5, fun z => by simp [update, hq, a6], by simp [erase, hq, a7], by simp; omega, a9⟩
    simp only [Instr.findNow, rK, hq];rw [a1]; congr 3; omega
theorem tc {c : Nat} {k : EV} {es : List (EV × EV)} (h : iK c k es = true) : lK c k = true /\ oh k es = true := by
 unfold iK at h
 cases hk : lK c k <;> simp only [hk, cond_true, cond_false, re] at h
 exact ⟨rfl, h⟩
theorem Ho (hR : R base ρ m w) {b : Nat} {L : Loc} (hL : ρ b = some L) {es : List (EV × EV)} (hm : m.get b = .map es) : ∃ ds c, w.heap[L.c9]? = some (.map ds c) /\ GM ρ es ds.toList /\ base <= L.c9 /\ L.ro = false := by
 have := hR.c9 b L hL
 rw [hm] at this;obtain ⟨ds, c, h1, h2, h3, h4⟩ := this
 exact ⟨ds, c, h1, ⟨by simpa using h2, fun i e d he hd => h3 i e d he (by simpa using hd)⟩, h4⟩
theorem wj (hR : R base ρ m w) {b : Nat} {L : Loc} (hL : ρ b = some L) {es fs : List (EV × EV)} (hm : m.get b = .map es) {ds gs : Array MapEntry} {c c' : Nat} (hw : w.heap[L.c9]? = some (.map ds c)) (he : GM ρ fs gs.toList) (JC : base <= L.c9) (qW : L.ro = false) :
  R base ρ (m.set b (.map fs)) { w with heap := w.heap.setIfInBounds L.c9 (.map gs c') } /\ Step ρ m w ρ (m.set b (.map fs)) { w with heap := w.heap.setIfInBounds L.c9 (.map gs c') } := by
 have xf : Live m b := by unfold Live; rw [hm]; simp
 have lM : ∀ d, d ≠ b -> (m.set b (.map fs)).get d = m.get d := fun d hd => by rw [Mem.bW, if_neg hd]
 have Ew : ∀ d, Live (m.set b (.map fs)) d -> Live m d := by
  intro d hd
  by_cases e : d = b
  ·subst e; exact xf
  ·unfold Live at hd ⊢; rwa [lM d e] at hd
 have bt : L.c9 < w.heap.size := (Array.getElem?_eq_some_iff.1 hw).1
 have HB : ∀ k, k ≠ L.c9 -> (w.heap.setIfInBounds L.c9 (.map gs c'))[k]? = w.heap[k]? := fun k hk => by rw [Array.getElem?_setIfInBounds_ne (by omega)]
 refine ⟨⟨hR.lt, fun d M hM => ?_, fun d f M M' h1 h2 h3 h4 => hR.inj d f M M' h1 h2 (Ew d h3) (Ew f h4), by simpa using hR.base, fun d hd => by rw [lM d (fun e => by subst e; have := hR.lt _ _ hL; rw [Mem.cf] at hd; omega)]; exact hR.clean d hd⟩,
  ⟨.refl ρ, fun _ h h' => absurd h h', fh _, fun d hd hn => lM d (fun e => by subst e; rw [hL] at hn; cases hn), fun d _ hd => by rw [lM d (fun e => by subst e; rw [hm] at hd; cases hd)]; exact hd, by simp, fun i hi => ?_, fun i hi hr => HB i (fun e => hr ⟨b, L, hL, xf, qW, e.symm⟩), rfl, rfl, rfl⟩⟩
 ·by_cases e : d = b
  ·subst e
   rw [hL] at hM; cases hM
   rw [Mem.bW, if_pos rfl];refine ⟨gs, c', by simp [bt], by simpa using he.1, fun i x y hx hy => he.2 i x y hx (by simpa using hy), JC, qW⟩
  ·rw [lM d e]
   by_cases hl : m.get d = .dead
   ·rw [hl]; trivial
   ·have iQ : M.c9 ≠ L.c9 := fun xi => e (hR.inj b d L M hL hM xf hl qW xi.symm).symm
    exact (hR.c9 d M hM).of_heap (.refl ρ) (HB _ iQ)
 ·rintro ⟨d, M, hM, h1, h2, h3⟩
  exact ⟨d, M, hM, Ew d h1, h2, h3⟩
theorem run_getObj_map {r : Nat} {ds : Array MapEntry} {c : Nat} (h : w.heap[r]? = some (.map ds c)) : (getObj r).run P w = .ok (.map ds c) w := by
 simp only [getObj, Sem.run, h]
theorem run_setObj_map {r : Nat} {ds : Array MapEntry} {c : Nat} (h : w.heap[r]? = some (.map ds c)) (o : Obj) : (setObj r o).run P w = .ok () { w with heap := w.heap.setIfInBounds r o } := by
 simp only [setObj, Sem.run, h]
theorem Hq (hR : R base ρ m w) {t kt e : TypeId} {c : Nat} (ht : P.underlying t = some (.map kt e)) (hc : HZ P kt = some c) {z : EV} (hz : GJ P e = some z) {mp k : EV} {Uo k' : Value} (XG : VR ρ mp Uo) (hk : VR ρ k k') {ok : Bool} {fr : aV -> EV} {om Ui : aV} (e1 : fr om = mp) (e2 : fr Ui = k) {v : EV} {m' : Mem}
  (h : aA fr (.lookup c z ok om Ui) m = some (.val v m')) : Ai P (Instr.lookup t Uo k' ok) base ρ m w v m' := by
 obtain ⟨zv, z1, z2⟩ := DC (ρ := ρ) hz
 have OU := xW hc
 have Rl := OU
 obtain ⟨d, hu, hd⟩ := Rl
 simp only [aA, e1, e2] at h
 cases XG <;> simp only [reduceCtorEq] at h
 case bB =>
  cases th : lK c k <;> simp only [th, cond_true, cond_false, reduceCtorEq, bc, R1.val.injEq] at h
  obtain ⟨rfl, rfl⟩ := h
  refine ⟨ρ, w, if ok then .tuple #[zv, .bool false] else zv, ?_, ?_, hR, .refl _ _ _⟩
  ·simp only [Instr.lookup, Sem.run_bind, run_underlying ht, Result.andThen_ok, Sem.run_pure, gR OU, Instr.findKey, run_underlying hu, Instr.findNow, z1]
  ·cases ok
   ·exact z2
   ·exact .tuple (.cons z2 (.cons (.bool _) .nil))
 case map b L hL =>
  cases hm : m.get b with
  | dead => simp [hm] at h
  | cells => simp [hm] at h
  | map es =>
  simp only [hm] at h
  cases PB : iK c k es <;> simp only [PB, cond_true, cond_false, reduceCtorEq] at h
  obtain ⟨th, Q9⟩ := tc PB
  obtain ⟨ds, cl, hw, uw, _, _⟩ := Ho hR hL hm
  rcases xO hu hd hk th es ds.toList 0 uw Q9 with ⟨a1, a2, _, _⟩ | ⟨j, x, x', old, a1, a2, a3, a4, a5, _⟩
  ·simp only [a2, bc, R1.val.injEq] at h
   obtain ⟨rfl, rfl⟩ := h
   refine ⟨ρ, w, if ok then .tuple #[zv, .bool false] else zv, ?_, ?_, hR, .refl _ _ _⟩
   ·simp only [Instr.lookup, Sem.run_bind, run_underlying ht, Result.andThen_ok, Sem.run_pure, run_getObj_map hw, gR OU, Instr.findKey, run_underlying hu, a1, z1]
   ·cases ok
    ·exact z2
    ·exact .tuple (.cons z2 (.cons (.bool _) .nil))
  ·simp only [a2, bc, R1.val.injEq] at h
   obtain ⟨rfl, rfl⟩ := h
   refine ⟨ρ, w, if ok then .tuple #[x', .bool true] else x', ?_, ?_, hR, .refl _ _ _⟩
   ·simp only [Instr.lookup, Sem.run_bind, run_underlying ht, Result.andThen_ok, Sem.run_pure, run_getObj_map hw, gR OU, Instr.findKey, run_underlying hu, a1]
   ·cases ok
    ·exact a3
    ·exact .tuple (.cons a3 (.cons (.bool _) .nil))
theorem y0 (hR : R base ρ m w) {t kt e : TypeId} {c : Nat} (ht : P.underlying t = some (.map kt e)) (hc : HZ P kt = some c) {mp k x : EV} {Uo k' x' : Value} (XG : VR ρ mp Uo) (hk : VR ρ k k') (hx : VR ρ x x') {fr : aV -> EV} {om Ui ox : aV} (e1 : fr om = mp) (e2 : fr Ui = k) (e3 : fr ox = x) {v : EV} {m' : Mem}
  (h : aA fr (.pd c om Ui ox) m = some (.val v m')) : ∃ w', (Instr.mapUpdate t Uo k' x').run P w = .ok () w' /\ v = .undef /\ R base ρ m' w' /\ Step ρ m w ρ m' w' := by
 have OU := xW hc
 have Rl := OU
 obtain ⟨d, hu, hd⟩ := Rl
 simp only [aA, e1, e2, e3] at h
 cases XG <;> simp only [reduceCtorEq] at h
 case map b L hL =>
  cases hm : m.get b with
  | dead => simp [hm] at h
  | cells => simp [hm] at h
  | map es =>
  simp only [hm] at h
  cases PB : iK c k es <;> simp only [PB, cond_true, cond_false, reduceCtorEq, bc, R1.val.injEq] at h
  obtain ⟨th, Q9⟩ := tc PB
  obtain ⟨rfl, rfl⟩ := h
  obtain ⟨ds, cl, hw, uw, hb, qW⟩ := Ho hR hL hm
  rcases xO hu hd hk th es ds.toList 0 uw Q9 with ⟨a1, _, a3, _⟩ | ⟨j, y, y', old, a1, _, _, a4, a5, a6, _, a8, a9⟩
  ·obtain ⟨q1, q2⟩ := wj (c' := cl + 1) hR hL hm hw (fs := update k x es) (gs := ds.push { key := k', val := x', born := cl }) (by
    rw [a3];refine ⟨by simp [uw.1], fun i p q hp hq => ?_⟩
    simp only [Array.toList_push] at hq;by_cases hi : i < es.length
    ·rw [A9 hi] at hp
     rw [A9 (by rw [<- uw.1]; exact hi)] at hq
     exact uw.2 i p q hp hq
    ·rw [BO (by omega)] at hp
     rw [BO (by rw [<- uw.1]; omega), <- uw.1] at hq
     have h0 : i - es.length = 0 := by
      have := (rc.1 hp).1
      simp at this; omega
     rw [h0] at hp hq;simp at hp hq
     subst hp hq
     exact ⟨hk, hx⟩) hb qW
   refine ⟨_, ?_, rfl, q1, q2⟩
   simp only [Instr.mapUpdate, Sem.run_bind, run_underlying ht, Result.andThen_ok, Sem.run_pure, run_getObj_map hw, gR OU, Instr.findKey, run_underlying hu, a1, run_setObj_map hw]
  ·have WA : j < ds.size := by have := uw.1; simp at this; omega
   have Ez : ds[j]? = some old := by simpa using a4
   obtain ⟨q1, q2⟩ := wj (c' := cl) hR hL hm hw (fs := update k x es) (gs := ds.modify j fun e => { e with key := k', val := x' }) (by
    rw [a6];refine ⟨by simp; simpa using uw.1, fun i p q hp hq => ?_⟩
    rw [Array.getElem?_toList, Array.getElem?_modify] at hq;rw [List.getElem?_set] at hp;by_cases UA : j = i
    ·subst UA
     rw [if_pos rfl, if_pos a8] at hp;rw [if_pos rfl, Ez] at hq
     cases hp; cases hq
     exact ⟨hk, hx⟩
    ·rw [if_neg UA] at hp
     rw [if_neg UA] at hq;exact uw.2 i p q hp (by simpa using hq)) hb qW
   refine ⟨_, ?_, rfl, q1, q2⟩
   simp only [Instr.mapUpdate, Sem.run_bind, run_underlying ht, Result.andThen_ok, Sem.run_pure, run_getObj_map hw, gR OU, Instr.findKey, run_underlying hu, a1, Nat.zero_add, Ez, Option.map_some, Option.getD_some, Instr.keyThatStays, a9, if_true, run_setObj_map hw]
theorem HU (hR : R base ρ m w) {t u kt e : TypeId} {c : Nat} (ht : P.underlying t = some (.map kt e)) (hc : HZ P kt = some c) {mp k : EV} {Uo k' : Value} (XG : VR ρ mp Uo) (hk : VR ρ k k') {fr : aV -> EV} {om Ui : aV} (e1 : fr om = mp) (e2 : fr Ui = k) {v : EV} {m' : Mem} (ty : TypeId)
  (h : aA fr (.delete c om Ui) m = some (.val v m')) : Ai P (Builtin.delete_ #[t, u] ty #[Uo, k']) base ρ m w v m' := by
 have OU := xW hc
 have Rl := OU
 obtain ⟨d, hu, hd⟩ := Rl
 simp only [aA, e1, e2] at h
 cases XG <;> simp only [reduceCtorEq] at h
 case bB =>
  cases th : lK c k <;> simp only [th, cond_true, cond_false, reduceCtorEq, bc, R1.val.injEq] at h
  obtain ⟨rfl, rfl⟩ := h
  refine ⟨ρ, w, .tuple #[], ?_, .tuple .nil, hR, .refl _ _ _⟩
  simp only [Builtin.delete_, List.getElem?_toArray, List.getElem?_cons_zero, List.getElem?_cons_succ, Sem.run_bind, run_underlying ht, Result.andThen_ok, gR OU, Sem.run_pure]
 case map b L hL =>
  cases hm : m.get b with
  | dead => simp [hm] at h
  | cells => simp [hm] at h
  | map es =>
  simp only [hm] at h
  cases PB : iK c k es <;> simp only [PB, cond_true, cond_false, reduceCtorEq, bc, R1.val.injEq] at h
  obtain ⟨th, Q9⟩ := tc PB
  obtain ⟨rfl, rfl⟩ := h
  obtain ⟨ds, cl, hw, uw, hb, qW⟩ := Ho hR hL hm
  rcases xO hu hd hk th es ds.toList 0 uw Q9 with ⟨a1, _, _, a4⟩ | ⟨j, y, y', old, a1, _, _, a4, _, _, a7, a8, _⟩
  ·obtain ⟨q1, q2⟩ := wj (c' := cl) hR hL hm hw (fs := erase k es) (gs := ds) (by rw [a4]; exact uw) hb qW
   refine ⟨ρ, _, .tuple #[], ?_, .tuple .nil, q1, q2⟩
   simp only [Builtin.delete_, List.getElem?_toArray, List.getElem?_cons_zero, List.getElem?_cons_succ, Sem.run_bind, run_underlying ht, Result.andThen_ok, run_getObj_map hw, gR OU, Instr.findKey, run_underlying hu, a1, Sem.run_pure, run_setObj_map hw]
  ·obtain ⟨q1, q2⟩ := wj (c' := cl) hR hL hm hw (fs := erase k es) (gs := ds.eraseIdxIfInBounds j) (by
    rw [a7];have WA : j < ds.size := by have := uw.1; simp at this; omega
    have hl : (ds.eraseIdxIfInBounds j).toList = ds.toList.eraseIdx j := by
     simp [Array.eraseIdxIfInBounds, WA]
    rw [hl];refine ⟨by rw [List.length_eraseIdx, List.length_eraseIdx, uw.1], fun i p q hp hq => ?_⟩
    rw [List.getElem?_eraseIdx] at hp hq;by_cases UA : i < j
    ·rw [if_pos UA] at hp hq; exact uw.2 i p q hp hq
    ·rw [if_neg UA] at hp hq; exact uw.2 (i + 1) p q hp hq) hb qW
   refine ⟨ρ, _, .tuple #[], ?_, .tuple .nil, q1, q2⟩
   simp only [Builtin.delete_, List.getElem?_toArray, List.getElem?_cons_zero, List.getElem?_cons_succ, Sem.run_bind, run_underlying ht, Result.andThen_ok, run_getObj_map hw, gR OU, Instr.findKey, run_underlying hu, a1, Sem.run_pure, Nat.zero_add, run_setObj_map hw]
theorem QJ : ∀ (l : List EV) (l' : List Value) (k : IntKind) (x : Int) (v : EV), ft ρ l l' -> lF k x l = some v -> ∃ v', VR ρ v v' /\ (l'.foldlM Builtin.max2 (.int k x)).run P w = .ok v' w := by
 intro l
 induction l with
 | nil => intro l' k x v hl h; cases hl; simp [lF] at h; subst h; exact ⟨_, .int _ _, rfl⟩
 | cons y l ih =>
  intro l' k x v hl h
  cases hl with
  | cons hy hs =>
  cases hy with
  | int k2 n =>
   simp only [lF] at h
   cases hk : (bY k).beq (bY k2) <;> simp only [hk, cond_true, cond_false, reduceCtorEq] at h
   obtain rfl := jL hk
   obtain ⟨v', h1, h2⟩ := ih _ k _ v hs h
   exact ⟨v', h1, by simp only [List.foldlM_cons, Builtin.max2, Sem.run_bind, Sem.run_pure, Result.andThen_ok, h2]⟩
  | _ => simp [lF] at h
theorem QG : ∀ (l : List EV) (l' : List Value) (k : IntKind) (x : Int) (v : EV), ft ρ l l' -> mR k x l = some v -> ∃ v', VR ρ v v' /\ (l'.foldlM Builtin.min2 (.int k x)).run P w = .ok v' w := by
 intro l
 induction l with
 | nil => intro l' k x v hl h; cases hl; simp [mR] at h; subst h; exact ⟨_, .int _ _, rfl⟩
 | cons y l ih =>
  intro l' k x v hl h
  cases hl with
  | cons hy hs =>
  cases hy with
  | int k2 n =>
   simp only [mR] at h
   cases hk : (bY k).beq (bY k2) <;> simp only [hk, cond_true, cond_false, reduceCtorEq] at h
   obtain rfl := jL hk
   obtain ⟨v', h1, h2⟩ := ih _ k _ v hs h
   exact ⟨v', h1, by simp only [List.foldlM_cons, Builtin.min2, Sem.run_bind, Sem.run_pure, Result.andThen_ok, h2]⟩
  | _ => simp [mR] at h
theorem Oz {l : List EV} {l' : List Value} (hl : ft ρ l l') {v : EV} (h : ui l = some v) (a : Array TypeId) (t : TypeId) : ∃ v', VR ρ v v' /\ (Builtin.max_ a t ⟨l'⟩).run P w = .ok v' w := by
 cases hl with
 | nil => simp [ui] at h
 | cons hx hs =>
  cases hx with
  | int k n => exact QJ _ _ k n v hs h
  | _ => simp [ui] at h
theorem Ox {l : List EV} {l' : List Value} (hl : ft ρ l l') {v : EV} (h : xv l = some v) (a : Array TypeId) (t : TypeId) : ∃ v', VR ρ v v' /\ (Builtin.min_ a t ⟨l'⟩).run P w = .ok v' w := by
 cases hl with
 | nil => simp [xv] at h
 | cons hx hs =>
  cases hx with
  | int k n => exact QG _ _ k n v hs h
  | _ => simp [xv] at h
end
end
section
section
variable {G : List Nat} {base : Nat} {ρ : ep} {m : Mem} {w : World} {P : Program} {n : Nat} {fr : Fr} {a : Act}
theorem fO {v : EV} {m m' : Mem} {x : Option EV} (h : gl m x = some (.val v m')) : x = some v /\ m' = m := by
 unfold gl at h;obtain ⟨y, hy, h2⟩ := j6.1 h
 cases h2
 exact ⟨hy, rfl⟩
theorem lz {v : EV} {m' : Mem} {x : Option (EV × Mem)} (h : w8 x = some (.val v m')) : x = some (v, m') := by
 unfold w8 at h;obtain ⟨y, hy, h2⟩ := j6.1 h
 cases h2
 exact hy
theorem S2 {v : EV} {m' : Mem} {x : Option Mem} (h : ofM x = some (.val v m')) : x = some m' /\ v = .undef := by
 unfold ofM at h;obtain ⟨y, hy, h2⟩ := j6.1 h
 cases h2
 exact ⟨hy, rfl⟩
theorem ag {α β : Type} {x : Option α} {f : α -> β} {y : β} (h : x.map f = some y) : ∃ a, x = some a /\ f a = y := j6.1 h
theorem RP {op : BinOp} {neg : Bool} (lq : (op = .eql /\ neg = false) \/ (op = .neq /\ neg = true)) {t : TypeId} {e : sd} (he : nD P 20 t = some e) (nP : P.eqGuardType P.depth t = false \/ ∃ ms, P.underlying t = some (.interface ms)) {ox oy : Operand} {x y : EV} {x' y' : Value} (hx : VR ρ x x') (hy : VR ρ y y') {b : Bool} (h : eH e x y = some b) :
  ((do eqGuard op t ox oy x' y'; binOp op t x' y') : Sem Value).run P w = .ok (.bool (neg ^^ b)) w := by
 have hr := LJ (P := P) (w := w) 20 t e he Op.maxDepth (by decide) x y x' y' hx hy b h
 have VE : (eqGuard op t ox oy x' y').run P w = .ok () w := by
  cases hx with
  | agg hv hf =>
   cases hy with
   | agg rJ hf' =>
    rcases nP with nP | ⟨ms, YN⟩
    ·rcases lq with ⟨rfl, rfl⟩ | ⟨rfl, rfl⟩ <;> simp [eqGuard, nP]
    ·simp [nD, YN] at he
     subst he;simp [eH, dK] at h
   | undef => cases e <;> simp [eH, dK] at h
   | _ => rcases lq with ⟨rfl, rfl⟩ | ⟨rfl, rfl⟩ <;> rfl
  | undef => cases e <;> simp [eH, dK] at h
  | aC =>
   cases hy with
   | aC =>
    exfalso
    cases e with
    | aJ k => simp [eH, dK] at h
    | agg es => simp [eH] at h
   | undef => cases e <;> simp [eH, dK] at h
   | _ => rcases lq with ⟨rfl, rfl⟩ | ⟨rfl, rfl⟩ <;> rfl
  | _ => rcases lq with ⟨rfl, rfl⟩ | ⟨rfl, rfl⟩ <;> rfl
 simp only [Sem.run_bind, VE, Result.andThen_ok]
 -- whole numbers and strings are Yj by other ways
 cases hx with
 | int k z =>
  cases hy with
  | int l u =>
   cases e with
   | agg es => simp [eH] at h
   | aJ q =>
    simp only [eH, dK] at h
    cases hq : q.beq 1 <;> simp only [hq, cond_true, cond_false, reduceCtorEq] at h
    cases hk : (bY k).beq (bY l) <;> simp only [hk, cond_true, cond_false, reduceCtorEq, bc] at h
    obtain rfl := jL hk
    subst h;rcases lq with ⟨rfl, rfl⟩ | ⟨rfl, rfl⟩
    ·simp [binOp, Op.intCmp]; rfl
    ·simp [binOp, Op.intCmp]; rfl
  | _ => cases e <;> simp [eH, dK] at h
 | str s =>
  cases hy with
  | str s2 =>
   cases e with
   | agg es => simp [eH] at h
   | aJ q =>
    simp only [eH, dK] at h
    cases hq : q.beq 2 <;> simp only [hq, cond_true, cond_false, reduceCtorEq, bc] at h
    subst h;rcases lq with ⟨rfl, rfl⟩ | ⟨rfl, rfl⟩ <;> simp only [binOp, Op.stringOp, xY, fB, Eh] <;> simp
  | _ => cases e <;> simp [eH, dK] at h
 | _ =>
  cases hy <;> (first
   | (cases e <;> simp [eH, dK] at h; done)
   | (rcases lq with ⟨rfl, rfl⟩ | ⟨rfl, rfl⟩
      ·simp only [binOp, Op.equal, Sem.run_bind, hr, Result.andThen_ok, Sem.run_pure]; simp
      ·simp only [binOp, Op.equal, Sem.run_bind, hr, Result.andThen_ok, Sem.run_pure]; simp))
theorem J4 {o : Oper} {c : Go.Call} (ho : o.op = .call c) {b : Builtin} (hb : c.callee = .builtin b) :
  execOp a.eval o = builtin b c.argTypes o.type (c.args.map fun | .const _ => true | _ => false) (c.args.map a.eval) := by
 simp only [execOp, ho, resolve, hb]
 rfl
theorem OE (hR : R base ρ m w) {t ty : TypeId} {e : TypeId} (hu : P.underlying t = some (.slice e)) {x : EV} {x' : Value} (hx : VR ρ x x') {v : EV} {fr : aV -> EV} {ox : aV} (e1 : fr ox = x) {m' : Mem} (h : aA fr (.len ox) m = some (.val v m')) :
  Ai P (Builtin.len_ #[t] ty #[x']) base ρ m w v m' := by
 simp only [aA, e1] at h
 cases hx <;> simp only [reduceCtorEq, bc, R1.val.injEq] at h
 all_goals
  obtain ⟨rfl, rfl⟩ := h
  exact ⟨ρ, w, _, by simp only [Builtin.len_, List.getElem?_toArray, List.getElem?_cons_zero, Sem.run_bind, run_underlying hu, Result.andThen_ok, Sem.run_pure, goInt] <;> rfl, .int _ _, hR, .refl _ _ _⟩
theorem Ht (hR : R base ρ m w) {t ty : TypeId} (hu : P.underlying t = some .string) {x : EV} {x' : Value} (hx : VR ρ x x') {v : EV} {fr : aV -> EV} {ox : aV} (e1 : fr ox = x) {m' : Mem} (h : aA fr (.eG ox) m = some (.val v m')) :
  Ai P (Builtin.len_ #[t] ty #[x']) base ρ m w v m' := by
 simp only [aA, e1] at h
 cases hx <;> simp only [reduceCtorEq, bc, R1.val.injEq] at h
 case str s =>
  obtain ⟨rfl, rfl⟩ := h
  exact ⟨ρ, w, .int .i64 (s.size : Int), by simp [Builtin.len_, run_underlying hu, goInt], .int _ _, hR, .refl _ _ _⟩
theorem Hu (hR : R base ρ m w) {t ty k e : TypeId} (hu : P.underlying t = some (.map k e)) {x : EV} {x' : Value} (hx : VR ρ x x') {v : EV} {fr : aV -> EV} {ox : aV} (e1 : fr ox = x) {m' : Mem} (h : aA fr (.qV ox) m = some (.val v m')) :
  Ai P (Builtin.len_ #[t] ty #[x']) base ρ m w v m' := by
 simp only [aA, e1] at h
 cases hx <;> simp only [reduceCtorEq, bc, R1.val.injEq] at h
 case bB =>
  obtain ⟨rfl, rfl⟩ := h
  exact ⟨ρ, w, _, by simp only [Builtin.len_, List.getElem?_toArray, List.getElem?_cons_zero, Sem.run_bind, run_underlying hu, Result.andThen_ok, Sem.run_pure, goInt] <;> rfl, .int _ _, hR, .refl _ _ _⟩
 case map b L hL =>
  cases hm : m.get b with
  | dead => simp [hm] at h
  | cells => simp [hm] at h
  | map es =>
   simp only [hm, bc, R1.val.injEq] at h;obtain ⟨rfl, rfl⟩ := h
   obtain ⟨ds, c, hw, he, _⟩ := Ho hR hL hm
   refine ⟨ρ, w, .int .i64 (ds.size : Int), ?_, ?_, hR, .refl _ _ _⟩
   ·simp [Builtin.len_, run_underlying hu, goInt, run_getObj_map hw]
   ·have := he.1
    simp at this
    rw [this]; exact .int _ _
theorem FO (hR : R base ρ m w) {b : Builtin} {ts : List TypeId} {Fo : List Value} {ys : List aV} (hv : ft ρ (ys.map fr.eval) Fo) {io : ls} (hc : vg P b ts ys = some io) (ty : TypeId) (cs : Array Bool) {v : EV} {m' : Mem} (h : aA fr.eval io m = some (.val v m')) :
  Good base ρ m w v m' ((builtin b ⟨ts⟩ ty cs ⟨Fo⟩).run P w) := by
 unfold vg at hc
 split at hc
 ·-- len
  rename_i t x
  cases hv with
  | cons hx hn =>
  cases hn
  cases hu : P.underlying t with
  | none => simp [hu] at hc
  | some d =>
   rw [hu] at hc
   cases d <;> simp only [reduceCtorEq, bc] at hc <;> subst hc
   case string => exact (Ht hR hu hx rfl h).uv
   case slice e => exact (OE hR hu hx rfl h).uv
   case map k e => exact (Hu hR hu hx rfl h).uv
   case array k e =>
    simp only [aA, bc, R1.val.injEq] at h;obtain ⟨rfl, rfl⟩ := h
    exact Good.still (s := Builtin.len_ #[t] ty #[_]) hR (by simp [Builtin.len_, run_underlying hu, goInt]) (.int _ _)
 ·-- cap
  rename_i t x
  cases hv with
  | cons hx hn =>
  cases hn
  cases hu : P.underlying t with
  | none => simp [hu] at hc
  | some d =>
   rw [hu] at hc
   cases d <;> simp only [reduceCtorEq, bc] at hc
   subst hc;simp only [aA] at h;generalize rL : fr.eval x = e at hx h
   cases hx <;> simp only [reduceCtorEq, bc, R1.val.injEq] at h
   all_goals
    obtain ⟨rfl, rfl⟩ := h
    exact Good.still (s := Builtin.cap_ #[t] ty #[_]) hR (by simp [Builtin.cap_, run_underlying hu, goInt]) (.int _ _)
 ·-- max
  cases hc
  simp only [aA] at h;obtain ⟨h1, rfl⟩ := fO h
  obtain ⟨v', r1, r2⟩ := Oz (P := P) (w := w) hv h1 ⟨ts⟩ ty
  exact Good.still (s := Builtin.max_ ⟨ts⟩ ty ⟨Fo⟩) hR r2 r1
 ·cases hc
  simp only [aA] at h;obtain ⟨h1, rfl⟩ := fO h
  obtain ⟨v', r1, r2⟩ := Ox (P := P) (w := w) hv h1 ⟨ts⟩ ty
  exact Good.still (s := Builtin.min_ ⟨ts⟩ ty ⟨Fo⟩) hR r2 r1
 ·-- append
  rename_i t u s x
  cases hv with
  | cons hs hn =>
  cases hn with
  | cons hx hn =>
  cases hn
  obtain ⟨e, he, hc⟩ := Option.bind_eq_some_iff.1 hc
  obtain ⟨_, jy, hc⟩ := Option.bind_eq_some_iff.1 hc
  obtain ⟨i, hi, hc⟩ := Option.bind_eq_some_iff.1 hc
  obtain ⟨z, hz, hc⟩ := Option.bind_eq_some_iff.1 hc
  obtain ⟨_, hq, hc⟩ := Option.bind_eq_some_iff.1 hc
  cases Gp : z.length.beq i.size <;> simp only [Gp, cond_true, cond_false, reduceCtorEq] at hq
  cases hb : i.bytes.ble 65536 <;> simp only [hb, cond_true, cond_false, reduceCtorEq, bc] at hc
  subst hc;have ht : P.underlying t = some (.slice e) := by
   unfold Mj at he
   split at he
   ·cases he; assumption
   ·cases he
  have Gu : ∃ du, P.underlying u = some du /\ ((∃ v, du = .slice v) \/ du = .string) := by
   unfold Uf at jy
   split at jy
   ·exact ⟨_, by assumption, .inl ⟨_, rfl⟩⟩
   ·exact ⟨_, by assumption, .inr rfl⟩
   ·cases jy
  obtain ⟨du, hu, Gu⟩ := Gu
  simp only [aA] at h;have abu := H8 (P := P) hR ht hu Gu hi hz (aR Gp) (qP hb) hs hx (lz h)
  obtain ⟨ρ', w', v', r1, r2⟩ := abu
  exact (show Ai P (Builtin.append_ #[t, u] ty #[_, _]) base ρ m w v m' from ⟨ρ', w', v', r1, r2⟩).uv
 ·-- copy
  rename_i t u s x
  cases hv with
  | cons hs hn =>
  cases hn with
  | cons hx hn =>
  cases hn
  cases ht : P.underlying t with
  | none => simp [ht] at hc
  | some dt =>
   rw [ht] at hc
   cases dt <;> simp only [reduceCtorEq] at hc
   rename_i e
   cases hz : fW P e with
   | none => simp [hz] at hc
   | some k =>
    simp only [hz, bc] at hc;subst hc;simp only [aA] at h;obtain ⟨ρ', w', v', r1, r2⟩ := LO (P := P) (u := u) hR ht hz hs hx (lz h)
    exact (show Ai P (Builtin.copy_ #[t, u] ty #[_, _]) base ρ m w v m' from ⟨ρ', w', v', r1, r2⟩).uv
 ·-- delete
  rename_i t u s x
  cases hv with
  | cons hs hn =>
  cases hn with
  | cons hx hn =>
  cases hn
  cases ht : P.underlying t with
  | none => simp [ht] at hc
  | some dt =>
   rw [ht] at hc
   cases dt <;> simp only [reduceCtorEq] at hc
   rename_i kt e
   obtain ⟨c, hk, rfl⟩ := ag hc
   exact (HU (P := P) (u := u) hR ht hk hs hx rfl rfl ty h).uv
 ·cases hc
theorem Good.Ea {v : EV} {s : Sem Value} (hR : R base ρ m w) (h : ∃ v', VR ρ v v' /\ s.run P w = .ok v' w) : Good base ρ m w v m ((do pure (Next.value (<- s)) : Sem Next).run P w) :=
 let ⟨_, h1, h2⟩ := h; Good.still hR h2 h1
theorem jW {t e : TypeId} (h : uB P t = some e) : P.underlying t = some (.slice e) := by
 unfold uB at h; split at h <;> cases h; assumption
theorem vr {t : TypeId} {q : Nat × TypeId} (h : Ay P t = some q) : P.underlying t = some (.array q.1 q.2) := by
 unfold Ay at h; split at h <;> cases h; assumption
theorem xy {t : TypeId} {fs : Array Field} (h : ye P t = some fs) : P.underlying t = some (.struct fs) := by
 unfold ye at h; split at h <;> cases h; assumption
theorem yf {t : TypeId} {q : TypeId × TypeId} (h : Ky P t = some q) : P.underlying t = some (.map q.1 q.2) := by
 unfold Ky at h; split at h <;> cases h; assumption
theorem kG {t : TypeId} {u : Unit} (h : pL P t = some u) : P.underlying t = some .string := by
 unfold pL at h; split at h <;> cases h; assumption
theorem BS {t : TypeId} {k : IntKind} (h : PS P t = some k) : P.underlying t = some (.int k) := by
 unfold PS at h; split at h <;> cases h; assumption
theorem N0 {t : TypeId} {u : Unit} (h : Kz P t = some u) : ∃ ms, P.underlying t = some (.interface ms) := by
 unfold Kz at h; split at h <;> cases h; exact ⟨_, by assumption⟩
theorem Ax {t : TypeId} {u : Unit} (h : DL P t = some u) : ∃ d, P.underlying t = some d /\ ∀ ms, d ≠ .interface ms := by
 unfold DL at h
 cases hu : P.underlying t with
 | none => rw [hu] at h; cases h
 | some d => rw [hu] at h; refine ⟨d, rfl, fun ms e => ?_⟩; subst e; cases h
theorem jj {b : Bool} {u : Unit} (h : AG b = some u) : b = true := by
 unfold AG at h; cases b <;> simp at h; rfl
theorem fS {x y : Option ls} {r : ls} (h : Sm x y = some r) : x = some r \/ y = some r := by
 unfold Sm at h
 cases x with
 | none => exact .inr h
 | some z => exact .inl h
theorem af {α β : Type} {x : Option α} {f : α -> Option β} {y : β} (h : x.bind f = some y) : ∃ a, x = some a /\ f a = some y := Option.bind_eq_some_iff.1 h
theorem D9 {o : Oper} {io : ls} (hc : UK P G o = some io) (hG : jt G ρ) (hR : R base ρ m w) (hF : FR ρ n fr a) {v : EV} {m' : Mem} (h : aA fr.eval io m = some (.val v m')) :
  Good base ρ m w v m' ((execOp a.eval o).run P w) := by
 have E : ∀ {x : Operand} {y : aV}, eZ G x = some y -> VR ρ (fr.eval y) (a.eval x) := fun h => ig hG hF h
 have EO : ∀ {x : Option Operand} {y : Option aV}, J2 G x = some y -> tZ ρ (y.map fr.eval) (x.map a.eval) := fun h => LY hG hF h
 unfold UK at hc
 split at hc
 case h_1 x ho =>
  obtain ⟨y, hy, rfl⟩ := ag hc
  simp only [aA, bc, R1.val.injEq] at h;obtain ⟨rfl, rfl⟩ := h
  exact ⟨ρ, w, a.eval x, .inl (by simp only [execOp, ho]; rfl), E hy, hR, .refl _ _ _⟩
 case h_2 x ho =>
  obtain ⟨y, hy, rfl⟩ := ag hc
  simp only [aA, bc, R1.val.injEq] at h;obtain ⟨rfl, rfl⟩ := h
  exact ⟨ρ, w, a.eval x, .inl (by simp only [execOp, ho]; rfl), E hy, hR, .refl _ _ _⟩
 case h_3 c x y ho =>
  obtain ⟨c', h1, hc⟩ := af hc
  obtain ⟨x', h2, hc⟩ := af hc
  obtain ⟨y', h3, rfl⟩ := ag hc
  have LD := E h1
  simp only [aA] at h;generalize fr.eval c' = cv at LD h
  generalize uY : a.eval c = cc at LD
  cases LD <;> simp only [reduceCtorEq, bc, R1.val.injEq] at h
  rename_i b
  obtain ⟨rfl, rfl⟩ := h
  refine ⟨ρ, w, if b then a.eval x else a.eval y, .inl (by simp only [execOp, ho, uY, asBool, Sem.run_bind, Sem.run_pure, Result.andThen_ok]), ?_, hR, .refl _ _ _⟩
  cases b
  ·exact E h3
  ·exact E h2
 case h_4 e ho =>
  obtain ⟨z, hz, rfl⟩ := ag hc
  simp only [aA, bc, R1.val.injEq] at h;obtain ⟨rfl, rfl⟩ := h
  simp only [execOp, ho];exact ((E4 hR.n hz).runs hR).uv
 case h_5 e x ho =>
  obtain ⟨y, hy, rfl⟩ := ag hc
  simp only [aA] at h
  cases mg : (fr.eval y).cells with
  | none => simp [mg] at h
  | some cs =>
   simp only [mg, bc, R1.val.injEq] at h;obtain ⟨rfl, rfl⟩ := h
   simp only [execOp, ho];exact ((J5 hR.n (E hy) mg).runs hR).uv
 case h_6 t parts ho =>
  obtain ⟨z, hz, hc⟩ := af hc
  obtain ⟨zv, z1, z2, z3⟩ := m6 (ρ := ρ) hz
  rcases fS hc with hc | hc
  ·obtain ⟨fs, hu, hc⟩ := af hc
   obtain ⟨_, hall, hc⟩ := af hc
   obtain ⟨ps, hp, rfl⟩ := ag hc
   have hu := xy hu
   have hall := jj hall
   simp only [aA] at h;have hE := fO (x := (fw z (ps.map fun p => (p.1, p.2.1, fr.eval p.2.2))).map .agg) h
   obtain ⟨VQ, VP⟩ := hE
   subst VP;obtain ⟨ds, hf, XX⟩ := j6.1 VQ
   subst XX;obtain ⟨p1, p2⟩ := Bg hG hF hp
   have Tq : ∀ (l : List Field) (w : World), (∀ f ∈ l, ∃ s, fW P f.type = some s) -> (l.mapM fun (f : Field) => (do pure (f.offset, <- sizeOf f.type) : Sem (Nat × Nat))).run P w = .ok (l.map fun f => (f.offset, (fW P f.type).getD 0)) w := by
    intro l w hl
    induction l with
    | nil => rfl
    | cons f l ih =>
     obtain ⟨s, hs⟩ := hl f (by simp)
     simp only [List.mapM_cons, Sem.run_bind, b8 hs, Result.andThen_ok, Sem.run_pure, ih (fun g hg => hl g (by simp [hg])), List.map_cons, hs, Option.getD_some]
   have HA := Tq fs.toList w (fun f hf => Option.isSome_iff_exists.1 (List.all_eq_true.1 hall f hf))
   obtain ⟨vc, f1, f2, f3, _⟩ := xP (ρ := ρ) (place := fun i => (fs.toList.map fun f => (f.offset, (fW P f.type).getD 0)).toArray[i]?) _ (parts.toList.map fun p => (p.1, a.eval p.2)) z zv.cells z2 z3 p1 (fun i p q hp' Gp => by
    obtain ⟨g1, g2⟩ := p2 i p q hp' Gp
    refine ⟨?_, g2⟩
    obtain ⟨f, sf, BI⟩ := af g1
    obtain ⟨s, rK, Su⟩ := ag BI
    rw [<- Su];have : fs.toList[q.1]? = some f := by simpa using sf
    simp [sf, rK]) ds hf
   have jZ : (Instr.build t (parts.map fun (i, x) => (i, a.eval x))).run P w = .ok (.agg vc) w := by
    simp only [Instr.build, Sem.run_bind, z1, Result.andThen_ok, run_underlying hu, Array.toList_map];rw [show (fs.mapM fun f => (do pure (f.offset, <- sizeOf f.type) : Sem (Nat × Nat))).run P w = .ok (fs.toList.map fun f => (f.offset, (fW P f.type).getD 0)).toArray w by
     rw [Array.mapM_eq_mapM_toList, Sem.run_map, HA]; rfl]
    simp only [Result.andThen_ok, f1, Sem.run_pure]
   simp only [execOp, ho];exact Good.still hR jZ (.agg f2 f3)
  ·obtain ⟨q, hu, hc⟩ := af hc
   obtain ⟨s, hs, hc⟩ := af hc
   obtain ⟨ps, hp, rfl⟩ := ag hc
   have hu := vr hu
   simp only [aA] at h;have hE := fO (x := (fw z (ps.map fun p => (p.1, p.2.1, fr.eval p.2.2))).map .agg) h
   obtain ⟨VQ, VP⟩ := hE
   subst VP;obtain ⟨ds, hf, XX⟩ := j6.1 VQ
   subst XX;obtain ⟨p1, p2⟩ := Bg hG hF hp
   obtain ⟨vc, f1, f2, f3, _⟩ := xP (ρ := ρ) (place := fun i => some (i * s, s)) _ (parts.toList.map fun p => (p.1, a.eval p.2)) z zv.cells z2 z3 p1 (fun i p q hp' Gp => p2 i p q hp' Gp) ds hf
   have jZ : (Instr.build t (parts.map fun (i, x) => (i, a.eval x))).run P w = .ok (.agg vc) w := by
    simp only [Instr.build, Sem.run_bind, z1, Result.andThen_ok, run_underlying hu, Array.toList_map, b8 hs, f1, Sem.run_pure]
   simp only [execOp, ho];exact Good.still hR jZ (.agg f2 f3)
 case h_7 t len parts ho =>
  obtain ⟨e, hu, hc⟩ := af hc
  obtain ⟨s, hs, hc⟩ := af hc
  obtain ⟨z, hz, hc⟩ := af hc
  obtain ⟨ps, hp, hc⟩ := af hc
  obtain ⟨_, Hy, hc⟩ := af hc
  obtain ⟨_, hl, rfl⟩ := ag hc
  have hu := jW hu
  simp only [aA] at h
  cases mg : fw (eA len z) (ps.map fun p => (p.1 * s, s, fr.eval p.2)) with
  | none => simp [mg] at h
  | some cs =>
   simp only [mg, bc, R1.val.injEq] at h;obtain ⟨rfl, rfl⟩ := h
   obtain ⟨p1, p2⟩ := mapM_some _ hp
   have hb := Bu (P := P) hR.n hu hs hz (aR (jj Hy)) (qP (jj hl)) (qs := parts.toList.map fun p => (p.1, a.eval p.2)) (by simpa using p1.symm) (fun i p q hp' Gp => by
    rw [List.getElem?_map] at hp' Gp
    obtain ⟨p0, OQ, rfl⟩ := j6.1 hp'
    obtain ⟨q0, Xx, rfl⟩ := j6.1 Gp
    obtain ⟨x, hx, hxp⟩ := ag (p2 i q0 p0 Xx OQ)
    subst hxp;exact ⟨⟨rfl, rfl⟩, E hx⟩) mg
   simp only [execOp, ho];have : (parts.map fun (i, x) => (i, a.eval x)) = (⟨parts.toList.map fun p => (p.1, a.eval p.2)⟩ : Array (Nat × Value)) := by apply Array.ext'; simp
   rw [this];exact (hb.runs hR).uv
 case h_8 t x ho =>
  obtain ⟨g, hg, hc⟩ := af hc
  obtain ⟨y, hy, rfl⟩ := ag hc
  simp only [aA] at h;obtain ⟨h1, h2⟩ := fO h
  subst h2;obtain ⟨ad, v', e1, e2, e3⟩ := xp (P := P) hR hg (E hy) h1
  simp only [execOp, ho];refine Good.still (s := Instr.loadAt t (a.eval x)) hR (v' := v') ?_ e3
  rw [e1];simp only [Instr.loadAt, Instr.sureAddr, Sem.run_bind, Sem.run_pure, Result.andThen_ok, e2]
 case h_9 t x y ho =>
  obtain ⟨s, hs, hc⟩ := af hc
  obtain ⟨x', hx, hc⟩ := af hc
  obtain ⟨y', hy, rfl⟩ := ag hc
  simp only [aA] at h;obtain ⟨h1, rfl⟩ := S2 h
  have ue := E hx
  have Fi := E hy
  unfold Mem.store at h1
  cases Tl : fr.eval x' <;> simp only [Tl, reduceCtorEq] at h1
  rename_i b off
  cases mg : (fr.eval y').cells with
  | none => simp [mg] at h1
  | some vs =>
   simp only [mg] at h1
   cases hl : vs.length.beq s <;> simp only [hl, cond_true, cond_false, reduceCtorEq] at h1
   rw [Tl] at ue;generalize HE : a.eval x = av at ue
   cases ue with
   | @ptr _ _ L hL =>
   obtain ⟨c1, c2⟩ := Fi.cells mg
   obtain ⟨w', r1, r2, r3⟩ := pK (P := P) hR hL c1 c2 h1
   refine ⟨ρ, w', undef, .inr ⟨?_, rfl⟩, .undef, r2, r3⟩
   have uf : (a.eval y).cells.size = s := by rw [<- aR hl, c1.length]; simp
   simp only [execOp, ho, HE, Instr.storeAt, Instr.sureAddr, storeVar, Sem.run_bind, Sem.run_pure, Result.andThen_ok, b8 hs];rw [if_neg (by simp [uf])]
   simp only [r1, Result.andThen_ok]
 case h_10 x ho =>
  obtain ⟨y, hy, rfl⟩ := ag hc
  have Fi := E hy
  simp only [aA] at h;generalize fr.eval y = e at Fi h
  generalize HE : a.eval x = av at Fi
  cases Fi <;> simp only [reduceCtorEq, bc, R1.val.injEq] at h
  case ptr b off L hL =>
   obtain ⟨rfl, rfl⟩ := h
   exact ⟨ρ, w, _, .inl (by simp only [execOp, ho, HE]; rfl), .ptr hL, hR, .refl _ _ _⟩
  case func f p q p' q' h1 h2 =>
   obtain ⟨rfl, rfl⟩ := h
   exact ⟨ρ, w, _, .inl (by simp only [execOp, ho, HE]; rfl), .func h1 h2, hR, .refl _ _ _⟩
  case iface t p p' h1 =>
   obtain ⟨rfl, rfl⟩ := h
   exact ⟨ρ, w, _, .inl (by simp only [execOp, ho, HE]; rfl), .iface h1, hR, .refl _ _ _⟩
 case h_11 op t x y yt ho =>
  obtain ⟨x', hx, hc⟩ := af hc
  obtain ⟨y', hy, hc⟩ := af hc
  have plain : op ≠ .eql -> op ≠ .neq -> some (ls.bin op x' y') = some io -> Good base ρ m w v m' ((execOp a.eval o).run P w) := by
   intro n1 n2 hc
   cases hc
   simp only [aA] at h;obtain ⟨h1, h2⟩ := fO h
   subst h2;obtain ⟨v', r1, r2⟩ := JP (P := P) (w := w) (t := t) (E hx) (E hy) h1
   simp only [execOp, ho];refine Good.still hR (v' := v') ?_ r1
   rw [FL n1 n2]
   simpa using r2
  have eqs : ∀ neg, ((op = .eql /\ neg = false) \/ (op = .neq /\ neg = true)) -> UL P neg t x' y' = some io -> Good base ρ m w v m' ((execOp a.eval o).run P w) := by
   intro neg lq hc
   unfold UL at hc;have : ∃ e, nD P 20 t = some e /\ io = .eq neg e x' y' /\ (P.eqGuardType P.depth t = false \/ ∃ ms, P.underlying t = some (.interface ms)) := by
    cases hg : P.eqGuardType P.depth t <;> simp only [hg, cond_true, cond_false] at hc
    ·obtain ⟨e, he, rfl⟩ := ag hc
     exact ⟨e, he, rfl, .inl rfl⟩
    ·obtain ⟨_, hi, rfl⟩ := ag hc
     obtain ⟨ms, YN⟩ := N0 hi
     exact ⟨.aJ 7, by simp [nD, YN], rfl, .inr ⟨ms, YN⟩⟩
   obtain ⟨e, he, rfl, nP⟩ := this
   simp only [aA] at h;have hE := fO (x := (eH e (fr.eval x') (fr.eval y')).map fun b => .bool (neg ^^ b)) h
   obtain ⟨VQ, VP⟩ := hE
   subst VP;obtain ⟨b, hb, XX⟩ := j6.1 VQ
   subst XX;have hr := RP (P := P) (w := w) (ox := x) (oy := y) lq he nP (E hx) (E hy) hb
   simp only [execOp, ho];exact Good.still hR hr (.bool _)
  cases op <;> first
   | exact eqs false (.inl ⟨rfl, rfl⟩) hc
   | exact eqs true (.inr ⟨rfl, rfl⟩) hc
   | exact plain (by simp) (by simp) hc
 case h_12 op t x ho =>
  obtain ⟨y, hy, rfl⟩ := ag hc
  simp only [aA] at h;obtain ⟨h1, h2⟩ := fO h
  subst h2;obtain ⟨v', r1, r2⟩ := LI (P := P) (w := w) (E hy) h1
  simp only [execOp, ho];exact Good.still hR r2 r1
 case h_13 s d x ho =>
  obtain ⟨y, hy, hc⟩ := af hc
  have Fi := E hy
  simp only [execOp, ho];rcases fS hc with hc | hc
  ·obtain ⟨_, hs, hc⟩ := af hc
   obtain ⟨k, hd, rfl⟩ := ag hc
   obtain ⟨ds, hs, _⟩ := Ax hs
   have hd := BS hd
   simp only [aA] at h;have h1 := lz h
   generalize fr.eval y = e at Fi h1
   generalize a.eval x = av at Fi
   cases Fi <;> simp only [kT, reduceCtorEq, bc, eM] at h1
   obtain ⟨rfl, rfl⟩ := h1
   exact Good.still hR (RX hs hd _ _) (.int _ _)
  rcases fS hc with hc | hc
  ·obtain ⟨_, hs, hc⟩ := af hc
   obtain ⟨_, hd, rfl⟩ := ag hc
   simp only [aA] at h;have h1 := lz h
   generalize fr.eval y = e at Fi h1
   generalize a.eval x = av at Fi
   cases Fi <;> simp only [kT, reduceCtorEq, bc, eM] at h1
   obtain ⟨rfl, rfl⟩ := h1
   exact Good.still hR (Pf (kG hs) (kG hd) _) (.str _)
  rcases fS hc with hc | hc
  ·obtain ⟨_, hs, hc⟩ := af hc
   obtain ⟨e, hd, hc⟩ := af hc
   obtain ⟨k, he, hc⟩ := af hc
   obtain ⟨_, hk, rfl⟩ := ag hc
   have hk : k = .u8 := by have := aR (jj hk); cases k <;> simp [bY] at this; rfl
   subst hk;simp only [aA] at h;obtain ⟨B, rfl, hB⟩ := ET (P := P) hR.n (kG hs) (jW hd) (BS he) Fi (lz h)
   exact (hB.runs hR).uv
  ·obtain ⟨e, hs, hc⟩ := af hc
   obtain ⟨_, hd, hc⟩ := af hc
   obtain ⟨k, he, hc⟩ := af hc
   obtain ⟨_, hk, rfl⟩ := ag hc
   have hk : k = .u8 := by have := aR (jj hk); cases k <;> simp [bY] at this; rfl
   subst hk;simp only [aA] at h;exact (KB hR (jW hs) (BS he) (kG hd) Fi (lz h)).uv
 case h_14 t x ho =>
  obtain ⟨_, hu, hc⟩ := af hc
  obtain ⟨y, hy, rfl⟩ := ag hc
  obtain ⟨d, hu, hd⟩ := Ax hu
  simp only [aA, bc, R1.val.injEq] at h;obtain ⟨rfl, rfl⟩ := h
  simp only [execOp, ho];refine Good.still (v' := .iface t (a.eval x)) hR ?_ (.iface (E hy))
  simp only [Instr.makeInterface, Sem.run_bind, run_underlying hu, Result.andThen_ok]
  cases d <;> first | rfl | exact absurd rfl (hd _)
 case h_15 f p c ho =>
  obtain ⟨p', hp, hc⟩ := af hc
  obtain ⟨c', uY, rfl⟩ := ag hc
  simp only [aA, bc, R1.val.injEq] at h;obtain ⟨rfl, rfl⟩ := h
  have h1 := nC hG hF hp
  have h2 := nC hG hF uY
  simp only [execOp, ho];refine Good.still (v' := .func (.func f) (p.map a.eval) (c.map a.eval)) hR rfl ?_
  have e1 : p.map a.eval = ⟨p.toList.map a.eval⟩ := by apply Array.ext'; simp
  have e2 : c.map a.eval = ⟨c.toList.map a.eval⟩ := by apply Array.ext'; simp
  rw [e1, e2];exact .func h1 h2
 case h_16 t ho =>
  obtain ⟨_, _, rfl⟩ := ag hc
  simp only [aA, bc, R1.val.injEq] at h;obtain ⟨rfl, rfl⟩ := h
  simp only [execOp, ho];have := ((sY (P := P) hR.n).runs hR).uv
  simpa [Instr.makeMap] using this
 case h_17 t k z ho =>
  obtain ⟨q, hu, rfl⟩ := ag hc
  have hu := yf hu
  simp only [aA, bc, R1.val.injEq] at h;obtain ⟨rfl, rfl⟩ := h
  simp only [execOp, ho];have := ((sY (P := P) hR.n).runs hR).uv
  simpa [Instr.makeMap, run_underlying hu, Act.eval, asInt, asIntOf] using this
 case h_18 t l c ho =>
  obtain ⟨e, hu, hc⟩ := af hc
  obtain ⟨i, hi, hc⟩ := af hc
  obtain ⟨z, hz, hc⟩ := af hc
  obtain ⟨l', hl, hc⟩ := af hc
  obtain ⟨c', uY, hc⟩ := af hc
  obtain ⟨_, Hy, hc⟩ := af hc
  obtain ⟨_, hb, rfl⟩ := ag hc
  have xf := E hl
  have LD := E uY
  simp only [aA] at h;simp only [execOp, ho];generalize fr.eval l' = el at xf h
  generalize fr.eval c' = ec at LD h
  generalize a.eval l = al at xf
  generalize a.eval c = ac at LD
  cases xf <;> (try simp only [reduceCtorEq] at h)
  rename_i k1 n1
  cases k1 <;> (try simp only [reduceCtorEq] at h)
  cases n1 <;> (try simp only [reduceCtorEq] at h)
  rename_i ln
  cases LD <;> (try simp only [reduceCtorEq] at h)
  rename_i k2 n2
  cases k2 <;> (try simp only [reduceCtorEq] at h)
  cases n2 <;> (try simp only [reduceCtorEq] at h)
  rename_i cn
  cases h1 : ln.ble cn <;> simp only [h1, cond_true, cond_false, reduceCtorEq] at h
  cases h2 : cn.ble room <;> simp only [h2, cond_true, cond_false, reduceCtorEq, bc, R1.val.injEq] at h
  obtain ⟨rfl, rfl⟩ := h
  exact ((yY hR.n (jW hu) hi hz (aR (jj Hy)) (qP (jj hb)) (qP h1) (qP h2)).runs hR).uv
 case h_19 t x lo hi mx ho =>
  obtain ⟨_, OS, hc⟩ := af hc
  obtain ⟨x', hx, hc⟩ := af hc
  obtain ⟨Eg, nv, hc⟩ := af hc
  obtain ⟨xr, xg, hc⟩ := af hc
  obtain ⟨Ed, zj, hc⟩ := af hc
  have ue := E hx
  have xf := EO nv
  have WB := EO xg
  have XF := EO zj
  have Rk : (mx.map a.eval).isSome = true -> (hi.map a.eval).isSome = true := by
   have := jj OS
   cases mx <;> cases hi <;> simp at this ⊢
  simp only [execOp, ho];rcases fS hc with hc | hc
  ·obtain ⟨q, hu, hc⟩ := af hc
   obtain ⟨s, hs, rfl⟩ := ag hc
   have hu := vr hu
   simp only [aA] at h;generalize fr.eval x' = e at ue h
   generalize a.eval x = av at ue
   cases ue <;> simp only [reduceCtorEq] at h
   rename_i b off L hL
   obtain ⟨h1, h2⟩ := fO h
   subst h2;obtain ⟨l, hh, t', r1, r2⟩ := Bb (P := P) (w := w) xf WB XF Rk hL (fh q.1) (o := L.off + off) (fun _ => rfl) false h1
   refine Good.still hR ?_ r2
   simp only [Instr.sliceAt, Sem.run_bind, run_underlying hu, Result.andThen_ok, Instr.sureAddr, Sem.run_pure, r1, b8 hs, EN, Option.map_some]
   split <;> rfl
  rcases fS hc with hc | hc
  ·obtain ⟨el, hu, hc⟩ := af hc
   obtain ⟨s, hs, rfl⟩ := ag hc
   have hu := jW hu
   simp only [aA] at h;generalize fr.eval x' = e at ue h
   generalize a.eval x = av at ue
   cases ue <;> simp only [reduceCtorEq] at h
   case ae =>
    cases h1 : au (Ed.map fr.eval) 0 0 with
    | none => simp [h1] at h
    | some t1 =>
    cases h2 : au (xr.map fr.eval) 0 0 with
    | none => simp [h1, h2] at h
    | some t2 =>
    cases h3 : au (Eg.map fr.eval) 0 0 with
    | none => simp [h1, h2, h3] at h
    | some t3 =>
    simp only [h1, h2, h3, bc, R1.val.injEq] at h;obtain ⟨rfl, rfl⟩ := h
    have z : ∀ {y : Option EV} {r : Nat}, au y 0 0 = some r -> r = 0 := by
     intro y r hb
     unfold au at hb
     split at hb
     ·cases hb; rfl
     ·rename_i i
      cases hq : i.ble 0 <;> simp only [hq, cond_true, cond_false, reduceCtorEq, bc] at hb
      have := qP hq
      omega
     ·cases hb
    have e1 := z h1; have e2 := z h2; have e3 := z h3
    subst e1 e2 e3
    obtain ⟨r, _⟩ := j5 (P := P) (w := w) xf WB XF Rk true (n := 0) rfl (t := 0) (h := 0) (l := 0) (c := 0) (by
     cases hm : Ed.map fr.eval with
     | none => exact .inl ⟨rfl, rfl⟩
     | some y => rw [hm] at h1; exact .inr ⟨0, h1, by simp⟩) h2 h3
    refine Good.still (v' := .slice none 0 0) hR ?_ .ae
    simp only [Instr.sliceAt, Instr.slice, Sem.run_bind, run_underlying hu, Result.andThen_ok, r, b8 hs, Sem.run_pure, if_true]
   case slice b off len c o L hL oN Rj CF =>
    cases hm : m.get b with
    | dead => simp [hm] at h
    | map => simp [hm] at h
    | cells cs e1 el1 ro1 =>
    simp only [hm] at h
    cases hq : e1.beq s <;> simp only [hq, cond_true, cond_false, reduceCtorEq] at h
    obtain ⟨h1, h2⟩ := fO h
    subst h2;obtain ⟨l, hh, t', r1, r2⟩ := KH (P := P) (w := w) xf WB XF Rk hL oN Rj CF (by rw [RM hR hL hm, aR hq]) true h1
    refine Good.still hR ?_ r2
    simp only [Instr.sliceAt, Instr.slice, Sem.run_bind, run_underlying hu, Result.andThen_ok, r1, b8 hs, Sem.run_pure, EN]
   case gJ b off a0 =>
    obtain ⟨h1, h2⟩ := fO h
    subst h2;obtain ⟨l, hh, t', r1, r2⟩ := IE (P := P) (w := w) (a := a0) xf WB XF Rk true h1
    refine Good.still hR ?_ r2
    simp only [Instr.sliceAt, Instr.slice, Sem.run_bind, run_underlying hu, Result.andThen_ok, r1, b8 hs, Sem.run_pure, EN]
   case fD b off len c o L hL oN Rj =>
    obtain ⟨h1, h2⟩ := fO h
    subst h2;obtain ⟨l, hh, t', r1, r2⟩ := Bb (P := P) (w := w) xf WB XF Rk hL oN Rj true h1
    refine Good.still hR ?_ r2
    simp only [Instr.sliceAt, Instr.slice, Sem.run_bind, run_underlying hu, Result.andThen_ok, r1, b8 hs, Sem.run_pure, EN]
  ·obtain ⟨_, hu, hc⟩ := af hc
   obtain ⟨_, OR, rfl⟩ := ag hc
   have hu := kG hu
   have OR := jj OR
   have : mx = none := by
    cases mx with
    | none => rfl
    | some y =>
     simp [J2] at zj
     obtain ⟨z, hz, rfl⟩ := zj
     simp at OR
   subst this;simp only [aA] at h;generalize fr.eval x' = e at ue h
   generalize a.eval x = av at ue
   cases ue <;> simp only [reduceCtorEq] at h
   rename_i s'
   cases h1 : au (xr.map fr.eval) s'.data.toList.length s'.data.toList.length with
   | none => simp only [h1, reduceCtorEq] at h
   | some hh =>
   cases h2 : au (Eg.map fr.eval) 0 hh with
   | none => simp only [h1, h2, reduceCtorEq] at h
   | some l =>
    simp only [h1, h2, bc, R1.val.injEq] at h;obtain ⟨rfl, rfl⟩ := h
    obtain ⟨v', r1, r2⟩ := ID (P := P) (w := w) hu xf WB h1 h2
    exact Good.still hR r2 r1
 case h_20 s x f ho =>
  obtain ⟨fs, hu, hc⟩ := af hc
  obtain ⟨x', hx, hc⟩ := af hc
  obtain ⟨fl, hf, hc⟩ := af hc
  obtain ⟨sz, hs, hc⟩ := af hc
  obtain ⟨_, h1, rfl⟩ := ag hc
  have h1 := qP (jj h1)
  obtain ⟨k, rfl⟩ : ∃ k, sz = k + 1 := ⟨sz - 1, by omega⟩
  have ue := E hx
  simp only [aA] at h;simp only [execOp, ho];generalize fr.eval x' = e at ue h
  generalize a.eval x = av at ue
  cases ue <;> simp only [reduceCtorEq, bc, R1.val.injEq] at h
  rename_i hL
  obtain ⟨rfl, rfl⟩ := h
  exact Good.Ea hR (JM (xy hu) hf hs (.ptr hL))
 case h_21 t x f ho =>
  obtain ⟨fs, hu, hc⟩ := af hc
  obtain ⟨x', hx, hc⟩ := af hc
  obtain ⟨fl, hf, hc⟩ := af hc
  obtain ⟨g, hg, rfl⟩ := ag hc
  have ue := E hx
  simp only [aA] at h;simp only [execOp, ho]
  cases he : fr.eval x' <;> simp only [he, reduceCtorEq] at h
  rename_i cs
  rw [he] at ue;obtain ⟨h1, h2⟩ := fO h
  subst h2;exact Good.Ea hR (JK (xy hu) hf hg ue h1)
 case h_22 t x i ho =>
  obtain ⟨x', hx, hc⟩ := af hc
  obtain ⟨i', hi, hc⟩ := af hc
  have ue := E hx
  have XL := E hi
  simp only [execOp, ho];rcases fS hc with hc | hc
  ·obtain ⟨e, hu, hc⟩ := af hc
   obtain ⟨s, hs, rfl⟩ := ag hc
   simp only [aA] at h
   cases he : fr.eval x' <;> simp only [he, reduceCtorEq] at h
   case fz => rw [he] at ue; cases ue
   rename_i b off len cap
   rw [he] at ue
   cases hj : idx len (fr.eval i') with
   | none => simp [hj] at h
   | some j =>
    simp only [hj, bc, R1.val.injEq] at h;obtain ⟨rfl, rfl⟩ := h
    exact Good.Ea hR (Jq (jW hu) hs ue XL hj)
  ·obtain ⟨q, hu, hc⟩ := af hc
   obtain ⟨s, hs, rfl⟩ := ag hc
   simp only [aA] at h
   cases he : fr.eval x' <;> simp only [he, reduceCtorEq] at h
   rename_i b off
   rw [he] at ue
   cases hj : idx q.1 (fr.eval i') with
   | none => simp [hj] at h
   | some j =>
    simp only [hj, bc, R1.val.injEq] at h;obtain ⟨rfl, rfl⟩ := h
    exact Good.Ea hR (Er (vr hu) hs ue XL hj)
 case h_23 t x i ho =>
  obtain ⟨x', hx, hc⟩ := af hc
  obtain ⟨i', hi, hc⟩ := af hc
  have ue := E hx
  have XL := E hi
  simp only [execOp, ho];rcases fS hc with hc | hc
  ·obtain ⟨_, hu, rfl⟩ := ag hc
   simp only [aA] at h;generalize fr.eval x' = e at ue h
   generalize a.eval x = av at ue
   cases ue <;> simp only [reduceCtorEq] at h
   rename_i s'
   cases hj : idx s'.data.toList.length (fr.eval i') with
   | none => simp only [hj, reduceCtorEq] at h
   | some j =>
    simp only [hj] at h
    cases hcj : s'.data.toList[j]? with
    | none => simp only [hcj, reduceCtorEq] at h
    | some c =>
     simp only [hcj, bc, R1.val.injEq] at h;obtain ⟨rfl, rfl⟩ := h
     exact Good.still hR (Hw (kG hu) XL hj hcj) (.int _ _)
  ·obtain ⟨q, hu, hc⟩ := af hc
   obtain ⟨s, hs, hc⟩ := af hc
   obtain ⟨g, hg, rfl⟩ := ag hc
   simp only [aA] at h
   cases he : fr.eval x' <;> simp only [he, reduceCtorEq] at h
   rename_i cs
   rw [he] at ue
   cases hj : idx q.1 (fr.eval i') with
   | none => simp [hj] at h
   | some j =>
    simp only [hj] at h;obtain ⟨h1, h2⟩ := fO h
    subst h2;exact Good.Ea hR (Hx (vr hu) hs hg ue XL hj h1)
 case h_24 t mp k ok ho =>
  obtain ⟨q, hu, hc⟩ := af hc
  obtain ⟨c, hk, hc⟩ := af hc
  obtain ⟨z, hz, hc⟩ := af hc
  obtain ⟨m1, hm, hc⟩ := af hc
  obtain ⟨k1, Rm, rfl⟩ := ag hc
  simp only [execOp, ho];exact (Hq hR (yf hu) hk hz (E hm) (E Rm) rfl rfl h).uv
 case h_25 t mp k x ho =>
  obtain ⟨q, hu, hc⟩ := af hc
  obtain ⟨c, hk, hc⟩ := af hc
  obtain ⟨m1, hm, hc⟩ := af hc
  obtain ⟨k1, Rm, hc⟩ := af hc
  obtain ⟨x1, hx, rfl⟩ := ag hc
  obtain ⟨w', r1, rfl, r2, r3⟩ := y0 (P := P) hR (yf hu) hk (E hm) (E Rm) (E hx) rfl rfl rfl h
  exact ⟨ρ, w', undef, .inr ⟨by simp only [execOp, ho, Sem.run_bind, r1, Result.andThen_ok, Sem.run_pure], rfl⟩, .undef, r2, r3⟩
 case h_26 t mp k x ho =>
  obtain ⟨q, hu, hc⟩ := af hc
  obtain ⟨c, hk, hc⟩ := af hc
  obtain ⟨m1, hm, hc⟩ := af hc
  obtain ⟨k1, Rm, hc⟩ := af hc
  obtain ⟨x1, hx, rfl⟩ := ag hc
  obtain ⟨w', r1, rfl, r2, r3⟩ := y0 (P := P) hR (yf hu) hk (E hm) (E Rm) (E hx) rfl rfl rfl h
  exact ⟨ρ, w', undef, .inr ⟨by simp only [execOp, ho, Sem.run_bind, r1, Result.andThen_ok, Sem.run_pure], rfl⟩, .undef, r2, r3⟩
 case h_27 x xt t ho =>
  obtain ⟨_, hu, hc⟩ := af hc
  obtain ⟨y, hy, rfl⟩ := ag hc
  obtain ⟨d, hu, hd⟩ := Ax hu
  have Fi := E hy
  simp only [aA] at h;simp only [execOp, ho];generalize fr.eval y = e at Fi h
  generalize a.eval x = av at Fi
  cases Fi <;> simp only [reduceCtorEq] at h
  rename_i u v0 v1 hv
  cases hq : t.beq u <;> simp only [hq, cond_true, cond_false, reduceCtorEq, bc, R1.val.injEq] at h
  obtain ⟨rfl, rfl⟩ := h
  obtain rfl := aR hq
  refine Good.still hR ?_ hv
  simp only [Instr.typeAssert, Sem.run_bind, run_underlying hu, Result.andThen_ok]
  cases d <;> first | (exact absurd rfl (hd _)) | simp
 case h_28 x i ho =>
  obtain ⟨y, hy, rfl⟩ := ag hc
  have Fi := E hy
  simp only [aA] at h;simp only [execOp, ho];generalize fr.eval y = e at Fi h
  generalize a.eval x = av at Fi
  cases Fi <;> simp only [reduceCtorEq] at h
  rename_i vs uz x8
  obtain ⟨h1, h2⟩ := fO h
  subst h2;obtain ⟨v', g1, g2⟩ := x8.get i v h1
  refine Good.still hR ?_ g2
  simp [Instr.extract, g1]
 case h_29 c ho =>
  obtain ⟨ys, Q6, hc⟩ := af hc
  split at hc
  ·rename_i b hb
   rw [J4 ho hb];have hv := nC hG hF Q6
   have e1 : c.args.map a.eval = ⟨c.args.toList.map a.eval⟩ := by apply Array.ext'; simp
   rw [e1];exact FO (ts := c.argTypes.toList) hR hv hc _ _ h
  ·cases hc
 case h_30 => cases hc
theorem Mw {o : Oper} {f : Operand} {xs : Array Operand} {ts : Array TypeId} (ho : o.op = .call ⟨.value f, xs, ts⟩) {f' : aV} {ys : List aV} (hf : eZ G f = some f') (Q6 : Ad G xs.toList = some ys) (hG : jt G ρ) (hF : FR ρ n fr a) {g : Nat} {x y : List EV} (he : fr.eval f' = .func g x y) :
  ∃ aw : Array Value, (execOp a.eval o).run P w = (callFunc g aw).run P w /\ ft ρ (x ++ ys.map fr.eval ++ y) aw.toList := by
 have VD := ig hG hF hf
 have hv := nC hG hF Q6
 rw [he] at VD;generalize HE : a.eval f = av at VD
 cases VD with
 | @func _ _ _ x' y' hx hy =>
 refine ⟨⟨x' ++ xs.toList.map a.eval ++ y'⟩, ?_, (hx.append hv).append hy⟩
 simp only [execOp, ho, resolve, HE, Deferred.ofValue, Sem.run_bind, Sem.run_pure, Result.andThen_ok, invoke]
 congr 2
 apply Array.ext'
 simp
theorem Qr {o : Oper} {x : Operand} (ho : o.op = .panic x) {x' : aV} (hx : eZ G x = some x') (hG : jt G ρ) (hF : FR ρ n fr a) {t : Nat} {v : EV} (he : fr.eval x' = .iface t v) :
  ∃ v', (execOp a.eval o).run P w = .halt (.panic v') w /\ VR ρ (.iface t v) v' := by
 have hv := ig hG hF hx
 rw [he] at hv;generalize HE : a.eval x = av at hv
 cases hv with
 | iface h => exact ⟨_, by simp [execOp, ho, HE, Instr.panic], .iface h⟩
end
end
section
def ado (ρ : ep) (e : Nat × List EV) (d : Deferred) : Prop := ∃ c' : Array Value, d.target = .fn (.func e.1) c' /\ ft ρ e.2 (d.args.toList ++ c'.toList)
inductive xw (ρ : ep) : List (Nat × List EV) -> List Deferred -> Prop
 | nil : xw ρ [] []
 | cons {e : Nat × List EV} {d : Deferred} {es : List (Nat × List EV)} {ds : List Deferred} (h : ado ρ e d) (hs : xw ρ es ds) : xw ρ (e :: es) (d :: ds)
theorem xw.ext {ρ ρ' : ep} (e : Ext ρ ρ') {es : List (Nat × List EV)} {ds : List Deferred} (h : xw ρ es ds) : xw ρ' es ds := by
 induction h with
 | nil => exact .nil
 | cons h _ ih => obtain ⟨c', h1, h2⟩ := h; exact .cons ⟨c', h1, h2.ext e⟩ ih
structure BN (ρ : ep) (n : Nat) (fr : Fr) (a : Act) : Prop where
 tm : FR ρ n fr a
 FM : xw ρ fr.defers a.defers
theorem BN.ext {ρ ρ' : ep} {n : Nat} {fr : Fr} {a : Act} (e : Ext ρ ρ') (h : BN ρ n fr a) : BN ρ' n fr a := ⟨h.tm.ext e, h.FM.ext e⟩
theorem put_defers (fr : Fr) (d : Option Nat) (v : EV) : (fr.put d v).defers = fr.defers := by cases d <;> rfl
theorem IL (a : Act) (d : Option Nat) (v : Value) : (a.put d v).defers = a.defers := by cases d <;> rfl
theorem BN.put {ρ : ep} {n : Nat} {fr : Fr} {a : Act} (h : BN ρ n fr a) {d : Option Nat} (hd : ∀ x, d = some x -> x < n) {v : EV} {v' : Value} (hv : VR ρ v v') : BN ρ n (fr.put d v) (a.put d v') :=
 ⟨h.tm.put hd hv, by rw [put_defers, IL]; exact h.FM⟩
def Reach (base n : Nat) (ρ : ep) (m : Mem) (w : World) (out : Out) (e : Exit) (a' : Act) (w' : World) : Prop :=
 match out with
 | .norm fr' m' => e = .normal /\ ∃ ρ', R base ρ' m' w' /\ Step ρ m w ρ' m' w' /\ BN ρ' n fr' a'
 | .exit id fr' m' => e = .exit id /\ ∃ ρ', R base ρ' m' w' /\ Step ρ m w ρ' m' w' /\ BN ρ' n fr' a'
 | .ret fr' m' => e = .ret /\ ∃ ρ', R base ρ' m' w' /\ Step ρ m w ρ' m' w' /\ BN ρ' n fr' a'
 | .gD v fr' m' => ∃ ρ' v', e = .panic [{ v := v', recovered := false }] /\ VR ρ' v v' /\ R base ρ' m' w' /\ Step ρ m w ρ' m' w' /\ BN ρ' n fr' a'
theorem Reach.after {base n : Nat} {ρ ρ1 : ep} {m m1 : Mem} {w w1 : World} (s : Step ρ m w ρ1 m1 w1) {out : Out} {e : Exit} {a' : Act} {w' : World} (h : Reach base n ρ1 m1 w1 out e a' w') : Reach base n ρ m w out e a' w' := by
 cases out with
 | norm fr' m' => obtain ⟨he, ρ', h1, h2, h3⟩ := h; exact ⟨he, ρ', h1, s.trans h2, h3⟩
 | exit id fr' m' => obtain ⟨he, ρ', h1, h2, h3⟩ := h; exact ⟨he, ρ', h1, s.trans h2, h3⟩
 | ret fr' m' => obtain ⟨he, ρ', h1, h2, h3⟩ := h; exact ⟨he, ρ', h1, s.trans h2, h3⟩
 | gD v fr' m' => obtain ⟨ρ', v', he, h0, h1, h2, h3⟩ := h; exact ⟨ρ', v', he, h0, h1, s.trans h2, h3⟩
def nG (base : Nat) (ρ : ep) (m : Mem) (w : World) (fin : Fin) (e : Ending) (w' : World) : Prop :=
 match fin with
 | .ret v m' => ∃ ρ' v', e = .returned v' /\ VR ρ' v v' /\ R base ρ' m' w' /\ Step ρ m w ρ' m' w'
 | .gD v m' => ∃ ρ' v', e = .panicked [{ v := v', recovered := false }] /\ VR ρ' v v' /\ R base ρ' m' w' /\ Step ρ m w ρ' m' w'
def pB (P : Program) (G : List Nat) (call : Call) : Prop :=
 ∀ f args m fin, call f args m = some fin -> ∀ base ρ w (aw : Array Value), R base ρ m w -> jt G ρ -> ft ρ args aw.toList ->
  ((callFunc f aw).run P w = .ok (.enter f aw) w /\ Calls P f aw w (nG base ρ m w fin)) \/
  (∃ v v', fin = .ret v m /\ (callFunc f aw).run P w = .ok (.value v') w /\ VR ρ v v')
section
variable {P : Program} {G : List Nat} {n : Nat} {call : Call}
theorem J3 {ops : Array Oper} {o : Oper} {io : aY} (h : uj P G n ops o = some io) : ER P G o = some io.op /\ io.dst = o.dst /\ (∀ x, o.dst = some x -> x < n) /\
  ((o.guard = none /\ io.guard = none) \/ (∃ j w t, o.guard = some (j, w) /\ (ops[j]?).bind (·.dst) = some t /\ io.guard = some (t, w))) := by
 unfold uj at h
 cases hx : ER P G o with
 | none => simp [hx] at h
 | some op =>
  simp only [hx] at h
  cases hb : UI n o.dst with
  | false => simp [hb] at h
  | true =>
  simp only [hb, cond_true] at h;have ny : ∀ x, o.dst = some x -> x < n := by
   intro x hx
   rw [hx] at hb;exact qP hb
  cases hg : o.guard with
  | none => simp only [hg, bc] at h; subst h; exact ⟨rfl, rfl, ny, .inl ⟨rfl, rfl⟩⟩
  | some jw =>
   obtain ⟨j, w⟩ := jw
   simp only [hg] at h
   cases ht : (ops[j]?).bind (·.dst) with
   | none => simp [ht] at h
   | some t => simp only [ht, bc] at h; subst h; exact ⟨rfl, rfl, ny, .inr ⟨j, w, t, rfl, ht, rfl⟩⟩
theorem mq {ρ : ep} {ops : Array Oper} {o : Oper} {io : aY} {fr : Fr} {a : Act} (hF : FR ρ n fr a)
  (hg : (o.guard = none /\ io.guard = none) \/ (∃ j w t, o.guard = some (j, w) /\ (ops[j]?).bind (·.dst) = some t /\ io.guard = some (t, w))) {b : Bool} (h : bf fr io.guard = some b) :
  Region.wanted o (yielded ops a.tmps) = b := by
 rcases hg with ⟨h1, h2⟩ | ⟨j, w, t, h1, h2, h3⟩
 ·rw [h2] at h; simp [bf] at h; subst h; simp [Region.wanted, h1]
 ·rw [h3] at h
  simp only [bf] at h
  cases hv : fr.get t <;> simp only [hv, reduceCtorEq, bc] at h
  case undef =>
   have ht := hF.tmp t
   rw [hv] at ht;generalize St : a.tmps.getD t undef = tv at ht
   cases ht
   subst h;simp only [Region.wanted, h1, yielded, h2, Option.bind_some]
   cases hq : a.tmps[t]? with
   | none => rfl
   | some x =>
    rw [Array.getD_eq_getD_getElem?, hq] at St;simp only [Option.getD_some] at St;rw [St]; rfl
  rename_i c
  have ht := hF.tmp t
  rw [hv] at ht;generalize St : a.tmps.getD t undef = tv at ht
  cases ht
  simp only [Region.wanted, h1, yielded, h2, Option.bind_some];have : a.tmps[t]? = some (.bool c) := by
   rw [Array.getD_eq_getD_getElem?] at St
   cases hq : a.tmps[t]? with
   | none => rw [hq] at St; simp [undef] at St
   | some x => rw [hq] at St; simp at St; rw [St]
  rw [this];subst h;simp
theorem vf {o : Oper} {op : ls} (h : ER P G o = some (.val op)) : UK P G o = some op := by
 unfold ER at h
 split at h
 ·obtain ⟨_, _, h⟩ := af h; obtain ⟨_, _, h⟩ := ag h; cases h
 ·obtain ⟨_, _, h⟩ := af h; obtain ⟨_, _, h⟩ := ag h; cases h
 ·obtain ⟨_, _, h⟩ := ag h; cases h
 ·obtain ⟨_, hh, h⟩ := ag h; cases h; exact hh
theorem GK {o : Oper} {f : aV} {ys : List aV} (h : ER P G o = some (.call f ys)) : ∃ f0 xs ts, o.op = .call ⟨.value f0, xs, ts⟩ /\ eZ G f0 = some f /\ Ad G xs.toList = some ys := by
 unfold ER at h
 split at h
 ·rename_i f0 xs ts ho
  obtain ⟨_, h1, h⟩ := af h; obtain ⟨_, h2, h⟩ := ag h; cases h
  exact ⟨f0, xs, ts, ho, h2, h1⟩
 ·obtain ⟨_, _, h⟩ := af h; obtain ⟨_, _, h⟩ := ag h; cases h
 ·obtain ⟨_, _, h⟩ := ag h; cases h
 ·obtain ⟨_, hh, h⟩ := ag h; cases h
theorem LW {o : Oper} {f : aV} {ys : List aV} (h : ER P G o = some (.defer f ys)) : ∃ f0 xs ts, o.op = .defer ⟨.value f0, xs, ts⟩ /\ eZ G f0 = some f /\ Ad G xs.toList = some ys := by
 unfold ER at h
 split at h
 ·obtain ⟨_, _, h⟩ := af h; obtain ⟨_, _, h⟩ := ag h; cases h
 ·rename_i f0 xs ts ho
  obtain ⟨_, h1, h⟩ := af h; obtain ⟨_, h2, h⟩ := ag h; cases h
  exact ⟨f0, xs, ts, ho, h2, h1⟩
 ·obtain ⟨_, _, h⟩ := ag h; cases h
 ·obtain ⟨_, hh, h⟩ := ag h; cases h
theorem LV {o : Oper} {x : aV} (h : ER P G o = some (.panic x)) : ∃ x0, o.op = .panic x0 /\ eZ G x0 = some x := by
 unfold ER at h
 split at h
 ·obtain ⟨_, _, h⟩ := af h; obtain ⟨_, _, h⟩ := ag h; cases h
 ·obtain ⟨_, _, h⟩ := af h; obtain ⟨_, _, h⟩ := ag h; cases h
 ·rename_i x0 ho
  obtain ⟨_, h2, h⟩ := ag h; cases h
  exact ⟨x0, ho, h2⟩
 ·obtain ⟨_, hh, h⟩ := ag h; cases h
theorem NX {o : Oper} {a : Act} {next next' : Act -> World -> Prop} {Q Q' : Exit -> Act -> World -> Prop} (hn : ∀ a w, next a w -> next' a w) (hq : ∀ e a w, Q e a w -> Q' e a w) {r : Result Next} (h : o.upon P a next Q r) : o.upon P a next' Q' r := by
 unfold Oper.upon at *
 split at h
 ·exact hn _ _ h
 ·exact hn _ _ h
 ·exact hn _ _ h
 ·refine h.mono fun e w hp => ?_
  cases e with
  | returned v => exact hn _ _ hp
  | panicked c => exact hq _ _ _ hp
  | outgrown => obtain ⟨a, w, h⟩ := hp; exact ⟨a, w, hq _ _ _ h⟩
 ·exact h.mono fun v w hp => hn _ _ hp
 ·exact hq _ _ _ h
 ·exact h
theorem sg {ops : Array Oper} {Q Q' : Exit -> Act -> World -> Prop} (hq : ∀ e a w, Q e a w -> Q' e a w) : ∀ (l : List Nat) (a : Act) (w : World), wpOps P ops Q l a w -> wpOps P ops Q' l a w
 | [], a, w, h => hq _ _ _ h
 | i :: l, a, w, h => by
  simp only [wpOps] at h ⊢
  cases ho : ops[i]? with
  | none => simp only [ho] at h ⊢; exact sg hq l a w h
  | some o =>
   simp only [ho] at h ⊢
   split
   ·rename_i hw
    rw [if_pos hw] at h;rcases h with h | ⟨h1, a0, w0, h2⟩
    ·exact .inl (NX (sg hq l) hq h)
    ·exact .inr ⟨h1, a0, w0, hq _ _ _ h2⟩
   ·rename_i hw
    rw [if_neg hw] at h;exact sg hq l _ w h
theorem F9 (bF : pB P G call) {base : Nat} {ops : Array Oper} : ∀ (is : List aY) (l : List Nat), is.length = l.length -> (∀ (k : Nat) (i : Nat) (io : aY), l[k]? = some i -> is[k]? = some io -> ∃ o, ops[i]? = some o /\ uj P G n ops o = some io) ->
  ∀ (ρ : ep) (m : Mem) (w : World) (fr : Fr) (a : Act) (out : Out), R base ρ m w -> jt G ρ -> BN ρ n fr a -> gQ call is fr m = some out -> wpOps P ops (Reach base n ρ m w out) l a w := by
 intro is
 induction is with
 | nil =>
  intro l hl Vr ρ m w fr a out hR hG hF h
  cases l with
  | cons x l => simp at hl
  | nil =>
   simp only [gQ, bc] at h;subst h;exact ⟨rfl, ρ, hR, .refl _ _ _, hF⟩
 | cons io is ih =>
  intro l hl Vr ρ m w fr a out hR hG hF h
  cases l with
  | nil => simp at hl
  | cons i l =>
  obtain ⟨o, ho, hc⟩ := Vr 0 i io rfl rfl
  obtain ⟨hx, ny, AO, nP⟩ := J3 hc
  have zk : is.length = l.length := by simpa using hl
  have Xv : ∀ (k : Nat) (i : Nat) (io : aY), l[k]? = some i -> is[k]? = some io -> ∃ o, ops[i]? = some o /\ uj P G n ops o = some io :=
   fun k i io h1 h2 => Vr (k + 1) i io (by simpa using h1) (by simpa using h2)
  -- what follows, from where a step has led
  have next : ∀ {ρ1 : ep} {m1 : Mem} {w1 : World} {fT : Fr} {a1 : Act}, R base ρ1 m1 w1 -> Step ρ m w ρ1 m1 w1 -> BN ρ1 n fT a1 -> gQ call is fT m1 = some out -> wpOps P ops (Reach base n ρ m w out) l a1 w1 := by
   intro ρ1 m1 w1 fT a1 lr hs wy h1
   have := ih l zk Xv ρ1 m1 w1 fT a1 out lr (hG.ext hs.ext) wy h1
   exact sg (fun e a w hq => hq.after hs) l a1 w1 this
  simp only [gQ] at h;simp only [wpOps, ho]
  cases hw : bf fr io.guard with
  | none => simp [hw] at h
  | some b =>
  rw [mq hF.tm nP hw]
  cases b with
  | false =>
   simp only [hw] at h;rw [if_neg (by simp)];rw [ny] at h;exact next hR (.refl _ _ _) (hF.put AO .undef) h
  | true =>
   simp only [hw] at h;rw [if_pos rfl]
   left
   simp only [Oper.wp]
   cases lq : io.op with
   | val op =>
    simp only [lq] at h
    cases rL : aA fr.eval op m with
    | none => simp [rL] at h
    | some r =>
     obtain ⟨v, m1⟩ := r
     simp only [rL] at h;rw [lq] at hx;obtain ⟨ρ1, w1, v', jZ, hv, lr, hs⟩ := D9 (vf hx) hG hR hF.tm rL
     rcases jZ with jZ | ⟨jZ, rfl⟩
     ·rw [jZ]
      simp only [Oper.upon];rw [ny] at h;exact next lr hs ((hF.ext hs.ext).put AO hv) h
     ·rw [jZ]
      simp only [Oper.upon];rw [ny] at h;exact next lr hs ((hF.ext hs.ext).put AO hv) h
   | call f args =>
    simp only [lq] at h;rw [lq] at hx;obtain ⟨f0, V9, ts0, Rj, hf, Q6⟩ := GK hx
    cases Jw : fr.eval f <;> simp only [Jw, fM, reduceCtorEq] at h
    rename_i g x y
    obtain ⟨aw, jZ, hv⟩ := Mw (w := w) (P := P) Rj hf Q6 hG hF.tm Jw
    rw [jZ]
    cases xL : call g (x ++ args.map fr.eval ++ y) m with
    | none => simp only [xL, reduceCtorEq] at h
    | some fin =>
     rcases bF _ _ _ _ xL base ρ w aw hR hG hv with ⟨h1, h2⟩ | ⟨v, v', rfl, h1, h2⟩
     ·rw [h1]
      simp only [Oper.upon];refine h2.mono fun e w' hp => ?_
      cases fin with
      | ret v m1 =>
       obtain ⟨ρ1, v', rfl, zh, lr, hs⟩ := hp
       simp only [xL] at h;rw [ny] at h;exact next lr hs ((hF.ext hs.ext).put AO zh) h
      | gD v m1 =>
       obtain ⟨ρ1, v', rfl, zh, lr, hs⟩ := hp
       simp only [xL, bc] at h;subst h;exact ⟨ρ1, v', rfl, zh, lr, hs, hF.ext hs.ext⟩
     ·rw [h1]
      simp only [xL] at h;simp only [Oper.upon];rw [ny] at h;exact next hR (.refl _ _ _) (hF.put AO h2) h
   | panic x =>
    simp only [lq] at h;rw [lq] at hx;obtain ⟨x0, Rj, Q7⟩ := LV hx
    cases ue : fr.eval x <;> simp only [ue, reduceCtorEq, bc] at h
    rename_i t v
    subst h;obtain ⟨v', jZ, hv⟩ := Qr (w := w) (P := P) Rj Q7 hG hF.tm ue
    rw [jZ];exact ⟨ρ, v', rfl, hv, hR, .refl _ _ _, hF⟩
   | defer f args =>
    simp only [lq] at h;rw [lq] at hx;obtain ⟨f0, V9, ts0, Rj, hf, Q6⟩ := LW hx
    cases Jw : fr.eval f <;> simp only [Jw, reduceCtorEq] at h
    rename_i g x y
    have VD := ig hG hF.tm hf
    have hv := nC hG hF.tm Q6
    rw [Jw] at VD;generalize HE : a.eval f0 = av at VD
    cases VD with
    | @func _ _ _ x' y' PA YH =>
    have jZ : (execOp a.eval o).run P w = .ok (.defer { target := .fn (.func g) ⟨y'⟩, args := ⟨x'⟩ ++ V9.map a.eval }) w := by
     simp only [execOp, Rj, resolve, HE, Deferred.ofValue, Sem.run_bind, Sem.run_pure, Result.andThen_ok]
    rw [jZ];simp only [Oper.upon];rw [ny] at h;have e1 : ((⟨x'⟩ : Array Value) ++ V9.map a.eval).toList = x' ++ V9.toList.map a.eval := by simp
    have hF2 : BN ρ n ⟨fr.tmps, (g, x ++ args.map fr.eval ++ y) :: fr.defers⟩ { a with defers := { target := .fn (.func g) ⟨y'⟩, args := ⟨x'⟩ ++ V9.map a.eval } :: a.defers } :=
     ⟨⟨hF.tm.size, hF.tm.tmp⟩, .cons ⟨⟨y'⟩, rfl, by rw [e1]; exact (PA.append hv).append YH⟩ hF.FM⟩
    exact next hR (.refl _ _ _) (hF2.put AO .undef) h
end
end
section
section
variable {P : Program} {G : List Nat} {n : Nat} {call : Call} {chk : List (Nat × Nat)} {B0 : Nat}
inductive At (call : Call) (B0 : Nat) (o : aY) (i : Nat) (fr : Fr) (m : Mem) (v : EV) (m' : Mem) : Prop
 | skip (hw : bf fr o.guard = some false) (hv : v = .undef) (hm : m' = m)
 | pure (op : ls) (m1 : Mem) (hw : bf fr o.guard = some true) (ho : o.op = .val op) (hs : cS op = 0) (h : aA fr.eval op m = some (.val v m1)) (hm : m' = m)
 | make (op : ls) (m1 : Mem) (hw : bf fr o.guard = some true) (ho : o.op = .val op) (hs : cS op = 1) (h : aA fr.eval op ⟨B0 + i, m.gB⟩ = some (.val v m1)) (hm : m' = ⟨m.next, m1.gB⟩)
 | load (agg : Option Nat) (a : aV) (hw : bf fr o.guard = some true) (ho : o.op = .val (.load agg a)) (h : m.load agg (fr.eval a) = some v) (hm : m' = m)
 | act (op : ls) (hw : bf fr o.guard = some true) (ho : o.op = .val op) (hs : 3 <= cS op) (h : aA fr.eval op m = some (.val v m'))
 | call (f : aV) (args : List aV) (hw : bf fr o.guard = some true) (ho : o.op = .call f args) (h : fM call (fr.eval f) (args.map fr.eval) m = some (.ret v m'))
def nS (o : aY) (fr : Fr) : Prop := bf fr o.guard = some true /\ 3 <= sort o.op
def Fc (o : aY) (fr : Fr) (agg : Option Nat) (a : aV) : Prop := bf fr o.guard = some true /\ o.op = .val (.load agg a) /\ Gk (fr.eval a) = false
structure Canon (call : Call) (chk : List (Nat × Nat)) (B0 : Nat) (r : List aY) (i : Nat) (F : Nat -> Fr) (M : Nat -> Mem) (V : Nat -> EV) : Prop where
 at_ : ∀ k o, r[k]? = some o -> At call B0 o (i + k) (F (i + k)) (M (i + k)) (V (i + k)) (M (i + k + 1)) /\ F (i + k + 1) = (F (i + k)).put o.dst (V (i + k))
 c1 : ∀ k o agg a l q, r[k]? = some o -> r[l]? = some q -> Fc o (F (i + k)) agg a -> nS q (F (i + l)) -> bV (i + k) (i + l) chk = true ->
  (l < k -> (M (i + l)).eD agg ((F (i + k)).eval a) (V (i + k)) = true) /\ (k < l -> (M (i + l + 1)).eD agg ((F (i + k)).eval a) (V (i + k)) = true)
structure DB (call : Call) (chk : List (Nat × Nat)) (B0 : Nat) (r : List aY) (i : Nat) (jr : List (Nat × Mem)) (seen : List Seen) (F : Nat -> Fr) (M : Nat -> Mem) (V : Nat -> EV) : Prop extends Canon call chk B0 r i F M V where
 c2 : ∀ k o agg a, r[k]? = some o -> Fc o (F (i + k)) agg a -> ∀ j mj, (j, mj) ∈ jr -> bV (i + k) j chk = true -> mj.eD agg ((F (i + k)).eval a) (V (i + k)) = true
 c3 : ∀ l q, r[l]? = some q -> nS q (F (i + l)) -> ∀ s, s ∈ seen -> bV s.i (i + l) chk = true -> (M (i + l + 1)).eD s.agg s.a s.v = true
theorem LU {o : aY} {r : List aY} {i : Nat} {fr fr' : Fr} {m m' : Mem} {v : EV} {jr uE : List (Nat × Mem)} {seen Bc : List Seen} {F' : Nat -> Fr} {M' : Nat -> Mem} {V' : Nat -> EV}
  (PD : At call B0 o i fr m v m') (WC : fr' = fr.put o.dst v) (hF : F' (i + 1) = fr') (hM : M' (i + 1) = m') (hc : DB call chk B0 r (i + 1) uE Bc F' M' V')
  (Ly : ∀ x, x ∈ jr -> x ∈ uE) (To : ∀ x, x ∈ seen -> x ∈ Bc) (Rw : nS o fr -> (i, m) ∈ uE /\ ∀ s, s ∈ seen -> bV s.i i chk = true -> m'.eD s.agg s.a s.v = true)
  (Ux : ∀ agg a, Fc o fr agg a -> ⟨i, agg, fr.eval a, v⟩ ∈ Bc /\ ∀ j mj, (j, mj) ∈ jr -> bV i j chk = true -> mj.eD agg (fr.eval a) v = true) :
  ∃ F M V, F i = fr /\ M i = m /\ F (i + (r.length + 1)) = F' (i + 1 + r.length) /\ M (i + (r.length + 1)) = M' (i + 1 + r.length) /\ DB call chk B0 (o :: r) i jr seen F M V := by
 let F : Nat -> Fr := fun x => if x = i then fr else F' x
 let M : Nat -> Mem := fun x => if x = i then m else M' x
 let V : Nat -> EV := fun x => if x = i then v else V' x
 have F0 : F i = fr := if_pos rfl
 have M0 : M i = m := if_pos rfl
 have V0 : V i = v := if_pos rfl
 have FS : ∀ k, F (i + (k + 1)) = F' (i + 1 + k) := fun k => by show (if _ then _ else _) = _; rw [if_neg (by omega)]; congr 1; omega
 have MS : ∀ k, M (i + (k + 1)) = M' (i + 1 + k) := fun k => by show (if _ then _ else _) = _; rw [if_neg (by omega)]; congr 1; omega
 have VS : ∀ k, V (i + (k + 1)) = V' (i + 1 + k) := fun k => by show (if _ then _ else _) = _; rw [if_neg (by omega)]; congr 1; omega
 have F1 : F (i + 0 + 1) = fr' := by have := FS 0; rw [show i + 0 + 1 = i + (0 + 1) by omega, this]; exact hF
 have M1 : M (i + 0 + 1) = m' := by have := MS 0; rw [show i + 0 + 1 = i + (0 + 1) by omega, this]; exact hM
 have FS1 : ∀ k, F (i + (k + 1) + 1) = F' (i + 1 + k + 1) := fun k => by rw [show i + (k + 1) + 1 = i + (k + 1 + 1) by omega, FS]; congr 1
 have Y4 : ∀ k, M (i + (k + 1) + 1) = M' (i + 1 + k + 1) := fun k => by rw [show i + (k + 1) + 1 = i + (k + 1 + 1) by omega, MS]; congr 1
 have pr : ∀ k, i + (k + 1) = i + 1 + k := fun k => by omega
 refine ⟨F, M, V, F0, M0, FS _, MS _, ⟨⟨?_, ?_⟩, ?_, ?_⟩⟩
 ·intro k q hk
  cases k with
  | zero =>
   simp at hk; subst hk
   rw [F1, M1];simp only [Nat.add_zero, F0, M0, V0];exact ⟨PD, WC⟩
  | succ k =>
   simp at hk
   have := hc.at_ k q hk
   rw [FS, MS, VS, FS1, Y4, pr k];exact this
 ·intro k p agg a l q hk hl hL hA hp
  cases k with
  | zero =>
   simp at hk; subst hk
   simp only [Nat.add_zero, F0, V0] at hL hp ⊢
   cases l with
   | zero =>
    refine ⟨fun h => absurd h (by omega), fun h => absurd h (by omega)⟩
   | succ l =>
    simp at hl
    refine ⟨fun h => absurd h (by omega), fun _ => ?_⟩
    rw [Y4];rw [FS] at hA;rw [pr l] at hp;exact hc.c3 l q hl hA _ (Ux agg a hL).1 hp
  | succ k =>
   simp at hk
   rw [FS, VS] at *
   cases l with
   | zero =>
    simp at hl; subst hl
    simp only [Nat.add_zero, F0, M0] at hA hp ⊢
    refine ⟨fun _ => ?_, fun h => absurd h (by omega)⟩
    rw [pr k] at hp;exact hc.c2 k p agg a hk hL i m (Rw hA).1 hp
   | succ l =>
    simp at hl
    rw [FS] at hA;rw [pr k, pr l] at hp;obtain ⟨g1, g2⟩ := hc.c1 k p agg a l q hk hl hL hA hp
    rw [MS, Y4];exact ⟨fun h => g1 (by omega), fun h => g2 (by omega)⟩
 ·intro k p agg a hk hL j mj hj hp
  cases k with
  | zero =>
   simp at hk; subst hk
   simp only [Nat.add_zero, F0, V0] at hL hp ⊢
   exact (Ux agg a hL).2 j mj hj hp
  | succ k =>
   simp at hk
   rw [FS, VS] at *
   rw [pr k] at hp;exact hc.c2 k p agg a hk hL j mj (Ly _ hj) hp
 ·intro l q hl hA s hs hp
  cases l with
  | zero =>
   simp at hl; subst hl
   rw [M1];simp only [Nat.add_zero, F0] at hA hp;exact (Rw hA).2 s hs hp
  | succ l =>
   simp at hl
   rw [Y4];rw [FS] at hA;rw [pr l] at hp;exact hc.c3 l q hl hA s (To _ hs) hp
theorem z8 {i : Nat} {agg : Option Nat} {a v : EV} : ∀ {sn : List (Nat × Mem)}, bG chk i agg a v sn = true -> ∀ j mj, (j, mj) ∈ sn -> bV i j chk = true -> mj.eD agg a v = true
 | [], _, j, mj, h, _ => by simp at h
 | (x, y) :: sn, h, j, mj, hm, hp => by
  simp only [bG] at h;rcases oQ.1 hm with e | hm
  ·cases e
   simp only [hp, cond_true] at h
   cases hs : y.eD agg a v <;> simp only [hs, cond_true, cond_false, re] at h
   rfl
  ·have : bG chk i agg a v sn = true := by
    cases hq : bV i x chk <;> simp only [hq, cond_true, cond_false] at h
    ·exact h
    ·cases hs : y.eD agg a v <;> simp only [hs, cond_true, cond_false, re] at h
     exact h
   exact z8 this j mj hm hp
theorem oF {j : Nat} {m : Mem} : ∀ {se : List Seen}, aX chk j m se = true -> ∀ s, s ∈ se -> bV s.i j chk = true -> m.eD s.agg s.a s.v = true
 | [], _, s, h, _ => by simp at h
 | x :: se, h, s, hm, hp => by
  simp only [aX] at h;rcases oQ.1 hm with e | hm
  ·cases e
   simp only [hp, cond_true] at h
   cases hs : m.eD x.agg x.a x.v <;> simp only [hs, cond_true, cond_false, re] at h
   rfl
  ·have : aX chk j m se = true := by
    cases hq : bV x.i j chk <;> simp only [hq, cond_true, cond_false] at h
    ·exact h
    ·cases hs : m.eD x.agg x.a x.v <;> simp only [hs, cond_true, cond_false, re] at h
     exact h
   exact oF this s hm hp
theorem R2 : ∀ (r : List aY) (i : Nat) (fr : Fr) (m : Mem) (jr : List (Nat × Mem)) (seen : List Seen) (out : Out), dG call chk B0 r i fr m jr seen = some out ->
  ∃ F M V, F i = fr /\ M i = m /\ out = .norm (F (i + r.length)) (M (i + r.length)) /\ DB call chk B0 r i jr seen F M V := by
 intro r
 induction r with
 | nil =>
  intro i fr m jr seen out h
  simp only [dG, bc] at h;subst h;exact ⟨fun _ => fr, fun _ => m, fun _ => .undef, rfl, rfl, rfl, ⟨⟨by simp, by simp⟩, by simp, by simp⟩⟩
 | cons o r ih =>
  intro i fr m jr seen out h
  -- one operation, and what follows
  have go : ∀ {v : EV} {m' : Mem} {uE : List (Nat × Mem)} {Bc : List Seen}, At call B0 o i fr m v m' -> dG call chk B0 r (i + 1) (fr.put o.dst v) m' uE Bc = some out ->
    (∀ x, x ∈ jr -> x ∈ uE) -> (∀ x, x ∈ seen -> x ∈ Bc) -> (nS o fr -> (i, m) ∈ uE /\ ∀ s, s ∈ seen -> bV s.i i chk = true -> m'.eD s.agg s.a s.v = true) ->
    (∀ agg a, Fc o fr agg a -> ⟨i, agg, fr.eval a, v⟩ ∈ Bc /\ ∀ j mj, (j, mj) ∈ jr -> bV i j chk = true -> mj.eD agg (fr.eval a) v = true) ->
    ∃ F M V, F i = fr /\ M i = m /\ out = .norm (F (i + (o :: r).length)) (M (i + (o :: r).length)) /\ DB call chk B0 (o :: r) i jr seen F M V := by
   intro v m' uE Bc PD hr h1 h2 h3 h4
   obtain ⟨F', M', V', e1, e2, e3, hc⟩ := ih (i + 1) _ _ _ _ out hr
   obtain ⟨F, M, V, f1, f2, f3, f4, uY⟩ := LU PD rfl e1 e2 hc h1 h2 h3 h4
   exact ⟨F, M, V, f1, f2, by rw [List.length_cons, f3, f4]; exact e3, uY⟩
  simp only [dG] at h
  cases hw : bf fr o.guard with
  | none => simp [hw] at h
  | some b =>
  cases b with
  | false =>
   simp only [hw] at h;exact go (.skip hw rfl rfl) h (fun _ h => h) (fun _ h => h) (fun ha => by have := ha.1; rw [hw] at this; cases this) (fun _ _ hl => by have := hl.1; rw [hw] at this; cases this)
  | true =>
   simp only [hw] at h
   cases ho : o.op with
   | panic x => simp [ho] at h
   | defer f x => simp [ho] at h
   | call f args =>
    simp only [ho] at h
    cases hc : fM call (fr.eval f) (args.map fr.eval) m with
    | none => simp [hc] at h
    | some fin =>
     cases fin with
     | gD v m1 => simp [hc] at h
     | ret v m1 =>
      simp only [hc] at h
      cases hk : aX chk i m1 seen <;> simp only [hk, cond_true, cond_false, reduceCtorEq] at h
      exact go (.call f args hw ho hc) h (fun _ h => As _ h) (fun _ h => h) (fun _ => ⟨by simp, oF hk⟩) (fun _ _ hl => by have := hl.2.1; rw [ho] at this; cases this)
   | val op =>
    simp only [ho] at h;have Mz : cS op < 3 -> nS o fr -> False := fun hs ha => by have := ha.2; rw [ho] at this; simp only [sort] at this; omega
    have K4 : cS op ≠ 2 -> ∀ agg a, Fc o fr agg a -> False := fun hs agg a hl => by
     have := hl.2.1; rw [ho] at this; cases this; exact hs rfl
    split at h
    ·rename_i hs
     cases rL : aA fr.eval op m with
     | none => simp [rL] at h
     | some q =>
      obtain ⟨v, m1⟩ := q
      simp only [rL] at h;exact go (.pure op m1 hw ho hs rL rfl) h (fun _ h => h) (fun _ h => h) (fun ha => (Mz (by omega) ha).elim) (fun _ _ hl => (K4 (by omega) _ _ hl).elim)
    ·rename_i hs
     cases rL : aA fr.eval op ⟨B0 + i, m.gB⟩ with
     | none => simp [rL] at h
     | some q =>
      obtain ⟨v, m1⟩ := q
      simp only [rL] at h;exact go (.make op m1 hw ho hs rL rfl) h (fun _ h => h) (fun _ h => h) (fun ha => (Mz (by omega) ha).elim) (fun _ _ hl => (K4 (by omega) _ _ hl).elim)
    ·rename_i hs
     cases op <;> simp only [reduceCtorEq] at h
     rename_i agg a
     cases hl : m.load agg (fr.eval a) with
     | none => simp [hl] at h
     | some v =>
      simp only [hl] at h
      cases hf : Gk (fr.eval a) <;> simp only [hf, cond_true, cond_false] at h
      ·cases hk : bG chk i agg (fr.eval a) v jr <;> simp only [hk, cond_true, cond_false, reduceCtorEq] at h
       refine go (.load agg a hw ho hl rfl) h (fun _ h => h) (fun _ h => As _ h) (fun ha => (Mz (by rw [hs]; omega) ha).elim) (fun Yt a' zk => ?_)
       have := zk.2.1; rw [ho] at this; cases this
       exact ⟨by simp, z8 hk⟩
      ·cases hk : dL chk i m.next jr <;> simp only [hk, cond_true, cond_false, reduceCtorEq] at h
       refine go (.load agg a hw ho hl rfl) h (fun _ h => h) (fun _ h => h) (fun ha => (Mz (by rw [hs]; omega) ha).elim) (fun Yt a' zk => ?_)
       have := zk.2.1; rw [ho] at this; cases this
       have := zk.2.2; rw [hf] at this; cases this
    ·rename_i h0 h1 h2
     have hs : 3 <= cS op := by
      rcases Nat.lt_or_ge (cS op) 3 with h3 | h3
      ·exfalso
       have : cS op = 0 \/ cS op = 1 \/ cS op = 2 := by omega
       rcases this with e | e | e
       ·exact h0 e
       ·exact h1 e
       ·exact h2 e
      ·exact h3
     cases rL : aA fr.eval op m with
     | none => simp [rL] at h
     | some q =>
      obtain ⟨v, m1⟩ := q
      simp only [rL] at h
      cases hk : aX chk i m1 seen <;> simp only [hk, cond_true, cond_false, reduceCtorEq] at h
      exact go (.act op hw ho hs rL) h (fun _ h => As _ h) (fun _ h => h) (fun _ => ⟨by simp, oF hk⟩) (fun _ _ hl => (K4 (by omega) _ _ hl).elim)
end
end
section
structure Me (ops : Array Oper) (l : List Nat) : Prop where
 nodup : l.Nodup
 all : ∀ i, i ∈ l ↔ i < ops.size
 Yg : ∀ (k i : Nat) (o : Oper) (e : Edge), l[k]? = some i -> ops[i]? = some o -> e ∈ o.after -> fH e = true -> e.on ∈ l.take k
theorem IN {e : Edge} (h : fH e = true) : Region.binds .any e = true := by
 unfold fH at h;unfold Region.binds
 cases hg : e.ground <;> simp_all
theorem AQ : ∀ (l : List Oper) (i : Nat), uZ l i = true -> ∀ (k : Nat) (o : Oper) (e : Edge), l[k]? = some o -> e ∈ o.after -> fH e = true -> e.on < i + k
 | [], i, _, k, o, e, h, _, _ => by simp at h
 | x :: l, i, hd, k, o, e, h, he, hp => by
  simp only [uZ, pC] at hd
  cases k with
  | zero =>
   simp at h; subst h
   have := List.all_eq_true.1 hd.1 e (by simpa using he)
   simp [hp] at this
   omega
  | succ k =>
   have := AQ l (i + 1) hd.2 k o e (by simpa using h) he hp
   omega
theorem yT : ∀ (n : Nat) (l : List Nat), l.Nodup -> (∀ x, x ∈ l -> x < n) -> l.length <= n
 | 0, l, _, h => by
  cases l with
  | nil => simp
  | cons x l => exact absurd (h x (by simp)) (by omega)
 | n + 1, l, hn, h => by
  by_cases hm : n ∈ l
  ·have h1 := yT n (l.erase n) (hn.erase n) (fun x hx => by
    have h2 := (hn.mem_erase_iff).1 hx
    have := h x h2.2
    have := h2.1
    omega)
   rw [List.length_erase_of_mem hm] at h1;omega
  ·have h1 := yT n l hn (fun x hx => by
    have h2 := h x hx
    have : x ≠ n := fun e => hm (e ▸ hx)
    omega)
   omega
theorem On {n : Nat} {l : List Nat} (hn : l.Nodup) (h : ∀ x, x ∈ l -> x < n) (hl : l.length = n) : ∀ i, i < n -> i ∈ l := by
 intro i hi
 apply BP
 intro hni
 have := yT n (i :: l) (List.nodup_cons.2 ⟨hni, hn⟩) (fun x hx => by
  rcases oQ.1 hx with rfl | hx
  ·exact hi
  ·exact h x hx)
 simp at this
 omega
theorem Om {l : List Nat} (h : l.Nodup) : l.reverse.Nodup := List.pairwise_reverse.2 (List.Pairwise.imp (fun h => Ne.symm h) h)
theorem QQ (ops : Array Oper) (zl : uZ ops.toList 0 = true) : ∀ (fuel t : Nat) (listed : Array Bool) (acc : List Nat), listed.size = ops.size -> (∀ i, listed.getD i true = false ↔ (i < ops.size /\ i ∉ acc)) -> (∀ i, i ∈ acc -> i < ops.size) -> acc.Nodup -> acc.length + fuel = ops.size ->
  (∀ (k i : Nat) (o : Oper) (e : Edge), acc.reverse[k]? = some i -> ops[i]? = some o -> e ∈ o.after -> fH e = true -> e.on ∈ acc.reverse.take k) ->
  Me ops (Region.linearise.go .any ops fuel t listed acc)
 | 0, t, listed, acc, uf, hl, bt, hnd, hlen, hed => by
  simp only [Region.linearise.go];refine ⟨Om hnd, fun i => ?_, hed⟩
  rw [List.mem_reverse];exact ⟨bt i, On hnd bt (by omega) i⟩
 | fuel + 1, t, listed, acc, uf, hl, bt, hnd, hlen, hed => by
  simp only [Region.linearise.go]
  -- WX is ready: the least N5 is not listed
  have hex : ∃ i, i < ops.size /\ i ∉ acc := by
   apply BP
   intro mF
   have hall : ∀ i, i < ops.size -> i ∈ acc := fun x hx => BP fun YI => mF ⟨x, hx, YI⟩
   have h1 : (List.range ops.size).length <= acc.length := by
    have h2 := yT acc.length ((List.range ops.size).map fun x => acc.idxOf x) ?_ ?_
    ·simpa using h2
    ·have abg : ∀ x, x < ops.size -> ∀ y, y < ops.size -> acc.idxOf x = acc.idxOf y -> x = y := by
      intro x hx y hy hxy
      have e1 := List.getElem_idxOf (List.idxOf_lt_length_iff.2 (hall x hx))
      have e2 := List.getElem_idxOf (List.idxOf_lt_length_iff.2 (hall y hy))
      rw [<- e1, <- e2]
      congr 1
     rw [List.Nodup, List.pairwise_map];refine List.Pairwise.imp_of_mem ?_ (List.nodup_range (n := ops.size))
     intro a b ha hb hab e
     exact hab (abg a (by simpa using ha) b (by simpa using hb) e)
    ·intro x hx
     obtain ⟨y, hy, rfl⟩ := List.mem_map.1 hx
     exact List.idxOf_lt_length_iff.2 (hall y (by simpa using hy))
   simp at h1
   omega
  generalize Xs : (List.range ops.size).filter (fun i => !listed.getD i true && ((ops[i]?).map (fun x => x.after.all fun e => !Region.binds .any e || listed.getD e.on false)).getD false) = rs
  have pH : ∀ i, i ∈ rs ↔ i < ops.size /\ listed.getD i true = false /\ ∀ o, ops[i]? = some o -> ∀ e ∈ o.after, Region.binds .any e = true -> listed.getD e.on false = true := by
   intro i
   rw [<- Xs];simp only [List.mem_filter, List.mem_range, pC, Bool.not_eq_true']
   constructor
   ·rintro ⟨h1, h2, h3⟩
    refine ⟨h1, h2, fun o ho e he hb => ?_⟩
    rw [ho] at h3;simp only [Option.map_some, Option.getD_some, Array.all_eq_true_iff_forall_mem] at h3;have := h3 e he
    simpa [hb] using this
   ·rintro ⟨h1, h2, h3⟩
    refine ⟨h1, h2, ?_⟩
    have ho : ops[i]? = some ops[i] := Array.getElem?_eq_getElem h1
    rw [ho];simp only [Option.map_some, Option.getD_some, Array.all_eq_true_iff_forall_mem];intro e he
    cases hb : Region.binds .any e with
    | false => rfl
    | true => simpa using h3 _ ho e he hb
  have VF : ∀ i, listed.getD i false = true ↔ (i < ops.size /\ i ∈ acc) := by
   intro i
   have h1 := hl i
   by_cases hi : i < ops.size
   ·have e1 : listed.getD i true = listed.getD i false := by simp [Array.getD, uf, hi]
    rw [e1] at h1
    cases hb : listed.getD i false with
    | true => rw [hb] at h1; simp at h1; exact ⟨fun _ => ⟨hi, h1 hi⟩, fun _ => rfl⟩
    | false => rw [hb] at h1; simp at h1; exact ⟨fun h => (by cases h), fun h => absurd h.2 h1.2⟩
   ·have e2 : listed.getD i false = false := by simp [Array.getD, uf, hi]
    rw [e2];exact ⟨fun h => (by cases h), fun h => absurd h.1 hi⟩
  have iQ : rs ≠ [] := by
   -- the least one
   obtain ⟨i, hi⟩ : ∃ i, (i < ops.size /\ i ∉ acc) /\ ∀ j, j < i -> ¬ (j < ops.size /\ j ∉ acc) := by
    obtain ⟨i, hi⟩ := hex
    induction i using Nat.strongRecOn with
    | _ i ih =>
     by_cases h : ∃ j, j < i /\ (j < ops.size /\ j ∉ acc)
     ·obtain ⟨j, hj, VC⟩ := h; exact ih j hj VC
     ·exact ⟨i, hi, fun j hj h2 => h ⟨j, hj, h2⟩⟩
   intro aa8
   have : i ∈ rs := by
    rw [pH];refine ⟨hi.1.1, (hl i).2 hi.1, fun o ho e he hb => ?_⟩
    rw [VF];have hp : fH e = true := by
     unfold Region.binds at hb;unfold fH
     cases hg : e.ground <;> simp_all
    have mG : e.on < i := by
     have := AQ ops.toList 0 zl i o e (by simpa using ho) he hp
     omega
    have h2 := hi.2 e.on mG
    refine ⟨by omega, ?_⟩
    apply BP
    intro h3
    exact h2 ⟨by omega, h3⟩
   rw [aa8] at this;simp at this
  have dO : 0 < rs.length := List.length_pos_iff.2 iQ
  have XM : t % rs.length < rs.length := Nat.mod_lt _ dO
  rw [mZ XM];simp only
  have hi : rs[t % rs.length] ∈ rs := Fm XM
  generalize rs[t % rs.length] = i at hi
  obtain ⟨h1, h2, h3⟩ := (pH i).1 hi
  have hni : i ∉ acc := ((hl i).1 h2).2
  refine QQ ops zl fuel _ _ (i :: acc) (by simpa using uf) (fun j => ?_) (fun j hj => ?_) (List.nodup_cons.2 ⟨hni, hnd⟩) (by simp; omega) ?_
  ·by_cases e : j = i
   ·subst e
    have : (listed.setIfInBounds j true).getD j true = true := by simp [Array.getD_eq_getD_getElem?, uf, h1]
    rw [this];simp
   ·have : (listed.setIfInBounds i true).getD j true = listed.getD j true := by
     rw [Array.getD_eq_getD_getElem?, Array.getElem?_setIfInBounds_ne (fun h => e h.symm), <- Array.getD_eq_getD_getElem?]
    rw [this, hl j];simp [e]
  ·rcases oQ.1 hj with rfl | hj
   ·exact h1
   ·exact bt j hj
  ·intro k j o e hk ho he hp
   rw [List.reverse_cons] at hk ⊢
   by_cases Gs : k < acc.reverse.length
   ·rw [A9 Gs] at hk
    rw [List.take_append_of_le_length (by omega)];exact hed k j o e hk ho he hp
   ·have abd : k = acc.reverse.length := by
     have := (rc.1 hk).1
     simp at this Gs ⊢
     omega
    subst abd;rw [BO (fh _)] at hk;simp at hk
    subst hk;rw [List.take_append_of_le_length (fh _), List.take_length];have := (VF e.on).1 (h3 o ho e he (IN hp))
    exact List.mem_reverse.2 this.2
theorem G4 {P : Program} (iv : P.follows .mixedOrders = true) (ops : Array Oper) (zl : uZ ops.toList 0 = true) (t : Nat) : Me ops (Region.schedule (P.follows .mixedOrders) ops t) := by
 unfold Region.schedule;rw [iv];simp only [Bool.true_or, if_true];unfold Region.linearise;exact QQ ops zl ops.size t _ [] (by simp) (fun i => by
  by_cases hi : i < ops.size
  ·simp [Array.getD_eq_getD_getElem?, hi]
  ·simp [Array.getD_eq_getD_getElem?, hi]) (by simp) (by simp) (by simp) (by simp)
theorem tW : ∀ (l : List Oper) (acc : List (List Nat)) (i : Nat), i < acc.length -> (fo l acc)[i]? = acc[i]?
 | [], acc, i, _ => rfl
 | o :: l, acc, i, h => by
  simp only [fo];rw [tW l _ i (by simp; omega), A9 h]
theorem E1 : ∀ (l : List Oper) (acc : List (List Nat)) (k : Nat) (o : Oper), l[k]? = some o ->
  ∃ Kd : List (List Nat), (fo l acc)[acc.length + k]? = some ((o.after.toList.filter fH).flatMap fun e => e.on :: Kd.getD e.on []) /\ Kd.length = acc.length + k /\ ∀ i, i < Kd.length -> Kd[i]? = (fo l acc)[i]?
 | [], acc, k, o, h => by simp at h
 | x :: l, acc, k, o, h => by
  cases k with
  | zero =>
   simp at h; subst h
   refine ⟨acc, ?_, rfl, fun i hi => ?_⟩
   ·simp only [fo]
    rw [tW l _ _ (by simp)];simp
   ·simp only [fo]
    rw [tW l _ i (by simp; omega), A9 hi]
  | succ k =>
   simp only [fo];obtain ⟨Kd, h1, h2, h3⟩ := E1 l (acc ++ [(x.after.toList.filter fH).flatMap fun e => e.on :: acc.getD e.on []]) k o (by simpa using h)
   refine ⟨Kd, ?_, by rw [h2]; simp; omega, h3⟩
   rw [<- h1]; congr 1; simp; omega
theorem FP {ops : Array Oper} (zl : uZ ops.toList 0 = true) {l : List Nat} (hl : Me ops l) : ∀ (j k : Nat), l[k]? = some j -> ∀ i, i ∈ (fo ops.toList []).getD j [] -> i ∈ l.take k := by
 intro j
 induction j using Nat.strongRecOn with
 | _ j ih =>
  intro k hk i hi
  have hj : j < ops.size := (hl.all j).1 (List.mem_of_getElem? hk)
  have ho : ops.toList[j]? = some ops[j] := by simp [hj]
  obtain ⟨Kd, h1, h2, h3⟩ := E1 ops.toList [] j ops[j] ho
  simp only [List.length_nil, Nat.zero_add] at h1 h2;rw [List.getD_eq_getElem?_getD, h1, Option.getD_some] at hi;obtain ⟨e, he, hi⟩ := List.mem_flatMap.1 hi
  obtain ⟨YR, WD⟩ := List.mem_filter.1 he
  have bt : e.on < j := by
   have := AQ ops.toList 0 zl j ops[j] e ho (by simpa using YR) WD
   omega
  have hon := hl.Yg k j ops[j] e hk (Array.getElem?_eq_getElem hj) (by simpa using YR) WD
  rcases oQ.1 hi with rfl | hi
  ·exact hon
  ·have abv : Kd.getD e.on [] = (fo ops.toList []).getD e.on [] := by
    rw [List.getD_eq_getElem?_getD, List.getD_eq_getElem?_getD, h3 e.on (by omega)]
   rw [abv] at hi;obtain ⟨k', nH⟩ := List.mem_iff_getElem?.1 hon
   have Uz : k' < k := by
    have := (rc.1 nH).1
    simp at this; omega
   rw [List.getElem?_take, if_pos Uz] at nH
   have := ih e.on bt k' nH i hi
   exact (List.take_subset_take_left l (Nat.le_of_lt Uz)) this
end
section
section
variable {G : List Nat} {base : Nat} {ρ : ep} {m : Mem} {w : World} {P : Program} {n : Nat} {fr : Fr} {a : Act}
theorem Lh {o : Oper} {io : ls} (hc : UK P G o = some io) (hs : cS io = 1) (hG : jt G ρ) (hR : RN base ρ m w) (hF : FR ρ n fr a) {v : EV} {m1 : Mem} (h : aA fr.eval io m = some (.val v m1)) :
  ∃ B, m1 = m.new B /\ ∃ ρ' w' v', (execOp a.eval o).run P w = .ok (.value v') w' /\ VR ρ' v v' /\ Made base ρ m w ρ' B w' := by
 have E : ∀ {x : Operand} {y : aV}, eZ G x = some y -> VR ρ (fr.eval y) (a.eval x) := fun h => ig hG hF h
 have fin : ∀ {s : Sem Value} {B : fQ}, execOp a.eval o = (do pure (Next.value (<- s)) : Sem Next) -> vk P s base ρ m w v B -> ∃ ρ' w' v', (execOp a.eval o).run P w = .ok (.value v') w' /\ VR ρ' v v' /\ Made base ρ m w ρ' B w' := by
  rintro s B he ⟨ρ', w', v', h1, h2, h3⟩
  exact ⟨ρ', w', v', by rw [he]; simp [h1], h2, h3⟩
 unfold UK at hc
 split at hc
 case h_1 => obtain ⟨_, _, rfl⟩ := ag hc; simp [cS] at hs
 case h_2 => obtain ⟨_, _, rfl⟩ := ag hc; simp [cS] at hs
 case h_3 => obtain ⟨_, _, hc⟩ := af hc; obtain ⟨_, _, hc⟩ := af hc; obtain ⟨_, _, rfl⟩ := ag hc; simp [cS] at hs
 case h_4 e ho =>
  obtain ⟨z, hz, rfl⟩ := ag hc
  simp only [aA, bc, R1.val.injEq] at h;obtain ⟨rfl, rfl⟩ := h
  exact ⟨_, rfl, fin (by simp only [execOp, ho]) (E4 hR hz)⟩
 case h_5 e x ho =>
  obtain ⟨y, hy, rfl⟩ := ag hc
  simp only [aA] at h
  cases mg : (fr.eval y).cells with
  | none => simp [mg] at h
  | some cs =>
   simp only [mg, bc, R1.val.injEq] at h;obtain ⟨rfl, rfl⟩ := h
   exact ⟨_, rfl, fin (by simp only [execOp, ho]) (J5 hR (E hy) mg)⟩
 case h_6 =>
  obtain ⟨_, _, hc⟩ := af hc
  rcases fS hc with hc | hc
  ·obtain ⟨_, _, hc⟩ := af hc; obtain ⟨_, _, hc⟩ := af hc; obtain ⟨_, _, rfl⟩ := ag hc; simp [cS] at hs
  ·obtain ⟨_, _, hc⟩ := af hc; obtain ⟨_, _, hc⟩ := af hc; obtain ⟨_, _, rfl⟩ := ag hc; simp [cS] at hs
 case h_7 t len parts ho =>
  obtain ⟨e, hu, hc⟩ := af hc
  obtain ⟨s, uf, hc⟩ := af hc
  obtain ⟨z, hz, hc⟩ := af hc
  obtain ⟨ps, hp, hc⟩ := af hc
  obtain ⟨_, Hy, hc⟩ := af hc
  obtain ⟨_, hl, rfl⟩ := ag hc
  have hu := jW hu
  simp only [aA] at h
  cases mg : fw (eA len z) (ps.map fun p => (p.1 * s, s, fr.eval p.2)) with
  | none => simp [mg] at h
  | some cs =>
   simp only [mg, bc, R1.val.injEq] at h;obtain ⟨rfl, rfl⟩ := h
   obtain ⟨p1, p2⟩ := mapM_some _ hp
   have hb := Bu (P := P) hR hu uf hz (aR (jj Hy)) (qP (jj hl)) (qs := parts.toList.map fun p => (p.1, a.eval p.2)) (by simpa using p1.symm) (fun i p q hp' Gp => by
    rw [List.getElem?_map] at hp' Gp
    obtain ⟨p0, OQ, rfl⟩ := j6.1 hp'
    obtain ⟨q0, Xx, rfl⟩ := j6.1 Gp
    obtain ⟨x, hx, hxp⟩ := ag (p2 i q0 p0 Xx OQ)
    subst hxp;exact ⟨⟨rfl, rfl⟩, E hx⟩) mg
   have : (parts.map fun (i, x) => (i, a.eval x)) = (⟨parts.toList.map fun p => (p.1, a.eval p.2)⟩ : Array (Nat × Value)) := by apply Array.ext'; simp
   exact ⟨_, rfl, fin (by simp only [execOp, ho]; rw [this]) hb⟩
 case h_8 => obtain ⟨_, _, hc⟩ := af hc; obtain ⟨_, _, rfl⟩ := ag hc; simp [cS] at hs
 case h_9 => obtain ⟨_, _, hc⟩ := af hc; obtain ⟨_, _, hc⟩ := af hc; obtain ⟨_, _, rfl⟩ := ag hc; simp [cS] at hs
 case h_10 => obtain ⟨_, _, rfl⟩ := ag hc; simp [cS] at hs
 case h_11 op t x y yt ho =>
  obtain ⟨_, _, hc⟩ := af hc; obtain ⟨_, _, hc⟩ := af hc
  split at hc
  ·unfold UL at hc
   simp only [Bool.cond_eq_ite] at hc
   split at hc <;> (obtain ⟨_, _, rfl⟩ := ag hc; simp [cS] at hs)
  ·unfold UL at hc
   simp only [Bool.cond_eq_ite] at hc
   split at hc <;> (obtain ⟨_, _, rfl⟩ := ag hc; simp [cS] at hs)
  ·cases hc; simp [cS] at hs
 case h_12 => obtain ⟨_, _, rfl⟩ := ag hc; simp [cS] at hs
 case h_13 s d x ho =>
  obtain ⟨y, hy, hc⟩ := af hc
  rcases fS hc with hc | hc
  ·obtain ⟨_, _, hc⟩ := af hc; obtain ⟨_, _, rfl⟩ := ag hc; simp [cS] at hs
  rcases fS hc with hc | hc
  ·obtain ⟨_, _, hc⟩ := af hc; obtain ⟨_, _, rfl⟩ := ag hc; simp [cS] at hs
  rcases fS hc with hc | hc
  ·obtain ⟨_, hsu, hc⟩ := af hc
   obtain ⟨e, hd, hc⟩ := af hc
   obtain ⟨k, he, hc⟩ := af hc
   obtain ⟨_, hk, rfl⟩ := ag hc
   have hk : k = .u8 := by have := aR (jj hk); cases k <;> simp [bY] at this; rfl
   subst hk;simp only [aA] at h;obtain ⟨B, rfl, hB⟩ := ET (P := P) hR (kG hsu) (jW hd) (BS he) (E hy) (lz h)
   exact ⟨B, rfl, fin (by simp only [execOp, ho]) hB⟩
  ·obtain ⟨_, _, hc⟩ := af hc; obtain ⟨_, _, hc⟩ := af hc; obtain ⟨_, _, hc⟩ := af hc; obtain ⟨_, _, rfl⟩ := ag hc; simp [cS] at hs
 case h_14 => obtain ⟨_, _, hc⟩ := af hc; obtain ⟨_, _, rfl⟩ := ag hc; simp [cS] at hs
 case h_15 => obtain ⟨_, _, hc⟩ := af hc; obtain ⟨_, _, rfl⟩ := ag hc; simp [cS] at hs
 case h_16 t ho =>
  obtain ⟨_, _, rfl⟩ := ag hc
  simp only [aA, bc, R1.val.injEq] at h;obtain ⟨rfl, rfl⟩ := h
  refine ⟨_, rfl, fin (by simp only [execOp, ho]) (s := Instr.makeMap t (none.map a.eval)) ?_⟩
  have := sY (P := P) hR
  simpa [Instr.makeMap] using this
 case h_17 t k z ho =>
  obtain ⟨q, hu, rfl⟩ := ag hc
  have hu := yf hu
  simp only [aA, bc, R1.val.injEq] at h;obtain ⟨rfl, rfl⟩ := h
  refine ⟨_, rfl, fin (by simp only [execOp, ho]) (s := Instr.makeMap t ((some (.const (.int k z))).map a.eval)) ?_⟩
  obtain ⟨ρ', w', v', h1, h2⟩ := sY (P := P) hR
  exact ⟨ρ', w', v', by simpa [Instr.makeMap, run_underlying hu, Act.eval, asInt, asIntOf] using h1, h2⟩
 case h_18 t l c ho =>
  obtain ⟨e, hu, hc⟩ := af hc
  obtain ⟨i, hi, hc⟩ := af hc
  obtain ⟨z, hz, hc⟩ := af hc
  obtain ⟨l', hl, hc⟩ := af hc
  obtain ⟨c', uY, hc⟩ := af hc
  obtain ⟨_, Hy, hc⟩ := af hc
  obtain ⟨_, hb, rfl⟩ := ag hc
  have xf := E hl
  have LD := E uY
  simp only [aA] at h;have hex : execOp a.eval o = (do pure (Next.value (<- Instr.makeSlice t (a.eval l) (a.eval c))) : Sem Next) := by simp only [execOp, ho]
  generalize fr.eval l' = el at xf h
  generalize fr.eval c' = ec at LD h
  generalize a.eval l = al at xf hex
  generalize a.eval c = ac at LD hex
  cases xf <;> (try simp only [reduceCtorEq] at h)
  rename_i k1 n1
  cases k1 <;> (try simp only [reduceCtorEq] at h)
  cases n1 <;> (try simp only [reduceCtorEq] at h)
  rename_i ln
  cases LD <;> (try simp only [reduceCtorEq] at h)
  rename_i k2 n2
  cases k2 <;> (try simp only [reduceCtorEq] at h)
  cases n2 <;> (try simp only [reduceCtorEq] at h)
  rename_i cn
  cases h1 : ln.ble cn <;> simp only [h1, cond_true, cond_false, reduceCtorEq] at h
  cases h2 : cn.ble room <;> simp only [h2, cond_true, cond_false, reduceCtorEq, bc, R1.val.injEq] at h
  obtain ⟨rfl, rfl⟩ := h
  exact ⟨_, rfl, fin hex (yY hR (jW hu) hi hz (aR (jj Hy)) (qP (jj hb)) (qP h1) (qP h2))⟩
 case h_19 =>
  obtain ⟨_, _, hc⟩ := af hc; obtain ⟨_, _, hc⟩ := af hc; obtain ⟨_, _, hc⟩ := af hc; obtain ⟨_, _, hc⟩ := af hc; obtain ⟨_, _, hc⟩ := af hc
  rcases fS hc with hc | hc
  ·obtain ⟨_, _, hc⟩ := af hc; obtain ⟨_, _, rfl⟩ := ag hc; simp [cS] at hs
  rcases fS hc with hc | hc
  ·obtain ⟨_, _, hc⟩ := af hc; obtain ⟨_, _, rfl⟩ := ag hc; simp [cS] at hs
  ·obtain ⟨_, _, hc⟩ := af hc; obtain ⟨_, _, rfl⟩ := ag hc; simp [cS] at hs
 case h_20 => obtain ⟨_, _, hc⟩ := af hc; obtain ⟨_, _, hc⟩ := af hc; obtain ⟨_, _, hc⟩ := af hc; obtain ⟨_, _, hc⟩ := af hc; obtain ⟨_, _, rfl⟩ := ag hc; simp [cS] at hs
 case h_21 => obtain ⟨_, _, hc⟩ := af hc; obtain ⟨_, _, hc⟩ := af hc; obtain ⟨_, _, hc⟩ := af hc; obtain ⟨_, _, rfl⟩ := ag hc; simp [cS] at hs
 case h_22 =>
  obtain ⟨_, _, hc⟩ := af hc; obtain ⟨_, _, hc⟩ := af hc
  rcases fS hc with hc | hc
  ·obtain ⟨_, _, hc⟩ := af hc; obtain ⟨_, _, rfl⟩ := ag hc; simp [cS] at hs
  ·obtain ⟨_, _, hc⟩ := af hc; obtain ⟨_, _, rfl⟩ := ag hc; simp [cS] at hs
 case h_23 =>
  obtain ⟨_, _, hc⟩ := af hc; obtain ⟨_, _, hc⟩ := af hc
  rcases fS hc with hc | hc
  ·obtain ⟨_, _, rfl⟩ := ag hc; simp [cS] at hs
  ·obtain ⟨_, _, hc⟩ := af hc; obtain ⟨_, _, hc⟩ := af hc; obtain ⟨_, _, rfl⟩ := ag hc; simp [cS] at hs
 case h_24 => obtain ⟨_, _, hc⟩ := af hc; obtain ⟨_, _, hc⟩ := af hc; obtain ⟨_, _, hc⟩ := af hc; obtain ⟨_, _, hc⟩ := af hc; obtain ⟨_, _, rfl⟩ := ag hc; simp [cS] at hs
 case h_25 => obtain ⟨_, _, hc⟩ := af hc; obtain ⟨_, _, hc⟩ := af hc; obtain ⟨_, _, hc⟩ := af hc; obtain ⟨_, _, hc⟩ := af hc; obtain ⟨_, _, rfl⟩ := ag hc; simp [cS] at hs
 case h_26 => obtain ⟨_, _, hc⟩ := af hc; obtain ⟨_, _, hc⟩ := af hc; obtain ⟨_, _, hc⟩ := af hc; obtain ⟨_, _, hc⟩ := af hc; obtain ⟨_, _, rfl⟩ := ag hc; simp [cS] at hs
 case h_27 => obtain ⟨_, _, hc⟩ := af hc; obtain ⟨_, _, rfl⟩ := ag hc; simp [cS] at hs
 case h_28 => obtain ⟨_, _, rfl⟩ := ag hc; simp [cS] at hs
 case h_29 c ho =>
  obtain ⟨ys, Q6, hc⟩ := af hc
  split at hc
  ·exfalso
   unfold vg at hc;simp only [Bool.cond_eq_ite] at hc
   split at hc
   ·split at hc <;> first | (cases hc; simp [cS] at hs; done) | cases hc
   ·split at hc <;> first | (cases hc; simp [cS] at hs; done) | cases hc
   ·cases hc; simp [cS] at hs
   ·cases hc; simp [cS] at hs
   ·obtain ⟨_, _, hc⟩ := af hc
    obtain ⟨_, _, hc⟩ := af hc
    obtain ⟨_, _, hc⟩ := af hc
    obtain ⟨_, _, hc⟩ := af hc
    obtain ⟨_, _, hc⟩ := af hc
    split at hc <;> first | (cases hc; simp [cS] at hs; done) | cases hc
   ·split at hc
    ·split at hc <;> first | (cases hc; simp [cS] at hs; done) | cases hc
    ·cases hc
   ·split at hc
    ·obtain ⟨_, _, rfl⟩ := ag hc; simp [cS] at hs
    ·cases hc
   ·cases hc
  ·cases hc
 case h_30 => cases hc
theorem pe {l : List aV} {f g : aV -> EV} (h : ∀ x, x ∈ l -> f x = g x) : l.map f = l.map g := List.map_congr_left h
theorem jH {l : Option aV} {f g : aV -> EV} (h : ∀ x, x ∈ D8 l -> f x = g x) : l.map f = l.map g := by
 cases l with
 | none => rfl
 | some x => simp [h x (by simp [D8])]
theorem xQ {f g : aV -> EV} {op : ls} (h : ∀ x, x ∈ iI op -> f x = g x) (m : Mem) : aA f op m = aA g op m := by
 cases op
 case build z ps =>
  simp only [aA];rw [List.map_congr_left (g := fun p => (p.1, p.2.1, g p.2.2))];intro p hp
  rw [h p.2.2 (by simp only [iI, List.mem_map]; exact ⟨p, hp, rfl⟩)]
 case bD e s l z ps =>
  simp only [aA];rw [List.map_congr_left (g := fun p => (p.1 * s, s, g p.2))];intro p hp
  rw [h p.2 (by simp only [iI, List.mem_map]; exact ⟨p, hp, rfl⟩)]
 case BD k x y =>
  simp only [aA];rw [pe (l := x) (fun z hz => h z (by simp [iI, hz])), pe (l := y) (fun z hz => h z (by simp [iI, hz]))]
 case max xs => simp only [aA]; rw [pe (l := xs) h]
 case min xs => simp only [aA]; rw [pe (l := xs) h]
 case jF x l hh =>
  simp only [aA];rw [h x (by simp [iI]), jH (l := l) (fun z hz => h z (by simp [iI, hz])), jH (l := hh) (fun z hz => h z (by simp [iI, hz]))]
 case uG e x l hh mm =>
  simp only [aA];rw [h x (by simp [iI]), jH (l := l) (fun z hz => h z (by simp [iI, hz])), jH (l := hh) (fun z hz => h z (by simp [iI, hz])), jH (l := mm) (fun z hz => h z (by simp [iI, hz]))]
 case xk e k x l hh mm =>
  simp only [aA];rw [h x (by simp [iI]), jH (l := l) (fun z hz => h z (by simp [iI, hz])), jH (l := hh) (fun z hz => h z (by simp [iI, hz])), jH (l := mm) (fun z hz => h z (by simp [iI, hz]))]
 all_goals
  simp only [iI, oQ, List.not_mem_nil, or_false, forall_eq_or_imp, forall_eq] at h;simp only [aA, h]
theorem IM {f : aV -> EV} {op : ls} (hs : cS op = 0) {m m1 : Mem} {v : EV} (h : aA f op m = some (.val v m1)) : m1 = m /\ ∀ m', aA f op m' = some (.val v m') := by
 have e1 : ∀ {x : Option EV}, gl m x = some (.val v m1) -> m1 = m /\ ∀ m', gl m' x = some (.val v m') := by
  intro x hx
  obtain ⟨h1, h2⟩ := fO hx
  exact ⟨h2, fun m' => by rw [h1]; rfl⟩
 cases op <;> simp only [cS] at hs <;> (try (simp at hs; done))
 case conv c x =>
  cases c <;> simp at hs
  all_goals
   simp only [aA] at h ⊢
   have h1 := lz h
   generalize f x = e at h1 ⊢
   cases e <;> simp only [kT, reduceCtorEq, bc, eM] at h1
   obtain ⟨rfl, rfl⟩ := h1
   exact ⟨rfl, fun m' => rfl⟩
 all_goals
  simp only [aA, Bool.cond_eq_ite] at h ⊢
  first
   | exact e1 h
   | (simp only [bc, R1.val.injEq] at h; obtain ⟨rfl, rfl⟩ := h; exact ⟨rfl, fun m' => rfl⟩)
   | (revert h; (repeat' split) <;> intro h <;> first
     | (cases h; done)
     | exact e1 h
     | (simp only [bc, R1.val.injEq] at h; obtain ⟨rfl, rfl⟩ := h; exact ⟨rfl, fun m' => rfl⟩)
     | (simp_all; done))
end
end
section
theorem KL {a b : Option Nat} (h : yC a b = true) : a = b := by
 cases a <;> cases b <;> simp [yC] at h
 ·rfl
 ·exact congrArg some h
mutual
theorem Cf : ∀ {a b : EV}, EV.same a b = true -> a = b
 | a, b, h => by
  cases a <;> cases b <;> simp only [EV.same, re] at h
  case undef.undef => rfl
  case bL.bL => rfl
  case ae.ae => rfl
  case bB.bB => rfl
  case aN.aN => rfl
  case aC.aC => rfl
  case bool.bool x y => rw [beq_iff_eq.1 h]
  case int.int k x l y =>
   cases hk : (bY k).beq (bY l) <;> simp only [hk, cond_true, cond_false, re] at h
   rw [jL hk, xB] at *
   rw [of_decide_eq_true h]
  case str.str x y =>
   rw [fB] at h;rw [of_decide_eq_true h]
  case ptr.ptr x i y j =>
   cases hk : x.beq y <;> simp only [hk, cond_true, cond_false, re] at h
   rw [aR hk, aR h]
  case slice.slice x i k c y j l d =>
   cases h1 : x.beq y <;> simp only [h1, cond_true, cond_false, re] at h
   cases h2 : i.beq j <;> simp only [h2, cond_true, cond_false, re] at h
   cases h3 : k.beq l <;> simp only [h3, cond_true, cond_false, re] at h
   rw [aR h1, aR h2, aR h3, KL h]
  case map.map x y => rw [aR h]
  case func.func f x y g z u =>
   cases h1 : f.beq g <;> simp only [h1, cond_true, cond_false, re] at h
   cases h2 : EV.ma x z <;> simp only [h2, cond_true, cond_false, re] at h
   rw [aR h1, rp h2, rp h]
  case iface.iface t v u z =>
   cases h1 : t.beq u <;> simp only [h1, cond_true, cond_false, re] at h
   rw [aR h1, Cf h]
  case agg.agg x y => rw [rp h]
  case tuple.tuple x y => rw [rp h]
  case fz.fz t e x u f y =>
   cases h0 : t.beq 0 <;> simp only [h0, cond_true, cond_false, re] at h
   cases h1 : t.beq u <;> simp only [h1, cond_true, cond_false, re] at h
   cases h2 : e.beq f <;> simp only [h2, cond_true, cond_false, re] at h
   rw [aR h1, aR h2, F6 h]
theorem rp : ∀ {a b : List EV}, EV.ma a b = true -> a = b
 | [], [], _ => rfl
 | [], _ :: _, h => by simp [EV.ma] at h
 | _ :: _, [], h => by simp [EV.ma] at h
 | x :: a, y :: b, h => by
  simp only [EV.ma] at h
  cases h1 : EV.same x y <;> simp only [h1, cond_true, cond_false, re] at h
  rw [Cf h1, rp h]
theorem F6 : ∀ {a b : List (List EV)}, EV.qQ a b = true -> a = b
 | [], [], _ => rfl
 | [], _ :: _, h => by simp [EV.qQ] at h
 | _ :: _, [], h => by simp [EV.qQ] at h
 | x :: a, y :: b, h => by
  simp only [EV.qQ] at h
  cases h1 : EV.ma x y <;> simp only [h1, cond_true, cond_false, re] at h
  rw [rp h1, F6 h]
end
theorem F2 {m : Mem} {agg : Option Nat} {a v : EV} (h : m.eD agg a v = true) : m.load agg a = some v := by
 unfold Mem.eD at h
 cases hl : m.load agg a with
 | none => simp [hl] at h
 | some x => simp only [hl] at h; rw [Cf h]
theorem QO {m m' : Mem} {agg : Option Nat} {b off : Nat} (h : m.get b = m'.get b) : m.load agg (.ptr b off) = m'.load agg (.ptr b off) := by
 simp only [Mem.load, h]
theorem R.congr {base : Nat} {ρ : ep} {m m' : Mem} {w : World} (h : R base ρ m w) (hn : m'.next = m.next) (hg : ∀ b, m'.get b = m.get b) : R base ρ m' w :=
 ⟨fun b L hb => by rw [hn]; exact h.lt b L hb, fun b L hb => by rw [hg]; exact h.c9 b L hb, fun b c L L' h1 h2 h3 h4 => h.inj b c L L' h1 h2 (by unfold Live at *; rwa [hg] at h3) (by unfold Live at *; rwa [hg] at h4), h.base,
  fun b hb => by rw [hg]; exact h.clean b (by rw [<- hn]; exact hb)⟩
theorem Step.congr {ρ ρ' : ep} {m m1 fR : Mem} {w w' : World} (h : Step ρ m w ρ' m1 w') (hn : fR.next = m1.next) (hg : ∀ b, fR.get b = m1.get b) : Step ρ m w ρ' fR w' :=
 ⟨h.ext, h.new, by rw [hn]; exact h.next, fun b hb hr => by rw [hg]; exact h.same b hb hr, fun b hb hd => by rw [hg]; exact h.dead b hb hd, h.size,
  fun i hi ⟨b, L, h1, h2, h3, h4⟩ => h.KO i hi ⟨b, L, h1, by unfold Live at *; rwa [hg] at h2, h3, h4⟩, h.kept, h.os, h.tape, h.output⟩
theorem R.weaken {base : Nat} {ρ : ep} {m m' : Mem} {w : World} (h : R base ρ m w) (hn : ∀ b L, ρ b = some L -> b < m'.next) (hg : ∀ b L, ρ b = some L -> m'.get b = m.get b \/ m'.get b = .dead) (hc : ∀ b, m'.next <= b -> m'.get b = .dead) : R base ρ m' w := by
 have lv : ∀ b L, ρ b = some L -> Live m' b -> Live m b := fun b L hb hl => by
  rcases hg b L hb with e | e
  ·unfold Live at *; rwa [e] at hl
  ·exact absurd e hl
 refine ⟨hn, fun b L hb => ?_, fun b c L L' h1 h2 h3 h4 => h.inj b c L L' h1 h2 (lv b L h1 h3) (lv c L' h2 h4), h.base, hc⟩
 rcases hg b L hb with e | e
 ·rw [e]; exact h.c9 b L hb
 ·rw [e]; trivial
theorem side {base : Nat} {ρ : ep} {B : fQ} {L : Loc} {w : World} (h : A7 base ρ B L w) (hl : B ≠ .dead) : (L.ro = false -> base <= L.c9) /\ (L.ro = true -> L.c9 < base) := by
 cases B with
 | dead => exact absurd rfl hl
 | cells cs esz el ro =>
  obtain ⟨_, _, _, _, _, _, h4, _, _, h7, h8⟩ := h
  exact ⟨fun e => (h7 (by rw [<- h4]; exact e)).1, fun e => h8 (by rw [<- h4]; exact e)⟩
 | map es =>
  obtain ⟨_, _, _, _, _, h4, h5⟩ := h
  exact ⟨fun _ => h4, fun e => by rw [h5] at e; cases e⟩
theorem over (m : Mem) (f : Nat -> fQ) : ∀ l : List Nat, ∃ m' : Mem, m'.next = m.next /\ ∀ b, m'.get b = if b ∈ l then f b else m.get b
 | [] => ⟨m, rfl, fun b => by simp⟩
 | x :: l => by
  obtain ⟨m', h1, h2⟩ := over m f l
  refine ⟨m'.set x (f x), h1, fun b => ?_⟩
  rw [Mem.bW, h2 b];by_cases e : b = x
  ·subst e; simp
  ·simp [e]
theorem R6 {base : Nat} {ρ0 ρ ρ' : ep} {m0 Mm mi me M2 : Mem} {w0 w w' : World} (l : List Nat) (hR : R base ρ Mm w) (ei : Step ρ0 m0 w0 ρ Mm w) (WG : R base ρ' me w') (hs : Step ρ mi w ρ' me w')
  (hl : ∀ b, b ∈ l -> m0.next <= b /\ b < mi.next /\ mi.get b = .dead) (YO : ∀ b L, ρ b = some L -> b ∉ l -> mi.get b = Mm.get b \/ mi.get b = .dead) (XH : ∀ b, b < m0.next -> mi.get b = Mm.get b) (Fj : m0.next <= mi.next)
  (h2n : M2.next = me.next) (h2g : ∀ b, M2.get b = if b ∈ l then Mm.get b else me.get b) : R base ρ' M2 w' /\ Step ρ0 m0 w0 ρ' M2 w' := by
 have old : ∀ b L, b ∈ l -> ρ' b = some L -> ρ b = some L := by
  intro b L hb hL
  cases e : ρ b with
  | some L' => rw [hs.ext b L' e] at hL; exact hL
  | none => have := hs.new b e (by rw [hL]; simp); have := (hl b hb).2.1; omega
 have Ex : ∀ b, b ∈ l -> M2.get b = Mm.get b := fun b hb => by rw [h2g, if_pos hb]
 have Eu : ∀ b, b ∉ l -> M2.get b = me.get b := fun b hb => by rw [h2g, if_neg hb]
 -- a block N5 waits is not in the Yu reach
 have apart : ∀ b L, b ∈ l -> ρ b = some L -> Live Mm b -> L.ro = false -> L.c9 < w.heap.size /\ ¬ KO ρ mi L.c9 := by
  intro b L hb hL xf qW
  refine ⟨(hR.c9 b L hL).lt xf, ?_⟩
  rintro ⟨c, Mc, hc, LA, Vp, xi⟩
  have oN : c ∉ l := fun h => LA (hl c h).2.2
  have VA : Live Mm c := by
   rcases YO c Mc hc oN with e | e
   ·unfold Live at *; rwa [e] at LA
   ·exact absurd e LA
  have := hR.inj c b Mc L hc hL VA xf Vp xi
  exact oN (this ▸ hb)
 have mix : ∀ b c L L', b ∈ l -> c ∉ l -> ρ' b = some L -> ρ' c = some L' -> Live M2 b -> Live M2 c -> L.c9 = L'.c9 -> (L.ro = false \/ L'.ro = false) -> False := by
  intro b c L L' hb hc h1 h2 h3 h4 xi qW
  have HG := old b L hb h1
  have VT : Live Mm b := by unfold Live at *; rwa [Ex b hb] at h3
  have h4' : Live me c := by unfold Live at *; rwa [Eu c hc] at h4
  have s1 := side (hR.c9 b L HG) VT
  have s2 := side (WG.c9 c L' h2) h4'
  have both : L.ro = false /\ L'.ro = false := by
   cases e1 : L.ro <;> cases e2 : L'.ro
   ·exact ⟨rfl, rfl⟩
   ·have a1 := s1.1 e1; have a2 := s2.2 e2; omega
   ·have a1 := s1.2 e1; have a2 := s2.1 e2; omega
   ·rcases qW with h | h
    ·rw [e1] at h; cases h
    ·rw [e2] at h; cases h
  obtain ⟨a1, a2⟩ := apart b L hb HG VT both.1
  exact a2 (hs.KO L.c9 a1 ⟨c, L', h2, h4', both.2, xi.symm⟩)
 refine ⟨⟨fun b L hb => by rw [h2n]; exact WG.lt b L hb, ?_, ?_, WG.base, ?_⟩, ⟨ei.ext.trans hs.ext, ?_, ?_, ?_, ?_, pJ ei.size hs.size, ?_, ?_, hs.os.trans ei.os, hs.tape.trans ei.tape, hs.output.trans ei.output⟩⟩
 ·intro b L hb
  by_cases Iu : b ∈ l
  ·rw [Ex b Iu]
   have hL := old b L Iu hb
   by_cases hd : Mm.get b = .dead
   ·rw [hd]; trivial
   ·have hB := hR.c9 b L hL
    refine hB.of_heap hs.ext ?_
    cases qW : L.ro with
    | false => obtain ⟨a1, a2⟩ := apart b L Iu hL hd qW; exact hs.kept L.c9 a1 a2
    | true =>
     refine hs.kept L.c9 (hB.lt hd) ?_
     rintro ⟨c, Mc, hc, LA, Vp, xi⟩
     have oN : c ∉ l := fun h => LA (hl c h).2.2
     have VA : Live Mm c := by
      rcases YO c Mc hc oN with e | e
      ·unfold Live at *; rwa [e] at LA
      ·exact absurd e LA
     have s1 := (side hB hd).2 qW
     have s2 := (side (hR.c9 c Mc hc) VA).1 Vp
     omega
  ·rw [Eu b Iu]; exact WG.c9 b L hb
 ·intro b c L L' h1 h2 h3 h4 qW xi
  by_cases hb : b ∈ l <;> by_cases hc : c ∈ l
  ·exact hR.inj b c L L' (old b L hb h1) (old c L' hc h2) (by unfold Live at *; rwa [Ex b hb] at h3) (by unfold Live at *; rwa [Ex c hc] at h4) qW xi
  ·exact (mix b c L L' hb hc h1 h2 h3 h4 xi (.inl qW)).elim
  ·exact (mix c b L' L hc hb h2 h1 h4 h3 xi.symm (.inr qW)).elim
  ·exact WG.inj b c L L' h1 h2 (by unfold Live at *; rwa [Eu b hb] at h3) (by unfold Live at *; rwa [Eu c hc] at h4) qW xi
 ·intro b hb
  rw [h2n] at hb;have Iu : b ∉ l := fun h => by have := (hl b h).2.1; have := hs.next; omega
  rw [Eu b Iu]; exact WG.clean b hb
 ·intro b h0 h1
  cases e : ρ b with
  | some L => exact ei.new b h0 (by rw [e]; simp)
  | none => exact pJ Fj (hs.new b e h1)
 ·rw [h2n]; exact pJ Fj hs.next
 ·intro b hb h0
  have Iu : b ∉ l := fun h => by have := (hl b h).1; omega
  have hρ : ρ b = none := by
   cases e : ρ b with
   | none => rfl
   | some L => have := ei.new b h0 (by rw [e]; simp); omega
  rw [Eu b Iu, hs.same b (mn hb Fj) hρ, XH b hb, ei.same b hb h0]
 ·intro b hb hd
  have Iu : b ∉ l := fun h => by have := (hl b h).1; omega
  rw [Eu b Iu];exact hs.dead b (mn hb Fj) (by rw [XH b hb]; exact ei.dead b hb hd)
 ·rintro i hi ⟨b, L, h1, h2, h3, h4⟩
  by_cases hb : b ∈ l
  ·exact ei.KO i hi ⟨b, L, old b L hb h1, by unfold Live at *; rwa [Ex b hb] at h2, h3, h4⟩
  ·obtain ⟨c, Lc, c1, c2, c3, c4⟩ := hs.KO i (mn hi ei.size) ⟨b, L, h1, by unfold Live at *; rwa [Eu b hb] at h2, h3, h4⟩
   have oN : c ∉ l := fun h => c2 (hl c h).2.2
   refine ei.KO i hi ⟨c, Lc, c1, ?_, c3, c4⟩
   rcases YO c Lc c1 oN with e | e
   ·unfold Live at *; rwa [e] at c2
   ·exact absurd e c2
 ·intro i hi hr
  rw [hs.kept i (mn hi ei.size), ei.kept i hi hr]
  rintro ⟨c, Lc, c1, c2, c3, c4⟩
  have oN : c ∉ l := fun h => c2 (hl c h).2.2
  refine hr (ei.KO i hi ⟨c, Lc, c1, ?_, c3, c4⟩)
  rcases YO c Lc c1 oN with e | e
  ·unfold Live at *; rwa [e] at c2
  ·exact absurd e c2
theorem OB {base : Nat} {ρ0 ρ ρ' : ep} {m0 Mm : Mem} {w0 w w' : World} {k : Nat} {B : fQ} (hR : R base ρ Mm w) (ei : Step ρ0 m0 w0 ρ Mm w) (FB : m0.next <= k) (hk : k < Mm.next) (hm : Made base ρ ⟨k, Mm.gB⟩ w ρ' B w') :
  R base ρ' ⟨Mm.next, Mm.gB.set k B⟩ w' /\ Step ρ0 m0 w0 ρ' ⟨Mm.next, Mm.gB.set k B⟩ w' := by
 have hg : ∀ b, (⟨Mm.next, Mm.gB.set k B⟩ : Mem).get b = if b = k then B else Mm.get b := fun b => by
  unfold Mem.get; simp only [Tr.bW]; split <;> rfl
 have xh : ∀ b, ((⟨k, Mm.gB⟩ : Mem).new B).get b = if b = k then B else Mm.get b := fun b => by rw [Mem.fm]; rfl
 have VI : ∀ b, b ≠ k -> ρ' b = ρ b := fun b hb => hm.Yi b hb
 refine ⟨⟨?_, ?_, ?_, hm.base, ?_⟩, ⟨ei.ext.trans hm.ext, ?_, ei.next, ?_, ?_, by have := ei.size; have := hm.size; omega, ?_, ?_, hm.os.trans ei.os, hm.tape.trans ei.tape, hm.output.trans ei.output⟩⟩
 ·intro b L hb
  by_cases e : b = k
  ·rw [e]; exact hk
  ·rw [VI b e] at hb; exact hR.lt b L hb
 ·intro b L hb
  rw [hg, <- xh]; exact hm.c9 b L hb
 ·intro b c L L' h1 h2 h3 h4
  exact hm.inj b c L L' h1 h2 (by unfold Live at *; rw [xh] ; rwa [hg] at h3) (by unfold Live at *; rw [xh]; rwa [hg] at h4)
 ·intro b hb
  have hb : Mm.next <= b := hb
  rw [hg, if_neg (by omega)]; exact hR.clean b hb
 ·intro b h0 h1
  by_cases e : b = k
  ·rw [e]; exact FB
  ·rw [VI b e] at h1; exact ei.new b h0 h1
 ·intro b hb h0
  rw [hg, if_neg (by omega)]; exact ei.same b hb h0
 ·intro b hb hd
  rw [hg, if_neg (by omega)]; exact ei.dead b hb hd
 ·rintro i hi ⟨b, L, h1, h2, h3, h4⟩
  by_cases e : b = k
  ·subst e
   obtain ⟨L0, q1, q2⟩ := hm.loc
   have : ρ' b = some L0 := q1
   rw [this] at h1; cases h1
   have := ei.size
   omega
  ·rw [VI b e] at h1
   exact ei.KO i hi ⟨b, L, h1, by unfold Live at *; rwa [hg, if_neg e] at h2, h3, h4⟩
 ·intro i hi hr
  rw [hm.old i (mn hi ei.size), ei.kept i hi hr]
end
section
section
variable {P : Program} {G : List Nat} {n : Nat} {call : Call}
theorem P6 (op : ls) : cS op <= 3 := by
 cases op <;> simp [cS]
 case conv c x => cases c <;> simp
theorem Cb (op : Aq) : sort op <= 3 := by
 cases op <;> simp only [sort] <;> first | exact P6 _ | omega
theorem Ef {f : aV -> EV} {op : ls} (hs : cS op = 1) {m m1 : Mem} {v : EV} (h : aA f op m = some (.val v m1)) : ∃ (B : fQ) (mk : Nat -> EV), v = mk m.next /\ m1 = m.new B /\ ∀ m', aA f op m' = some (.val (mk m'.next) (m'.new B)) := by
 cases op <;> (try simp only [cS] at hs) <;> (try (simp at hs; done))
 case alloc e z =>
  simp only [aA, bc, R1.val.injEq] at h ⊢
  exact ⟨.cells z z.length e false, fun k => .ptr k 0, h.1.symm, h.2.symm, fun m' => ⟨rfl, rfl⟩⟩
 case box e x =>
  simp only [aA] at h ⊢
  cases hc : (f x).cells with
  | none => simp [hc] at h
  | some cs =>
   simp only [hc, bc, R1.val.injEq] at h ⊢
   exact ⟨.cells cs cs.length e false, fun k => .ptr k 0, h.1.symm, h.2.symm, fun m' => ⟨rfl, rfl⟩⟩
 case bD e s len z ps =>
  simp only [aA] at h ⊢
  cases hc : fw (eA len z) (ps.map fun p => (p.1 * s, s, f p.2)) with
  | none => simp [hc] at h
  | some cs =>
   simp only [hc, bc, R1.val.injEq] at h ⊢
   exact ⟨.cells cs s e false, fun k => .slice k 0 len (some len), h.1.symm, h.2.symm, fun m' => ⟨rfl, rfl⟩⟩
 case uP =>
  simp only [aA, bc, R1.val.injEq] at h ⊢
  exact ⟨.map [], fun k => .map k, h.1.symm, h.2.symm, fun m' => ⟨rfl, rfl⟩⟩
 case lE e s z l c =>
  simp only [aA, Bool.cond_eq_ite] at h ⊢
  generalize f l = el at h ⊢
  generalize f c = ec at h ⊢
  split at h
  ·rename_i ln cn
   split at h
   ·rename_i hq
    split at h
    ·rename_i hq2
     simp only [bc, R1.val.injEq] at h;exact ⟨.cells (eA cn z) s e false, fun k => .slice k 0 ln (some cn), h.1.symm, h.2.symm, fun m' => by rw [if_pos hq, if_pos hq2]⟩
    ·cases h
   ·cases h
  ·cases h
 case conv c x =>
  cases c <;> (try (simp at hs; done))
  rename_i e
  simp only [aA] at h ⊢
  have h1 := lz h
  generalize f x = ex at h1 ⊢
  cases ex <;> simp only [kT, reduceCtorEq, bc, eM] at h1
  rename_i s
  exact ⟨.cells (s.map fun b => .int .u8 (b.toNat : Int)) 1 e false, fun k => .slice k 0 s.length none, h1.1.symm, h1.2.symm, fun m' => rfl⟩
theorem QM {m : Mem} {agg : Option Nat} {x v : EV} (hf : Gk x = false) (h : m.load agg x = some v) : ∃ b off, x = .ptr b off /\ m.get b ≠ .dead := by
 cases x <;> simp only [Mem.load, reduceCtorEq] at h
 case fF => simp [Gk] at hf
 rename_i b off
 refine ⟨b, off, rfl, fun e => ?_⟩
 rw [e] at h
 cases h
theorem QN {o : Oper} {io : ls} (hc : UK P G o = some io) (hs : cS io = 2) : ∃ agg x x0, io = .load agg x /\ eZ G x0 = some x := by
 unfold UK at hc
 split at hc
 case h_1 => obtain ⟨_, _, rfl⟩ := ag hc; simp [cS] at hs
 case h_2 => obtain ⟨_, _, rfl⟩ := ag hc; simp [cS] at hs
 case h_3 => obtain ⟨_, _, hc⟩ := af hc; obtain ⟨_, _, hc⟩ := af hc; obtain ⟨_, _, rfl⟩ := ag hc; simp [cS] at hs
 case h_4 => obtain ⟨_, _, rfl⟩ := ag hc; simp [cS] at hs
 case h_5 => obtain ⟨_, _, rfl⟩ := ag hc; simp [cS] at hs
 case h_6 =>
  obtain ⟨_, _, hc⟩ := af hc
  rcases fS hc with hc | hc
  ·obtain ⟨_, _, hc⟩ := af hc; obtain ⟨_, _, hc⟩ := af hc; obtain ⟨_, _, rfl⟩ := ag hc; simp [cS] at hs
  ·obtain ⟨_, _, hc⟩ := af hc; obtain ⟨_, _, hc⟩ := af hc; obtain ⟨_, _, rfl⟩ := ag hc; simp [cS] at hs
 case h_7 => obtain ⟨_, _, hc⟩ := af hc; obtain ⟨_, _, hc⟩ := af hc; obtain ⟨_, _, hc⟩ := af hc; obtain ⟨_, _, hc⟩ := af hc; obtain ⟨_, _, hc⟩ := af hc; obtain ⟨_, _, rfl⟩ := ag hc; simp [cS] at hs
 case h_8 => obtain ⟨_, _, hc⟩ := af hc; obtain ⟨x, hx, rfl⟩ := ag hc; exact ⟨_, x, _, rfl, hx⟩
 case h_9 => obtain ⟨_, _, hc⟩ := af hc; obtain ⟨_, _, hc⟩ := af hc; obtain ⟨_, _, rfl⟩ := ag hc; simp [cS] at hs
 case h_10 => obtain ⟨_, _, rfl⟩ := ag hc; simp [cS] at hs
 case h_11 op t x y yt ho =>
  obtain ⟨_, _, hc⟩ := af hc; obtain ⟨_, _, hc⟩ := af hc
  split at hc
  ·unfold UL at hc
   simp only [Bool.cond_eq_ite] at hc
   split at hc <;> (obtain ⟨_, _, rfl⟩ := ag hc; simp [cS] at hs)
  ·unfold UL at hc
   simp only [Bool.cond_eq_ite] at hc
   split at hc <;> (obtain ⟨_, _, rfl⟩ := ag hc; simp [cS] at hs)
  ·cases hc; simp [cS] at hs
 case h_12 => obtain ⟨_, _, rfl⟩ := ag hc; simp [cS] at hs
 case h_13 =>
  obtain ⟨_, _, hc⟩ := af hc
  rcases fS hc with hc | hc
  ·obtain ⟨_, _, hc⟩ := af hc; obtain ⟨_, _, rfl⟩ := ag hc; simp [cS] at hs
  rcases fS hc with hc | hc
  ·obtain ⟨_, _, hc⟩ := af hc; obtain ⟨_, _, rfl⟩ := ag hc; simp [cS] at hs
  rcases fS hc with hc | hc
  ·obtain ⟨_, _, hc⟩ := af hc; obtain ⟨_, _, hc⟩ := af hc; obtain ⟨_, _, hc⟩ := af hc; obtain ⟨_, _, rfl⟩ := ag hc; simp [cS] at hs
  obtain ⟨_, _, hc⟩ := af hc; obtain ⟨_, _, hc⟩ := af hc; obtain ⟨_, _, hc⟩ := af hc; obtain ⟨_, _, rfl⟩ := ag hc; simp [cS] at hs
 case h_14 => obtain ⟨_, _, hc⟩ := af hc; obtain ⟨_, _, rfl⟩ := ag hc; simp [cS] at hs
 case h_15 => obtain ⟨_, _, hc⟩ := af hc; obtain ⟨_, _, rfl⟩ := ag hc; simp [cS] at hs
 case h_16 => obtain ⟨_, _, rfl⟩ := ag hc; simp [cS] at hs
 case h_17 => obtain ⟨_, _, rfl⟩ := ag hc; simp [cS] at hs
 case h_18 => obtain ⟨_, _, hc⟩ := af hc; obtain ⟨_, _, hc⟩ := af hc; obtain ⟨_, _, hc⟩ := af hc; obtain ⟨_, _, hc⟩ := af hc; obtain ⟨_, _, hc⟩ := af hc; obtain ⟨_, _, hc⟩ := af hc; obtain ⟨_, _, rfl⟩ := ag hc; simp [cS] at hs
 case h_19 =>
  obtain ⟨_, _, hc⟩ := af hc; obtain ⟨_, _, hc⟩ := af hc; obtain ⟨_, _, hc⟩ := af hc; obtain ⟨_, _, hc⟩ := af hc; obtain ⟨_, _, hc⟩ := af hc
  rcases fS hc with hc | hc
  ·obtain ⟨_, _, hc⟩ := af hc; obtain ⟨_, _, rfl⟩ := ag hc; simp [cS] at hs
  rcases fS hc with hc | hc
  ·obtain ⟨_, _, hc⟩ := af hc; obtain ⟨_, _, rfl⟩ := ag hc; simp [cS] at hs
  ·obtain ⟨_, _, hc⟩ := af hc; obtain ⟨_, _, rfl⟩ := ag hc; simp [cS] at hs
 case h_20 => obtain ⟨_, _, hc⟩ := af hc; obtain ⟨_, _, hc⟩ := af hc; obtain ⟨_, _, hc⟩ := af hc; obtain ⟨_, _, hc⟩ := af hc; obtain ⟨_, _, rfl⟩ := ag hc; simp [cS] at hs
 case h_21 => obtain ⟨_, _, hc⟩ := af hc; obtain ⟨_, _, hc⟩ := af hc; obtain ⟨_, _, hc⟩ := af hc; obtain ⟨_, _, rfl⟩ := ag hc; simp [cS] at hs
 case h_22 =>
  obtain ⟨_, _, hc⟩ := af hc; obtain ⟨_, _, hc⟩ := af hc
  rcases fS hc with hc | hc
  ·obtain ⟨_, _, hc⟩ := af hc; obtain ⟨_, _, rfl⟩ := ag hc; simp [cS] at hs
  ·obtain ⟨_, _, hc⟩ := af hc; obtain ⟨_, _, rfl⟩ := ag hc; simp [cS] at hs
 case h_23 =>
  obtain ⟨_, _, hc⟩ := af hc; obtain ⟨_, _, hc⟩ := af hc
  rcases fS hc with hc | hc
  ·obtain ⟨_, _, rfl⟩ := ag hc; simp [cS] at hs
  ·obtain ⟨_, _, hc⟩ := af hc; obtain ⟨_, _, hc⟩ := af hc; obtain ⟨_, _, rfl⟩ := ag hc; simp [cS] at hs
 case h_24 => obtain ⟨_, _, hc⟩ := af hc; obtain ⟨_, _, hc⟩ := af hc; obtain ⟨_, _, hc⟩ := af hc; obtain ⟨_, _, hc⟩ := af hc; obtain ⟨_, _, rfl⟩ := ag hc; simp [cS] at hs
 case h_25 => obtain ⟨_, _, hc⟩ := af hc; obtain ⟨_, _, hc⟩ := af hc; obtain ⟨_, _, hc⟩ := af hc; obtain ⟨_, _, hc⟩ := af hc; obtain ⟨_, _, rfl⟩ := ag hc; simp [cS] at hs
 case h_26 => obtain ⟨_, _, hc⟩ := af hc; obtain ⟨_, _, hc⟩ := af hc; obtain ⟨_, _, hc⟩ := af hc; obtain ⟨_, _, hc⟩ := af hc; obtain ⟨_, _, rfl⟩ := ag hc; simp [cS] at hs
 case h_27 => obtain ⟨_, _, hc⟩ := af hc; obtain ⟨_, _, rfl⟩ := ag hc; simp [cS] at hs
 case h_28 => obtain ⟨_, _, rfl⟩ := ag hc; simp [cS] at hs
 case h_29 c ho =>
  obtain ⟨ys, Q6, hc⟩ := af hc
  split at hc
  ·exfalso
   unfold vg at hc;simp only [Bool.cond_eq_ite] at hc
   split at hc
   ·split at hc <;> first | (cases hc; simp [cS] at hs; done) | cases hc
   ·split at hc <;> first | (cases hc; simp [cS] at hs; done) | cases hc
   ·cases hc; simp [cS] at hs
   ·cases hc; simp [cS] at hs
   ·obtain ⟨_, _, hc⟩ := af hc
    obtain ⟨_, _, hc⟩ := af hc
    obtain ⟨_, _, hc⟩ := af hc
    obtain ⟨_, _, hc⟩ := af hc
    obtain ⟨_, _, hc⟩ := af hc
    split at hc <;> first | (cases hc; simp [cS] at hs; done) | cases hc
   ·split at hc
    ·split at hc <;> first | (cases hc; simp [cS] at hs; done) | cases hc
    ·cases hc
   ·split at hc
    ·obtain ⟨_, _, rfl⟩ := ag hc; simp [cS] at hs
    ·cases hc
   ·cases hc
  ·cases hc
 case h_30 => cases hc
theorem Ou {o : aY} {x : aV} (hx : x ∈ oR o.op) : ∀ t, x = .tmp t -> t ∈ named o := by
 intro t ht
 subst ht;unfold named;have : t ∈ tmpsOf (oR o.op) := by
  generalize oR o.op = l at hx
  induction l with
  | nil => simp at hx
  | cons y l ih =>
   rcases oQ.1 hx with e | YI
   ·subst e; simp [tmpsOf]
   ·cases y with
    | tmp s => simp only [tmpsOf]; exact As _ (ih YI)
    | const v => simp only [tmpsOf]; exact ih YI
 simp [this]
theorem I4 {o : aY} {t : Nat} {b : Bool} (h : o.guard = some (t, b)) : t ∈ named o := by unfold named; simp [h]
theorem Ov {o : aY} {t : Nat} (h : o.dst = some t) : t ∈ named o := by unfold named; simp [h]
structure Cx (P : Program) (G : List Nat) (n : Nat) (call : Call) (ops : Array Oper) (is : List aY) (chk : List (Nat × Nat)) (B0 : Nat) (F : Nat -> Fr) (M : Nat -> Mem) (V : Nat -> EV) : Prop where
 comp : ∀ (i : Nat) (io : aY), is[i]? = some io -> ∃ o, ops[i]? = some o /\ uj P G n ops o = some io
 at_ : ∀ (k : Nat) (o : aY), is[k]? = some o -> At call B0 o k (F k) (M k) (V k) (M (k + 1)) /\ F (k + 1) = (F k).put o.dst (V k)
 c1 : ∀ (k : Nat) (o : aY) (agg : Option Nat) (a : aV) (l : Nat) (q : aY), is[k]? = some o -> is[l]? = some q -> Fc o (F k) agg a -> nS q (F l) -> bV k l chk = true ->
  (l < k -> (M l).eD agg ((F k).eval a) (V k) = true) /\ (k < l -> (M (l + 1)).eD agg ((F k).eval a) (V k) = true)
 open_ : ∀ (i j : Nat) (io jo : aY), i < j -> is[i]? = some io -> is[j]? = some jo -> i ∉ (fo ops.toList []).getD j [] ->
  ¬ (sort io.op = 3 /\ sort jo.op = 3) /\ (∀ t, io.dst = some t -> t ∉ named jo) /\ (∀ t, jo.dst = some t -> t ∉ named io) /\ (sort io.op = 2 -> sort jo.op = 3 -> bV i j chk = true) /\ (sort io.op = 3 -> sort jo.op = 2 -> bV j i chk = true)
variable {ops : Array Oper} {is : List aY} {chk : List (Nat × Nat)} {B0 : Nat} {F : Nat -> Fr} {M : Nat -> Mem} {V : Nat -> EV}
def zY (is : List aY) (F : Nat -> Fr) (V : Nat -> EV) (S : List Nat) (t : Nat) : Nat -> EV
 | 0 => (F 0).get t
 | k + 1 => if k ∈ S /\ (is[k]?).bind (·.dst) = some t then V k else zY is F V S t k
theorem AX (C : Cx P G n call ops is chk B0 F M V) (S : List Nat) (t : Nat) : ∀ k, k <= is.length -> (∀ j o, j < k -> is[j]? = some o -> o.dst = some t -> j ∈ S) -> zY is F V S t k = (F k).get t
 | 0, _, _ => rfl
 | k + 1, hk, h => by
  have bt : k < is.length := by omega
  have ho : is[k]? = some is[k] := mZ bt
  obtain ⟨_, hF⟩ := C.at_ k _ ho
  simp only [zY, ho, Option.bind_some];rw [hF];by_cases hd : is[k].dst = some t
  ·rw [if_pos ⟨h k _ (by omega) ho hd, hd⟩, hd]
   simp only [Fr.put, Fr.bW, if_true]
  ·rw [if_neg (fun e => hd e.2), AX C S t k (by omega) (fun j o hj => h j o (by omega))]
   cases XO : is[k].dst with
   | none => rfl
   | some u =>
    simp only [Fr.put, Fr.bW];rw [if_neg];intro e; subst e; exact hd XO
theorem AY (S : List Nat) (t : Nat) : ∀ d k, (∀ j o, k <= j -> j < k + d -> is[j]? = some o -> o.dst = some t -> j ∉ S) -> zY is F V S t (k + d) = zY is F V S t k
 | 0, k, _ => rfl
 | d + 1, k, h => by
  rw [<- Nat.add_assoc];simp only [zY];rw [if_neg]
  ·exact AY S t d k fun j o h1 h2 => h j o h1 (by omega)
  ·rintro ⟨h1, h2⟩
   cases ho : is[k + d]? with
   | none => rw [ho] at h2; cases h2
   | some o => rw [ho] at h2; exact h (k + d) o (by omega) (by omega) ho h2 h1
theorem GF {S S' : List Nat} (t : Nat) : ∀ k, (∀ j o, j < k -> is[j]? = some o -> o.dst = some t -> (j ∈ S ↔ j ∈ S')) -> zY is F V S t k = zY is F V S' t k
 | 0, _ => rfl
 | k + 1, h => by
  simp only [zY];rw [GF t k fun j o hj => h j o (by omega)]
  cases ho : is[k]? with
  | none => simp
  | some o =>
   simp only [Option.bind_some];by_cases hd : o.dst = some t
   ·have := h k o (by omega) ho hd
    by_cases hk : k ∈ S
    ·rw [if_pos ⟨hk, hd⟩, if_pos ⟨this.1 hk, hd⟩]
    ·rw [if_neg (fun e => hk e.1), if_neg (fun e => hk (this.2 e.1))]
   ·rw [if_neg (fun e => hd e.2), if_neg (fun e => hd e.2)]
def gK (is : List aY) (B0 : Nat) (F : Nat -> Fr) (M : Nat -> Mem) (j : Nat) (B : fQ) : Prop :=
 ∃ o op, is[j]? = some o /\ o.op = .val op /\ cS op = 1 /\ bf (F j) o.guard = some true /\ M (j + 1) = ⟨(M j).next, (M j).gB.set (B0 + j) B⟩
theorem Ce (m : Mem) (k : Nat) (B : fQ) (b : Nat) : (⟨m.next, m.gB.set k B⟩ : Mem).get b = if b = k then B else m.get b := by
 unfold Mem.get; simp only [Tr.bW]; split <;> rfl
theorem gK.get {j : Nat} {B : fQ} (h : gK is B0 F M j B) : (M (j + 1)).get (B0 + j) = B := by
 obtain ⟨_, _, _, _, _, _, h⟩ := h
 rw [h, Ce, if_pos rfl]
theorem gK.SD {j : Nat} {B B' : fQ} (h : gK is B0 F M j B) (h' : gK is B0 F M j B') : B = B' := h.get.symm.trans h'.get
theorem gK.no {j : Nat} {B : fQ} (h : gK is B0 F M j B) {o : aY} (ho : is[j]? = some o) (ha : nS o (F j)) : False := by
 obtain ⟨o', op, h1, h2, h3, _⟩ := h
 rw [ho] at h1; cases h1
 have := ha.2
 rw [h2] at this;simp only [sort] at this;omega
theorem KU (C : Cx P G n call ops is chk B0 F M V) {k : Nat} {o : aY} (ho : is[k]? = some o) (Tt : ¬ nS o (F k)) : (M (k + 1) = M k /\ ∀ B, ¬ gK is B0 F M k B) \/ ∃ B, gK is B0 F M k B := by
 obtain ⟨PD, _⟩ := C.at_ k o ho
 cases PD with
 | skip hw _ hm => exact .inl ⟨hm, fun B ⟨o', op, h1, h2, h3, h4, _⟩ => by rw [ho] at h1; cases h1; rw [hw] at h4; cases h4⟩
 | pure op m1 hw lq hs _ hm => exact .inl ⟨hm, fun B ⟨o', Zj, h1, h2, h3, h4, _⟩ => by rw [ho] at h1; cases h1; rw [lq] at h2; cases h2; omega⟩
 | load agg a hw lq _ hm => exact .inl ⟨hm, fun B ⟨o', Zj, h1, h2, h3, h4, _⟩ => by rw [ho] at h1; cases h1; rw [lq] at h2; cases h2; simp [cS] at h3⟩
 | make op m1 hw lq hs h hm =>
  obtain ⟨B, mk, _, h2, _⟩ := Ef hs h
  exact .inr ⟨B, o, op, ho, lq, hs, hw, by rw [hm, h2]; rfl⟩
 | act op hw lq hs h => exact absurd ⟨hw, by rw [lq]; exact hs⟩ Tt
 | call f args hw lq h => exact absurd ⟨hw, by rw [lq]; simp [sort]⟩ Tt
theorem seg (C : Cx P G n call ops is chk B0 F M V) (K : Nat) : ∀ i, K <= i -> i <= is.length -> (∀ e o, K <= e -> e < i -> is[e]? = some o -> ¬ nS o (F e)) ->
  (M i).next = (M K).next /\ ∀ b, (∃ j B, K <= j /\ j < i /\ gK is B0 F M j B /\ b = B0 + j /\ (M i).get b = B) \/ ((∀ j B, K <= j -> j < i -> gK is B0 F M j B -> b ≠ B0 + j) /\ (M i).get b = (M K).get b) := by
 intro i
 induction i with
 | zero => intro h _ _; obtain rfl : K = 0 := (by omega); exact ⟨rfl, fun b => .inr ⟨fun j B h1 h2 => absurd h2 (by omega), rfl⟩⟩
 | succ i ih =>
  intro h1 h2 h3
  by_cases hK : K = i + 1
  ·subst hK; exact ⟨rfl, fun b => .inr ⟨fun j B h1 h2 => absurd h2 (by omega), rfl⟩⟩
  ·obtain ⟨hn, hb⟩ := ih (by omega) (by omega) (fun e o he WD => h3 e o he (by omega))
   have bt : i < is.length := by omega
   have ho : is[i]? = some is[i] := mZ bt
   rcases KU C ho (h3 i _ (by omega) (by omega) ho) with ⟨e, mF⟩ | ⟨B, hB⟩
   ·rw [e]
    refine ⟨hn, fun b => ?_⟩
    rcases hb b with ⟨j, B, q1, q2, q3, q4, q5⟩ | ⟨q1, q2⟩
    ·exact .inl ⟨j, B, q1, by omega, q3, q4, q5⟩
    ·refine .inr ⟨fun j B j1 j2 hj => ?_, q2⟩
     by_cases Sy : j < i
     ·exact q1 j B j1 Sy hj
     ·obtain rfl : j = i := by omega
      exact absurd hj (mF B)
   ·have TB := hB
    obtain ⟨_, _, _, _, _, _, hM⟩ := TB
    rw [hM];refine ⟨hn, fun b => ?_⟩
    rw [Ce];by_cases YU : b = B0 + i
    ·exact .inl ⟨i, B, by omega, by omega, hB, YU, by rw [if_pos YU]⟩
    ·rw [if_neg YU]
     rcases hb b with ⟨j, B', q1, q2, q3, q4, q5⟩ | ⟨q1, q2⟩
     ·exact .inl ⟨j, B', q1, by omega, q3, q4, q5⟩
     ·refine .inr ⟨fun j B' j1 j2 hj => ?_, q2⟩
      by_cases Sy : j < i
      ·exact q1 j B' j1 Sy hj
      ·obtain rfl : j = i := by omega
       exact YU
structure Inv (n : Nat) (ops : Array Oper) (is : List aY) (B0 : Nat) (F : Nat -> Fr) (M : Nat -> Mem) (V : Nat -> EV) (base : Nat) (ρ0 : ep) (m0 : Mem) (w0 : World) (S : List Nat) (K : Nat) (ρ : ep) (Mm : Mem) (ux : Fr) (a : Act) (w : World) : Prop where
 b0 : m0.next = B0
 sub : ∀ i, i ∈ S -> i < is.length
 WQ : ∀ j, j ∈ S -> ∀ i, i ∈ (fo ops.toList []).getD j [] -> i ∈ S
 FQ : ∀ (e : Nat) (o : aY), is[e]? = some o -> nS o (F e) -> (e ∈ S ↔ e < K)
 last : K = 0 \/ ∃ e o, K = e + 1 /\ is[e]? = some o /\ nS o (F e)
 hR : R base ρ Mm w
 nx : Mm.next = (M K).next
 Wj : B0 + is.length <= (M K).next
 RB : ∀ (j : Nat) (B : fQ), gK is B0 F M j B -> j ∈ S -> K <= j -> Mm.get (B0 + j) = B
 OZ : ∀ b, (∀ (j : Nat) (B : fQ), gK is B0 F M j B -> j ∈ S -> K <= j -> b ≠ B0 + j) -> Mm.get b = (M K).get b
 un : ∀ j, j < is.length -> ρ (B0 + j) ≠ none -> j ∈ S
 late : ∀ (j : Nat) (B : fQ), gK is B0 F M j B -> j < K -> j ∉ S -> (M K).get (B0 + j) = B
 dd : ∀ j, K <= j -> j < is.length -> (M K).get (B0 + j) = .dead
 st : Step ρ0 m0 w0 ρ Mm w
 fr : BN ρ n ux a
 cur : ∀ t, ux.get t = zY is F V S t is.length
 df : ux.defers = (F 0).defers
section
variable {base : Nat} {ρ0 ρ : ep} {m0 Mm : Mem} {w0 w : World} {S : List Nat} {K : Nat} {ux : Fr} {a : Act}
theorem Inv.kN (I : Inv n ops is B0 F M V base ρ0 m0 w0 S K ρ Mm ux a w) : K <= is.length := by
 rcases I.last with h | ⟨e, o, h, ho, _⟩
 ·omega
 ·have := (rc.1 ho).1; omega
theorem gK.lt {j : Nat} {B : fQ} (h : gK is B0 F M j B) : j < is.length := by
 obtain ⟨o, _, ho, _⟩ := h
 exact (rc.1 ho).1
theorem Inv.wk (C : Cx P G n call ops is chk B0 F M V) (I : Inv n ops is B0 F M V base ρ0 m0 w0 S K ρ Mm ux a w) {i : Nat} (h1 : K <= i) (h2 : i <= is.length) (h3 : ∀ e o, K <= e -> e < i -> is[e]? = some o -> ¬ nS o (F e)) :
  (M i).next = (M K).next /\ (∀ b L, ρ b = some L -> (M i).get b = Mm.get b \/ (M i).get b = .dead) /\ (∀ b, (∀ j, j < is.length -> b ≠ B0 + j) -> (M i).get b = Mm.get b) /\
   (∀ j, i <= j -> j < is.length -> (M i).get (B0 + j) = .dead) /\ (∀ j B, gK is B0 F M j B -> j < i -> j ∉ S -> (M i).get (B0 + j) = B) := by
 obtain ⟨hn, hb⟩ := seg C K i h1 h2 h3
 refine ⟨hn, fun b L hL => ?_, fun b mF => ?_, fun j j1 j2 => ?_, fun j B hj j1 j2 => ?_⟩
 ·rcases hb b with ⟨j, B, q1, q2, q3, q4, q5⟩ | ⟨q1, q2⟩
  ·left
   rw [q5, q4];exact (I.RB j B q3 (I.un j q3.lt (by rw [<- q4, hL]; simp)) q1).symm
  ·by_cases hp : ∃ j B, gK is B0 F M j B /\ j ∈ S /\ K <= j /\ b = B0 + j
   ·obtain ⟨j, B, p1, p2, p3, p4⟩ := hp
    right
    rw [q2, p4];exact I.dd j p3 p1.lt
   ·left
    rw [q2];exact (I.OZ b fun j B p1 p2 p3 p4 => hp ⟨j, B, p1, p2, p3, p4⟩).symm
 ·rcases hb b with ⟨j, B, q1, q2, q3, q4, q5⟩ | ⟨q1, q2⟩
  ·exact absurd q4 (mF j q3.lt)
  ·rw [q2]
   exact (I.OZ b fun j B p1 _ _ => mF j p1.lt).symm
 ·rcases hb (B0 + j) with ⟨j', B, q1, q2, q3, q4, q5⟩ | ⟨q1, q2⟩
  ·omega
  ·rw [q2]; exact I.dd j (by omega) j2
 ·rcases hb (B0 + j) with ⟨j', B', q1, q2, q3, q4, q5⟩ | ⟨q1, q2⟩
  ·have : j = j' := by omega
   subst this;rw [q5]; exact q3.SD hj
  ·rw [q2]
   by_cases hjK : j < K
   ·exact I.late j B hj hjK j2
   ·exact absurd rfl (q1 j B (by omega) j1 hj)
theorem Inv.val (C : Cx P G n call ops is chk B0 F M V) (I : Inv n ops is B0 F M V base ρ0 m0 w0 S K ρ Mm ux a w) {i : Nat} {o : aY} (ho : is[i]? = some o) (hi : i ∉ S) (hb : ∀ j, j ∈ (fo ops.toList []).getD i [] -> j ∈ S) :
  ∀ t, t ∈ named o -> ux.get t = (F i).get t := by
 intro t ht
 have bt := (rc.1 ho).1
 rw [I.cur t, show is.length = i + (is.length - i) by omega, AY S t _ i, AX C S t i (by omega)]
 ·intro j q hj hq hd
  apply BP
  intro LB
  exact (C.open_ j i q o hj hq ho (fun h => LB (hb j h))).2.1 t hd ht
 ·intro j q h1 h2 hq hd LB
  by_cases e : j = i
  ·subst e; exact hi LB
  ·exact (C.open_ i j o q (by omega) ho hq (fun h => hi (I.WQ j LB i h))).2.2.1 t hd ht
theorem eval_eq {f g : Fr} {o : aY} (h : ∀ t, t ∈ named o -> f.get t = g.get t) : ∀ x, x ∈ oR o.op -> f.eval x = g.eval x := by
 intro x hx
 cases x with
 | const v => rfl
 | tmp t => exact h t (Ou hx t rfl)
theorem Iw {f g : Fr} {o : aY} (h : ∀ t, t ∈ named o -> f.get t = g.get t) : bf f o.guard = bf g o.guard := by
 cases hg : o.guard with
 | none => rfl
 | some p =>
  obtain ⟨t, b⟩ := p
  simp only [bf, h t (I4 hg)]
theorem Inv.HY (C : Cx P G n call ops is chk B0 F M V) (I : Inv n ops is B0 F M V base ρ0 m0 w0 S K ρ Mm ux a w) {i : Nat} {o : aY} (ho : is[i]? = some o) (hi : i ∉ S) :
  ∀ t, (ux.put o.dst (V i)).get t = zY is F V (i :: S) t is.length := by
 intro t
 have bt := (rc.1 ho).1
 by_cases hd : o.dst = some t
 ·rw [hd, show is.length = (i + 1) + (is.length - (i + 1)) by omega, AY (i :: S) t _ (i + 1)]
  ·simp only [zY, ho, Option.bind_some]
   rw [if_pos ⟨by simp, hd⟩];simp only [Fr.put, Fr.bW, if_true]
  ·intro j q h1 h2 hq hdq hj
   rcases oQ.1 hj with e | LB
   ·omega
   ·exact (C.open_ i j o q (by omega) ho hq (fun h => hi (I.WQ j LB i h))).2.1 t hd (Ov hdq)
 ·have : (ux.put o.dst (V i)).get t = ux.get t := by
   cases XO : o.dst with
   | none => rfl
   | some u =>
    simp only [Fr.put, Fr.bW];rw [if_neg];intro e; subst e; exact hd XO
  rw [this, I.cur t];refine GF t _ fun j q hj hq hdq => ?_
  constructor
  ·intro h; exact As _ h
  ·intro h
   rcases oQ.1 h with e | h
   ·subst e; rw [ho] at hq; cases hq; exact absurd hdq hd
   ·exact h
theorem Inv.idle (C : Cx P G n call ops is chk B0 F M V) (I : Inv n ops is B0 F M V base ρ0 m0 w0 S K ρ Mm ux a w) {i : Nat} {o : aY} (ho : is[i]? = some o) (hi : i ∉ S) (hb : ∀ j, j ∈ (fo ops.toList []).getD i [] -> j ∈ S)
  (Tt : ¬ nS o (F i)) (Js : ∀ B, ¬ gK is B0 F M i B) {ρ1 : ep} {w1 : World} {a1 : Act} (lr : R base ρ1 Mm w1) (hs : Step ρ Mm w ρ1 Mm w1) (hF : BN ρ1 n (ux.put o.dst (V i)) a1) :
  Inv n ops is B0 F M V base ρ0 m0 w0 (i :: S) K ρ1 Mm (ux.put o.dst (V i)) a1 w1 := by
 have bt := (rc.1 ho).1
 refine ⟨I.b0, ?_, ?_, ?_, I.last, lr, I.nx, I.Wj, ?_, ?_, ?_, ?_, I.dd, I.st.trans hs, hF, I.HY C ho hi, by rw [put_defers]; exact I.df⟩
 ·intro j hj
  rcases oQ.1 hj with e | hj
  ·rw [e]; exact bt
  ·exact I.sub j hj
 ·intro j hj k hk
  rcases oQ.1 hj with e | hj
  ·rw [e] at hk; exact As _ (hb k hk)
  ·exact As _ (I.WQ j hj k hk)
 ·intro e q hq hA
  rw [<- I.FQ e q hq hA]
  constructor
  ·intro h
   rcases oQ.1 h with e1 | h
   ·subst e1; rw [ho] at hq; cases hq; exact absurd hA Tt
   ·exact h
  ·exact As _
 ·intro j B hj LB hK
  rcases oQ.1 LB with e | h
  ·rw [e] at hj; exact absurd hj (Js B)
  ·exact I.RB j B hj h hK
 ·intro b mF
  exact I.OZ b fun j B h1 h2 h3 => mF j B h1 (As _ h2) h3
 ·intro j hj h1
  refine As _ (I.un j hj ?_)
  intro h0
  have := hs.new _ h0 h1
  have := I.nx; have := I.Wj
  omega
 ·intro j B hj h1 h2
  exact I.late j B hj h1 fun h => h2 (As _ h)
theorem Inv.make (C : Cx P G n call ops is chk B0 F M V) (I : Inv n ops is B0 F M V base ρ0 m0 w0 S K ρ Mm ux a w) {i : Nat} {o : aY} (ho : is[i]? = some o) (hi : i ∉ S) (hb : ∀ j, j ∈ (fo ops.toList []).getD i [] -> j ∈ S)
  {B : fQ} (hm : gK is B0 F M i B) {ρ1 : ep} {w1 : World} {a1 : Act} (hM : Made base ρ ⟨B0 + i, Mm.gB⟩ w ρ1 B w1) (hF : BN ρ1 n (ux.put o.dst (V i)) a1) :
  Inv n ops is B0 F M V base ρ0 m0 w0 (i :: S) K ρ1 ⟨Mm.next, Mm.gB.set (B0 + i) B⟩ (ux.put o.dst (V i)) a1 w1 := by
 have bt := (rc.1 ho).1
 obtain ⟨lr, hs⟩ := OB I.hR I.st (by have := I.b0; omega) (by have := I.nx; have := I.Wj; omega) hM
 refine ⟨I.b0, ?_, ?_, ?_, I.last, lr, I.nx, I.Wj, ?_, ?_, ?_, ?_, I.dd, hs, hF, I.HY C ho hi, by rw [put_defers]; exact I.df⟩
 ·intro j hj
  rcases oQ.1 hj with e | hj
  ·rw [e]; exact bt
  ·exact I.sub j hj
 ·intro j hj k hk
  rcases oQ.1 hj with e | hj
  ·rw [e] at hk; exact As _ (hb k hk)
  ·exact As _ (I.WQ j hj k hk)
 ·intro e q hq hA
  rw [<- I.FQ e q hq hA]
  constructor
  ·intro h
   rcases oQ.1 h with e1 | h
   ·subst e1; exact (hm.no hq hA).elim
   ·exact h
  ·exact As _
 ·intro j B' hj LB hK
  rw [Ce];by_cases e : j = i
  ·subst e; rw [if_pos rfl]; exact hm.SD hj
  ·rw [if_neg (by omega)]
   rcases oQ.1 LB with h | h
   ·exact absurd h e
   ·exact I.RB j B' hj h hK
 ·intro b mF
  rw [Ce];by_cases e : b = B0 + i
  ·rw [if_pos e]
   have hiK : i < K := by
    apply BP
    intro h
    exact mF i B hm (by simp) (by omega) e
   rw [e];exact (I.late i B hm hiK hi).symm
  ·rw [if_neg e]
   exact I.OZ b fun j B h1 h2 h3 => mF j B h1 (As _ h2) h3
 ·intro j hj h1
  by_cases e : j = i
  ·rw [e]; simp
  ·refine As _ (I.un j hj ?_)
   rw [<- hM.Yi (B0 + j) (show B0 + j ≠ B0 + i by omega)];exact h1
 ·intro j B' hj h1 h2
  exact I.late j B' hj h1 fun h => h2 (As _ h)
theorem Inv.next (C : Cx P G n call ops is chk B0 F M V) (I : Inv n ops is B0 F M V base ρ0 m0 w0 S K ρ Mm ux a w) {i : Nat} {o : aY} (ho : is[i]? = some o) (hi : i ∉ S) (hb : ∀ j, j ∈ (fo ops.toList []).getD i [] -> j ∈ S)
  (hA : nS o (F i)) : K <= i /\ ∀ e q, K <= e -> e < i -> is[e]? = some q -> ¬ nS q (F e) := by
 have Tz : K <= i := by
  apply BP
  intro h
  exact hi ((I.FQ i o ho hA).2 (by omega))
 refine ⟨Tz, fun e q h1 h2 hq MV => ?_⟩
 have UB : e ∈ S := by
  apply BP
  intro UB
  have := (C.open_ e i q o h2 hq ho (fun h => UB (hb e h))).1
  exact this ⟨Nat.le_antisymm (Cb _) MV.2, Nat.le_antisymm (Cb _) hA.2⟩
 have := (I.FQ e q hq MV).1 UB
 omega
theorem Inv.text (C : Cx P G n call ops is chk B0 F M V) (I : Inv n ops is B0 F M V base ρ0 m0 w0 S K ρ Mm ux a w) {i : Nat} (h1 : K <= i) (h2 : i <= is.length) (h3 : ∀ e o, K <= e -> e < i -> is[e]? = some o -> ¬ nS o (F e)) :
  R base ρ (M i) w := by
 obtain ⟨k1, k2, k3, k4, k5⟩ := I.wk C h1 h2 h3
 refine I.hR.weaken (fun b L hb => ?_) k2 (fun b hb => ?_)
 ·rw [k1, <- I.nx]; exact I.hR.lt b L hb
 ·rw [k1] at hb
  rw [k3 b (fun j hj => by have := I.Wj; omega)]
  exact I.hR.clean b (by rw [I.nx]; exact hb)
theorem Inv.act (C : Cx P G n call ops is chk B0 F M V) (I : Inv n ops is B0 F M V base ρ0 m0 w0 S K ρ Mm ux a w) {i : Nat} {o : aY} (ho : is[i]? = some o) (hi : i ∉ S) (hb : ∀ j, j ∈ (fo ops.toList []).getD i [] -> j ∈ S)
  (hA : nS o (F i)) {ρ1 : ep} {w1 : World} {a1 : Act} (lr : R base ρ1 (M (i + 1)) w1) (hs : Step ρ (M i) w ρ1 (M (i + 1)) w1) (hF : BN ρ1 n (ux.put o.dst (V i)) a1) :
  ∃ M2, Inv n ops is B0 F M V base ρ0 m0 w0 (i :: S) (i + 1) ρ1 M2 (ux.put o.dst (V i)) a1 w1 := by
 have bt := (rc.1 ho).1
 obtain ⟨Tz, mF⟩ := I.next C ho hi hb hA
 obtain ⟨k1, k2, k3, k4, k5⟩ := I.wk C Tz (Nat.le_of_lt bt) mF
 have UD := I.b0
 have Fj := I.nx
 have afo := I.Wj
 have Jt := hs.next
 let l := (S.filter fun j => decide (i < j)).map fun j => B0 + j
 have hl : ∀ b, b ∈ l ↔ ∃ j, j ∈ S /\ i < j /\ b = B0 + j := by
  intro b
  simp only [l, List.mem_map, List.mem_filter, decide_eq_true_eq]
  constructor
  ·rintro ⟨j, ⟨h1, h2⟩, h3⟩; exact ⟨j, h1, h2, h3.symm⟩
  ·rintro ⟨j, h1, h2, h3⟩; exact ⟨j, ⟨h1, h2⟩, h3.symm⟩
 obtain ⟨M2, m1, m2⟩ := over (M (i + 1)) Mm.get l
 have Ut : R base ρ1 M2 w1 /\ Step ρ0 m0 w0 ρ1 M2 w1 := by
  refine R6 l I.hR I.st lr hs (fun b Iu => ?_) (fun b L hL _ => k2 b L hL) (fun b Iu => ?_) (by omega) m1 m2
  ·obtain ⟨j, j1, j2, rfl⟩ := (hl b).1 Iu
   have := I.sub j j1
   exact ⟨by omega, by omega, k4 j (by omega) this⟩
  ·exact k3 b fun j hj => by omega
 refine ⟨M2, I.b0, ?_, ?_, ?_, .inr ⟨i, o, rfl, ho, hA⟩, Ut.1, m1, by omega, ?_, ?_, ?_, ?_, ?_, Ut.2, hF, I.HY C ho hi, by rw [put_defers]; exact I.df⟩
 ·intro j hj
  rcases oQ.1 hj with e | hj
  ·rw [e]; exact bt
  ·exact I.sub j hj
 ·intro j hj k hk
  rcases oQ.1 hj with e | hj
  ·rw [e] at hk; exact As _ (hb k hk)
  ·exact As _ (I.WQ j hj k hk)
 ·intro e q hq MV
  constructor
  ·intro h
   rcases oQ.1 h with e1 | h
   ·omega
   ·have := (I.FQ e q hq MV).1 h; omega
  ·intro h
   by_cases e1 : e = i
   ·rw [e1]; simp
   ·refine As _ ((I.FQ e q hq MV).2 ?_)
    apply BP
    intro h2
    exact mF e q (by omega) (by omega) hq MV
 ·intro j B hj LB hK
  rcases oQ.1 LB with e | h
  ·omega
  ·rw [m2, if_pos ((hl _).2 ⟨j, h, by omega, rfl⟩)]
   exact I.RB j B hj h (by omega)
 ·intro b aa7
  rw [m2]
  split
  ·rename_i Iu
   obtain ⟨j, j1, j2, rfl⟩ := (hl b).1 Iu
   have YQ := I.sub j j1
   rw [hs.dead (B0 + j) (by omega) (k4 j (by omega) YQ), I.OZ (B0 + j) ?_]
   ·exact I.dd j (by omega) YQ
   ·intro j' B h1 h2 h3 h4
    have : j = j' := by omega
    subst this;exact aa7 j B h1 (As _ h2) (by omega) rfl
  ·rfl
 ·intro j hj h1
  refine As _ (I.un j hj ?_)
  intro h0
  have := hs.new _ h0 h1
  omega
 ·intro j B hj h1 h2
  have LB : j ∉ S := fun h => h2 (As _ h)
  have Sy : j ≠ i := fun e => h2 (by rw [e]; simp)
  have YQ := hj.lt
  have hρ : ρ (B0 + j) = none := by
   cases e : ρ (B0 + j) with
   | none => rfl
   | some L => exact absurd (I.un j YQ (by rw [e]; simp)) LB
  rw [hs.same (B0 + j) (by omega) hρ];exact k5 j B hj (by omega) LB
 ·intro j h1 h2
  exact hs.dead (B0 + j) (by omega) (k4 j (by omega) h2)
theorem Inv.load (C : Cx P G n call ops is chk B0 F M V) (I : Inv n ops is B0 F M V base ρ0 m0 w0 S K ρ Mm ux a w) {i : Nat} {o : aY} (ho : is[i]? = some o) (hi : i ∉ S) (hb : ∀ j, j ∈ (fo ops.toList []).getD i [] -> j ∈ S)
  {agg : Option Nat} {x : aV} (hL : Fc o (F i) agg x) (h : (M i).load agg ((F i).eval x) = some (V i)) {x' : Value} (hv : VR ρ ((F i).eval x) x') : Mm.load agg ((F i).eval x) = some (V i) := by
 have bt := (rc.1 ho).1
 have Q9 : sort o.op = 2 := by rw [hL.2.1]; rfl
 -- a place in the Zb order from WS no act parts us
 have hex : ∃ k, K <= k /\ k <= is.length /\ (∀ e q, K <= e -> e < k -> is[e]? = some q -> ¬ nS q (F e)) /\ (M k).load agg ((F i).eval x) = some (V i) := by
  by_cases Tz : K <= i
  ·by_cases Rw : ∃ e, K <= e /\ e < i /\ ∃ q, is[e]? = some q /\ nS q (F e)
   ·-- the first of aev
    obtain ⟨e, ⟨YR, WD, q, hq, MV⟩, abc⟩ : ∃ e, (K <= e /\ e < i /\ ∃ q, is[e]? = some q /\ nS q (F e)) /\ ∀ e', e' < e -> ¬ (K <= e' /\ e' < i /\ ∃ q, is[e']? = some q /\ nS q (F e')) := by
     obtain ⟨e, he⟩ := Rw
     induction e using Nat.strongRecOn with
     | _ e ih =>
      by_cases h : ∃ e', e' < e /\ (K <= e' /\ e' < i /\ ∃ q, is[e']? = some q /\ nS q (F e'))
      ·obtain ⟨e', h1, h2⟩ := h; exact ih e' h1 h2
      ·exact ⟨e, he, fun e' h1 h2 => h ⟨e', h1, h2⟩⟩
    have UB : e ∉ S := fun hh => by have := (I.FQ e q hq MV).1 hh; omega
    have hp := (C.open_ e i q o WD hq ho (fun hh => UB (hb e hh))).2.2.2.2 (Nat.le_antisymm (Cb _) MV.2) Q9
    have := (C.c1 i o agg x e q ho hq hL MV hp).1 WD
    exact ⟨e, YR, by omega, fun e' q' h1 h2 Gp hA' => abc e' h2 ⟨h1, by omega, q', Gp, hA'⟩, F2 this⟩
   ·exact ⟨i, Tz, by omega, fun e q h1 h2 hq hA => Rw ⟨e, h1, h2, q, hq, hA⟩, h⟩
  ·rcases I.last with h0 | ⟨e, q, hK, hq, MV⟩
   ·omega
   ·have UB : e ∈ S := (I.FQ e q hq MV).2 (by omega)
    have hie : i ≠ e := fun h => hi (h ▸ UB)
    have hp := (C.open_ i e o q (by omega) ho hq (fun hh => hi (I.WQ e UB i hh))).2.2.2.1 Q9 (Nat.le_antisymm (Cb _) MV.2)
    have := (C.c1 i o agg x e q ho hq hL MV hp).2 (by omega)
    refine ⟨K, fh _, I.kN, fun e' q' h1 h2 => absurd h2 (by omega), ?_⟩
    rw [hK]; exact F2 this
 obtain ⟨k, h1, h2, h3, h4⟩ := hex
 obtain ⟨_, k2, _, _, _⟩ := I.wk C h1 h2 h3
 obtain ⟨b, off, hx, hd⟩ := QM hL.2.2 h4
 rw [hx] at hv h4 ⊢
 cases hv with
 | ptr hL =>
 rcases k2 b _ hL with e | e
 ·rw [<- QO e]; exact h4
 ·exact absurd e hd
theorem Yh (bF : pB P G call) (C : Cx P G n call ops is chk B0 F M V) (hG : jt G ρ0) : ∀ (l S : List Nat) (K : Nat) (ρ : ep) (Mm : Mem) (ux : Fr) (a : Act) (w : World), Inv n ops is B0 F M V base ρ0 m0 w0 S K ρ Mm ux a w ->
  (∀ (k i : Nat), l[k]? = some i -> i < is.length /\ i ∉ S /\ i ∉ l.take k /\ ∀ b, b ∈ (fo ops.toList []).getD i [] -> b ∈ S \/ b ∈ l.take k) -> (∀ i, i < is.length -> i ∈ S \/ i ∈ l) ->
  wpOps P ops (Reach base n ρ0 m0 w0 (.norm (F is.length) (M is.length))) l a w := by
 intro l
 induction l with
 | nil =>
  intro S K ρ Mm ux a w I hl hall
  have hS : ∀ i, i < is.length -> i ∈ S := fun i hi => by rcases hall i hi with h | h; exact h; cases h
  obtain ⟨k1, k2, k3, k4, k5⟩ := I.wk C I.kN (fh _) (fun e q h1 h2 hq hA => by have := (I.FQ e q hq hA).1 (hS e h2); omega)
  obtain ⟨_, hb⟩ := seg C K is.length I.kN (fh _) (fun e q h1 h2 hq hA => by have := (I.FQ e q hq hA).1 (hS e h2); omega)
  have hg : ∀ b, (M is.length).get b = Mm.get b := by
   intro b
   rcases hb b with ⟨j, B, q1, q2, q3, q4, q5⟩ | ⟨q1, q2⟩
   ·rw [q5, q4]; exact (I.RB j B q3 (hS j q2) q1).symm
   ·rw [q2]; exact (I.OZ b fun j B p1 p2 p3 p4 => q1 j B p3 p1.lt p1 p4).symm
  have Fj : (M is.length).next = Mm.next := by rw [k1, I.nx]
  have VJ : ∀ k, k <= is.length -> (F k).defers = (F 0).defers := by
   intro k
   induction k with
   | zero => intro _; rfl
   | succ k ih =>
    intro hk
    have bt : k < is.length := by omega
    obtain ⟨_, hF⟩ := C.at_ k is[k] (mZ bt)
    rw [hF, put_defers]; exact ih (by omega)
  refine ⟨rfl, ρ, I.hR.congr Fj hg, I.st.congr Fj hg, ⟨⟨I.fr.tm.size, fun t => ?_⟩, ?_⟩⟩
  ·have := I.fr.tm.tmp t
   rw [I.cur t, AX C S t is.length (fh _) (fun j o hj _ _ => hS j hj)] at this;exact this
  ·rw [VJ _ (fh _), <- I.df]; exact I.fr.FM
 | cons i l ih =>
  intro S K ρ Mm ux a w I hl hall
  obtain ⟨bt, hi, _, hb⟩ := hl 0 i rfl
  have hb : ∀ j, j ∈ (fo ops.toList []).getD i [] -> j ∈ S := fun j hj => by
   rcases hb j hj with h | h
   ·exact h
   ·simp at h
  have BH : is[i]? = some is[i] := mZ bt
  generalize is[i] = io at BH
  have next : ∀ {K1 : Nat} {ρ1 : ep} {M1 : Mem} {fT : Fr} {a1 : Act} {w1 : World}, Inv n ops is B0 F M V base ρ0 m0 w0 (i :: S) K1 ρ1 M1 fT a1 w1 -> wpOps P ops (Reach base n ρ0 m0 w0 (.norm (F is.length) (M is.length))) l a1 w1 := by
   intro K1 ρ1 M1 fT a1 w1 I1
   refine ih (i :: S) K1 ρ1 M1 fT a1 w1 I1 (fun k j hj => ?_) (fun j hj => ?_)
   ·obtain ⟨g1, g2, g3, g4⟩ := hl (k + 1) j (by simpa using hj)
    rw [List.take_succ_cons] at g3 g4;refine ⟨g1, ?_, fun h => g3 (As _ h), fun b hb => ?_⟩
    ·intro h
     rcases oQ.1 h with e | h
     ·exact g3 (by rw [e]; simp)
     ·exact g2 h
    ·rcases g4 b hb with h | h
     ·exact .inl (As _ h)
     ·rcases oQ.1 h with e | h
      ·exact .inl (by rw [e]; simp)
      ·exact .inr h
   ·rcases hall j hj with h | h
    ·exact .inl (As _ h)
    ·rcases oQ.1 h with e | h
     ·exact .inl (by rw [e]; simp)
     ·exact .inr h
  obtain ⟨o, ho, hc⟩ := C.comp i io BH
  obtain ⟨hx, ny, AO, nP⟩ := J3 hc
  obtain ⟨PD, _⟩ := C.at_ i io BH
  have hval := I.val C BH hi hb
  have rL := eval_eq hval
  have Wr := Iw hval
  have WH := hG.ext I.st.ext
  simp only [wpOps, ho]
  -- one N5 looks at the memory eQ it is
  have still : ∀ {op : ls}, io.op = .val op -> ¬ nS io (F i) -> (∀ B, ¬ gK is B0 F M i B) -> aA ux.eval op Mm = some (.val (V i) Mm) ->
    o.wp P a w (wpOps P ops (Reach base n ρ0 m0 w0 (.norm (F is.length) (M is.length))) l) (Reach base n ρ0 m0 w0 (.norm (F is.length) (M is.length))) := by
   intro op lq Tt Js he
   rw [lq] at hx;obtain ⟨ρ1, w1, v', jZ, hv, lr, hs⟩ := D9 (vf hx) WH I.hR I.fr.tm he
   have hF := (I.fr.ext hs.ext).put AO hv
   rw [<- ny] at hF;have := next (I.idle C BH hi hb Tt Js lr hs hF)
   simp only [Oper.wp];rw [ny] at this;rcases jZ with jZ | ⟨jZ, rfl⟩
   ·rw [jZ]; exact this
   ·rw [jZ]; exact this
  cases PD with
  | skip hw hv hm =>
   rw [mq I.fr.tm nP (Wr.trans hw), if_neg (by simp)];have hF := I.fr.put AO (VR.undef (ρ := ρ))
   rw [<- hv, <- ny] at hF;have := next (I.idle C BH hi hb (fun hA => by have := hA.1; rw [hw] at this; cases this) (fun B ⟨o', op, h1, h2, h3, h4, _⟩ => by rw [BH] at h1; cases h1; rw [hw] at h4; cases h4) I.hR (.refl _ _ _) hF)
   rw [ny] at this;exact this
  | pure op m1 hw lq hs h hm =>
   rw [mq I.fr.tm nP (Wr.trans hw), if_pos rfl]
   left
   refine still lq (fun hA => by have := hA.2; rw [lq] at this; simp only [sort] at this; omega) (fun B ⟨o', Zj, h1, h2, h3, h4, _⟩ => by rw [BH] at h1; cases h1; rw [lq] at h2; cases h2; omega) ?_
   rw [xQ (g := (F i).eval) (fun x Q7 => rL x (by rw [lq]; exact Q7))]
   exact (IM hs h).2 Mm
  | load agg x hw lq h hm =>
   rw [mq I.fr.tm nP (Wr.trans hw), if_pos rfl]
   left
   refine still lq (fun hA => by have := hA.2; rw [lq] at this; simp [sort, cS] at this) (fun B ⟨o', Zj, h1, h2, h3, h4, _⟩ => by rw [BH] at h1; cases h1; rw [lq] at h2; cases h2; simp [cS] at h3) ?_
   have Xk : ux.eval x = (F i).eval x := rL x (by rw [lq]; simp [oR, iI])
   rw [lq] at hx;have ue : ∃ x', VR ρ (ux.eval x) x' := by
    cases x with
    | tmp t => exact ⟨_, I.fr.tm.tmp t⟩
    | const v =>
     obtain ⟨Yt, x1, x0, q1, q2⟩ := QN (vf hx) rfl
     cases q1
     exact ⟨_, ig WH I.fr.tm q2⟩
   obtain ⟨x', PA⟩ := ue
   rw [Xk] at PA
   have := I.load C BH hi hb ⟨hw, lq, by generalize (F i).eval x = y at PA; cases PA <;> rfl⟩ h PA
   simp only [aA, Xk, this, gl, Option.map_some]
  | make op m1 hw lq hs h hm =>
   rw [mq I.fr.tm nP (Wr.trans hw), if_pos rfl]
   left
   rw [lq] at hx;obtain ⟨B, mk, e1, e2, e3⟩ := Ef hs h
   have hmk : gK is B0 F M i B := ⟨io, op, BH, lq, hs, hw, by rw [hm, e2]; rfl⟩
   have he : aA ux.eval op ⟨B0 + i, Mm.gB⟩ = some (.val (V i) ((⟨B0 + i, Mm.gB⟩ : Mem).new B)) := by
    rw [xQ (g := (F i).eval) (fun x Q7 => rL x (by rw [lq]; exact Q7)), e3, e1]
   have hRN : RN base ρ ⟨B0 + i, Mm.gB⟩ w := by
    refine ⟨?_, I.hR.c9, I.hR.inj, I.hR.base⟩
    apply BP
    intro e
    exact hi (I.un i bt e)
   obtain ⟨B', TB, ρ1, w1, v', jZ, hv, hM⟩ := Lh (vf hx) hs WH hRN I.fr.tm he
   have : B' = B := by
    have h1 := congrArg (fun m : Mem => m.get (B0 + i)) TB
    simp only [Mem.fm, if_true] at h1;exact h1.symm
   subst this;have hF := (I.fr.ext hM.ext).put AO hv
   rw [<- ny] at hF;have := next (I.make C BH hi hb hmk hM hF)
   rw [ny] at this;simp only [Oper.wp];rw [jZ]; exact this
  | act op hw lq hs h =>
   rw [mq I.fr.tm nP (Wr.trans hw), if_pos rfl]
   left
   rw [lq] at hx;have hA : nS io (F i) := ⟨hw, by rw [lq]; exact hs⟩
   obtain ⟨Tz, mF⟩ := I.next C BH hi hb hA
   have YV := I.text C Tz (Nat.le_of_lt bt) mF
   rw [<- xQ (f := ux.eval) (fun x Q7 => rL x (by rw [lq]; exact Q7))] at h
   obtain ⟨ρ1, w1, v', jZ, hv, lr, ei⟩ := D9 (vf hx) WH YV I.fr.tm h
   have hF := (I.fr.ext ei.ext).put AO hv
   rw [<- ny] at hF;obtain ⟨M2, I2⟩ := I.act C BH hi hb hA lr ei hF
   have := next I2
   rw [ny] at this;simp only [Oper.wp];rcases jZ with jZ | ⟨jZ, rfl⟩
   ·rw [jZ]; exact this
   ·rw [jZ]; exact this
  | call f args hw lq h =>
   rw [mq I.fr.tm nP (Wr.trans hw), if_pos rfl]
   left
   rw [lq] at hx;have hA : nS io (F i) := ⟨hw, by rw [lq]; simp [sort]⟩
   obtain ⟨Tz, mF⟩ := I.next C BH hi hb hA
   have YV := I.text C Tz (Nat.le_of_lt bt) mF
   obtain ⟨f0, V9, ts0, Rj, hf, Q6⟩ := GK hx
   have im : ux.eval f = (F i).eval f := rL f (by rw [lq]; simp [oR])
   have hae : args.map ux.eval = args.map (F i).eval := pe fun x Q7 => rL x (by rw [lq]; simp [oR, Q7])
   rw [<- im, <- hae] at h
   cases Jw : ux.eval f <;> simp only [Jw, fM, reduceCtorEq] at h
   rename_i g x y
   obtain ⟨aw, jZ, hv⟩ := Mw (w := w) (P := P) Rj hf Q6 WH I.fr.tm Jw
   simp only [Oper.wp];rw [jZ];rcases bF _ _ _ _ h base ρ w aw YV WH hv with ⟨h1, h2⟩ | ⟨v, v', e, h1, h2⟩
   ·rw [h1]
    simp only [Oper.upon];refine h2.mono fun e w' hp => ?_
    obtain ⟨ρ1, v', rfl, zh, lr, ei⟩ := hp
    have hF := (I.fr.ext ei.ext).put AO zh
    rw [<- ny] at hF;obtain ⟨M2, I2⟩ := I.act C BH hi hb hA lr ei hF
    have := next I2
    rw [ny] at this;exact this
   ·rw [h1]
    simp only [Oper.upon];simp only [Fin.ret.injEq] at e;obtain ⟨rfl, e⟩ := e
    have hF := I.fr.put AO h2
    rw [<- ny] at hF;obtain ⟨M2, I2⟩ := I.act C BH hi hb hA (by rw [e]; exact YV) (by rw [e]; exact .refl _ _ _) hF
    have := next I2
    rw [ny] at this;exact this
end
theorem xM {i j : Nat} : ∀ {l : List (Nat × Nat)}, (i, j) ∈ l -> bV i j l = true
 | [], h => by cases h
 | (a, b) :: l, h => by
  simp only [bV];rcases oQ.1 h with e | h
  ·cases e
   simp
  ·have := xM h
   cases h1 : a.beq i <;> simp only [cond_true, cond_false]
   ·exact this
   ·cases h2 : b.beq j <;> simp only [cond_true, cond_false]
    ·exact this
theorem Oi {n i j : Nat} (h : i < j) (hj : j < n) : (i, j) ∈ Mt n := by
 unfold Mt;refine List.mem_flatMap.2 ⟨j, by simpa using hj, List.mem_map.2 ⟨i, by simpa using h, rfl⟩⟩
theorem xI {acc : List (List Nat)} {BL : List Nat} (h : ∀ k i, (BL.getD k 0).testBit i = true -> i ∈ acc.getD k []) : ∀ (es : List Edge) (i : Nat), (AH BL es).testBit i = true ->
  i ∈ (es.filter fH).flatMap fun e => e.on :: acc.getD e.on []
 | [], i, hi => by simp [AH] at hi
 | e :: es, i, hi => by
  simp only [AH] at hi
  cases hp : fH e with
  | false =>
   simp only [hp, cond_false] at hi;rw [List.filter_cons, hp];exact xI h es i hi
  | true =>
   simp only [hp, cond_true, Nat.testBit_or, Bool.or_eq_true, Nat.testBit_two_pow, decide_eq_true_eq] at hi;rw [List.filter_cons, hp];simp only [if_true, List.flatMap_cons, uy, oQ];rcases hi with (hi | hi) | hi
   ·exact .inl (.inl hi.symm)
   ·exact .inl (.inr (h _ _ hi))
   ·exact .inr (xI h es i hi)
theorem Gg : ∀ (l : List Oper) (acc : List (List Nat)) (BL : List Nat), BL.length = acc.length -> (∀ k i, (BL.getD k 0).testBit i = true -> i ∈ acc.getD k []) ->
  ∀ k i, ((Ja l BL).getD k 0).testBit i = true -> i ∈ (fo l acc).getD k []
 | [], _, _, _, h => h
 | o :: l, acc, BL, hl, h => by
  refine Gg l _ _ (by simp [hl]) fun k i hi => ?_
  by_cases hk : k < BL.length
  ·rw [List.getD_eq_getElem?_getD, A9 hk, <- List.getD_eq_getElem?_getD] at hi
   rw [List.getD_eq_getElem?_getD, A9 (by omega), <- List.getD_eq_getElem?_getD];exact h k i hi
  ·rw [List.getD_eq_getElem?_getD, BO (by omega)] at hi
   rw [List.getD_eq_getElem?_getD, BO (by omega)];rw [hl] at hi
   cases hx : k - acc.length with
   | zero =>
    rw [hx] at hi;simp only [List.getElem?_cons_zero, Option.getD_some] at hi ⊢
    exact xI h _ i hi
   | succ x => rw [hx] at hi; simp at hi
theorem HT {l : List Oper} {is : List aY} {chk : List (Nat × Nat)} (h : rX l is = some chk) : uZ l 0 = true /\
  ∀ (i j : Nat) (io jo : aY), i < j -> is[i]? = some io -> is[j]? = some jo -> i ∉ (fo l []).getD j [] ->
   ¬ (sort io.op = 3 /\ sort jo.op = 3) /\ (∀ t, io.dst = some t -> t ∉ named jo) /\ (∀ t, jo.dst = some t -> t ∉ named io) /\ (sort io.op = 2 -> sort jo.op = 3 -> bV i j chk = true) /\ (sort io.op = 3 -> sort jo.op = 2 -> bV j i chk = true) := by
 unfold rX at h;simp only [Bool.cond_eq_ite] at h
 split at h
 ·rename_i hq
  simp only [pC] at hq;obtain ⟨h1, h2⟩ := hq
  refine ⟨h1, fun i j io jo UA BH YP mF => ?_⟩
  have hm : (i, j) ∈ (Mt is.length).filter fun (p : Nat × Nat) => !((Ja l []).getD p.2 0).testBit p.1 := by
   refine List.mem_filter.2 ⟨Oi UA (rc.1 YP).1, ?_⟩
   cases hb : ((Ja l []).getD j 0).testBit i with
   | false => simp only [hb, Bool.not_false]
   | true => exact absurd (Gg l [] [] rfl (fun k i h => by simp at h) j i hb) mF
  have h3 := List.all_eq_true.1 h2 (i, j) hm
  simp only [BH, YP, Option.map_some, Option.getD_some, Option.bind_some, pC] at h3;obtain ⟨⟨h4, h5⟩, h6⟩ := h3
  simp only [bc] at h;refine ⟨fun ⟨a, b⟩ => by rw [a, b] at h4; simp at h4, fun t ht => ?_, fun t ht => ?_, fun a b => ?_, fun a b => ?_⟩
  ·rw [ht] at h5; simpa using h5
  ·rw [ht] at h6; simpa using h6
  ·rw [<- h]
   refine xM (List.mem_flatMap.2 ⟨(i, j), hm, ?_⟩)
   simp [BH, YP, a, b]
  ·rw [<- h]
   refine xM (List.mem_flatMap.2 ⟨(i, j), hm, ?_⟩)
   simp [BH, YP, a, b]
 ·cases h
theorem LN (iv : P.follows .mixedOrders = true) (bF : pB P G call) {base id : Nat} {ops : Array Oper} {is : List aY} {chk : List (Nat × Nat)} (Tv : ops.toList.mapM (uj P G n ops) = some is)
  (VK : rX ops.toList is = some chk) {ρ : ep} {m : Mem} {w : World} {fr : Fr} {a : Act} {out : Out} (hR : R base ρ m w) (hG : jt G ρ) (hF : BN ρ n fr a)
  (h : dG call chk m.next is 0 fr ⟨m.next + is.length, m.gB⟩ [] [] = some out) : (Code.region id ops true).wp P (Reach base n ρ m w out) a w := by
 obtain ⟨zl, XB⟩ := HT VK
 obtain ⟨hlen, XQ⟩ := mapM_some _ Tv
 have hlen : ops.size = is.length := by simpa using hlen
 obtain ⟨F, M, V, f0, m0, Eu, XR⟩ := R2 is 0 fr _ [] [] out h
 simp only [Nat.zero_add] at Eu;subst Eu;have C : Cx P G n call ops is chk m.next F M V := by
  refine ⟨fun i io hi => ?_, fun k o hk => by simpa using XR.at_ k o hk, fun k o agg x l q hk hl hL hA hp => ?_, XB⟩
  ·have bt : i < ops.size := by have := (rc.1 hi).1; omega
   exact ⟨ops[i], Array.getElem?_eq_getElem bt, XQ i ops[i] io (by simp [bt]) hi⟩
  ·have := XR.c1 k o agg x l q hk hl (by simpa using hL) (by simpa using hA) (by simpa using hp)
   simpa using this
 refine wp_region_draw fun t => ?_
 have q : E8 w { w with drawn := w.drawn + 1 } := ⟨rfl, rfl, rfl, rfl⟩
 generalize { w with drawn := w.drawn + 1 } = w1 at q
 have hl := G4 iv ops zl t
 have Iu := FP zl hl
 generalize Region.schedule (P.follows .mixedOrders) ops t = l at hl Iu
 have lr := hR.quiet q
 have ei : Step ρ m w ρ m w1 := .quiet q
 have lM : ∀ b, (M 0).get b = m.get b := fun b => by rw [m0]; rfl
 have Jt : (M 0).next = m.next + is.length := by rw [m0]
 have hR2 : R base ρ (M 0) w1 := ⟨fun b L hb => by rw [Jt]; have := lr.lt b L hb; omega, fun b L hb => by rw [lM]; exact lr.c9 b L hb,
  fun b c L L' h1 h2 h3 h4 => lr.inj b c L L' h1 h2 (by unfold Live at *; rwa [lM] at h3) (by unfold Live at *; rwa [lM] at h4), lr.base, fun b hb => by rw [lM]; exact lr.clean b (by rw [Jt] at hb; omega)⟩
 have aaZ : Step ρ m w ρ (M 0) w1 := ⟨ei.ext, ei.new, by rw [Jt]; omega, fun b hb hn => by rw [lM], fun b hb hd => by rw [lM]; exact hd, ei.size,
  fun i hi ⟨b, L, h1, h2, h3, h4⟩ => ⟨b, L, h1, by unfold Live at *; rwa [lM] at h2, h3, h4⟩, ei.kept, ei.os, ei.tape, ei.output⟩
 have XP : ∀ t, ∀ k, zY is F V [] t k = (F 0).get t := by
  intro t k
  induction k with
  | zero => rfl
  | succ k ih => simp only [zY]; rw [if_neg (by simp)]; exact ih
 have I : Inv n ops is m.next F M V base ρ m w [] 0 ρ (M 0) fr a w1 := by
  refine ⟨rfl, by simp, by simp, by simp, .inl rfl, hR2, rfl, by rw [Jt]; omega, by simp, fun b _ => rfl, fun j _ hj => ?_, fun j B _ h => absurd h (by omega), fun j _ _ => ?_, aaZ, hF, fun t => by rw [XP, f0], by rw [f0]⟩
  ·exfalso
   apply hj
   cases e : ρ (m.next + j) with
   | none => rfl
   | some L => have := hR.lt _ _ e; omega
  ·rw [lM]; exact hR.clean _ (by omega)
 refine Yh bF C hG l [] 0 ρ (M 0) fr a w1 I (fun k i hk => ?_) (fun i hi => .inr ((hl.all i).2 (by omega)))
 refine ⟨by have := (hl.all i).1 (List.mem_of_getElem? hk); omega, by simp, ?_, fun b hb => .inr (Iu i k hk b hb)⟩
 intro Ex
 obtain ⟨k', nH⟩ := List.mem_iff_getElem?.1 Ex
 have bt : k' < k := by have := (rc.1 nH).1; simp at this; omega
 rw [List.getElem?_take, if_pos bt] at nH
 have h1 := rc.1 hk
 have h2 := rc.1 nH
 obtain ⟨g1, e1⟩ := h1
 obtain ⟨g2, e2⟩ := h2
 exact List.pairwise_iff_getElem.1 hl.nodup k' k g2 g1 bt (by rw [e1, e2])
end
end
end Go.Proofs.YtdiccmapankckaaDoor.Ev
