/- EvOpG, EvOp, EvOps, EvDraw, EvSched, EvMake, EvDraws, EvDrawEnd. -/
import Derived.Test.YtblcomejcahkdaaDoorMa
set_option linter.unusedSimpArgs false
set_option linter.unusedVariables false
set_option linter.unusedSectionVars false
set_option linter.defProp false
set_option maxRecDepth 20000
set_option maxHeartbeats 8000000
namespace Go.Proofs.YtblcomejcahkdaaDoor.Ev
open Go
section
section
variable {base : Nat} {ρ : Ren} {m : Mem} {w : World} {P : Program}
theorem Dk (hR : R base ρ m w) {t u e : TypeId} {size : Nat} (ht : P.underlying t = some (.slice e)) (hs : dJ P e = some size) {d s : EV} {d' s' : Value} (hd : VR ρ d d') (hx : VR ρ s s') {v : EV} {m' : Mem} (h : pn m size d s = some (v, m')) :
  qA P (Builtin.copy_ #[t, u] t #[d', s']) base ρ m w v m' := by
 unfold pn at h
 cases hd <;> simp only [reduceCtorEq] at h
 case aa =>
  obtain ⟨nx, fO, h2⟩ := fG.1 h
  cases h2
  obtain ⟨s1, s2, s3⟩ := ft (P := P) hR hx size (n := nx.1) (xs := nx.2) fO
  obtain ⟨vs, f1, f2, f3⟩ := s3 0 (pF _)
  refine ⟨ρ, w, .int .i64 0, ?_, .int _ _, hR, .refl _ _ _⟩
  unfold Builtin.copy_;simp only [List.getElem?_toArray, List.getElem?_cons_zero, List.getElem?_cons_succ, Sem.run_bind, run_underlying ht, Result.andThen_ok, s1, bg hs];rw [show Nat.min nx.1 0 = 0 by simp];simp only [f1, Result.andThen_ok, Sem.run_pure, goInt]
  rfl
 case slice b off len c o L hL hc ho hr =>
  cases fO : m.source size s with
  | none => simp [fO] at h
  | some nx =>
  obtain ⟨n, xs⟩ := nx
  simp only [fO] at h;obtain ⟨m1, OM, h2⟩ := fG.1 h
  cases h2
  obtain ⟨s1, s2, s3⟩ := ft (P := P) hR hx size fO
  obtain ⟨vs, f1, f2, f3⟩ := s3 (min n len) (Nat.min_le_left _ _)
  obtain ⟨w', r1, r2, r3⟩ := lr (P := P) hR hL f2 f3 OM
  have cx : (storeCells ⟨L.bT, o, none⟩ vs).run P w = .ok () w' := by
   rcases Nat.eq_zero_or_pos len with h0 | h0
   ·have : vs = [] := by
     have := f2.length
     rw [h0] at this;simp at this
     exact List.eq_nil_of_length_eq_zero this.symm
    subst this;exact r1
   ·rw [ho h0]; exact r1
  refine ⟨ρ, w', .int .i64 (min n len : Nat), ?_, .int _ _, r2, r3⟩
  unfold Builtin.copy_;simp only [List.getElem?_toArray, List.getElem?_cons_zero, List.getElem?_cons_succ, Sem.run_bind, run_underlying ht, Result.andThen_ok, s1, bg hs];rw [show Nat.min n len = min n len from rfl];simp only [f1, Result.andThen_ok, Sem.run_pure, goInt, cx]
 case dD b off a =>
  cases fO : m.source size s with
  | none => simp [fO] at h
  | some nx =>
  obtain ⟨n, xs⟩ := nx
  simp only [fO] at h;obtain ⟨m1, OM, h2⟩ := fG.1 h
  cases h2
  obtain ⟨s1, s2, s3⟩ := ft (P := P) hR hx size fO
  obtain ⟨vs, f1, f2, f3⟩ := s3 (min n 0) (Nat.min_le_left _ _)
  obtain ⟨q1, q2⟩ := EX (by rw [Nat.min_zero, Nat.zero_mul, List.take_zero] at OM; exact OM)
  obtain ⟨r2, r3⟩ := hR.Iv q1 q2
  have pG : vs = [] := by
   have := f2.length
   simp at this
   exact List.eq_nil_of_length_eq_zero this.symm
  subst pG;refine ⟨ρ, w, .int .i64 (min n 0 : Nat), ?_, .int _ _, r2, r3⟩
  unfold Builtin.copy_;simp only [List.getElem?_toArray, List.getElem?_cons_zero, List.getElem?_cons_succ, Sem.run_bind, run_underlying ht, Result.andThen_ok, s1, bg hs];rw [show Nat.min n 0 = min n 0 from rfl];simp only [f1, Result.andThen_ok, Sem.run_pure, goInt, storeCells]
 case cT b off len c o L hL hc ho =>
  cases fO : m.source size s with
  | none => simp [fO] at h
  | some nx =>
  obtain ⟨n, xs⟩ := nx
  simp only [fO] at h;obtain ⟨m1, OM, h2⟩ := fG.1 h
  cases h2
  obtain ⟨s1, s2, s3⟩ := ft (P := P) hR hx size fO
  obtain ⟨vs, f1, f2, f3⟩ := s3 (min n len) (Nat.min_le_left _ _)
  obtain ⟨w', r1, r2, r3⟩ := lr (P := P) hR hL f2 f3 OM
  have cx : (storeCells ⟨L.bT, o, none⟩ vs).run P w = .ok () w' := by
   rcases Nat.eq_zero_or_pos len with h0 | h0
   ·have : vs = [] := by
     have := f2.length
     rw [h0] at this;simp at this
     exact List.eq_nil_of_length_eq_zero this.symm
    subst this;exact r1
   ·rw [ho (by omega)]; exact r1
  refine ⟨ρ, w', .int .i64 (min n len : Nat), ?_, .int _ _, r2, r3⟩
  unfold Builtin.copy_;simp only [List.getElem?_toArray, List.getElem?_cons_zero, List.getElem?_cons_succ, Sem.run_bind, run_underlying ht, Result.andThen_ok, s1, bg hs];rw [show Nat.min n len = min n len from rfl];simp only [f1, Result.andThen_ok, Sem.run_pure, goInt, cx]
def O7 (P : Program) (kt : TypeId) (c : Nat) : Prop := ∃ d, P.underlying kt = some d /\ ((c = 0 /\ d = .bool) \/ (c = 1 /\ d = .string) \/ (c = 2 /\ ∃ k, d = .int k))
theorem pu {kt : TypeId} {c : Nat} (h : yE P kt = some c) : O7 P kt c := by
 unfold yE at h
 cases hu : P.underlying kt with
 | none => simp [hu] at h
 | some d =>
  rw [hu] at h;refine ⟨d, hu, ?_⟩
  cases d <;> simp at h <;> subst h <;> simp
theorem ev {kt : TypeId} {c : Nat} (h : O7 P kt c) (b : Bool) (n : Nat) (v : Value) (w : World) : (Instr.checkKey b (n + 1) kt v).run P w = .ok () w := by
 obtain ⟨d, hu, h⟩ := h
 rcases h with ⟨_, rfl⟩ | ⟨_, rfl⟩ | ⟨_, k, rfl⟩ <;> simp [Instr.checkKey, run_underlying hu]
theorem oX : ∀ {a b : Int}, mD a b = decide (a = b)
 | .ofNat a, .ofNat b => by
  simp only [mD]
  cases h : a.beq b with
  | true => simp [aB h]
  | false => have := gw h; simp; omega
 | .negSucc a, .negSucc b => by
  simp only [mD]
  cases h : a.beq b with
  | true => simp [aB h]
  | false => have := gw h; simp [this]
 | .ofNat a, .negSucc b => by simp [mD]
 | .negSucc a, .ofNat b => by simp [mD]
theorem Gw {k l : IntKind} (h : 2 + bf k = 2 + bf l) : k = l := fY (by rw [show bf k = bf l by omega]; exact cd _)
theorem Js {kt : TypeId} {c : Nat} {d : TypeDesc} (hu : P.underlying kt = some d) (hd : (c = 0 /\ d = .bool) \/ (c = 1 /\ d = .string) \/ (c = 2 /\ ∃ k, d = .int k)) {k l : EV} {k' l' : Value} (hk : VR ρ k k') (hl : VR ρ l l') (l8 : iX c k = true) (hs : hJ l = hJ k) :
  Instr.sameNow d k' l' = some (EV.same k l) /\ (EV.same k l = true -> Instr.sameBits 10000 l' k' = true) := by
 cases hk <;> simp only [iX, lm] at l8
 case bool a =>
  cases hl <;> simp only [hJ] at hs <;> (try (omega))
  ·have := aB l8; subst this
   rcases hd with ⟨_, rfl⟩ | ⟨h, _⟩ | ⟨h, _⟩
   ·exact ⟨rfl, fun h => by simp [EV.same] at h; simp [Instr.sameBits, h]⟩
   ·cases h
   ·cases h
 case int x a =>
  cases hl <;> simp only [hJ] at hs <;> (try (exfalso; cases x <;> simp [bf] at hs; done))
  ·have := aB l8; subst this
   obtain rfl := Gw hs
   rcases hd with ⟨h, _⟩ | ⟨h, _⟩ | ⟨_, kk, rfl⟩
   ·cases h
   ·cases h
   ·refine ⟨?_, fun h => ?_⟩
    ·simp only [Instr.sameNow, if_true, EV.same, cd, cond_true, oX]; rfl
    ·simp only [EV.same, cd, cond_true, oX, decide_eq_true_eq] at h
     simp [Instr.sameBits, h]
 case str a =>
  cases hl <;> simp only [hJ] at hs <;> (try omega)
  ·have := aB l8; subst this
   rcases hd with ⟨h, _⟩ | ⟨_, rfl⟩ | ⟨h, _⟩
   ·cases h
   ·refine ⟨?_, fun h => ?_⟩
    ·simp only [Instr.sameNow, EV.same, dh, bytes_beq]
    ·simp only [EV.same, dh, decide_eq_true_eq] at h
     simp [Instr.sameBits, bytes_beq, h]
   ·cases h
def xp (ρ : Ren) (es : List (EV × EV)) (ds : List MapEntry) : Prop := es.length = ds.length /\ ∀ (i : Nat) (e : EV × EV) (d : MapEntry), es[i]? = some e -> ds[i]? = some d -> QK ρ e d
theorem xp.cons {e : EV × EV} {es : List (EV × EV)} {ds : List MapEntry} (h : xp ρ (e :: es) ds) : ∃ d nQ, ds = d :: nQ /\ QK ρ e d /\ xp ρ es nQ := by
 cases ds with
 | nil => have := h.1; simp at this
 | cons d nQ => exact ⟨d, nQ, rfl, h.2 0 e d rfl rfl, by have := h.1; simpa using this, fun i a b ha hb => h.2 (i + 1) a b (by simpa using ha) (by simpa using hb)⟩
theorem ph {kt : TypeId} {c : Nat} {d : TypeDesc} (hu : P.underlying kt = some d) (hd : (c = 0 /\ d = .bool) \/ (c = 1 /\ d = .string) \/ (c = 2 /\ ∃ k, d = .int k)) {k : EV} {k' : Value} (hk : VR ρ k k') (l8 : iX c k = true) :
  ∀ (es : List (EV × EV)) (ds : List MapEntry) (i : Nat), xp ρ es ds -> kp k es = true ->
   (Instr.findNow d k' ds i = some none /\ find k es = none /\ (∀ v, update k v es = es ++ [(k, v)]) /\ erase k es = es) \/
   (∃ j v v' old, Instr.findNow d k' ds i = some (some (i + j, v')) /\ find k es = some v /\ VR ρ v v' /\ ds[j]? = some old /\ old.val = v' /\ (∀ u, update k u es = es.set j (k, u)) /\ erase k es = es.eraseIdx j /\ j < es.length /\ Instr.sameBits 10000 old.key k' = true) := by
 intro es
 induction es with
 | nil =>
  intro ds i h _
  have : ds = [] := by have := h.1; simp at this; exact List.eq_nil_of_length_eq_zero this.symm
  subst this;exact .inl ⟨rfl, rfl, fun _ => rfl, rfl⟩
 | cons e es ih =>
  intro ds i h hs
  obtain ⟨x, nQ, rfl, hx, hr⟩ := h.cons
  obtain ⟨l, u⟩ := e
  simp only [kp] at hs
  cases JI : (hJ l).beq (hJ k) <;> simp only [JI, cond_true, cond_false, lm] at hs
  obtain ⟨iM, Lo⟩ := Js hu hd hk hx.1 l8 (aB JI)
  cases hq : EV.same k l with
  | true =>
   right
   refine ⟨0, u, x.val, x, ?_, ?_, hx.2, rfl, rfl, fun z => ?_, ?_, by simp, Lo hq⟩
   ·simp only [Instr.findNow, iM, hq]; rfl
   ·simp [find, hq]
   ·simp [update, hq]
   ·simp [erase, hq]
  | false =>
   rcases ih nQ (i + 1) hr hs with ⟨a1, a2, a3, a4⟩ | ⟨j, v, v', old, a1, a2, a3, a4, a5, a6, a7, a8, a9⟩
   ·left
    refine ⟨?_, by simp [find, hq, a2], fun z => by simp [update, hq, a3], by simp [erase, hq, a4]⟩
    simp only [Instr.findNow, iM, hq]; exact a1
   ·right
    refine ⟨j + 1, v, v', old, ?_, by simp [find, hq, a2], a3, by simpa using a4, a5, fun z => by simp [update, hq, a6], by simp [erase, hq, a7], by simp; omega, a9⟩
    simp only [Instr.findNow, iM, hq];rw [a1]; congr 3; omega
theorem mK {c : Nat} {k : EV} {es : List (EV × EV)} (h : e7 c k es = true) : iX c k = true /\ kp k es = true := by
 unfold e7 at h
 cases hk : iX c k <;> simp only [hk, cond_true, cond_false, lm] at h
 exact ⟨rfl, h⟩
theorem xQ (hR : R base ρ m w) {b : Nat} {L : Loc} (hL : ρ b = some L) {es : List (EV × EV)} (hm : m.get b = .map es) : ∃ ds c, w.heap[L.bT]? = some (.map ds c) /\ xp ρ es ds.toList /\ base <= L.bT /\ L.ro = false := by
 have := hR.bT b L hL
 rw [hm] at this;obtain ⟨ds, c, h1, h2, h3, h4⟩ := this
 exact ⟨ds, c, h1, ⟨by simpa using h2, fun i e d he hd => h3 i e d he (by simpa using hd)⟩, h4⟩
theorem od (hR : R base ρ m w) {b : Nat} {L : Loc} (hL : ρ b = some L) {es fs : List (EV × EV)} (hm : m.get b = .map es) {ds gs : Array MapEntry} {c c' : Nat} (hw : w.heap[L.bT]? = some (.map ds c)) (he : xp ρ fs gs.toList) (Ai : base <= L.bT) (lQ : L.ro = false) :
  R base ρ (m.set b (.map fs)) { w with heap := w.heap.setIfInBounds L.bT (.map gs c') } /\ Step ρ m w ρ (m.set b (.map fs)) { w with heap := w.heap.setIfInBounds L.bT (.map gs c') } := by
 have oA : Live m b := by unfold Live; rw [hm]; simp
 have jW : ∀ d, d ≠ b -> (m.set b (.map fs)).get d = m.get d := fun d hd => by rw [Mem.ba, if_neg hd]
 have uk : ∀ d, Live (m.set b (.map fs)) d -> Live m d := by
  intro d hd
  by_cases e : d = b
  ·subst e; exact oA
  ·unfold Live at hd ⊢; rwa [jW d e] at hd
 have aP : L.bT < w.heap.size := (Array.getElem?_eq_some_iff.1 hw).1
 have x7 : ∀ k, k ≠ L.bT -> (w.heap.setIfInBounds L.bT (.map gs c'))[k]? = w.heap[k]? := fun k hk => by rw [Array.getElem?_setIfInBounds_ne (by omega)]
 refine ⟨⟨hR.lt, fun d M hM => ?_, fun d f M M' h1 h2 h3 h4 => hR.inj d f M M' h1 h2 (uk d h3) (uk f h4), by simpa using hR.base, fun d hd => by rw [jW d (fun e => by subst e; have := hR.lt _ _ hL; rw [Mem.cG] at hd; omega)]; exact hR.clean d hd⟩,
  ⟨.refl ρ, fun _ h h' => absurd h h', ee _, fun d hd hn => jW d (fun e => by subst e; rw [hL] at hn; cases hn), fun d _ hd => by rw [jW d (fun e => by subst e; rw [hm] at hd; cases hd)]; exact hd, by simp, fun i hi => ?_, fun i hi hr => x7 i (fun e => hr ⟨b, L, hL, oA, lQ, e.symm⟩), rfl, rfl, rfl⟩⟩
 ·by_cases e : d = b
  ·subst e
   rw [hL] at hM; cases hM
   rw [Mem.ba, if_pos rfl];refine ⟨gs, c', by simp [aP], by simpa using he.1, fun i x y hx hy => he.2 i x y hx (by simpa using hy), Ai, lQ⟩
  ·rw [jW d e]
   by_cases hl : m.get d = .dead
   ·rw [hl]; trivial
   ·have iv : M.bT ≠ L.bT := fun oD => e (hR.inj b d L M hL hM oA hl lQ oD.symm).symm
    exact (hR.bT d M hM).of_heap (.refl ρ) (x7 _ iv)
 ·rintro ⟨d, M, hM, h1, h2, h3⟩
  exact ⟨d, M, hM, uk d h1, h2, h3⟩
theorem run_getObj_map {r : Nat} {ds : Array MapEntry} {c : Nat} (h : w.heap[r]? = some (.map ds c)) : (getObj r).run P w = .ok (.map ds c) w := by
 simp only [getObj, Sem.run, h]
theorem run_setObj_map {r : Nat} {ds : Array MapEntry} {c : Nat} (h : w.heap[r]? = some (.map ds c)) (o : Obj) : (setObj r o).run P w = .ok () { w with heap := w.heap.setIfInBounds r o } := by
 simp only [setObj, Sem.run, h]
theorem xR (hR : R base ρ m w) {t kt e : TypeId} {c : Nat} (ht : P.underlying t = some (.map kt e)) (hc : yE P kt = some c) {z : EV} (hz : xj P e = some z) {mp k : EV} {OG k' : Value} (R9 : VR ρ mp OG) (hk : VR ρ k k') {ok : Bool} {fr : aD -> EV} {om OC : aD} (e1 : fr om = mp) (e2 : fr OC = k) {v : EV} {m' : Mem}
  (h : ap fr (.lookup c z ok om OC) m = some (.val v m')) : qA P (Instr.lookup t OG k' ok) base ρ m w v m' := by
 obtain ⟨zv, z1, z2⟩ := s6 (ρ := ρ) hz
 have sC := pu hc
 have JU := sC
 obtain ⟨d, hu, hd⟩ := JU
 simp only [ap, e1, e2] at h
 cases R9 <;> simp only [reduceCtorEq] at h
 case aS =>
  cases l8 : iX c k <;> simp only [l8, cond_true, cond_false, reduceCtorEq, aQ, R1.val.injEq] at h
  obtain ⟨rfl, rfl⟩ := h
  refine ⟨ρ, w, if ok then .tuple #[zv, .bool false] else zv, ?_, ?_, hR, .refl _ _ _⟩
  ·simp only [Instr.lookup, Sem.run_bind, run_underlying ht, Result.andThen_ok, Sem.run_pure, ev sC, Instr.findKey, run_underlying hu, Instr.findNow, z1]
  ·cases ok
   ·exact z2
   ·exact .tuple (.cons z2 (.cons (.bool _) .nil))
 case map b L hL =>
  cases hm : m.get b with
  | dead => simp [hm] at h
  | cells => simp [hm] at h
  | map es =>
  simp only [hm] at h
  cases MO : e7 c k es <;> simp only [MO, cond_true, cond_false, reduceCtorEq] at h
  obtain ⟨l8, JI⟩ := mK MO
  obtain ⟨ds, cl, hw, nk, _, _⟩ := xQ hR hL hm
  rcases ph hu hd hk l8 es ds.toList 0 nk JI with ⟨a1, a2, _, _⟩ | ⟨j, x, x', old, a1, a2, a3, a4, a5, _⟩
  ·simp only [a2, aQ, R1.val.injEq] at h
   obtain ⟨rfl, rfl⟩ := h
   refine ⟨ρ, w, if ok then .tuple #[zv, .bool false] else zv, ?_, ?_, hR, .refl _ _ _⟩
   ·simp only [Instr.lookup, Sem.run_bind, run_underlying ht, Result.andThen_ok, Sem.run_pure, run_getObj_map hw, ev sC, Instr.findKey, run_underlying hu, a1, z1]
   ·cases ok
    ·exact z2
    ·exact .tuple (.cons z2 (.cons (.bool _) .nil))
  ·simp only [a2, aQ, R1.val.injEq] at h
   obtain ⟨rfl, rfl⟩ := h
   refine ⟨ρ, w, if ok then .tuple #[x', .bool true] else x', ?_, ?_, hR, .refl _ _ _⟩
   ·simp only [Instr.lookup, Sem.run_bind, run_underlying ht, Result.andThen_ok, Sem.run_pure, run_getObj_map hw, ev sC, Instr.findKey, run_underlying hu, a1]
   ·cases ok
    ·exact a3
    ·exact .tuple (.cons a3 (.cons (.bool _) .nil))
theorem p7 (hR : R base ρ m w) {t kt e : TypeId} {c : Nat} (ht : P.underlying t = some (.map kt e)) (hc : yE P kt = some c) {mp k x : EV} {OG k' x' : Value} (R9 : VR ρ mp OG) (hk : VR ρ k k') (hx : VR ρ x x') {fr : aD -> EV} {om OC ox : aD} (e1 : fr om = mp) (e2 : fr OC = k) (e3 : fr ox = x) {v : EV} {m' : Mem}
  (h : ap fr (.kY c om OC ox) m = some (.val v m')) : ∃ w', (Instr.mapUpdate t OG k' x').run P w = .ok () w' /\ v = .undef /\ R base ρ m' w' /\ Step ρ m w ρ m' w' := by
 have sC := pu hc
 have JU := sC
 obtain ⟨d, hu, hd⟩ := JU
 simp only [ap, e1, e2, e3] at h
 cases R9 <;> simp only [reduceCtorEq] at h
 case map b L hL =>
  cases hm : m.get b with
  | dead => simp [hm] at h
  | cells => simp [hm] at h
  | map es =>
  simp only [hm] at h
  cases MO : e7 c k es <;> simp only [MO, cond_true, cond_false, reduceCtorEq, aQ, R1.val.injEq] at h
  obtain ⟨l8, JI⟩ := mK MO
  obtain ⟨rfl, rfl⟩ := h
  obtain ⟨ds, cl, hw, nk, hb, lQ⟩ := xQ hR hL hm
  rcases ph hu hd hk l8 es ds.toList 0 nk JI with ⟨a1, _, a3, _⟩ | ⟨j, y, y', old, a1, _, _, a4, a5, a6, _, a8, a9⟩
  ·obtain ⟨q1, q2⟩ := od (c' := cl + 1) hR hL hm hw (fs := update k x es) (gs := ds.push { key := k', val := x', born := cl }) (by
    rw [a3];refine ⟨by simp [nk.1], fun i p q hp hq => ?_⟩
    simp only [Array.toList_push] at hq;by_cases hi : i < es.length
    ·rw [rB hi] at hp
     rw [rB (by rw [<- nk.1]; exact hi)] at hq
     exact nk.2 i p q hp hq
    ·rw [qJ (by omega)] at hp
     rw [qJ (by rw [<- nk.1]; omega), <- nk.1] at hq
     have h0 : i - es.length = 0 := by
      have := (kO.1 hp).1
      simp at this; omega
     rw [h0] at hp hq;simp at hp hq
     subst hp hq
     exact ⟨hk, hx⟩) hb lQ
   refine ⟨_, ?_, rfl, q1, q2⟩
   simp only [Instr.mapUpdate, Sem.run_bind, run_underlying ht, Result.andThen_ok, Sem.run_pure, run_getObj_map hw, ev sC, Instr.findKey, run_underlying hu, a1, run_setObj_map hw]
  ·have Lr : j < ds.size := by have := nk.1; simp at this; omega
   have ur : ds[j]? = some old := by simpa using a4
   obtain ⟨q1, q2⟩ := od (c' := cl) hR hL hm hw (fs := update k x es) (gs := ds.modify j fun e => { e with key := k', val := x' }) (by
    rw [a6];refine ⟨by simp; simpa using nk.1, fun i p q hp hq => ?_⟩
    rw [Array.getElem?_toList, Array.getElem?_modify] at hq;rw [List.getElem?_set] at hp;by_cases Ls : j = i
    ·subst Ls
     rw [if_pos rfl, if_pos a8] at hp;rw [if_pos rfl, ur] at hq
     cases hp; cases hq
     exact ⟨hk, hx⟩
    ·rw [if_neg Ls] at hp
     rw [if_neg Ls] at hq;exact nk.2 i p q hp (by simpa using hq)) hb lQ
   refine ⟨_, ?_, rfl, q1, q2⟩
   simp only [Instr.mapUpdate, Sem.run_bind, run_underlying ht, Result.andThen_ok, Sem.run_pure, run_getObj_map hw, ev sC, Instr.findKey, run_underlying hu, a1, Nat.zero_add, ur, Option.map_some, Option.getD_some, Instr.keyThatStays, a9, if_true, run_setObj_map hw]
theorem yx (hR : R base ρ m w) {t u kt e : TypeId} {c : Nat} (ht : P.underlying t = some (.map kt e)) (hc : yE P kt = some c) {mp k : EV} {OG k' : Value} (R9 : VR ρ mp OG) (hk : VR ρ k k') {fr : aD -> EV} {om OC : aD} (e1 : fr om = mp) (e2 : fr OC = k) {v : EV} {m' : Mem} (ty : TypeId)
  (h : ap fr (.delete c om OC) m = some (.val v m')) : qA P (Builtin.delete_ #[t, u] ty #[OG, k']) base ρ m w v m' := by
 have sC := pu hc
 have JU := sC
 obtain ⟨d, hu, hd⟩ := JU
 simp only [ap, e1, e2] at h
 cases R9 <;> simp only [reduceCtorEq] at h
 case aS =>
  cases l8 : iX c k <;> simp only [l8, cond_true, cond_false, reduceCtorEq, aQ, R1.val.injEq] at h
  obtain ⟨rfl, rfl⟩ := h
  refine ⟨ρ, w, .tuple #[], ?_, .tuple .nil, hR, .refl _ _ _⟩
  simp only [Builtin.delete_, List.getElem?_toArray, List.getElem?_cons_zero, List.getElem?_cons_succ, Sem.run_bind, run_underlying ht, Result.andThen_ok, ev sC, Sem.run_pure]
 case map b L hL =>
  cases hm : m.get b with
  | dead => simp [hm] at h
  | cells => simp [hm] at h
  | map es =>
  simp only [hm] at h
  cases MO : e7 c k es <;> simp only [MO, cond_true, cond_false, reduceCtorEq, aQ, R1.val.injEq] at h
  obtain ⟨l8, JI⟩ := mK MO
  obtain ⟨rfl, rfl⟩ := h
  obtain ⟨ds, cl, hw, nk, hb, lQ⟩ := xQ hR hL hm
  rcases ph hu hd hk l8 es ds.toList 0 nk JI with ⟨a1, _, _, a4⟩ | ⟨j, y, y', old, a1, _, _, a4, _, _, a7, a8, _⟩
  ·obtain ⟨q1, q2⟩ := od (c' := cl) hR hL hm hw (fs := erase k es) (gs := ds) (by rw [a4]; exact nk) hb lQ
   refine ⟨ρ, _, .tuple #[], ?_, .tuple .nil, q1, q2⟩
   simp only [Builtin.delete_, List.getElem?_toArray, List.getElem?_cons_zero, List.getElem?_cons_succ, Sem.run_bind, run_underlying ht, Result.andThen_ok, run_getObj_map hw, ev sC, Instr.findKey, run_underlying hu, a1, Sem.run_pure, run_setObj_map hw]
  ·obtain ⟨q1, q2⟩ := od (c' := cl) hR hL hm hw (fs := erase k es) (gs := ds.eraseIdxIfInBounds j) (by
    rw [a7];have Lr : j < ds.size := by have := nk.1; simp at this; omega
    have hl : (ds.eraseIdxIfInBounds j).toList = ds.toList.eraseIdx j := by
     simp [Array.eraseIdxIfInBounds, Lr]
    rw [hl];refine ⟨by rw [List.length_eraseIdx, List.length_eraseIdx, nk.1], fun i p q hp hq => ?_⟩
    rw [List.getElem?_eraseIdx] at hp hq;by_cases Ls : i < j
    ·rw [if_pos Ls] at hp hq; exact nk.2 i p q hp hq
    ·rw [if_neg Ls] at hp hq; exact nk.2 (i + 1) p q hp hq) hb lQ
   refine ⟨ρ, _, .tuple #[], ?_, .tuple .nil, q1, q2⟩
   simp only [Builtin.delete_, List.getElem?_toArray, List.getElem?_cons_zero, List.getElem?_cons_succ, Sem.run_bind, run_underlying ht, Result.andThen_ok, run_getObj_map hw, ev sC, Instr.findKey, run_underlying hu, a1, Sem.run_pure, Nat.zero_add, run_setObj_map hw]
theorem Jd : ∀ (l : List EV) (l' : List Value) (k : IntKind) (x : Int) (v : EV), cS ρ l l' -> gZ k x l = some v -> ∃ v', VR ρ v v' /\ (l'.foldlM Builtin.max2 (.int k x)).run P w = .ok v' w := by
 intro l
 induction l with
 | nil => intro l' k x v hl h; cases hl; simp [gZ] at h; subst h; exact ⟨_, .int _ _, rfl⟩
 | cons y l ih =>
  intro l' k x v hl h
  cases hl with
  | cons hy hs =>
  cases hy with
  | int k2 n =>
   simp only [gZ] at h
   cases hk : (bf k).beq (bf k2) <;> simp only [hk, cond_true, cond_false, reduceCtorEq] at h
   obtain rfl := fY hk
   obtain ⟨v', h1, h2⟩ := ih _ k _ v hs h
   exact ⟨v', h1, by simp only [List.foldlM_cons, Builtin.max2, Sem.run_bind, Sem.run_pure, Result.andThen_ok, h2]⟩
  | _ => simp [gZ] at h
theorem Ja : ∀ (l : List EV) (l' : List Value) (k : IntKind) (x : Int) (v : EV), cS ρ l l' -> ku k x l = some v -> ∃ v', VR ρ v v' /\ (l'.foldlM Builtin.min2 (.int k x)).run P w = .ok v' w := by
 intro l
 induction l with
 | nil => intro l' k x v hl h; cases hl; simp [ku] at h; subst h; exact ⟨_, .int _ _, rfl⟩
 | cons y l ih =>
  intro l' k x v hl h
  cases hl with
  | cons hy hs =>
  cases hy with
  | int k2 n =>
   simp only [ku] at h
   cases hk : (bf k).beq (bf k2) <;> simp only [hk, cond_true, cond_false, reduceCtorEq] at h
   obtain rfl := fY hk
   obtain ⟨v', h1, h2⟩ := ih _ k _ v hs h
   exact ⟨v', h1, by simp only [List.foldlM_cons, Builtin.min2, Sem.run_bind, Sem.run_pure, Result.andThen_ok, h2]⟩
  | _ => simp [ku] at h
theorem Gj {l : List EV} {l' : List Value} (hl : cS ρ l l') {v : EV} (h : lH l = some v) (a : Array TypeId) (t : TypeId) : ∃ v', VR ρ v v' /\ (Builtin.max_ a t ⟨l'⟩).run P w = .ok v' w := by
 cases hl with
 | nil => simp [lH] at h
 | cons hx hs =>
  cases hx with
  | int k n => exact Jd _ _ k n v hs h
  | _ => simp [lH] at h
theorem Gh {l : List EV} {l' : List Value} (hl : cS ρ l l') {v : EV} (h : sc l = some v) (a : Array TypeId) (t : TypeId) : ∃ v', VR ρ v v' /\ (Builtin.min_ a t ⟨l'⟩).run P w = .ok v' w := by
 cases hl with
 | nil => simp [sc] at h
 | cons hx hs =>
  cases hx with
  | int k n => exact Ja _ _ k n v hs h
  | _ => simp [sc] at h
end
end
section
section
variable {G : List Nat} {base : Nat} {ρ : Ren} {m : Mem} {w : World} {P : Program} {n : Nat} {fr : Fr} {a : Act}
theorem dC {v : EV} {m m' : Mem} {x : Option EV} (h : dQ m x = some (.val v m')) : x = some v /\ m' = m := by
 unfold dQ at h;obtain ⟨y, hy, h2⟩ := fG.1 h
 cases h2
 exact ⟨hy, rfl⟩
theorem iU {v : EV} {m' : Mem} {x : Option (EV × Mem)} (h : oq x = some (.val v m')) : x = some (v, m') := by
 unfold oq at h;obtain ⟨y, hy, h2⟩ := fG.1 h
 cases h2
 exact hy
theorem Mp {v : EV} {m' : Mem} {x : Option Mem} (h : ofM x = some (.val v m')) : x = some m' /\ v = .undef := by
 unfold ofM at h;obtain ⟨y, hy, h2⟩ := fG.1 h
 cases h2
 exact ⟨hy, rfl⟩
theorem af {α β : Type} {x : Option α} {f : α -> β} {y : β} (h : x.map f = some y) : ∃ a, x = some a /\ f a = y := fG.1 h
theorem KA {op : BinOp} {neg : Bool} (jk : (op = .eql /\ neg = false) \/ (op = .neq /\ neg = true)) {t : TypeId} {e : mw} (he : j3 P 20 t = some e) (kz : P.eqGuardType P.depth t = false \/ ∃ ms, P.underlying t = some (.interface ms)) {ox oy : Operand} {x y : EV} {x' y' : Value} (hx : VR ρ x x') (hy : VR ρ y y') {b : Bool} (h : cL e x y = some b) :
  ((do eqGuard op t ox oy x' y'; binOp op t x' y') : Sem Value).run P w = .ok (.bool (neg ^^ b)) w := by
 have hr := Db (P := P) (w := w) 20 t e he Op.maxDepth (by decide) x y x' y' hx hy b h
 have P8 : (eqGuard op t ox oy x' y').run P w = .ok () w := by
  cases hx with
  | agg hv hf =>
   cases hy with
   | agg ll hf' =>
    rcases kz with kz | ⟨ms, TE⟩
    ·rcases jk with ⟨rfl, rfl⟩ | ⟨rfl, rfl⟩ <;> simp [eqGuard, kz]
    ·simp [j3, TE] at he
     subst he;simp [cL, ca] at h
   | undef => cases e <;> simp [cL, ca] at h
   | _ => rcases jk with ⟨rfl, rfl⟩ | ⟨rfl, rfl⟩ <;> rfl
  | undef => cases e <;> simp [cL, ca] at h
  | aq =>
   cases hy with
   | aq =>
    exfalso
    cases e with
    | ax k => simp [cL, ca] at h
    | agg es => simp [cL] at h
   | undef => cases e <;> simp [cL, ca] at h
   | _ => rcases jk with ⟨rfl, rfl⟩ | ⟨rfl, rfl⟩ <;> rfl
  | _ => rcases jk with ⟨rfl, rfl⟩ | ⟨rfl, rfl⟩ <;> rfl
 simp only [Sem.run_bind, P8, Result.andThen_ok]
 -- whole numbers and strings YI Th by other ways
 cases hx with
 | int k z =>
  cases hy with
  | int l u =>
   cases e with
   | agg es => simp [cL] at h
   | ax q =>
    simp only [cL, ca] at h
    cases hq : q.beq 1 <;> simp only [hq, cond_true, cond_false, reduceCtorEq] at h
    cases hk : (bf k).beq (bf l) <;> simp only [hk, cond_true, cond_false, reduceCtorEq, aQ] at h
    obtain rfl := fY hk
    subst h;rcases jk with ⟨rfl, rfl⟩ | ⟨rfl, rfl⟩
    ·simp [binOp, Op.intCmp]; rfl
    ·simp [binOp, Op.intCmp]; rfl
  | _ => cases e <;> simp [cL, ca] at h
 | str s =>
  cases hy with
  | str s2 =>
   cases e with
   | agg es => simp [cL] at h
   | ax q =>
    simp only [cL, ca] at h
    cases hq : q.beq 2 <;> simp only [hq, cond_true, cond_false, reduceCtorEq, aQ] at h
    subst h;rcases jk with ⟨rfl, rfl⟩ | ⟨rfl, rfl⟩ <;> simp only [binOp, Op.stringOp, pw, dh, tZ] <;> simp
  | _ => cases e <;> simp [cL, ca] at h
 | _ =>
  cases hy <;> (first
   | (cases e <;> simp [cL, ca] at h; done)
   | (rcases jk with ⟨rfl, rfl⟩ | ⟨rfl, rfl⟩
      ·simp only [binOp, Op.equal, Sem.run_bind, hr, Result.andThen_ok, Sem.run_pure]; simp
      ·simp only [binOp, Op.equal, Sem.run_bind, hr, Result.andThen_ok, Sem.run_pure]; simp))
theorem A4 {o : Oper} {c : Go.Call} (ho : o.op = .call c) {b : Builtin} (hb : c.callee = .builtin b) :
  execOp a.eval o = builtin b c.argTypes o.type (c.args.map fun | .const _ => true | _ => false) (c.args.map a.eval) := by
 simp only [execOp, ho, resolve, hb]
 rfl
theorem Gs (hR : R base ρ m w) {t ty : TypeId} {e : TypeId} (hu : P.underlying t = some (.slice e)) {x : EV} {x' : Value} (hx : VR ρ x x') {v : EV} {fr : aD -> EV} {ox : aD} (e1 : fr ox = x) {m' : Mem} (h : ap fr (.len ox) m = some (.val v m')) :
  qA P (Builtin.len_ #[t] ty #[x']) base ρ m w v m' := by
 simp only [ap, e1] at h
 cases hx <;> simp only [reduceCtorEq, aQ, R1.val.injEq] at h
 all_goals
  obtain ⟨rfl, rfl⟩ := h
  exact ⟨ρ, w, _, by simp only [Builtin.len_, List.getElem?_toArray, List.getElem?_cons_zero, Sem.run_bind, run_underlying hu, Result.andThen_ok, Sem.run_pure, goInt] <;> rfl, .int _ _, hR, .refl _ _ _⟩
theorem xU (hR : R base ρ m w) {t ty : TypeId} (hu : P.underlying t = some .string) {x : EV} {x' : Value} (hx : VR ρ x x') {v : EV} {fr : aD -> EV} {ox : aD} (e1 : fr ox = x) {m' : Mem} (h : ap fr (.eH ox) m = some (.val v m')) :
  qA P (Builtin.len_ #[t] ty #[x']) base ρ m w v m' := by
 simp only [ap, e1] at h
 cases hx <;> simp only [reduceCtorEq, aQ, R1.val.injEq] at h
 case str s =>
  obtain ⟨rfl, rfl⟩ := h
  exact ⟨ρ, w, .int .i64 (s.size : Int), by simp [Builtin.len_, run_underlying hu, goInt], .int _ _, hR, .refl _ _ _⟩
theorem xV (hR : R base ρ m w) {t ty k e : TypeId} (hu : P.underlying t = some (.map k e)) {x : EV} {x' : Value} (hx : VR ρ x x') {v : EV} {fr : aD -> EV} {ox : aD} (e1 : fr ox = x) {m' : Mem} (h : ap fr (.lP ox) m = some (.val v m')) :
  qA P (Builtin.len_ #[t] ty #[x']) base ρ m w v m' := by
 simp only [ap, e1] at h
 cases hx <;> simp only [reduceCtorEq, aQ, R1.val.injEq] at h
 case aS =>
  obtain ⟨rfl, rfl⟩ := h
  exact ⟨ρ, w, _, by simp only [Builtin.len_, List.getElem?_toArray, List.getElem?_cons_zero, Sem.run_bind, run_underlying hu, Result.andThen_ok, Sem.run_pure, goInt] <;> rfl, .int _ _, hR, .refl _ _ _⟩
 case map b L hL =>
  cases hm : m.get b with
  | dead => simp [hm] at h
  | cells => simp [hm] at h
  | map es =>
   simp only [hm, aQ, R1.val.injEq] at h;obtain ⟨rfl, rfl⟩ := h
   obtain ⟨ds, c, hw, he, _⟩ := xQ hR hL hm
   refine ⟨ρ, w, .int .i64 (ds.size : Int), ?_, ?_, hR, .refl _ _ _⟩
   ·simp [Builtin.len_, run_underlying hu, goInt, run_getObj_map hw]
   ·have := he.1
    simp at this
    rw [this]; exact .int _ _
theorem vO (hR : R base ρ m w) {b : Builtin} {ts : List TypeId} {vo : List Value} {ys : List aD} (hv : cS ρ (ys.map fr.eval) vo) {io : iR} (hc : nS P b ts ys = some io) (ty : TypeId) (cs : Array Bool) {v : EV} {m' : Mem} (h : ap fr.eval io m = some (.val v m')) :
  Good base ρ m w v m' ((builtin b ⟨ts⟩ ty cs ⟨vo⟩).run P w) := by
 unfold nS at hc
 split at hc
 ·-- len
  rename_i t x
  cases hv with
  | cons hx hn =>
  cases hn
  cases hu : P.underlying t with
  | none => simp [hu] at hc
  | some d =>
   rw [hu] at hc
   cases d <;> simp only [reduceCtorEq, aQ] at hc <;> subst hc
   case string => exact (xU hR hu hx rfl h).ni
   case slice e => exact (Gs hR hu hx rfl h).ni
   case map k e => exact (xV hR hu hx rfl h).ni
   case array k e =>
    simp only [ap, aQ, R1.val.injEq] at h;obtain ⟨rfl, rfl⟩ := h
    exact Good.still (s := Builtin.len_ #[t] ty #[_]) hR (by simp [Builtin.len_, run_underlying hu, goInt]) (.int _ _)
 ·-- cap
  rename_i t x
  cases hv with
  | cons hx hn =>
  cases hn
  cases hu : P.underlying t with
  | none => simp [hu] at hc
  | some d =>
   rw [hu] at hc
   cases d <;> simp only [reduceCtorEq, aQ] at hc
   subst hc;simp only [ap] at h;generalize l9 : fr.eval x = e at hx h
   cases hx <;> simp only [reduceCtorEq, aQ, R1.val.injEq] at h
   all_goals
    obtain ⟨rfl, rfl⟩ := h
    exact Good.still (s := Builtin.cap_ #[t] ty #[_]) hR (by simp [Builtin.cap_, run_underlying hu, goInt]) (.int _ _)
 ·-- max
  cases hc
  simp only [ap] at h;obtain ⟨h1, rfl⟩ := dC h
  obtain ⟨v', r1, r2⟩ := Gj (P := P) (w := w) hv h1 ⟨ts⟩ ty
  exact Good.still (s := Builtin.max_ ⟨ts⟩ ty ⟨vo⟩) hR r2 r1
 ·cases hc
  simp only [ap] at h;obtain ⟨h1, rfl⟩ := dC h
  obtain ⟨v', r1, r2⟩ := Gh (P := P) (w := w) hv h1 ⟨ts⟩ ty
  exact Good.still (s := Builtin.min_ ⟨ts⟩ ty ⟨vo⟩) hR r2 r1
 ·-- append
  rename_i t u s x
  cases hv with
  | cons hs hn =>
  cases hn with
  | cons hx hn =>
  cases hn
  obtain ⟨e, he, hc⟩ := Option.bind_eq_some_iff.1 hc
  obtain ⟨_, fO, hc⟩ := Option.bind_eq_some_iff.1 hc
  obtain ⟨i, hi, hc⟩ := Option.bind_eq_some_iff.1 hc
  obtain ⟨z, hz, hc⟩ := Option.bind_eq_some_iff.1 hc
  obtain ⟨_, hq, hc⟩ := Option.bind_eq_some_iff.1 hc
  cases wP : z.length.beq i.size <;> simp only [wP, cond_true, cond_false, reduceCtorEq] at hq
  cases hb : i.bytes.ble 65536 <;> simp only [hb, cond_true, cond_false, reduceCtorEq, aQ] at hc
  subst hc;have ht : P.underlying t = some (.slice e) := by
   unfold DV at he
   split at he
   ·cases he; assumption
   ·cases he
  have wS : ∃ du, P.underlying u = some du /\ ((∃ v, du = .slice v) \/ du = .string) := by
   unfold Ow at fO
   split at fO
   ·exact ⟨_, by assumption, .inl ⟨_, rfl⟩⟩
   ·exact ⟨_, by assumption, .inr rfl⟩
   ·cases fO
  obtain ⟨du, hu, wS⟩ := wS
  simp only [ap] at h;have Wh := yI (P := P) hR ht hu wS hi hz (aB wP) (lk hb) hs hx (iU h)
  obtain ⟨ρ', w', v', r1, r2⟩ := Wh
  exact (show qA P (Builtin.append_ #[t, u] ty #[_, _]) base ρ m w v m' from ⟨ρ', w', v', r1, r2⟩).ni
 ·-- copy
  rename_i t u s x
  cases hv with
  | cons hs hn =>
  cases hn with
  | cons hx hn =>
  cases hn
  cases ht : P.underlying t with
  | none => simp [ht] at hc
  | some dt =>
   rw [ht] at hc
   cases dt <;> simp only [reduceCtorEq] at hc
   rename_i e
   cases hz : dJ P e with
   | none => simp [hz] at hc
   | some k =>
    simp only [hz, aQ] at hc;subst hc;simp only [ap] at h;obtain ⟨ρ', w', v', r1, r2⟩ := Dk (P := P) (u := u) hR ht hz hs hx (iU h)
    exact (show qA P (Builtin.copy_ #[t, u] ty #[_, _]) base ρ m w v m' from ⟨ρ', w', v', r1, r2⟩).ni
 ·-- delete
  rename_i t u s x
  cases hv with
  | cons hs hn =>
  cases hn with
  | cons hx hn =>
  cases hn
  cases ht : P.underlying t with
  | none => simp [ht] at hc
  | some dt =>
   rw [ht] at hc
   cases dt <;> simp only [reduceCtorEq] at hc
   rename_i kt e
   obtain ⟨c, hk, rfl⟩ := af hc
   exact (yx (P := P) (u := u) hR ht hk hs hx rfl rfl ty h).ni
 ·cases hc
theorem Good.tO {v : EV} {s : Sem Value} (hR : R base ρ m w) (h : ∃ v', VR ρ v v' /\ s.run P w = .ok v' w) : Good base ρ m w v m ((do pure (Next.value (<- s)) : Sem Next).run P w) :=
 let ⟨_, h1, h2⟩ := h; Good.still hR h2 h1
theorem gr {t e : TypeId} (h : nr P t = some e) : P.underlying t = some (.slice e) := by
 unfold nr at h; split at h <;> cases h; assumption
theorem nZ {t : TypeId} {q : Nat × TypeId} (h : qN P t = some q) : P.underlying t = some (.array q.1 q.2) := by
 unfold qN at h; split at h <;> cases h; assumption
theorem oW {t : TypeId} {fs : Array Field} (h : pK P t = some fs) : P.underlying t = some (.struct fs) := by
 unfold pK at h; split at h <;> cases h; assumption
theorem pL {t : TypeId} {q : TypeId × TypeId} (h : Bu P t = some q) : P.underlying t = some (.map q.1 q.2) := by
 unfold Bu at h; split at h <;> cases h; assumption
theorem hH {t : TypeId} {u : Unit} (h : ls P t = some u) : P.underlying t = some .string := by
 unfold ls at h; split at h <;> cases h; assumption
theorem sK {t : TypeId} {k : IntKind} (h : HR P t = some k) : P.underlying t = some (.int k) := by
 unfold HR at h; split at h <;> cases h; assumption
theorem E6 {t : TypeId} {u : Unit} (h : Bv P t = some u) : ∃ ms, P.underlying t = some (.interface ms) := by
 unfold Bv at h; split at h <;> cases h; exact ⟨_, by assumption⟩
theorem qM {t : TypeId} {u : Unit} (h : tc P t = some u) : ∃ d, P.underlying t = some d /\ ∀ ms, d ≠ .interface ms := by
 unfold tc at h
 cases hu : P.underlying t with
 | none => rw [hu] at h; cases h
 | some d => rw [hu] at h; refine ⟨d, rfl, fun ms e => ?_⟩; subst e; cases h
theorem fw {b : Bool} {u : Unit} (h : qX b = some u) : b = true := by
 unfold qX at h; cases b <;> simp at h; rfl
theorem dE {x y : Option iR} {r : iR} (h : Lh x y = some r) : x = some r \/ y = some r := by
 unfold Lh at h
 cases x with
 | none => exact .inr h
 | some z => exact .inl h
theorem ae {α β : Type} {x : Option α} {f : α -> Option β} {y : β} (h : x.bind f = some y) : ∃ a, x = some a /\ f a = some y := Option.bind_eq_some_iff.1 h
theorem tN {o : Oper} {io : iR} (hc : O2 P G o = some io) (hG : fJ G ρ) (hR : R base ρ m w) (hF : FR ρ n fr a) {v : EV} {m' : Mem} (h : ap fr.eval io m = some (.val v m')) :
  Good base ρ m w v m' ((execOp a.eval o).run P w) := by
 have E : ∀ {x : Operand} {y : aD}, cR G x = some y -> VR ρ (fr.eval y) (a.eval x) := fun h => eK hG hF h
 have EO : ∀ {x : Option Operand} {y : Option aD}, A2 G x = some y -> mT ρ (y.map fr.eval) (x.map a.eval) := fun h => DA hG hF h
 unfold O2 at hc
 split at hc
 case h_1 x ho =>
  obtain ⟨y, hy, rfl⟩ := af hc
  simp only [ap, aQ, R1.val.injEq] at h;obtain ⟨rfl, rfl⟩ := h
  exact ⟨ρ, w, a.eval x, .inl (by simp only [execOp, ho]; rfl), E hy, hR, .refl _ _ _⟩
 case h_2 x ho =>
  obtain ⟨y, hy, rfl⟩ := af hc
  simp only [ap, aQ, R1.val.injEq] at h;obtain ⟨rfl, rfl⟩ := h
  exact ⟨ρ, w, a.eval x, .inl (by simp only [execOp, ho]; rfl), E hy, hR, .refl _ _ _⟩
 case h_3 c x y ho =>
  obtain ⟨c', h1, hc⟩ := ae hc
  obtain ⟨x', h2, hc⟩ := ae hc
  obtain ⟨y', h3, rfl⟩ := af hc
  have CR := E h1
  simp only [ap] at h;generalize fr.eval c' = cv at CR h
  generalize nI : a.eval c = cc at CR
  cases CR <;> simp only [reduceCtorEq, aQ, R1.val.injEq] at h
  rename_i b
  obtain ⟨rfl, rfl⟩ := h
  refine ⟨ρ, w, if b then a.eval x else a.eval y, .inl (by simp only [execOp, ho, nI, asBool, Sem.run_bind, Sem.run_pure, Result.andThen_ok]), ?_, hR, .refl _ _ _⟩
  cases b
  ·exact E h3
  ·exact E h2
 case h_4 e ho =>
  obtain ⟨z, hz, rfl⟩ := af hc
  simp only [ap, aQ, R1.val.injEq] at h;obtain ⟨rfl, rfl⟩ := h
  simp only [execOp, ho];exact ((u0 hR.n hz).runs hR).ni
 case h_5 e x ho =>
  obtain ⟨y, hy, rfl⟩ := af hc
  simp only [ap] at h
  cases fx : (fr.eval y).cells with
  | none => simp [fx] at h
  | some cs =>
   simp only [fx, aQ, R1.val.injEq] at h;obtain ⟨rfl, rfl⟩ := h
   simp only [execOp, ho];exact ((A6 hR.n (E hy) fx).runs hR).ni
 case h_6 t parts ho =>
  obtain ⟨z, hz, hc⟩ := ae hc
  obtain ⟨zv, z1, z2, z3⟩ := jK (ρ := ρ) hz
  rcases dE hc with hc | hc
  ·obtain ⟨fs, hu, hc⟩ := ae hc
   obtain ⟨_, hall, hc⟩ := ae hc
   obtain ⟨ps, hp, rfl⟩ := af hc
   have hu := oW hu
   have hall := fw hall
   simp only [ap] at h;have hE := dC (x := (cU z (ps.map fun p => (p.1, p.2.1, fr.eval p.2.2))).map .agg) h
   obtain ⟨Ql, Qk⟩ := hE
   subst Qk;obtain ⟨ds, hf, Sy⟩ := fG.1 Ql
   subst Sy;obtain ⟨p1, p2⟩ := rJ hG hF hp
   have MM : ∀ (l : List Field) (w : World), (∀ f ∈ l, ∃ s, dJ P f.type = some s) -> (l.mapM fun (f : Field) => (do pure (f.offset, <- sizeOf f.type) : Sem (Nat × Nat))).run P w = .ok (l.map fun f => (f.offset, (dJ P f.type).getD 0)) w := by
    intro l w hl
    induction l with
    | nil => rfl
    | cons f l ih =>
     obtain ⟨s, hs⟩ := hl f (by simp)
     simp only [List.mapM_cons, Sem.run_bind, bg hs, Result.andThen_ok, Sem.run_pure, ih (fun g hg => hl g (by simp [hg])), List.map_cons, hs, Option.getD_some]
   have Bo := MM fs.toList w (fun f hf => Option.isSome_iff_exists.1 (List.all_eq_true.1 hall f hf))
   obtain ⟨nQ, f1, f2, f3, _⟩ := pi (ρ := ρ) (place := fun i => (fs.toList.map fun f => (f.offset, (dJ P f.type).getD 0)).toArray[i]?) _ (parts.toList.map fun p => (p.1, a.eval p.2)) z zv.cells z2 z3 p1 (fun i p q hp' wP => by
    obtain ⟨g1, g2⟩ := p2 i p q hp' wP
    refine ⟨?_, g2⟩
    obtain ⟨f, my, V8⟩ := ae g1
    obtain ⟨s, iM, Lo⟩ := af V8
    rw [<- Lo];have : fs.toList[q.1]? = some f := by simpa using my
    simp [my, iM]) ds hf
   have gz : (Instr.build t (parts.map fun (i, x) => (i, a.eval x))).run P w = .ok (.agg nQ) w := by
    simp only [Instr.build, Sem.run_bind, z1, Result.andThen_ok, run_underlying hu, Array.toList_map];rw [show (fs.mapM fun f => (do pure (f.offset, <- sizeOf f.type) : Sem (Nat × Nat))).run P w = .ok (fs.toList.map fun f => (f.offset, (dJ P f.type).getD 0)).toArray w by
     rw [Array.mapM_eq_mapM_toList, Sem.run_map, Bo]; rfl]
    simp only [Result.andThen_ok, f1, Sem.run_pure]
   simp only [execOp, ho];exact Good.still hR gz (.agg f2 f3)
  ·obtain ⟨q, hu, hc⟩ := ae hc
   obtain ⟨s, hs, hc⟩ := ae hc
   obtain ⟨ps, hp, rfl⟩ := af hc
   have hu := nZ hu
   simp only [ap] at h;have hE := dC (x := (cU z (ps.map fun p => (p.1, p.2.1, fr.eval p.2.2))).map .agg) h
   obtain ⟨Ql, Qk⟩ := hE
   subst Qk;obtain ⟨ds, hf, Sy⟩ := fG.1 Ql
   subst Sy;obtain ⟨p1, p2⟩ := rJ hG hF hp
   obtain ⟨nQ, f1, f2, f3, _⟩ := pi (ρ := ρ) (place := fun i => some (i * s, s)) _ (parts.toList.map fun p => (p.1, a.eval p.2)) z zv.cells z2 z3 p1 (fun i p q hp' wP => p2 i p q hp' wP) ds hf
   have gz : (Instr.build t (parts.map fun (i, x) => (i, a.eval x))).run P w = .ok (.agg nQ) w := by
    simp only [Instr.build, Sem.run_bind, z1, Result.andThen_ok, run_underlying hu, Array.toList_map, bg hs, f1, Sem.run_pure]
   simp only [execOp, ho];exact Good.still hR gz (.agg f2 f3)
 case h_7 t len parts ho =>
  obtain ⟨e, hu, hc⟩ := ae hc
  obtain ⟨s, hs, hc⟩ := ae hc
  obtain ⟨z, hz, hc⟩ := ae hc
  obtain ⟨ps, hp, hc⟩ := ae hc
  obtain ⟨_, x4, hc⟩ := ae hc
  obtain ⟨_, hl, rfl⟩ := af hc
  have hu := gr hu
  simp only [ap] at h
  cases fx : cU (cH len z) (ps.map fun p => (p.1 * s, s, fr.eval p.2)) with
  | none => simp [fx] at h
  | some cs =>
   simp only [fx, aQ, R1.val.injEq] at h;obtain ⟨rfl, rfl⟩ := h
   obtain ⟨p1, p2⟩ := mapM_some _ hp
   have hb := si (P := P) hR.n hu hs hz (aB (fw x4)) (lk (fw hl)) (qs := parts.toList.map fun p => (p.1, a.eval p.2)) (by simpa using p1.symm) (fun i p q hp' wP => by
    rw [List.getElem?_map] at hp' wP
    obtain ⟨p0, R2, rfl⟩ := fG.1 hp'
    obtain ⟨q0, RZ, rfl⟩ := fG.1 wP
    obtain ⟨x, hx, Vz⟩ := af (p2 i q0 p0 RZ R2)
    subst Vz;exact ⟨⟨rfl, rfl⟩, E hx⟩) fx
   simp only [execOp, ho];have : (parts.map fun (i, x) => (i, a.eval x)) = (⟨parts.toList.map fun p => (p.1, a.eval p.2)⟩ : Array (Nat × Value)) := by apply Array.ext'; simp
   rw [this];exact (hb.runs hR).ni
 case h_8 t x ho =>
  obtain ⟨g, hg, hc⟩ := ae hc
  obtain ⟨y, hy, rfl⟩ := af hc
  simp only [ap] at h;obtain ⟨h1, h2⟩ := dC h
  subst h2;obtain ⟨ad, v', e1, e2, e3⟩ := oO (P := P) hR hg (E hy) h1
  simp only [execOp, ho];refine Good.still (s := Instr.loadAt t (a.eval x)) hR (v' := v') ?_ e3
  rw [e1];simp only [Instr.loadAt, Instr.sureAddr, Sem.run_bind, Sem.run_pure, Result.andThen_ok, e2]
 case h_9 t x y ho =>
  obtain ⟨s, hs, hc⟩ := ae hc
  obtain ⟨x', hx, hc⟩ := ae hc
  obtain ⟨y', hy, rfl⟩ := af hc
  simp only [ap] at h;obtain ⟨h1, rfl⟩ := Mp h
  have mX := E hx
  have vi := E hy
  unfold Mem.store at h1
  cases Q2 : fr.eval x' <;> simp only [Q2, reduceCtorEq] at h1
  rename_i b off
  cases fx : (fr.eval y').cells with
  | none => simp [fx] at h1
  | some vs =>
   simp only [fx] at h1
   cases hl : vs.length.beq s <;> simp only [hl, cond_true, cond_false, reduceCtorEq] at h1
   rw [Q2] at mX;generalize x9 : a.eval x = av at mX
   cases mX with
   | @ptr _ _ L hL =>
   obtain ⟨c1, c2⟩ := vi.cells fx
   obtain ⟨w', r1, r2, r3⟩ := lr (P := P) hR hL c1 c2 h1
   refine ⟨ρ, w', undef, .inr ⟨?_, rfl⟩, .undef, r2, r3⟩
   have lU : (a.eval y).cells.size = s := by rw [<- aB hl, c1.length]; simp
   simp only [execOp, ho, x9, Instr.storeAt, Instr.sureAddr, storeVar, Sem.run_bind, Sem.run_pure, Result.andThen_ok, bg hs];rw [if_neg (by simp [lU])]
   simp only [r1, Result.andThen_ok]
 case h_10 x ho =>
  obtain ⟨y, hy, rfl⟩ := af hc
  have vi := E hy
  simp only [ap] at h;generalize fr.eval y = e at vi h
  generalize x9 : a.eval x = av at vi
  cases vi <;> simp only [reduceCtorEq, aQ, R1.val.injEq] at h
  case ptr b off L hL =>
   obtain ⟨rfl, rfl⟩ := h
   exact ⟨ρ, w, _, .inl (by simp only [execOp, ho, x9]; rfl), .ptr hL, hR, .refl _ _ _⟩
  case func f p q p' q' h1 h2 =>
   obtain ⟨rfl, rfl⟩ := h
   exact ⟨ρ, w, _, .inl (by simp only [execOp, ho, x9]; rfl), .func h1 h2, hR, .refl _ _ _⟩
  case iface t p p' h1 =>
   obtain ⟨rfl, rfl⟩ := h
   exact ⟨ρ, w, _, .inl (by simp only [execOp, ho, x9]; rfl), .iface h1, hR, .refl _ _ _⟩
 case h_11 op t x y yt ho =>
  obtain ⟨x', hx, hc⟩ := ae hc
  obtain ⟨y', hy, hc⟩ := ae hc
  have plain : op ≠ .eql -> op ≠ .neq -> some (iR.bin op x' y') = some io -> Good base ρ m w v m' ((execOp a.eval o).run P w) := by
   intro n1 n2 hc
   cases hc
   simp only [ap] at h;obtain ⟨h1, h2⟩ := dC h
   subst h2;obtain ⟨v', r1, r2⟩ := AM (P := P) (w := w) (t := t) (E hx) (E hy) h1
   simp only [execOp, ho];refine Good.still hR (v' := v') ?_ r1
   rw [vK n1 n2]
   simpa using r2
  have eqs : ∀ neg, ((op = .eql /\ neg = false) \/ (op = .neq /\ neg = true)) -> O3 P neg t x' y' = some io -> Good base ρ m w v m' ((execOp a.eval o).run P w) := by
   intro neg jk hc
   unfold O3 at hc;have : ∃ e, j3 P 20 t = some e /\ io = .eq neg e x' y' /\ (P.eqGuardType P.depth t = false \/ ∃ ms, P.underlying t = some (.interface ms)) := by
    cases hg : P.eqGuardType P.depth t <;> simp only [hg, cond_true, cond_false] at hc
    ·obtain ⟨e, he, rfl⟩ := af hc
     exact ⟨e, he, rfl, .inl rfl⟩
    ·obtain ⟨_, hi, rfl⟩ := af hc
     obtain ⟨ms, TE⟩ := E6 hi
     exact ⟨.ax 7, by simp [j3, TE], rfl, .inr ⟨ms, TE⟩⟩
   obtain ⟨e, he, rfl, kz⟩ := this
   simp only [ap] at h;have hE := dC (x := (cL e (fr.eval x') (fr.eval y')).map fun b => .bool (neg ^^ b)) h
   obtain ⟨Ql, Qk⟩ := hE
   subst Qk;obtain ⟨b, hb, Sy⟩ := fG.1 Ql
   subst Sy;have hr := KA (P := P) (w := w) (ox := x) (oy := y) jk he kz (E hx) (E hy) hb
   simp only [execOp, ho];exact Good.still hR hr (.bool _)
  cases op <;> first
   | exact eqs false (.inl ⟨rfl, rfl⟩) hc
   | exact eqs true (.inr ⟨rfl, rfl⟩) hc
   | exact plain (by simp) (by simp) hc
 case h_12 op t x ho =>
  obtain ⟨y, hy, rfl⟩ := af hc
  simp only [ap] at h;obtain ⟨h1, h2⟩ := dC h
  subst h2;obtain ⟨v', r1, r2⟩ := C2 (P := P) (w := w) (E hy) h1
  simp only [execOp, ho];exact Good.still hR r2 r1
 case h_13 s d x ho =>
  obtain ⟨y, hy, hc⟩ := ae hc
  have vi := E hy
  simp only [execOp, ho];rcases dE hc with hc | hc
  ·obtain ⟨_, hs, hc⟩ := ae hc
   obtain ⟨k, hd, rfl⟩ := af hc
   obtain ⟨ds, hs, _⟩ := qM hs
   have hd := sK hd
   simp only [ap] at h;have h1 := iU h
   generalize fr.eval y = e at vi h1
   generalize a.eval x = av at vi
   cases vi <;> simp only [fA, reduceCtorEq, aQ, kj] at h1
   obtain ⟨rfl, rfl⟩ := h1
   exact Good.still hR (KL hs hd _ _) (.int _ _)
  rcases dE hc with hc | hc
  ·obtain ⟨_, hs, hc⟩ := ae hc
   obtain ⟨_, hd, rfl⟩ := af hc
   simp only [ap] at h;have h1 := iU h
   generalize fr.eval y = e at vi h1
   generalize a.eval x = av at vi
   cases vi <;> simp only [fA, reduceCtorEq, aQ, kj] at h1
   obtain ⟨rfl, rfl⟩ := h1
   exact Good.still hR (Hb (hH hs) (hH hd) _) (.str _)
  rcases dE hc with hc | hc
  ·obtain ⟨_, hs, hc⟩ := ae hc
   obtain ⟨e, hd, hc⟩ := ae hc
   obtain ⟨k, he, hc⟩ := ae hc
   obtain ⟨_, hk, rfl⟩ := af hc
   have hk : k = .u8 := by have := aB (fw hk); cases k <;> simp [bf] at this; rfl
   subst hk;simp only [ap] at h;obtain ⟨B, rfl, hB⟩ := uQ (P := P) hR.n (hH hs) (gr hd) (sK he) vi (iU h)
   exact (hB.runs hR).ni
  ·obtain ⟨e, hs, hc⟩ := ae hc
   obtain ⟨_, hd, hc⟩ := ae hc
   obtain ⟨k, he, hc⟩ := ae hc
   obtain ⟨_, hk, rfl⟩ := af hc
   have hk : k = .u8 := by have := aB (fw hk); cases k <;> simp [bf] at this; rfl
   subst hk;simp only [ap] at h;exact (BG hR (gr hs) (sK he) (hH hd) vi (iU h)).ni
 case h_14 t x ho =>
  obtain ⟨_, hu, hc⟩ := ae hc
  obtain ⟨y, hy, rfl⟩ := af hc
  obtain ⟨d, hu, hd⟩ := qM hu
  simp only [ap, aQ, R1.val.injEq] at h;obtain ⟨rfl, rfl⟩ := h
  simp only [execOp, ho];refine Good.still (v' := .iface t (a.eval x)) hR ?_ (.iface (E hy))
  simp only [Instr.makeInterface, Sem.run_bind, run_underlying hu, Result.andThen_ok]
  cases d <;> first | rfl | exact absurd rfl (hd _)
 case h_15 f p c ho =>
  obtain ⟨p', hp, hc⟩ := ae hc
  obtain ⟨c', nI, rfl⟩ := af hc
  simp only [ap, aQ, R1.val.injEq] at h;obtain ⟨rfl, rfl⟩ := h
  have h1 := j0 hG hF hp
  have h2 := j0 hG hF nI
  simp only [execOp, ho];refine Good.still (v' := .func (.func f) (p.map a.eval) (c.map a.eval)) hR rfl ?_
  have e1 : p.map a.eval = ⟨p.toList.map a.eval⟩ := by apply Array.ext'; simp
  have e2 : c.map a.eval = ⟨c.toList.map a.eval⟩ := by apply Array.ext'; simp
  rw [e1, e2];exact .func h1 h2
 case h_16 t ho =>
  obtain ⟨_, _, rfl⟩ := af hc
  simp only [ap, aQ, R1.val.injEq] at h;obtain ⟨rfl, rfl⟩ := h
  simp only [execOp, ho];have := ((mI (P := P) hR.n).runs hR).ni
  simpa [Instr.makeMap] using this
 case h_17 t k z ho =>
  obtain ⟨q, hu, rfl⟩ := af hc
  have hu := pL hu
  simp only [ap, aQ, R1.val.injEq] at h;obtain ⟨rfl, rfl⟩ := h
  simp only [execOp, ho];have := ((mI (P := P) hR.n).runs hR).ni
  simpa [Instr.makeMap, run_underlying hu, Act.eval, asInt, asIntOf] using this
 case h_18 t l c ho =>
  obtain ⟨e, hu, hc⟩ := ae hc
  obtain ⟨i, hi, hc⟩ := ae hc
  obtain ⟨z, hz, hc⟩ := ae hc
  obtain ⟨l', hl, hc⟩ := ae hc
  obtain ⟨c', nI, hc⟩ := ae hc
  obtain ⟨_, x4, hc⟩ := ae hc
  obtain ⟨_, hb, rfl⟩ := af hc
  have oA := E hl
  have CR := E nI
  simp only [ap] at h;simp only [execOp, ho];generalize fr.eval l' = el at oA h
  generalize fr.eval c' = ec at CR h
  generalize a.eval l = al at oA
  generalize a.eval c = ac at CR
  cases oA <;> (try simp only [reduceCtorEq] at h)
  rename_i k1 n1
  cases k1 <;> (try simp only [reduceCtorEq] at h)
  cases n1 <;> (try simp only [reduceCtorEq] at h)
  rename_i ln
  cases CR <;> (try simp only [reduceCtorEq] at h)
  rename_i k2 n2
  cases k2 <;> (try simp only [reduceCtorEq] at h)
  cases n2 <;> (try simp only [reduceCtorEq] at h)
  rename_i cn
  cases h1 : ln.ble cn <;> simp only [h1, cond_true, cond_false, reduceCtorEq] at h
  cases h2 : cn.ble room <;> simp only [h2, cond_true, cond_false, reduceCtorEq, aQ, R1.val.injEq] at h
  obtain ⟨rfl, rfl⟩ := h
  exact ((p5 hR.n (gr hu) hi hz (aB (fw x4)) (lk (fw hb)) (lk h1) (lk h2)).runs hR).ni
 case h_19 t x lo hi mx ho =>
  obtain ⟨_, GG, hc⟩ := ae hc
  obtain ⟨x', hx, hc⟩ := ae hc
  obtain ⟨wF, kw, hc⟩ := ae hc
  obtain ⟨rf, oB, hc⟩ := ae hc
  obtain ⟨tV, pH, hc⟩ := ae hc
  have mX := E hx
  have oA := EO kw
  have Q9 := EO oB
  have R8 := EO pH
  have JS : (mx.map a.eval).isSome = true -> (hi.map a.eval).isSome = true := by
   have := fw GG
   cases mx <;> cases hi <;> simp at this ⊢
  simp only [execOp, ho];rcases dE hc with hc | hc
  ·obtain ⟨q, hu, hc⟩ := ae hc
   obtain ⟨s, hs, rfl⟩ := af hc
   have hu := nZ hu
   simp only [ap] at h;generalize fr.eval x' = e at mX h
   generalize a.eval x = av at mX
   cases mX <;> simp only [reduceCtorEq] at h
   rename_i b off L hL
   obtain ⟨h1, h2⟩ := dC h
   subst h2;obtain ⟨l, hh, t', r1, r2⟩ := rE (P := P) (w := w) oA Q9 R8 JS hL (ee q.1) (o := L.off + off) (fun _ => rfl) false h1
   refine Good.still hR ?_ r2
   simp only [Instr.sliceAt, Sem.run_bind, run_underlying hu, Result.andThen_ok, Instr.sureAddr, Sem.run_pure, r1, bg hs, uK, Option.map_some]
   split <;> rfl
  rcases dE hc with hc | hc
  ·obtain ⟨el, hu, hc⟩ := ae hc
   obtain ⟨s, hs, rfl⟩ := af hc
   have hu := gr hu
   simp only [ap] at h;generalize fr.eval x' = e at mX h
   generalize a.eval x = av at mX
   cases mX <;> simp only [reduceCtorEq] at h
   case aa =>
    cases h1 : aw (tV.map fr.eval) 0 0 with
    | none => simp [h1] at h
    | some t1 =>
    cases h2 : aw (rf.map fr.eval) 0 0 with
    | none => simp [h1, h2] at h
    | some t2 =>
    cases h3 : aw (wF.map fr.eval) 0 0 with
    | none => simp [h1, h2, h3] at h
    | some t3 =>
    simp only [h1, h2, h3, aQ, R1.val.injEq] at h;obtain ⟨rfl, rfl⟩ := h
    have z : ∀ {y : Option EV} {r : Nat}, aw y 0 0 = some r -> r = 0 := by
     intro y r hb
     unfold aw at hb
     split at hb
     ·cases hb; rfl
     ·rename_i i
      cases hq : i.ble 0 <;> simp only [hq, cond_true, cond_false, reduceCtorEq, aQ] at hb
      have := lk hq
      omega
     ·cases hb
    have e1 := z h1; have e2 := z h2; have e3 := z h3
    subst e1 e2 e3
    obtain ⟨r, _⟩ := gB (P := P) (w := w) oA Q9 R8 JS true (n := 0) rfl (t := 0) (h := 0) (l := 0) (c := 0) (by
     cases hm : tV.map fr.eval with
     | none => exact .inl ⟨rfl, rfl⟩
     | some y => rw [hm] at h1; exact .inr ⟨0, h1, by simp⟩) h2 h3
    refine Good.still (v' := .slice none 0 0) hR ?_ .aa
    simp only [Instr.sliceAt, Instr.slice, Sem.run_bind, run_underlying hu, Result.andThen_ok, r, bg hs, Sem.run_pure, if_true]
   case slice b off len c o L hL mN JP sY =>
    cases hm : m.get b with
    | dead => simp [hm] at h
    | map => simp [hm] at h
    | cells cs e1 el1 ro1 =>
    simp only [hm] at h
    cases hq : e1.beq s <;> simp only [hq, cond_true, cond_false, reduceCtorEq] at h
    obtain ⟨h1, h2⟩ := dC h
    subst h2;obtain ⟨l, hh, t', r1, r2⟩ := B4 (P := P) (w := w) oA Q9 R8 JS hL mN JP sY (by rw [Kx hR hL hm, aB hq]) true h1
    refine Good.still hR ?_ r2
    simp only [Instr.sliceAt, Instr.slice, Sem.run_bind, run_underlying hu, Result.andThen_ok, r1, bg hs, Sem.run_pure, uK]
   case dD b off a0 =>
    obtain ⟨h1, h2⟩ := dC h
    subst h2;obtain ⟨l, hh, t', r1, r2⟩ := zo (P := P) (w := w) (a := a0) oA Q9 R8 JS true h1
    refine Good.still hR ?_ r2
    simp only [Instr.sliceAt, Instr.slice, Sem.run_bind, run_underlying hu, Result.andThen_ok, r1, bg hs, Sem.run_pure, uK]
   case cT b off len c o L hL mN JP =>
    obtain ⟨h1, h2⟩ := dC h
    subst h2;obtain ⟨l, hh, t', r1, r2⟩ := rE (P := P) (w := w) oA Q9 R8 JS hL mN JP true h1
    refine Good.still hR ?_ r2
    simp only [Instr.sliceAt, Instr.slice, Sem.run_bind, run_underlying hu, Result.andThen_ok, r1, bg hs, Sem.run_pure, uK]
  ·obtain ⟨_, hu, hc⟩ := ae hc
   obtain ⟨_, VW, rfl⟩ := af hc
   have hu := hH hu
   have VW := fw VW
   have : mx = none := by
    cases mx with
    | none => rfl
    | some y =>
     simp [A2] at pH
     obtain ⟨z, hz, rfl⟩ := pH
     simp at VW
   subst this;simp only [ap] at h;generalize fr.eval x' = e at mX h
   generalize a.eval x = av at mX
   cases mX <;> simp only [reduceCtorEq] at h
   rename_i s'
   cases h1 : aw (rf.map fr.eval) s'.data.toList.length s'.data.toList.length with
   | none => simp only [h1, reduceCtorEq] at h
   | some hh =>
   cases h2 : aw (wF.map fr.eval) 0 hh with
   | none => simp only [h1, h2, reduceCtorEq] at h
   | some l =>
    simp only [h1, h2, aQ, R1.val.injEq] at h;obtain ⟨rfl, rfl⟩ := h
    obtain ⟨v', r1, r2⟩ := zn (P := P) (w := w) hu oA Q9 h1 h2
    exact Good.still hR r2 r1
 case h_20 s x f ho =>
  obtain ⟨fs, hu, hc⟩ := ae hc
  obtain ⟨x', hx, hc⟩ := ae hc
  obtain ⟨fl, hf, hc⟩ := ae hc
  obtain ⟨sz, hs, hc⟩ := ae hc
  obtain ⟨_, h1, rfl⟩ := af hc
  have h1 := lk (fw h1)
  obtain ⟨k, rfl⟩ : ∃ k, sz = k + 1 := ⟨sz - 1, by omega⟩
  have mX := E hx
  simp only [ap] at h;simp only [execOp, ho];generalize fr.eval x' = e at mX h
  generalize a.eval x = av at mX
  cases mX <;> simp only [reduceCtorEq, aQ, R1.val.injEq] at h
  rename_i hL
  obtain ⟨rfl, rfl⟩ := h
  exact Good.tO hR (Au (oW hu) hf hs (.ptr hL))
 case h_21 t x f ho =>
  obtain ⟨fs, hu, hc⟩ := ae hc
  obtain ⟨x', hx, hc⟩ := ae hc
  obtain ⟨fl, hf, hc⟩ := ae hc
  obtain ⟨g, hg, rfl⟩ := af hc
  have mX := E hx
  simp only [ap] at h;simp only [execOp, ho]
  cases he : fr.eval x' <;> simp only [he, reduceCtorEq] at h
  rename_i cs
  rw [he] at mX;obtain ⟨h1, h2⟩ := dC h
  subst h2;exact Good.tO hR (As (oW hu) hf hg mX h1)
 case h_22 t x i ho =>
  obtain ⟨x', hx, hc⟩ := ae hc
  obtain ⟨i', hi, hc⟩ := ae hc
  have mX := E hx
  have Sg := E hi
  simp only [execOp, ho];rcases dE hc with hc | hc
  ·obtain ⟨e, hu, hc⟩ := ae hc
   obtain ⟨s, hs, rfl⟩ := af hc
   simp only [ap] at h
   cases he : fr.eval x' <;> simp only [he, reduceCtorEq] at h
   case fz => rw [he] at mX; cases mX
   rename_i b off len cap
   rw [he] at mX
   cases hj : idx len (fr.eval i') with
   | none => simp [hj] at h
   | some j =>
    simp only [hj, aQ, R1.val.injEq] at h;obtain ⟨rfl, rfl⟩ := h
    exact Good.tO hR (z8 (gr hu) hs mX Sg hj)
  ·obtain ⟨q, hu, hc⟩ := ae hc
   obtain ⟨s, hs, rfl⟩ := af hc
   simp only [ap] at h
   cases he : fr.eval x' <;> simp only [he, reduceCtorEq] at h
   rename_i b off
   rw [he] at mX
   cases hj : idx q.1 (fr.eval i') with
   | none => simp [hj] at h
   | some j =>
    simp only [hj, aQ, R1.val.injEq] at h;obtain ⟨rfl, rfl⟩ := h
    exact Good.tO hR (ui (nZ hu) hs mX Sg hj)
 case h_23 t x i ho =>
  obtain ⟨x', hx, hc⟩ := ae hc
  obtain ⟨i', hi, hc⟩ := ae hc
  have mX := E hx
  have Sg := E hi
  simp only [execOp, ho];rcases dE hc with hc | hc
  ·obtain ⟨_, hu, rfl⟩ := af hc
   simp only [ap] at h;generalize fr.eval x' = e at mX h
   generalize a.eval x = av at mX
   cases mX <;> simp only [reduceCtorEq] at h
   rename_i s'
   cases hj : idx s'.data.toList.length (fr.eval i') with
   | none => simp only [hj, reduceCtorEq] at h
   | some j =>
    simp only [hj] at h
    cases Wc : s'.data.toList[j]? with
    | none => simp only [Wc, reduceCtorEq] at h
    | some c =>
     simp only [Wc, aQ, R1.val.injEq] at h;obtain ⟨rfl, rfl⟩ := h
     exact Good.still hR (xZ (hH hu) Sg hj Wc) (.int _ _)
  ·obtain ⟨q, hu, hc⟩ := ae hc
   obtain ⟨s, hs, hc⟩ := ae hc
   obtain ⟨g, hg, rfl⟩ := af hc
   simp only [ap] at h
   cases he : fr.eval x' <;> simp only [he, reduceCtorEq] at h
   rename_i cs
   rw [he] at mX
   cases hj : idx q.1 (fr.eval i') with
   | none => simp [hj] at h
   | some j =>
    simp only [hj] at h;obtain ⟨h1, h2⟩ := dC h
    subst h2;exact Good.tO hR (x2 (nZ hu) hs hg mX Sg hj h1)
 case h_24 t mp k ok ho =>
  obtain ⟨q, hu, hc⟩ := ae hc
  obtain ⟨c, hk, hc⟩ := ae hc
  obtain ⟨z, hz, hc⟩ := ae hc
  obtain ⟨m1, hm, hc⟩ := ae hc
  obtain ⟨k1, Bp, rfl⟩ := af hc
  simp only [execOp, ho];exact (xR hR (pL hu) hk hz (E hm) (E Bp) rfl rfl h).ni
 case h_25 t mp k x ho =>
  obtain ⟨q, hu, hc⟩ := ae hc
  obtain ⟨c, hk, hc⟩ := ae hc
  obtain ⟨m1, hm, hc⟩ := ae hc
  obtain ⟨k1, Bp, hc⟩ := ae hc
  obtain ⟨x1, hx, rfl⟩ := af hc
  obtain ⟨w', r1, rfl, r2, r3⟩ := p7 (P := P) hR (pL hu) hk (E hm) (E Bp) (E hx) rfl rfl rfl h
  exact ⟨ρ, w', undef, .inr ⟨by simp only [execOp, ho, Sem.run_bind, r1, Result.andThen_ok, Sem.run_pure], rfl⟩, .undef, r2, r3⟩
 case h_26 t mp k x ho =>
  obtain ⟨q, hu, hc⟩ := ae hc
  obtain ⟨c, hk, hc⟩ := ae hc
  obtain ⟨m1, hm, hc⟩ := ae hc
  obtain ⟨k1, Bp, hc⟩ := ae hc
  obtain ⟨x1, hx, rfl⟩ := af hc
  obtain ⟨w', r1, rfl, r2, r3⟩ := p7 (P := P) hR (pL hu) hk (E hm) (E Bp) (E hx) rfl rfl rfl h
  exact ⟨ρ, w', undef, .inr ⟨by simp only [execOp, ho, Sem.run_bind, r1, Result.andThen_ok, Sem.run_pure], rfl⟩, .undef, r2, r3⟩
 case h_27 x xt t ho =>
  obtain ⟨_, hu, hc⟩ := ae hc
  obtain ⟨y, hy, rfl⟩ := af hc
  obtain ⟨d, hu, hd⟩ := qM hu
  have vi := E hy
  simp only [ap] at h;simp only [execOp, ho];generalize fr.eval y = e at vi h
  generalize a.eval x = av at vi
  cases vi <;> simp only [reduceCtorEq] at h
  rename_i u v0 v1 hv
  cases hq : t.beq u <;> simp only [hq, cond_true, cond_false, reduceCtorEq, aQ, R1.val.injEq] at h
  obtain ⟨rfl, rfl⟩ := h
  obtain rfl := aB hq
  refine Good.still hR ?_ hv
  simp only [Instr.typeAssert, Sem.run_bind, run_underlying hu, Result.andThen_ok]
  cases d <;> first | (exact absurd rfl (hd _)) | simp
 case h_28 x i ho =>
  obtain ⟨y, hy, rfl⟩ := af hc
  have vi := E hy
  simp only [ap] at h;simp only [execOp, ho];generalize fr.eval y = e at vi h
  generalize a.eval x = av at vi
  cases vi <;> simp only [reduceCtorEq] at h
  rename_i vs nq pG
  obtain ⟨h1, h2⟩ := dC h
  subst h2;obtain ⟨v', g1, g2⟩ := pG.get i v h1
  refine Good.still hR ?_ g2
  simp [Instr.extract, g1]
 case h_29 c ho =>
  obtain ⟨ys, JF, hc⟩ := ae hc
  split at hc
  ·rename_i b hb
   rw [A4 ho hb];have hv := j0 hG hF JF
   have e1 : c.args.map a.eval = ⟨c.args.toList.map a.eval⟩ := by apply Array.ext'; simp
   rw [e1];exact vO (ts := c.argTypes.toList) hR hv hc _ _ h
  ·cases hc
 case h_30 => cases hc
theorem Eb {o : Oper} {f : Operand} {xs : Array Operand} {ts : Array TypeId} (ho : o.op = .call ⟨.value f, xs, ts⟩) {f' : aD} {ys : List aD} (hf : cR G f = some f') (JF : qz G xs.toList = some ys) (hG : fJ G ρ) (hF : FR ρ n fr a) {g : Nat} {x y : List EV} (he : fr.eval f' = .func g x y) :
  ∃ aj : Array Value, (execOp a.eval o).run P w = (callFunc g aj).run P w /\ cS ρ (x ++ ys.map fr.eval ++ y) aj.toList := by
 have P7 := eK hG hF hf
 have hv := j0 hG hF JF
 rw [he] at P7;generalize x9 : a.eval f = av at P7
 cases P7 with
 | @func _ _ _ x' y' hx hy =>
 refine ⟨⟨x' ++ xs.toList.map a.eval ++ y'⟩, ?_, (hx.append hv).append hy⟩
 simp only [execOp, ho, resolve, x9, Deferred.ofValue, Sem.run_bind, Sem.run_pure, Result.andThen_ok, invoke]
 congr 2
 apply Array.ext'
 simp
theorem IV {o : Oper} {x : Operand} (ho : o.op = .panic x) {x' : aD} (hx : cR G x = some x') (hG : fJ G ρ) (hF : FR ρ n fr a) {t : Nat} {v : EV} (he : fr.eval x' = .iface t v) :
  ∃ v', (execOp a.eval o).run P w = .halt (.panic v') w /\ VR ρ (.iface t v) v' := by
 have hv := eK hG hF hx
 rw [he] at hv;generalize x9 : a.eval x = av at hv
 cases hv with
 | iface h => exact ⟨_, by simp [execOp, ho, x9, Instr.panic], .iface h⟩
end
end
section
def XB (ρ : Ren) (e : Nat × List EV) (d : Deferred) : Prop := ∃ c' : Array Value, d.target = .fn (.func e.1) c' /\ cS ρ e.2 (d.args.toList ++ c'.toList)
inductive oT (ρ : Ren) : List (Nat × List EV) -> List Deferred -> Prop
 | nil : oT ρ [] []
 | cons {e : Nat × List EV} {d : Deferred} {es : List (Nat × List EV)} {ds : List Deferred} (h : XB ρ e d) (hs : oT ρ es ds) : oT ρ (e :: es) (d :: ds)
theorem oT.ext {ρ ρ' : Ren} (e : Ext ρ ρ') {es : List (Nat × List EV)} {ds : List Deferred} (h : oT ρ es ds) : oT ρ' es ds := by
 induction h with
 | nil => exact .nil
 | cons h _ ih => obtain ⟨c', h1, h2⟩ := h; exact .cons ⟨c', h1, h2.ext e⟩ ih
structure sJ (ρ : Ren) (n : Nat) (fr : Fr) (a : Act) : Prop where
 tm : FR ρ n fr a
 vL : oT ρ fr.defers a.defers
theorem sJ.ext {ρ ρ' : Ren} {n : Nat} {fr : Fr} {a : Act} (e : Ext ρ ρ') (h : sJ ρ n fr a) : sJ ρ' n fr a := ⟨h.tm.ext e, h.vL.ext e⟩
theorem put_defers (fr : Fr) (d : Option Nat) (v : EV) : (fr.put d v).defers = fr.defers := by cases d <;> rfl
theorem zx (a : Act) (d : Option Nat) (v : Value) : (a.put d v).defers = a.defers := by cases d <;> rfl
theorem sJ.put {ρ : Ren} {n : Nat} {fr : Fr} {a : Act} (h : sJ ρ n fr a) {d : Option Nat} (hd : ∀ x, d = some x -> x < n) {v : EV} {v' : Value} (hv : VR ρ v v') : sJ ρ n (fr.put d v) (a.put d v') :=
 ⟨h.tm.put hd hv, by rw [put_defers, zx]; exact h.vL⟩
def Reach (base n : Nat) (ρ : Ren) (m : Mem) (w : World) (out : Out) (e : Exit) (a' : Act) (w' : World) : Prop :=
 match out with
 | .norm fr' m' => e = .normal /\ ∃ ρ', R base ρ' m' w' /\ Step ρ m w ρ' m' w' /\ sJ ρ' n fr' a'
 | .exit id fr' m' => e = .exit id /\ ∃ ρ', R base ρ' m' w' /\ Step ρ m w ρ' m' w' /\ sJ ρ' n fr' a'
 | .ret fr' m' => e = .ret /\ ∃ ρ', R base ρ' m' w' /\ Step ρ m w ρ' m' w' /\ sJ ρ' n fr' a'
 | .dZ v fr' m' => ∃ ρ' v', e = .panic [{ v := v', recovered := false }] /\ VR ρ' v v' /\ R base ρ' m' w' /\ Step ρ m w ρ' m' w' /\ sJ ρ' n fr' a'
theorem Reach.after {base n : Nat} {ρ ρ1 : Ren} {m m1 : Mem} {w w1 : World} (s : Step ρ m w ρ1 m1 w1) {out : Out} {e : Exit} {a' : Act} {w' : World} (h : Reach base n ρ1 m1 w1 out e a' w') : Reach base n ρ m w out e a' w' := by
 cases out with
 | norm fr' m' => obtain ⟨he, ρ', h1, h2, h3⟩ := h; exact ⟨he, ρ', h1, s.trans h2, h3⟩
 | exit id fr' m' => obtain ⟨he, ρ', h1, h2, h3⟩ := h; exact ⟨he, ρ', h1, s.trans h2, h3⟩
 | ret fr' m' => obtain ⟨he, ρ', h1, h2, h3⟩ := h; exact ⟨he, ρ', h1, s.trans h2, h3⟩
 | dZ v fr' m' => obtain ⟨ρ', v', he, h0, h1, h2, h3⟩ := h; exact ⟨ρ', v', he, h0, h1, s.trans h2, h3⟩
def gY (base : Nat) (ρ : Ren) (m : Mem) (w : World) (fin : Fin) (e : Ending) (w' : World) : Prop :=
 match fin with
 | .ret v m' => ∃ ρ' v', e = .returned v' /\ VR ρ' v v' /\ R base ρ' m' w' /\ Step ρ m w ρ' m' w'
 | .dZ v m' => ∃ ρ' v', e = .panicked [{ v := v', recovered := false }] /\ VR ρ' v v' /\ R base ρ' m' w' /\ Step ρ m w ρ' m' w'
def li (P : Program) (G : List Nat) (call : Call) : Prop :=
 ∀ f args m fin, call f args m = some fin -> ∀ base ρ w (aj : Array Value), R base ρ m w -> fJ G ρ -> cS ρ args aj.toList ->
  ((callFunc f aj).run P w = .ok (.enter f aj) w /\ Calls P f aj w (gY base ρ m w fin)) \/
  (∃ v v', fin = .ret v m /\ (callFunc f aj).run P w = .ok (.value v') w /\ VR ρ v v')
section
variable {P : Program} {G : List Nat} {n : Nat} {call : Call}
theorem A3 {ops : Array Oper} {o : Oper} {io : aF} (h : na P G n ops o = some io) : uO P G o = some io.op /\ io.dst = o.dst /\ (∀ x, o.dst = some x -> x < n) /\
  ((o.guard = none /\ io.guard = none) \/ (∃ j w t, o.guard = some (j, w) /\ (ops[j]?).bind (·.dst) = some t /\ io.guard = some (t, w))) := by
 unfold na at h
 cases hx : uO P G o with
 | none => simp [hx] at h
 | some op =>
  simp only [hx] at h
  cases hb : OZ n o.dst with
  | false => simp [hb] at h
  | true =>
  simp only [hb, cond_true] at h;have jX : ∀ x, o.dst = some x -> x < n := by
   intro x hx
   rw [hx] at hb;exact lk hb
  cases hg : o.guard with
  | none => simp only [hg, aQ] at h; subst h; exact ⟨rfl, rfl, jX, .inl ⟨rfl, rfl⟩⟩
  | some jw =>
   obtain ⟨j, w⟩ := jw
   simp only [hg] at h
   cases ht : (ops[j]?).bind (·.dst) with
   | none => simp [ht] at h
   | some t => simp only [ht, aQ] at h; subst h; exact ⟨rfl, rfl, jX, .inr ⟨j, w, t, rfl, ht, rfl⟩⟩
theorem jr {ρ : Ren} {ops : Array Oper} {o : Oper} {io : aF} {fr : Fr} {a : Act} (hF : FR ρ n fr a)
  (hg : (o.guard = none /\ io.guard = none) \/ (∃ j w t, o.guard = some (j, w) /\ (ops[j]?).bind (·.dst) = some t /\ io.guard = some (t, w))) {b : Bool} (h : aG fr io.guard = some b) :
  Region.wanted o (yielded ops a.tmps) = b := by
 rcases hg with ⟨h1, h2⟩ | ⟨j, w, t, h1, h2, h3⟩
 ·rw [h2] at h; simp [aG] at h; subst h; simp [Region.wanted, h1]
 ·rw [h3] at h
  simp only [aG] at h
  cases hv : fr.get t <;> simp only [hv, reduceCtorEq, aQ] at h
  case undef =>
   have ht := hF.tmp t
   rw [hv] at ht;generalize Ln : a.tmps.getD t undef = tv at ht
   cases ht
   subst h;simp only [Region.wanted, h1, yielded, h2, Option.bind_some]
   cases hq : a.tmps[t]? with
   | none => rfl
   | some x =>
    rw [Array.getD_eq_getD_getElem?, hq] at Ln;simp only [Option.getD_some] at Ln;rw [Ln]; rfl
  rename_i c
  have ht := hF.tmp t
  rw [hv] at ht;generalize Ln : a.tmps.getD t undef = tv at ht
  cases ht
  simp only [Region.wanted, h1, yielded, h2, Option.bind_some];have : a.tmps[t]? = some (.bool c) := by
   rw [Array.getD_eq_getD_getElem?] at Ln
   cases hq : a.tmps[t]? with
   | none => rw [hq] at Ln; simp [undef] at Ln
   | some x => rw [hq] at Ln; simp at Ln; rw [Ln]
  rw [this];subst h;simp
theorem nR {o : Oper} {op : iR} (h : uO P G o = some (.val op)) : O2 P G o = some op := by
 unfold uO at h
 split at h
 ·obtain ⟨_, _, h⟩ := ae h; obtain ⟨_, _, h⟩ := af h; cases h
 ·obtain ⟨_, _, h⟩ := ae h; obtain ⟨_, _, h⟩ := af h; cases h
 ·obtain ⟨_, _, h⟩ := af h; cases h
 ·obtain ⟨_, hh, h⟩ := af h; cases h; exact hh
theorem xk {o : Oper} {f : aD} {ys : List aD} (h : uO P G o = some (.call f ys)) : ∃ f0 xs ts, o.op = .call ⟨.value f0, xs, ts⟩ /\ cR G f0 = some f /\ qz G xs.toList = some ys := by
 unfold uO at h
 split at h
 ·rename_i f0 xs ts ho
  obtain ⟨_, h1, h⟩ := ae h; obtain ⟨_, h2, h⟩ := af h; cases h
  exact ⟨f0, xs, ts, ho, h2, h1⟩
 ·obtain ⟨_, _, h⟩ := ae h; obtain ⟨_, _, h⟩ := af h; cases h
 ·obtain ⟨_, _, h⟩ := af h; cases h
 ·obtain ⟨_, hh, h⟩ := af h; cases h
theorem Dy {o : Oper} {f : aD} {ys : List aD} (h : uO P G o = some (.defer f ys)) : ∃ f0 xs ts, o.op = .defer ⟨.value f0, xs, ts⟩ /\ cR G f0 = some f /\ qz G xs.toList = some ys := by
 unfold uO at h
 split at h
 ·obtain ⟨_, _, h⟩ := ae h; obtain ⟨_, _, h⟩ := af h; cases h
 ·rename_i f0 xs ts ho
  obtain ⟨_, h1, h⟩ := ae h; obtain ⟨_, h2, h⟩ := af h; cases h
  exact ⟨f0, xs, ts, ho, h2, h1⟩
 ·obtain ⟨_, _, h⟩ := af h; cases h
 ·obtain ⟨_, hh, h⟩ := af h; cases h
theorem Dx {o : Oper} {x : aD} (h : uO P G o = some (.panic x)) : ∃ x0, o.op = .panic x0 /\ cR G x0 = some x := by
 unfold uO at h
 split at h
 ·obtain ⟨_, _, h⟩ := ae h; obtain ⟨_, _, h⟩ := af h; cases h
 ·obtain ⟨_, _, h⟩ := ae h; obtain ⟨_, _, h⟩ := af h; cases h
 ·rename_i x0 ho
  obtain ⟨_, h2, h⟩ := af h; cases h
  exact ⟨x0, ho, h2⟩
 ·obtain ⟨_, hh, h⟩ := af h; cases h
theorem E4 {o : Oper} {a : Act} {next next' : Act -> World -> Prop} {Q Q' : Exit -> Act -> World -> Prop} (hn : ∀ a w, next a w -> next' a w) (hq : ∀ e a w, Q e a w -> Q' e a w) {r : Result Next} (h : o.upon P a next Q r) : o.upon P a next' Q' r := by
 unfold Oper.upon at *
 split at h
 ·exact hn _ _ h
 ·exact hn _ _ h
 ·exact hn _ _ h
 ·refine h.mono fun e w hp => ?_
  cases e with
  | returned v => exact hn _ _ hp
  | panicked c => exact hq _ _ _ hp
  | outgrown => obtain ⟨a, w, h⟩ := hp; exact ⟨a, w, hq _ _ _ h⟩
 ·exact h.mono fun v w hp => hn _ _ hp
 ·exact hq _ _ _ h
 ·exact h
theorem mz {ops : Array Oper} {Q Q' : Exit -> Act -> World -> Prop} (hq : ∀ e a w, Q e a w -> Q' e a w) : ∀ (l : List Nat) (a : Act) (w : World), wpOps P ops Q l a w -> wpOps P ops Q' l a w
 | [], a, w, h => hq _ _ _ h
 | i :: l, a, w, h => by
  simp only [wpOps] at h ⊢
  cases ho : ops[i]? with
  | none => simp only [ho] at h ⊢; exact mz hq l a w h
  | some o =>
   simp only [ho] at h ⊢
   split
   ·rename_i hw
    rw [if_pos hw] at h;rcases h with h | ⟨h1, a0, w0, h2⟩
    ·exact .inl (E4 (mz hq l) hq h)
    ·exact .inr ⟨h1, a0, w0, hq _ _ _ h2⟩
   ·rename_i hw
    rw [if_neg hw] at h;exact mz hq l _ w h
theorem wy (aY : li P G call) {base : Nat} {ops : Array Oper} : ∀ (is : List aF) (l : List Nat), is.length = l.length -> (∀ (k : Nat) (i : Nat) (io : aF), l[k]? = some i -> is[k]? = some io -> ∃ o, ops[i]? = some o /\ na P G n ops o = some io) ->
  ∀ (ρ : Ren) (m : Mem) (w : World) (fr : Fr) (a : Act) (out : Out), R base ρ m w -> fJ G ρ -> sJ ρ n fr a -> et call is fr m = some out -> wpOps P ops (Reach base n ρ m w out) l a w := by
 intro is
 induction is with
 | nil =>
  intro l hl PV ρ m w fr a out hR hG hF h
  cases l with
  | cons x l => simp at hl
  | nil =>
   simp only [et, aQ] at h;subst h;exact ⟨rfl, ρ, hR, .refl _ _ _, hF⟩
 | cons io is ih =>
  intro l hl PV ρ m w fr a out hR hG hF h
  cases l with
  | nil => simp at hl
  | cons i l =>
  obtain ⟨o, ho, hc⟩ := PV 0 i io rfl rfl
  obtain ⟨hx, jX, rh, kz⟩ := A3 hc
  have qe : is.length = l.length := by simpa using hl
  have RW : ∀ (k : Nat) (i : Nat) (io : aF), l[k]? = some i -> is[k]? = some io -> ∃ o, ops[i]? = some o /\ na P G n ops o = some io :=
   fun k i io h1 h2 => PV (k + 1) i io (by simpa using h1) (by simpa using h2)
  -- what follows, from where a step has led
  have next : ∀ {ρ1 : Ren} {m1 : Mem} {w1 : World} {dB : Fr} {a1 : Act}, R base ρ1 m1 w1 -> Step ρ m w ρ1 m1 w1 -> sJ ρ1 n dB a1 -> et call is dB m1 = some out -> wpOps P ops (Reach base n ρ m w out) l a1 w1 := by
   intro ρ1 m1 w1 dB a1 iP hs oi h1
   have := ih l qe RW ρ1 m1 w1 dB a1 out iP (hG.ext hs.ext) oi h1
   exact mz (fun e a w hq => hq.after hs) l a1 w1 this
  simp only [et] at h;simp only [wpOps, ho]
  cases hw : aG fr io.guard with
  | none => simp [hw] at h
  | some b =>
  rw [jr hF.tm kz hw]
  cases b with
  | false =>
   simp only [hw] at h;rw [if_neg (by simp)];rw [jX] at h;exact next hR (.refl _ _ _) (hF.put rh .undef) h
  | true =>
   simp only [hw] at h;rw [if_pos rfl]
   left
   simp only [Oper.wp]
   cases jk : io.op with
   | val op =>
    simp only [jk] at h
    cases l9 : ap fr.eval op m with
    | none => simp [l9] at h
    | some r =>
     obtain ⟨v, m1⟩ := r
     simp only [l9] at h;rw [jk] at hx;obtain ⟨ρ1, w1, v', gz, hv, iP, hs⟩ := tN (nR hx) hG hR hF.tm l9
     rcases gz with gz | ⟨gz, rfl⟩
     ·rw [gz]
      simp only [Oper.upon];rw [jX] at h;exact next iP hs ((hF.ext hs.ext).put rh hv) h
     ·rw [gz]
      simp only [Oper.upon];rw [jX] at h;exact next iP hs ((hF.ext hs.ext).put rh hv) h
   | call f args =>
    simp only [jk] at h;rw [jk] at hx;obtain ⟨f0, QL, XH, JP, hf, JF⟩ := xk hx
    cases Af : fr.eval f <;> simp only [Af, dy, reduceCtorEq] at h
    rename_i g x y
    obtain ⟨aj, gz, hv⟩ := Eb (w := w) (P := P) JP hf JF hG hF.tm Af
    rw [gz]
    cases pd : call g (x ++ args.map fr.eval ++ y) m with
    | none => simp only [pd, reduceCtorEq] at h
    | some fin =>
     rcases aY _ _ _ _ pd base ρ w aj hR hG hv with ⟨h1, h2⟩ | ⟨v, v', rfl, h1, h2⟩
     ·rw [h1]
      simp only [Oper.upon];refine h2.mono fun e w' hp => ?_
      cases fin with
      | ret v m1 =>
       obtain ⟨ρ1, v', rfl, qb, iP, hs⟩ := hp
       simp only [pd] at h;rw [jX] at h;exact next iP hs ((hF.ext hs.ext).put rh qb) h
      | dZ v m1 =>
       obtain ⟨ρ1, v', rfl, qb, iP, hs⟩ := hp
       simp only [pd, aQ] at h;subst h;exact ⟨ρ1, v', rfl, qb, iP, hs, hF.ext hs.ext⟩
     ·rw [h1]
      simp only [pd] at h;simp only [Oper.upon];rw [jX] at h;exact next hR (.refl _ _ _) (hF.put rh h2) h
   | panic x =>
    simp only [jk] at h;rw [jk] at hx;obtain ⟨x0, JP, JG⟩ := Dx hx
    cases mX : fr.eval x <;> simp only [mX, reduceCtorEq, aQ] at h
    rename_i t v
    subst h;obtain ⟨v', gz, hv⟩ := IV (w := w) (P := P) JP JG hG hF.tm mX
    rw [gz];exact ⟨ρ, v', rfl, hv, hR, .refl _ _ _, hF⟩
   | defer f args =>
    simp only [jk] at h;rw [jk] at hx;obtain ⟨f0, QL, XH, JP, hf, JF⟩ := Dy hx
    cases Af : fr.eval f <;> simp only [Af, reduceCtorEq] at h
    rename_i g x y
    have P7 := eK hG hF.tm hf
    have hv := j0 hG hF.tm JF
    rw [Af] at P7;generalize x9 : a.eval f0 = av at P7
    cases P7 with
    | @func _ _ _ x' y' HE Tz =>
    have gz : (execOp a.eval o).run P w = .ok (.defer { target := .fn (.func g) ⟨y'⟩, args := ⟨x'⟩ ++ QL.map a.eval }) w := by
     simp only [execOp, JP, resolve, x9, Deferred.ofValue, Sem.run_bind, Sem.run_pure, Result.andThen_ok]
    rw [gz];simp only [Oper.upon];rw [jX] at h;have e1 : ((⟨x'⟩ : Array Value) ++ QL.map a.eval).toList = x' ++ QL.toList.map a.eval := by simp
    have Wn : sJ ρ n ⟨fr.tmps, (g, x ++ args.map fr.eval ++ y) :: fr.defers⟩ { a with defers := { target := .fn (.func g) ⟨y'⟩, args := ⟨x'⟩ ++ QL.map a.eval } :: a.defers } :=
     ⟨⟨hF.tm.size, hF.tm.tmp⟩, .cons ⟨⟨y'⟩, rfl, by rw [e1]; exact (HE.append hv).append Tz⟩ hF.vL⟩
    exact next hR (.refl _ _ _) (Wn.put rh .undef) h
end
end
section
section
variable {P : Program} {G : List Nat} {n : Nat} {call : Call} {chk : List (Nat × Nat)} {B0 : Nat}
inductive At (call : Call) (B0 : Nat) (o : aF) (i : Nat) (fr : Fr) (m : Mem) (v : EV) (m' : Mem) : Prop
 | skip (hw : aG fr o.guard = some false) (hv : v = .undef) (hm : m' = m)
 | pure (op : iR) (m1 : Mem) (hw : aG fr o.guard = some true) (ho : o.op = .val op) (hs : bM op = 0) (h : ap fr.eval op m = some (.val v m1)) (hm : m' = m)
 | make (op : iR) (m1 : Mem) (hw : aG fr o.guard = some true) (ho : o.op = .val op) (hs : bM op = 1) (h : ap fr.eval op ⟨B0 + i, m.kl⟩ = some (.val v m1)) (hm : m' = ⟨m.next, m1.kl⟩)
 | load (agg : Option Nat) (a : aD) (hw : aG fr o.guard = some true) (ho : o.op = .val (.load agg a)) (h : m.load agg (fr.eval a) = some v) (hm : m' = m)
 | act (op : iR) (hw : aG fr o.guard = some true) (ho : o.op = .val op) (hs : 3 <= bM op) (h : ap fr.eval op m = some (.val v m'))
 | call (f : aD) (args : List aD) (hw : aG fr o.guard = some true) (ho : o.op = .call f args) (h : dy call (fr.eval f) (args.map fr.eval) m = some (.ret v m'))
def ki (o : aF) (fr : Fr) : Prop := aG fr o.guard = some true /\ 3 <= sort o.op
def va (o : aF) (fr : Fr) (agg : Option Nat) (a : aD) : Prop := aG fr o.guard = some true /\ o.op = .val (.load agg a) /\ wK (fr.eval a) = false
structure Canon (call : Call) (chk : List (Nat × Nat)) (B0 : Nat) (r : List aF) (i : Nat) (F : Nat -> Fr) (M : Nat -> Mem) (V : Nat -> EV) : Prop where
 at_ : ∀ k o, r[k]? = some o -> At call B0 o (i + k) (F (i + k)) (M (i + k)) (V (i + k)) (M (i + k + 1)) /\ F (i + k + 1) = (F (i + k)).put o.dst (V (i + k))
 c1 : ∀ k o agg a l q, r[k]? = some o -> r[l]? = some q -> va o (F (i + k)) agg a -> ki q (F (i + l)) -> aZ (i + k) (i + l) chk = true ->
  (l < k -> (M (i + l)).cJ agg ((F (i + k)).eval a) (V (i + k)) = true) /\ (k < l -> (M (i + l + 1)).cJ agg ((F (i + k)).eval a) (V (i + k)) = true)
structure s5 (call : Call) (chk : List (Nat × Nat)) (B0 : Nat) (r : List aF) (i : Nat) (fH : List (Nat × Mem)) (seen : List Seen) (F : Nat -> Fr) (M : Nat -> Mem) (V : Nat -> EV) : Prop extends Canon call chk B0 r i F M V where
 c2 : ∀ k o agg a, r[k]? = some o -> va o (F (i + k)) agg a -> ∀ j mj, (j, mj) ∈ fH -> aZ (i + k) j chk = true -> mj.cJ agg ((F (i + k)).eval a) (V (i + k)) = true
 c3 : ∀ l q, r[l]? = some q -> ki q (F (i + l)) -> ∀ s, s ∈ seen -> aZ s.i (i + l) chk = true -> (M (i + l + 1)).cJ s.agg s.a s.v = true
theorem Dv {o : aF} {r : List aF} {i : Nat} {fr fr' : Fr} {m m' : Mem} {v : EV} {fH ns : List (Nat × Mem)} {seen rG : List Seen} {F' : Nat -> Fr} {M' : Nat -> Mem} {V' : Nat -> EV}
  (HI : At call B0 o i fr m v m') (V7 : fr' = fr.put o.dst v) (hF : F' (i + 1) = fr') (hM : M' (i + 1) = m') (hc : s5 call chk B0 r (i + 1) ns rG F' M' V')
  (sA : ∀ x, x ∈ fH -> x ∈ ns) (MK : ∀ x, x ∈ seen -> x ∈ rG) (J5 : ki o fr -> (i, m) ∈ ns /\ ∀ s, s ∈ seen -> aZ s.i i chk = true -> m'.cJ s.agg s.a s.v = true)
  (ON : ∀ agg a, va o fr agg a -> ⟨i, agg, fr.eval a, v⟩ ∈ rG /\ ∀ j mj, (j, mj) ∈ fH -> aZ i j chk = true -> mj.cJ agg (fr.eval a) v = true) :
  ∃ F M V, F i = fr /\ M i = m /\ F (i + (r.length + 1)) = F' (i + 1 + r.length) /\ M (i + (r.length + 1)) = M' (i + 1 + r.length) /\ s5 call chk B0 (o :: r) i fH seen F M V := by
 let F : Nat -> Fr := fun x => if x = i then fr else F' x
 let M : Nat -> Mem := fun x => if x = i then m else M' x
 let V : Nat -> EV := fun x => if x = i then v else V' x
 have F0 : F i = fr := if_pos rfl
 have M0 : M i = m := if_pos rfl
 have V0 : V i = v := if_pos rfl
 have FS : ∀ k, F (i + (k + 1)) = F' (i + 1 + k) := fun k => by show (if _ then _ else _) = _; rw [if_neg (by omega)]; congr 1; omega
 have MS : ∀ k, M (i + (k + 1)) = M' (i + 1 + k) := fun k => by show (if _ then _ else _) = _; rw [if_neg (by omega)]; congr 1; omega
 have VS : ∀ k, V (i + (k + 1)) = V' (i + 1 + k) := fun k => by show (if _ then _ else _) = _; rw [if_neg (by omega)]; congr 1; omega
 have F1 : F (i + 0 + 1) = fr' := by have := FS 0; rw [show i + 0 + 1 = i + (0 + 1) by omega, this]; exact hF
 have M1 : M (i + 0 + 1) = m' := by have := MS 0; rw [show i + 0 + 1 = i + (0 + 1) by omega, this]; exact hM
 have FS1 : ∀ k, F (i + (k + 1) + 1) = F' (i + 1 + k + 1) := fun k => by rw [show i + (k + 1) + 1 = i + (k + 1 + 1) by omega, FS]; congr 1
 have T3 : ∀ k, M (i + (k + 1) + 1) = M' (i + 1 + k + 1) := fun k => by rw [show i + (k + 1) + 1 = i + (k + 1 + 1) by omega, MS]; congr 1
 have pr : ∀ k, i + (k + 1) = i + 1 + k := fun k => by omega
 refine ⟨F, M, V, F0, M0, FS _, MS _, ⟨⟨?_, ?_⟩, ?_, ?_⟩⟩
 ·intro k q hk
  cases k with
  | zero =>
   simp at hk; subst hk
   rw [F1, M1];simp only [Nat.add_zero, F0, M0, V0];exact ⟨HI, V7⟩
  | succ k =>
   simp at hk
   have := hc.at_ k q hk
   rw [FS, MS, VS, FS1, T3, pr k];exact this
 ·intro k p agg a l q hk hl hL hA hp
  cases k with
  | zero =>
   simp at hk; subst hk
   simp only [Nat.add_zero, F0, V0] at hL hp ⊢
   cases l with
   | zero =>
    refine ⟨fun h => absurd h (by omega), fun h => absurd h (by omega)⟩
   | succ l =>
    simp at hl
    refine ⟨fun h => absurd h (by omega), fun _ => ?_⟩
    rw [T3];rw [FS] at hA;rw [pr l] at hp;exact hc.c3 l q hl hA _ (ON agg a hL).1 hp
  | succ k =>
   simp at hk
   rw [FS, VS] at *
   cases l with
   | zero =>
    simp at hl; subst hl
    simp only [Nat.add_zero, F0, M0] at hA hp ⊢
    refine ⟨fun _ => ?_, fun h => absurd h (by omega)⟩
    rw [pr k] at hp;exact hc.c2 k p agg a hk hL i m (J5 hA).1 hp
   | succ l =>
    simp at hl
    rw [FS] at hA;rw [pr k, pr l] at hp;obtain ⟨g1, g2⟩ := hc.c1 k p agg a l q hk hl hL hA hp
    rw [MS, T3];exact ⟨fun h => g1 (by omega), fun h => g2 (by omega)⟩
 ·intro k p agg a hk hL j mj hj hp
  cases k with
  | zero =>
   simp at hk; subst hk
   simp only [Nat.add_zero, F0, V0] at hL hp ⊢
   exact (ON agg a hL).2 j mj hj hp
  | succ k =>
   simp at hk
   rw [FS, VS] at *
   rw [pr k] at hp;exact hc.c2 k p agg a hk hL j mj (sA _ hj) hp
 ·intro l q hl hA s hs hp
  cases l with
  | zero =>
   simp at hl; subst hl
   rw [M1];simp only [Nat.add_zero, F0] at hA hp;exact (J5 hA).2 s hs hp
  | succ l =>
   simp at hl
   rw [T3];rw [FS] at hA;rw [pr l] at hp;exact hc.c3 l q hl hA s (MK _ hs) hp
theorem qw {i : Nat} {agg : Option Nat} {a v : EV} : ∀ {sn : List (Nat × Mem)}, aT chk i agg a v sn = true -> ∀ j mj, (j, mj) ∈ sn -> aZ i j chk = true -> mj.cJ agg a v = true
 | [], _, j, mj, h, _ => by simp at h
 | (x, y) :: sn, h, j, mj, hm, hp => by
  simp only [aT] at h;rcases lj.1 hm with e | hm
  ·cases e
   simp only [hp, cond_true] at h
   cases hs : y.cJ agg a v <;> simp only [hs, cond_true, cond_false, lm] at h
   rfl
  ·have : aT chk i agg a v sn = true := by
    cases hq : aZ i x chk <;> simp only [hq, cond_true, cond_false] at h
    ·exact h
    ·cases hs : y.cJ agg a v <;> simp only [hs, cond_true, cond_false, lm] at h
     exact h
   exact qw this j mj hm hp
theorem kB {j : Nat} {m : Mem} : ∀ {se : List Seen}, aE chk j m se = true -> ∀ s, s ∈ se -> aZ s.i j chk = true -> m.cJ s.agg s.a s.v = true
 | [], _, s, h, _ => by simp at h
 | x :: se, h, s, hm, hp => by
  simp only [aE] at h;rcases lj.1 hm with e | hm
  ·cases e
   simp only [hp, cond_true] at h
   cases hs : m.cJ x.agg x.a x.v <;> simp only [hs, cond_true, cond_false, lm] at h
   rfl
  ·have : aE chk j m se = true := by
    cases hq : aZ x.i j chk <;> simp only [hq, cond_true, cond_false] at h
    ·exact h
    ·cases hs : m.cJ x.agg x.a x.v <;> simp only [hs, cond_true, cond_false, lm] at h
     exact h
   exact kB this s hm hp
theorem KR : ∀ (r : List aF) (i : Nat) (fr : Fr) (m : Mem) (fH : List (Nat × Mem)) (seen : List Seen) (out : Out), b6 call chk B0 r i fr m fH seen = some out ->
  ∃ F M V, F i = fr /\ M i = m /\ out = .norm (F (i + r.length)) (M (i + r.length)) /\ s5 call chk B0 r i fH seen F M V := by
 intro r
 induction r with
 | nil =>
  intro i fr m fH seen out h
  simp only [b6, aQ] at h;subst h;exact ⟨fun _ => fr, fun _ => m, fun _ => .undef, rfl, rfl, rfl, ⟨⟨by simp, by simp⟩, by simp, by simp⟩⟩
 | cons o r ih =>
  intro i fr m fH seen out h
  -- one operation, and what follows
  have go : ∀ {v : EV} {m' : Mem} {ns : List (Nat × Mem)} {rG : List Seen}, At call B0 o i fr m v m' -> b6 call chk B0 r (i + 1) (fr.put o.dst v) m' ns rG = some out ->
    (∀ x, x ∈ fH -> x ∈ ns) -> (∀ x, x ∈ seen -> x ∈ rG) -> (ki o fr -> (i, m) ∈ ns /\ ∀ s, s ∈ seen -> aZ s.i i chk = true -> m'.cJ s.agg s.a s.v = true) ->
    (∀ agg a, va o fr agg a -> ⟨i, agg, fr.eval a, v⟩ ∈ rG /\ ∀ j mj, (j, mj) ∈ fH -> aZ i j chk = true -> mj.cJ agg (fr.eval a) v = true) ->
    ∃ F M V, F i = fr /\ M i = m /\ out = .norm (F (i + (o :: r).length)) (M (i + (o :: r).length)) /\ s5 call chk B0 (o :: r) i fH seen F M V := by
   intro v m' ns rG HI hr h1 h2 h3 h4
   obtain ⟨F', M', V', e1, e2, e3, hc⟩ := ih (i + 1) _ _ _ _ out hr
   obtain ⟨F, M, V, f1, f2, f3, f4, nI⟩ := Dv HI rfl e1 e2 hc h1 h2 h3 h4
   exact ⟨F, M, V, f1, f2, by rw [List.length_cons, f3, f4]; exact e3, nI⟩
  simp only [b6] at h
  cases hw : aG fr o.guard with
  | none => simp [hw] at h
  | some b =>
  cases b with
  | false =>
   simp only [hw] at h;exact go (.skip hw rfl rfl) h (fun _ h => h) (fun _ h => h) (fun ha => by have := ha.1; rw [hw] at this; cases this) (fun _ _ hl => by have := hl.1; rw [hw] at this; cases this)
  | true =>
   simp only [hw] at h
   cases ho : o.op with
   | panic x => simp [ho] at h
   | defer f x => simp [ho] at h
   | call f args =>
    simp only [ho] at h
    cases hc : dy call (fr.eval f) (args.map fr.eval) m with
    | none => simp [hc] at h
    | some fin =>
     cases fin with
     | dZ v m1 => simp [hc] at h
     | ret v m1 =>
      simp only [hc] at h
      cases hk : aE chk i m1 seen <;> simp only [hk, cond_true, cond_false, reduceCtorEq] at h
      exact go (.call f args hw ho hc) h (fun _ h => rA _ h) (fun _ h => h) (fun _ => ⟨by simp, kB hk⟩) (fun _ _ hl => by have := hl.2.1; rw [ho] at this; cases this)
   | val op =>
    simp only [ho] at h;have Ee : bM op < 3 -> ki o fr -> False := fun hs ha => by have := ha.2; rw [ho] at this; simp only [sort] at this; omega
    have Cm : bM op ≠ 2 -> ∀ agg a, va o fr agg a -> False := fun hs agg a hl => by
     have := hl.2.1; rw [ho] at this; cases this; exact hs rfl
    split at h
    ·rename_i hs
     cases l9 : ap fr.eval op m with
     | none => simp [l9] at h
     | some q =>
      obtain ⟨v, m1⟩ := q
      simp only [l9] at h;exact go (.pure op m1 hw ho hs l9 rfl) h (fun _ h => h) (fun _ h => h) (fun ha => (Ee (by omega) ha).elim) (fun _ _ hl => (Cm (by omega) _ _ hl).elim)
    ·rename_i hs
     cases l9 : ap fr.eval op ⟨B0 + i, m.kl⟩ with
     | none => simp [l9] at h
     | some q =>
      obtain ⟨v, m1⟩ := q
      simp only [l9] at h;exact go (.make op m1 hw ho hs l9 rfl) h (fun _ h => h) (fun _ h => h) (fun ha => (Ee (by omega) ha).elim) (fun _ _ hl => (Cm (by omega) _ _ hl).elim)
    ·rename_i hs
     cases op <;> simp only [reduceCtorEq] at h
     rename_i agg a
     cases hl : m.load agg (fr.eval a) with
     | none => simp [hl] at h
     | some v =>
      simp only [hl] at h
      cases hf : wK (fr.eval a) <;> simp only [hf, cond_true, cond_false] at h
      ·cases hk : aT chk i agg (fr.eval a) v fH <;> simp only [hk, cond_true, cond_false, reduceCtorEq] at h
       refine go (.load agg a hw ho hl rfl) h (fun _ h => h) (fun _ h => rA _ h) (fun ha => (Ee (by rw [hs]; omega) ha).elim) (fun Tn a' qe => ?_)
       have := qe.2.1; rw [ho] at this; cases this
       exact ⟨by simp, qw hk⟩
      ·cases hk : cb chk i m.next fH <;> simp only [hk, cond_true, cond_false, reduceCtorEq] at h
       refine go (.load agg a hw ho hl rfl) h (fun _ h => h) (fun _ h => h) (fun ha => (Ee (by rw [hs]; omega) ha).elim) (fun Tn a' qe => ?_)
       have := qe.2.1; rw [ho] at this; cases this
       have := qe.2.2; rw [hf] at this; cases this
    ·rename_i h0 h1 h2
     have hs : 3 <= bM op := by
      rcases Nat.lt_or_ge (bM op) 3 with h3 | h3
      ·exfalso
       have : bM op = 0 \/ bM op = 1 \/ bM op = 2 := by omega
       rcases this with e | e | e
       ·exact h0 e
       ·exact h1 e
       ·exact h2 e
      ·exact h3
     cases l9 : ap fr.eval op m with
     | none => simp [l9] at h
     | some q =>
      obtain ⟨v, m1⟩ := q
      simp only [l9] at h
      cases hk : aE chk i m1 seen <;> simp only [hk, cond_true, cond_false, reduceCtorEq] at h
      exact go (.act op hw ho hs l9) h (fun _ h => rA _ h) (fun _ h => h) (fun _ => ⟨by simp, kB hk⟩) (fun _ _ hl => (Cm (by omega) _ _ hl).elim)
end
end
section
structure DN (ops : Array Oper) (l : List Nat) : Prop where
 nodup : l.Nodup
 all : ∀ i, i ∈ l ↔ i < ops.size
 Te : ∀ (k i : Nat) (o : Oper) (e : Edge), l[k]? = some i -> ops[i]? = some o -> e ∈ o.after -> dr e = true -> e.on ∈ l.take k
theorem zz {e : Edge} (h : dr e = true) : Region.binds .any e = true := by
 unfold dr at h;unfold Region.binds
 cases hg : e.ground <;> simp_all
theorem ri : ∀ (l : List Oper) (i : Nat), nJ l i = true -> ∀ (k : Nat) (o : Oper) (e : Edge), l[k]? = some o -> e ∈ o.after -> dr e = true -> e.on < i + k
 | [], i, _, k, o, e, h, _, _ => by simp at h
 | x :: l, i, hd, k, o, e, h, he, hp => by
  simp only [nJ, kD] at hd
  cases k with
  | zero =>
   simp at h; subst h
   have := List.all_eq_true.1 hd.1 e (by simpa using he)
   simp [hp] at this
   omega
  | succ k =>
   have := ri l (i + 1) hd.2 k o e (by simpa using h) he hp
   omega
theorem pV : ∀ (n : Nat) (l : List Nat), l.Nodup -> (∀ x, x ∈ l -> x < n) -> l.length <= n
 | 0, l, _, h => by
  cases l with
  | nil => simp
  | cons x l => exact absurd (h x (by simp)) (by omega)
 | n + 1, l, hn, h => by
  by_cases hm : n ∈ l
  ·have h1 := pV n (l.erase n) (hn.erase n) (fun x hx => by
    have h2 := (hn.mem_erase_iff).1 hx
    have := h x h2.2
    have := h2.1
    omega)
   rw [List.length_erase_of_mem hm] at h1;omega
  ·have h1 := pV n l hn (fun x hx => by
    have h2 := h x hx
    have : x ≠ n := fun e => hm (e ▸ hx)
    omega)
   omega
theorem F9 {n : Nat} {l : List Nat} (hn : l.Nodup) (h : ∀ x, x ∈ l -> x < n) (hl : l.length = n) : ∀ i, i < n -> i ∈ l := by
 intro i hi
 apply sj
 intro VU
 have := pV n (i :: l) (List.nodup_cons.2 ⟨VU, hn⟩) (fun x hx => by
  rcases lj.1 hx with rfl | hx
  ·exact hi
  ·exact h x hx)
 simp at this
 omega
theorem F8 {l : List Nat} (h : l.Nodup) : l.reverse.Nodup := List.pairwise_reverse.2 (List.Pairwise.imp (fun h => Ne.symm h) h)
theorem Jk (ops : Array Oper) (qi : nJ ops.toList 0 = true) : ∀ (fuel t : Nat) (listed : Array Bool) (acc : List Nat), listed.size = ops.size -> (∀ i, listed.getD i true = false ↔ (i < ops.size /\ i ∉ acc)) -> (∀ i, i ∈ acc -> i < ops.size) -> acc.Nodup -> acc.length + fuel = ops.size ->
  (∀ (k i : Nat) (o : Oper) (e : Edge), acc.reverse[k]? = some i -> ops[i]? = some o -> e ∈ o.after -> dr e = true -> e.on ∈ acc.reverse.take k) ->
  DN ops (Region.linearise.go .any ops fuel t listed acc)
 | 0, t, listed, acc, lU, hl, aP, hnd, hlen, Wa => by
  simp only [Region.linearise.go];refine ⟨F8 hnd, fun i => ?_, Wa⟩
  rw [List.mem_reverse];exact ⟨aP i, F9 hnd aP (by omega) i⟩
 | fuel + 1, t, listed, acc, lU, hl, aP, hnd, hlen, Wa => by
  simp only [Region.linearise.go]
  -- Rv is ready: the least H5 is not listed
  have hex : ∃ i, i < ops.size /\ i ∉ acc := by
   apply sj
   intro re
   have hall : ∀ i, i < ops.size -> i ∈ acc := fun x hx => sj fun TA => re ⟨x, hx, TA⟩
   have h1 : (List.range ops.size).length <= acc.length := by
    have h2 := pV acc.length ((List.range ops.size).map fun x => acc.idxOf x) ?_ ?_
    ·simpa using h2
    ·have V3 : ∀ x, x < ops.size -> ∀ y, y < ops.size -> acc.idxOf x = acc.idxOf y -> x = y := by
      intro x hx y hy Yb
      have e1 := List.getElem_idxOf (List.idxOf_lt_length_iff.2 (hall x hx))
      have e2 := List.getElem_idxOf (List.idxOf_lt_length_iff.2 (hall y hy))
      rw [<- e1, <- e2]
      congr 1
     rw [List.Nodup, List.pairwise_map];refine List.Pairwise.imp_of_mem ?_ (List.nodup_range (n := ops.size))
     intro a b ha hb hab e
     exact hab (V3 a (by simpa using ha) b (by simpa using hb) e)
    ·intro x hx
     obtain ⟨y, hy, rfl⟩ := List.mem_map.1 hx
     exact List.idxOf_lt_length_iff.2 (hall y (by simpa using hy))
   simp at h1
   omega
  generalize RT : (List.range ops.size).filter (fun i => !listed.getD i true && ((ops[i]?).map (fun x => x.after.all fun e => !Region.binds .any e || listed.getD e.on false)).getD false) = rs
  have iZ : ∀ i, i ∈ rs ↔ i < ops.size /\ listed.getD i true = false /\ ∀ o, ops[i]? = some o -> ∀ e ∈ o.after, Region.binds .any e = true -> listed.getD e.on false = true := by
   intro i
   rw [<- RT];simp only [List.mem_filter, List.mem_range, kD, Bool.not_eq_true']
   constructor
   ·rintro ⟨h1, h2, h3⟩
    refine ⟨h1, h2, fun o ho e he hb => ?_⟩
    rw [ho] at h3;simp only [Option.map_some, Option.getD_some, Array.all_eq_true_iff_forall_mem] at h3;have := h3 e he
    simpa [hb] using this
   ·rintro ⟨h1, h2, h3⟩
    refine ⟨h1, h2, ?_⟩
    have ho : ops[i]? = some ops[i] := Array.getElem?_eq_getElem h1
    rw [ho];simp only [Option.map_some, Option.getD_some, Array.all_eq_true_iff_forall_mem];intro e he
    cases hb : Region.binds .any e with
    | false => rfl
    | true => simpa using h3 _ ho e he hb
  have P9 : ∀ i, listed.getD i false = true ↔ (i < ops.size /\ i ∈ acc) := by
   intro i
   have h1 := hl i
   by_cases hi : i < ops.size
   ·have e1 : listed.getD i true = listed.getD i false := by simp [Array.getD, lU, hi]
    rw [e1] at h1
    cases hb : listed.getD i false with
    | true => rw [hb] at h1; simp at h1; exact ⟨fun _ => ⟨hi, h1 hi⟩, fun _ => rfl⟩
    | false => rw [hb] at h1; simp at h1; exact ⟨fun h => (by cases h), fun h => absurd h.2 h1.2⟩
   ·have e2 : listed.getD i false = false := by simp [Array.getD, lU, hi]
    rw [e2];exact ⟨fun h => (by cases h), fun h => absurd h.1 hi⟩
  have iv : rs ≠ [] := by
   -- the least one
   obtain ⟨i, hi⟩ : ∃ i, (i < ops.size /\ i ∉ acc) /\ ∀ j, j < i -> ¬ (j < ops.size /\ j ∉ acc) := by
    obtain ⟨i, hi⟩ := hex
    induction i using Nat.strongRecOn with
    | _ i ih =>
     by_cases h : ∃ j, j < i /\ (j < ops.size /\ j ∉ acc)
     ·obtain ⟨j, hj, P5⟩ := h; exact ih j hj P5
     ·exact ⟨i, hi, fun j hj h2 => h ⟨j, hj, h2⟩⟩
   intro VT
   have : i ∈ rs := by
    rw [iZ];refine ⟨hi.1.1, (hl i).2 hi.1, fun o ho e he hb => ?_⟩
    rw [P9];have hp : dr e = true := by
     unfold Region.binds at hb;unfold dr
     cases hg : e.ground <;> simp_all
    have pc : e.on < i := by
     have := ri ops.toList 0 qi i o e (by simpa using ho) he hp
     omega
    have h2 := hi.2 e.on pc
    refine ⟨by omega, ?_⟩
    apply sj
    intro h3
    exact h2 ⟨by omega, h3⟩
   rw [VT] at this;simp at this
  have vD : 0 < rs.length := List.length_pos_iff.2 iv
  have Si : t % rs.length < rs.length := Nat.mod_lt _ vD
  rw [ij Si];simp only
  have hi : rs[t % rs.length] ∈ rs := oU Si
  generalize rs[t % rs.length] = i at hi
  obtain ⟨h1, h2, h3⟩ := (iZ i).1 hi
  have VU : i ∉ acc := ((hl i).1 h2).2
  refine Jk ops qi fuel _ _ (i :: acc) (by simpa using lU) (fun j => ?_) (fun j hj => ?_) (List.nodup_cons.2 ⟨VU, hnd⟩) (by simp; omega) ?_
  ·by_cases e : j = i
   ·subst e
    have : (listed.setIfInBounds j true).getD j true = true := by simp [Array.getD_eq_getD_getElem?, lU, h1]
    rw [this];simp
   ·have : (listed.setIfInBounds i true).getD j true = listed.getD j true := by
     rw [Array.getD_eq_getD_getElem?, Array.getElem?_setIfInBounds_ne (fun h => e h.symm), <- Array.getD_eq_getD_getElem?]
    rw [this, hl j];simp [e]
  ·rcases lj.1 hj with rfl | hj
   ·exact h1
   ·exact aP j hj
  ·intro k j o e hk ho he hp
   rw [List.reverse_cons] at hk ⊢
   by_cases qf : k < acc.reverse.length
   ·rw [rB qf] at hk
    rw [List.take_append_of_le_length (by omega)];exact Wa k j o e hk ho he hp
   ·have V1 : k = acc.reverse.length := by
     have := (kO.1 hk).1
     simp at this qf ⊢
     omega
    subst V1;rw [qJ (ee _)] at hk;simp at hk
    subst hk;rw [List.take_append_of_le_length (ee _), List.take_length];have := (P9 e.on).1 (h3 o ho e he (zz hp))
    exact List.mem_reverse.2 this.2
theorem xB {P : Program} (eT : P.follows .mixedOrders = true) (ops : Array Oper) (qi : nJ ops.toList 0 = true) (t : Nat) : DN ops (Region.schedule (P.follows .mixedOrders) ops t) := by
 unfold Region.schedule;rw [eT];simp only [Bool.true_or, if_true];unfold Region.linearise;exact Jk ops qi ops.size t _ [] (by simp) (fun i => by
  by_cases hi : i < ops.size
  ·simp [Array.getD_eq_getD_getElem?, hi]
  ·simp [Array.getD_eq_getD_getElem?, hi]) (by simp) (by simp) (by simp) (by simp)
theorem mR : ∀ (l : List Oper) (acc : List (List Nat)) (i : Nat), i < acc.length -> (cX l acc)[i]? = acc[i]?
 | [], acc, i, _ => rfl
 | o :: l, acc, i, h => by
  simp only [cX];rw [mR l _ i (by simp; omega), rB h]
theorem uW : ∀ (l : List Oper) (acc : List (List Nat)) (k : Nat) (o : Oper), l[k]? = some o ->
  ∃ Bj : List (List Nat), (cX l acc)[acc.length + k]? = some ((o.after.toList.filter dr).flatMap fun e => e.on :: Bj.getD e.on []) /\ Bj.length = acc.length + k /\ ∀ i, i < Bj.length -> Bj[i]? = (cX l acc)[i]?
 | [], acc, k, o, h => by simp at h
 | x :: l, acc, k, o, h => by
  cases k with
  | zero =>
   simp at h; subst h
   refine ⟨acc, ?_, rfl, fun i hi => ?_⟩
   ·simp only [cX]
    rw [mR l _ _ (by simp)];simp
   ·simp only [cX]
    rw [mR l _ i (by simp; omega), rB hi]
  | succ k =>
   simp only [cX];obtain ⟨Bj, h1, h2, h3⟩ := uW l (acc ++ [(x.after.toList.filter dr).flatMap fun e => e.on :: acc.getD e.on []]) k o (by simpa using h)
   refine ⟨Bj, ?_, by rw [h2]; simp; omega, h3⟩
   rw [<- h1]; congr 1; simp; omega
theorem vQ {ops : Array Oper} (qi : nJ ops.toList 0 = true) {l : List Nat} (hl : DN ops l) : ∀ (j k : Nat), l[k]? = some j -> ∀ i, i ∈ (cX ops.toList []).getD j [] -> i ∈ l.take k := by
 intro j
 induction j using Nat.strongRecOn with
 | _ j ih =>
  intro k hk i hi
  have hj : j < ops.size := (hl.all j).1 (List.mem_of_getElem? hk)
  have ho : ops.toList[j]? = some ops[j] := by simp [hj]
  obtain ⟨Bj, h1, h2, h3⟩ := uW ops.toList [] j ops[j] ho
  simp only [List.length_nil, Nat.zero_add] at h1 h2;rw [List.getD_eq_getElem?_getD, h1, Option.getD_some] at hi;obtain ⟨e, he, hi⟩ := List.mem_flatMap.1 hi
  obtain ⟨TL, Ra⟩ := List.mem_filter.1 he
  have aP : e.on < j := by
   have := ri ops.toList 0 qi j ops[j] e ho (by simpa using TL) Ra
   omega
  have Yo := hl.Te k j ops[j] e hk (Array.getElem?_eq_getElem hj) (by simpa using TL) Ra
  rcases lj.1 hi with rfl | hi
  ·exact Yo
  ·have Wk : Bj.getD e.on [] = (cX ops.toList []).getD e.on [] := by
    rw [List.getD_eq_getElem?_getD, List.getD_eq_getElem?_getD, h3 e.on (by omega)]
   rw [Wk] at hi;obtain ⟨k', Bq⟩ := List.mem_iff_getElem?.1 Yo
   have OP : k' < k := by
    have := (kO.1 Bq).1
    simp at this; omega
   rw [List.getElem?_take, if_pos OP] at Bq
   have := ih e.on aP k' Bq i hi
   exact (List.take_subset_take_left l (Nat.le_of_lt OP)) this
end
section
section
variable {G : List Nat} {base : Nat} {ρ : Ren} {m : Mem} {w : World} {P : Program} {n : Nat} {fr : Fr} {a : Act}
theorem Cu {o : Oper} {io : iR} (hc : O2 P G o = some io) (hs : bM io = 1) (hG : fJ G ρ) (hR : RN base ρ m w) (hF : FR ρ n fr a) {v : EV} {m1 : Mem} (h : ap fr.eval io m = some (.val v m1)) :
  ∃ B, m1 = m.new B /\ ∃ ρ' w' v', (execOp a.eval o).run P w = .ok (.value v') w' /\ VR ρ' v v' /\ Made base ρ m w ρ' B w' := by
 have E : ∀ {x : Operand} {y : aD}, cR G x = some y -> VR ρ (fr.eval y) (a.eval x) := fun h => eK hG hF h
 have fin : ∀ {s : Sem Value} {B : cY}, execOp a.eval o = (do pure (Next.value (<- s)) : Sem Next) -> nW P s base ρ m w v B -> ∃ ρ' w' v', (execOp a.eval o).run P w = .ok (.value v') w' /\ VR ρ' v v' /\ Made base ρ m w ρ' B w' := by
  rintro s B he ⟨ρ', w', v', h1, h2, h3⟩
  exact ⟨ρ', w', v', by rw [he]; simp [h1], h2, h3⟩
 unfold O2 at hc
 split at hc
 case h_1 => obtain ⟨_, _, rfl⟩ := af hc; simp [bM] at hs
 case h_2 => obtain ⟨_, _, rfl⟩ := af hc; simp [bM] at hs
 case h_3 => obtain ⟨_, _, hc⟩ := ae hc; obtain ⟨_, _, hc⟩ := ae hc; obtain ⟨_, _, rfl⟩ := af hc; simp [bM] at hs
 case h_4 e ho =>
  obtain ⟨z, hz, rfl⟩ := af hc
  simp only [ap, aQ, R1.val.injEq] at h;obtain ⟨rfl, rfl⟩ := h
  exact ⟨_, rfl, fin (by simp only [execOp, ho]) (u0 hR hz)⟩
 case h_5 e x ho =>
  obtain ⟨y, hy, rfl⟩ := af hc
  simp only [ap] at h
  cases fx : (fr.eval y).cells with
  | none => simp [fx] at h
  | some cs =>
   simp only [fx, aQ, R1.val.injEq] at h;obtain ⟨rfl, rfl⟩ := h
   exact ⟨_, rfl, fin (by simp only [execOp, ho]) (A6 hR (E hy) fx)⟩
 case h_6 =>
  obtain ⟨_, _, hc⟩ := ae hc
  rcases dE hc with hc | hc
  ·obtain ⟨_, _, hc⟩ := ae hc; obtain ⟨_, _, hc⟩ := ae hc; obtain ⟨_, _, rfl⟩ := af hc; simp [bM] at hs
  ·obtain ⟨_, _, hc⟩ := ae hc; obtain ⟨_, _, hc⟩ := ae hc; obtain ⟨_, _, rfl⟩ := af hc; simp [bM] at hs
 case h_7 t len parts ho =>
  obtain ⟨e, hu, hc⟩ := ae hc
  obtain ⟨s, lU, hc⟩ := ae hc
  obtain ⟨z, hz, hc⟩ := ae hc
  obtain ⟨ps, hp, hc⟩ := ae hc
  obtain ⟨_, x4, hc⟩ := ae hc
  obtain ⟨_, hl, rfl⟩ := af hc
  have hu := gr hu
  simp only [ap] at h
  cases fx : cU (cH len z) (ps.map fun p => (p.1 * s, s, fr.eval p.2)) with
  | none => simp [fx] at h
  | some cs =>
   simp only [fx, aQ, R1.val.injEq] at h;obtain ⟨rfl, rfl⟩ := h
   obtain ⟨p1, p2⟩ := mapM_some _ hp
   have hb := si (P := P) hR hu lU hz (aB (fw x4)) (lk (fw hl)) (qs := parts.toList.map fun p => (p.1, a.eval p.2)) (by simpa using p1.symm) (fun i p q hp' wP => by
    rw [List.getElem?_map] at hp' wP
    obtain ⟨p0, R2, rfl⟩ := fG.1 hp'
    obtain ⟨q0, RZ, rfl⟩ := fG.1 wP
    obtain ⟨x, hx, Vz⟩ := af (p2 i q0 p0 RZ R2)
    subst Vz;exact ⟨⟨rfl, rfl⟩, E hx⟩) fx
   have : (parts.map fun (i, x) => (i, a.eval x)) = (⟨parts.toList.map fun p => (p.1, a.eval p.2)⟩ : Array (Nat × Value)) := by apply Array.ext'; simp
   exact ⟨_, rfl, fin (by simp only [execOp, ho]; rw [this]) hb⟩
 case h_8 => obtain ⟨_, _, hc⟩ := ae hc; obtain ⟨_, _, rfl⟩ := af hc; simp [bM] at hs
 case h_9 => obtain ⟨_, _, hc⟩ := ae hc; obtain ⟨_, _, hc⟩ := ae hc; obtain ⟨_, _, rfl⟩ := af hc; simp [bM] at hs
 case h_10 => obtain ⟨_, _, rfl⟩ := af hc; simp [bM] at hs
 case h_11 op t x y yt ho =>
  obtain ⟨_, _, hc⟩ := ae hc; obtain ⟨_, _, hc⟩ := ae hc
  split at hc
  ·unfold O3 at hc
   simp only [Bool.cond_eq_ite] at hc
   split at hc <;> (obtain ⟨_, _, rfl⟩ := af hc; simp [bM] at hs)
  ·unfold O3 at hc
   simp only [Bool.cond_eq_ite] at hc
   split at hc <;> (obtain ⟨_, _, rfl⟩ := af hc; simp [bM] at hs)
  ·cases hc; simp [bM] at hs
 case h_12 => obtain ⟨_, _, rfl⟩ := af hc; simp [bM] at hs
 case h_13 s d x ho =>
  obtain ⟨y, hy, hc⟩ := ae hc
  rcases dE hc with hc | hc
  ·obtain ⟨_, _, hc⟩ := ae hc; obtain ⟨_, _, rfl⟩ := af hc; simp [bM] at hs
  rcases dE hc with hc | hc
  ·obtain ⟨_, _, hc⟩ := ae hc; obtain ⟨_, _, rfl⟩ := af hc; simp [bM] at hs
  rcases dE hc with hc | hc
  ·obtain ⟨_, ZF, hc⟩ := ae hc
   obtain ⟨e, hd, hc⟩ := ae hc
   obtain ⟨k, he, hc⟩ := ae hc
   obtain ⟨_, hk, rfl⟩ := af hc
   have hk : k = .u8 := by have := aB (fw hk); cases k <;> simp [bf] at this; rfl
   subst hk;simp only [ap] at h;obtain ⟨B, rfl, hB⟩ := uQ (P := P) hR (hH ZF) (gr hd) (sK he) (E hy) (iU h)
   exact ⟨B, rfl, fin (by simp only [execOp, ho]) hB⟩
  ·obtain ⟨_, _, hc⟩ := ae hc; obtain ⟨_, _, hc⟩ := ae hc; obtain ⟨_, _, hc⟩ := ae hc; obtain ⟨_, _, rfl⟩ := af hc; simp [bM] at hs
 case h_14 => obtain ⟨_, _, hc⟩ := ae hc; obtain ⟨_, _, rfl⟩ := af hc; simp [bM] at hs
 case h_15 => obtain ⟨_, _, hc⟩ := ae hc; obtain ⟨_, _, rfl⟩ := af hc; simp [bM] at hs
 case h_16 t ho =>
  obtain ⟨_, _, rfl⟩ := af hc
  simp only [ap, aQ, R1.val.injEq] at h;obtain ⟨rfl, rfl⟩ := h
  refine ⟨_, rfl, fin (by simp only [execOp, ho]) (s := Instr.makeMap t (none.map a.eval)) ?_⟩
  have := mI (P := P) hR
  simpa [Instr.makeMap] using this
 case h_17 t k z ho =>
  obtain ⟨q, hu, rfl⟩ := af hc
  have hu := pL hu
  simp only [ap, aQ, R1.val.injEq] at h;obtain ⟨rfl, rfl⟩ := h
  refine ⟨_, rfl, fin (by simp only [execOp, ho]) (s := Instr.makeMap t ((some (.const (.int k z))).map a.eval)) ?_⟩
  obtain ⟨ρ', w', v', h1, h2⟩ := mI (P := P) hR
  exact ⟨ρ', w', v', by simpa [Instr.makeMap, run_underlying hu, Act.eval, asInt, asIntOf] using h1, h2⟩
 case h_18 t l c ho =>
  obtain ⟨e, hu, hc⟩ := ae hc
  obtain ⟨i, hi, hc⟩ := ae hc
  obtain ⟨z, hz, hc⟩ := ae hc
  obtain ⟨l', hl, hc⟩ := ae hc
  obtain ⟨c', nI, hc⟩ := ae hc
  obtain ⟨_, x4, hc⟩ := ae hc
  obtain ⟨_, hb, rfl⟩ := af hc
  have oA := E hl
  have CR := E nI
  simp only [ap] at h;have hex : execOp a.eval o = (do pure (Next.value (<- Instr.makeSlice t (a.eval l) (a.eval c))) : Sem Next) := by simp only [execOp, ho]
  generalize fr.eval l' = el at oA h
  generalize fr.eval c' = ec at CR h
  generalize a.eval l = al at oA hex
  generalize a.eval c = ac at CR hex
  cases oA <;> (try simp only [reduceCtorEq] at h)
  rename_i k1 n1
  cases k1 <;> (try simp only [reduceCtorEq] at h)
  cases n1 <;> (try simp only [reduceCtorEq] at h)
  rename_i ln
  cases CR <;> (try simp only [reduceCtorEq] at h)
  rename_i k2 n2
  cases k2 <;> (try simp only [reduceCtorEq] at h)
  cases n2 <;> (try simp only [reduceCtorEq] at h)
  rename_i cn
  cases h1 : ln.ble cn <;> simp only [h1, cond_true, cond_false, reduceCtorEq] at h
  cases h2 : cn.ble room <;> simp only [h2, cond_true, cond_false, reduceCtorEq, aQ, R1.val.injEq] at h
  obtain ⟨rfl, rfl⟩ := h
  exact ⟨_, rfl, fin hex (p5 hR (gr hu) hi hz (aB (fw x4)) (lk (fw hb)) (lk h1) (lk h2))⟩
 case h_19 =>
  obtain ⟨_, _, hc⟩ := ae hc; obtain ⟨_, _, hc⟩ := ae hc; obtain ⟨_, _, hc⟩ := ae hc; obtain ⟨_, _, hc⟩ := ae hc; obtain ⟨_, _, hc⟩ := ae hc
  rcases dE hc with hc | hc
  ·obtain ⟨_, _, hc⟩ := ae hc; obtain ⟨_, _, rfl⟩ := af hc; simp [bM] at hs
  rcases dE hc with hc | hc
  ·obtain ⟨_, _, hc⟩ := ae hc; obtain ⟨_, _, rfl⟩ := af hc; simp [bM] at hs
  ·obtain ⟨_, _, hc⟩ := ae hc; obtain ⟨_, _, rfl⟩ := af hc; simp [bM] at hs
 case h_20 => obtain ⟨_, _, hc⟩ := ae hc; obtain ⟨_, _, hc⟩ := ae hc; obtain ⟨_, _, hc⟩ := ae hc; obtain ⟨_, _, hc⟩ := ae hc; obtain ⟨_, _, rfl⟩ := af hc; simp [bM] at hs
 case h_21 => obtain ⟨_, _, hc⟩ := ae hc; obtain ⟨_, _, hc⟩ := ae hc; obtain ⟨_, _, hc⟩ := ae hc; obtain ⟨_, _, rfl⟩ := af hc; simp [bM] at hs
 case h_22 =>
  obtain ⟨_, _, hc⟩ := ae hc; obtain ⟨_, _, hc⟩ := ae hc
  rcases dE hc with hc | hc
  ·obtain ⟨_, _, hc⟩ := ae hc; obtain ⟨_, _, rfl⟩ := af hc; simp [bM] at hs
  ·obtain ⟨_, _, hc⟩ := ae hc; obtain ⟨_, _, rfl⟩ := af hc; simp [bM] at hs
 case h_23 =>
  obtain ⟨_, _, hc⟩ := ae hc; obtain ⟨_, _, hc⟩ := ae hc
  rcases dE hc with hc | hc
  ·obtain ⟨_, _, rfl⟩ := af hc; simp [bM] at hs
  ·obtain ⟨_, _, hc⟩ := ae hc; obtain ⟨_, _, hc⟩ := ae hc; obtain ⟨_, _, rfl⟩ := af hc; simp [bM] at hs
 case h_24 => obtain ⟨_, _, hc⟩ := ae hc; obtain ⟨_, _, hc⟩ := ae hc; obtain ⟨_, _, hc⟩ := ae hc; obtain ⟨_, _, hc⟩ := ae hc; obtain ⟨_, _, rfl⟩ := af hc; simp [bM] at hs
 case h_25 => obtain ⟨_, _, hc⟩ := ae hc; obtain ⟨_, _, hc⟩ := ae hc; obtain ⟨_, _, hc⟩ := ae hc; obtain ⟨_, _, hc⟩ := ae hc; obtain ⟨_, _, rfl⟩ := af hc; simp [bM] at hs
 case h_26 => obtain ⟨_, _, hc⟩ := ae hc; obtain ⟨_, _, hc⟩ := ae hc; obtain ⟨_, _, hc⟩ := ae hc; obtain ⟨_, _, hc⟩ := ae hc; obtain ⟨_, _, rfl⟩ := af hc; simp [bM] at hs
 case h_27 => obtain ⟨_, _, hc⟩ := ae hc; obtain ⟨_, _, rfl⟩ := af hc; simp [bM] at hs
 case h_28 => obtain ⟨_, _, rfl⟩ := af hc; simp [bM] at hs
 case h_29 c ho =>
  obtain ⟨ys, JF, hc⟩ := ae hc
  split at hc
  ·exfalso
   unfold nS at hc;simp only [Bool.cond_eq_ite] at hc
   split at hc
   ·split at hc <;> first | (cases hc; simp [bM] at hs; done) | cases hc
   ·split at hc <;> first | (cases hc; simp [bM] at hs; done) | cases hc
   ·cases hc; simp [bM] at hs
   ·cases hc; simp [bM] at hs
   ·obtain ⟨_, _, hc⟩ := ae hc
    obtain ⟨_, _, hc⟩ := ae hc
    obtain ⟨_, _, hc⟩ := ae hc
    obtain ⟨_, _, hc⟩ := ae hc
    obtain ⟨_, _, hc⟩ := ae hc
    split at hc <;> first | (cases hc; simp [bM] at hs; done) | cases hc
   ·split at hc
    ·split at hc <;> first | (cases hc; simp [bM] at hs; done) | cases hc
    ·cases hc
   ·split at hc
    ·obtain ⟨_, _, rfl⟩ := af hc; simp [bM] at hs
    ·cases hc
   ·cases hc
  ·cases hc
 case h_30 => cases hc
theorem kZ {l : List aD} {f g : aD -> EV} (h : ∀ x, x ∈ l -> f x = g x) : l.map f = l.map g := List.map_congr_left h
theorem fX {l : Option aD} {f g : aD -> EV} (h : ∀ x, x ∈ tL l -> f x = g x) : l.map f = l.map g := by
 cases l with
 | none => rfl
 | some x => simp [h x (by simp [tL])]
theorem pk {f g : aD -> EV} {op : iR} (h : ∀ x, x ∈ eY op -> f x = g x) (m : Mem) : ap f op m = ap g op m := by
 cases op
 case build z ps =>
  simp only [ap];rw [List.map_congr_left (g := fun p => (p.1, p.2.1, g p.2.2))];intro p hp
  rw [h p.2.2 (by simp only [eY, List.mem_map]; exact ⟨p, hp, rfl⟩)]
 case aU e s l z ps =>
  simp only [ap];rw [List.map_congr_left (g := fun p => (p.1 * s, s, g p.2))];intro p hp
  rw [h p.2 (by simp only [eY, List.mem_map]; exact ⟨p, hp, rfl⟩)]
 case tX k x y =>
  simp only [ap];rw [kZ (l := x) (fun z hz => h z (by simp [eY, hz])), kZ (l := y) (fun z hz => h z (by simp [eY, hz]))]
 case max xs => simp only [ap]; rw [kZ (l := xs) h]
 case min xs => simp only [ap]; rw [kZ (l := xs) h]
 case mW x l hh =>
  simp only [ap];rw [h x (by simp [eY]), fX (l := l) (fun z hz => h z (by simp [eY, hz])), fX (l := hh) (fun z hz => h z (by simp [eY, hz]))]
 case lp e x l hh mm =>
  simp only [ap];rw [h x (by simp [eY]), fX (l := l) (fun z hz => h z (by simp [eY, hz])), fX (l := hh) (fun z hz => h z (by simp [eY, hz])), fX (l := mm) (fun z hz => h z (by simp [eY, hz]))]
 case kU e k x l hh mm =>
  simp only [ap];rw [h x (by simp [eY]), fX (l := l) (fun z hz => h z (by simp [eY, hz])), fX (l := hh) (fun z hz => h z (by simp [eY, hz])), fX (l := mm) (fun z hz => h z (by simp [eY, hz]))]
 all_goals
  simp only [eY, lj, List.not_mem_nil, or_false, forall_eq_or_imp, forall_eq] at h;simp only [ap, h]
theorem zy {f : aD -> EV} {op : iR} (hs : bM op = 0) {m m1 : Mem} {v : EV} (h : ap f op m = some (.val v m1)) : m1 = m /\ ∀ m', ap f op m' = some (.val v m') := by
 have e1 : ∀ {x : Option EV}, dQ m x = some (.val v m1) -> m1 = m /\ ∀ m', dQ m' x = some (.val v m') := by
  intro x hx
  obtain ⟨h1, h2⟩ := dC hx
  exact ⟨h2, fun m' => by rw [h1]; rfl⟩
 cases op <;> simp only [bM] at hs <;> (try (simp at hs; done))
 case conv c x =>
  cases c <;> simp at hs
  all_goals
   simp only [ap] at h ⊢
   have h1 := iU h
   generalize f x = e at h1 ⊢
   cases e <;> simp only [fA, reduceCtorEq, aQ, kj] at h1
   obtain ⟨rfl, rfl⟩ := h1
   exact ⟨rfl, fun m' => rfl⟩
 all_goals
  simp only [ap, Bool.cond_eq_ite] at h ⊢
  first
   | exact e1 h
   | (simp only [aQ, R1.val.injEq] at h; obtain ⟨rfl, rfl⟩ := h; exact ⟨rfl, fun m' => rfl⟩)
   | (revert h; (repeat' split) <;> intro h <;> first
     | (cases h; done)
     | exact e1 h
     | (simp only [aQ, R1.val.injEq] at h; obtain ⟨rfl, rfl⟩ := h; exact ⟨rfl, fun m' => rfl⟩)
     | (simp_all; done))
end
end
section
theorem B9 {a b : Option Nat} (h : pQ a b = true) : a = b := by
 cases a <;> cases b <;> simp [pQ] at h
 ·rfl
 ·exact congrArg some h
mutual
theorem sP : ∀ {a b : EV}, EV.same a b = true -> a = b
 | a, b, h => by
  cases a <;> cases b <;> simp only [EV.same, lm] at h
  case undef.undef => rfl
  case bb.bb => rfl
  case aa.aa => rfl
  case aS.aS => rfl
  case aR.aR => rfl
  case aq.aq => rfl
  case bool.bool x y => rw [beq_iff_eq.1 h]
  case int.int k x l y =>
   cases hk : (bf k).beq (bf l) <;> simp only [hk, cond_true, cond_false, lm] at h
   rw [fY hk, oX] at *
   rw [of_decide_eq_true h]
  case str.str x y =>
   rw [dh] at h;rw [of_decide_eq_true h]
  case ptr.ptr x i y j =>
   cases hk : x.beq y <;> simp only [hk, cond_true, cond_false, lm] at h
   rw [aB hk, aB h]
  case slice.slice x i k c y j l d =>
   cases h1 : x.beq y <;> simp only [h1, cond_true, cond_false, lm] at h
   cases h2 : i.beq j <;> simp only [h2, cond_true, cond_false, lm] at h
   cases h3 : k.beq l <;> simp only [h3, cond_true, cond_false, lm] at h
   rw [aB h1, aB h2, aB h3, B9 h]
  case map.map x y => rw [aB h]
  case func.func f x y g z u =>
   cases h1 : f.beq g <;> simp only [h1, cond_true, cond_false, lm] at h
   cases h2 : EV.gO x z <;> simp only [h2, cond_true, cond_false, lm] at h
   rw [aB h1, kV h2, kV h]
  case iface.iface t v u z =>
   cases h1 : t.beq u <;> simp only [h1, cond_true, cond_false, lm] at h
   rw [aB h1, sP h]
  case agg.agg x y => rw [kV h]
  case tuple.tuple x y => rw [kV h]
  case fz.fz t e x u f y =>
   cases h0 : t.beq 0 <;> simp only [h0, cond_true, cond_false, lm] at h
   cases h1 : t.beq u <;> simp only [h1, cond_true, cond_false, lm] at h
   cases h2 : e.beq f <;> simp only [h2, cond_true, cond_false, lm] at h
   rw [aB h1, aB h2, wj h]
theorem kV : ∀ {a b : List EV}, EV.gO a b = true -> a = b
 | [], [], _ => rfl
 | [], _ :: _, h => by simp [EV.gO] at h
 | _ :: _, [], h => by simp [EV.gO] at h
 | x :: a, y :: b, h => by
  simp only [EV.gO] at h
  cases h1 : EV.same x y <;> simp only [h1, cond_true, cond_false, lm] at h
  rw [sP h1, kV h]
theorem wj : ∀ {a b : List (List EV)}, EV.lK a b = true -> a = b
 | [], [], _ => rfl
 | [], _ :: _, h => by simp [EV.lK] at h
 | _ :: _, [], h => by simp [EV.lK] at h
 | x :: a, y :: b, h => by
  simp only [EV.lK] at h
  cases h1 : EV.gO x y <;> simp only [h1, cond_true, cond_false, lm] at h
  rw [kV h1, wj h]
end
theorem wa {m : Mem} {agg : Option Nat} {a v : EV} (h : m.cJ agg a v = true) : m.load agg a = some v := by
 unfold Mem.cJ at h
 cases hl : m.load agg a with
 | none => simp [hl] at h
 | some x => simp only [hl] at h; rw [sP h]
theorem Ji {m m' : Mem} {agg : Option Nat} {b off : Nat} (h : m.get b = m'.get b) : m.load agg (.ptr b off) = m'.load agg (.ptr b off) := by
 simp only [Mem.load, h]
theorem R.congr {base : Nat} {ρ : Ren} {m m' : Mem} {w : World} (h : R base ρ m w) (hn : m'.next = m.next) (hg : ∀ b, m'.get b = m.get b) : R base ρ m' w :=
 ⟨fun b L hb => by rw [hn]; exact h.lt b L hb, fun b L hb => by rw [hg]; exact h.bT b L hb, fun b c L L' h1 h2 h3 h4 => h.inj b c L L' h1 h2 (by unfold Live at *; rwa [hg] at h3) (by unfold Live at *; rwa [hg] at h4), h.base,
  fun b hb => by rw [hg]; exact h.clean b (by rw [<- hn]; exact hb)⟩
theorem Step.congr {ρ ρ' : Ren} {m m1 dO : Mem} {w w' : World} (h : Step ρ m w ρ' m1 w') (hn : dO.next = m1.next) (hg : ∀ b, dO.get b = m1.get b) : Step ρ m w ρ' dO w' :=
 ⟨h.ext, h.new, by rw [hn]; exact h.next, fun b hb hr => by rw [hg]; exact h.same b hb hr, fun b hb hd => by rw [hg]; exact h.dead b hb hd, h.size,
  fun i hi ⟨b, L, h1, h2, h3, h4⟩ => h.Cb i hi ⟨b, L, h1, by unfold Live at *; rwa [hg] at h2, h3, h4⟩, h.kept, h.os, h.tape, h.output⟩
theorem R.weaken {base : Nat} {ρ : Ren} {m m' : Mem} {w : World} (h : R base ρ m w) (hn : ∀ b L, ρ b = some L -> b < m'.next) (hg : ∀ b L, ρ b = some L -> m'.get b = m.get b \/ m'.get b = .dead) (hc : ∀ b, m'.next <= b -> m'.get b = .dead) : R base ρ m' w := by
 have lv : ∀ b L, ρ b = some L -> Live m' b -> Live m b := fun b L hb hl => by
  rcases hg b L hb with e | e
  ·unfold Live at *; rwa [e] at hl
  ·exact absurd e hl
 refine ⟨hn, fun b L hb => ?_, fun b c L L' h1 h2 h3 h4 => h.inj b c L L' h1 h2 (lv b L h1 h3) (lv c L' h2 h4), h.base, hc⟩
 rcases hg b L hb with e | e
 ·rw [e]; exact h.bT b L hb
 ·rw [e]; trivial
theorem side {base : Nat} {ρ : Ren} {B : cY} {L : Loc} {w : World} (h : ru base ρ B L w) (hl : B ≠ .dead) : (L.ro = false -> base <= L.bT) /\ (L.ro = true -> L.bT < base) := by
 cases B with
 | dead => exact absurd rfl hl
 | cells cs esz el ro =>
  obtain ⟨_, _, _, _, _, _, h4, _, _, h7, h8⟩ := h
  exact ⟨fun e => (h7 (by rw [<- h4]; exact e)).1, fun e => h8 (by rw [<- h4]; exact e)⟩
 | map es =>
  obtain ⟨_, _, _, _, _, h4, h5⟩ := h
  exact ⟨fun _ => h4, fun e => by rw [h5] at e; cases e⟩
theorem over (m : Mem) (f : Nat -> cY) : ∀ l : List Nat, ∃ m' : Mem, m'.next = m.next /\ ∀ b, m'.get b = if b ∈ l then f b else m.get b
 | [] => ⟨m, rfl, fun b => by simp⟩
 | x :: l => by
  obtain ⟨m', h1, h2⟩ := over m f l
  refine ⟨m'.set x (f x), h1, fun b => ?_⟩
  rw [Mem.ba, h2 b];by_cases e : b = x
  ·subst e; simp
  ·simp [e]
theorem K0 {base : Nat} {ρ0 ρ ρ' : Ren} {m0 Mm mi me M2 : Mem} {w0 w w' : World} (l : List Nat) (hR : R base ρ Mm w) (cx : Step ρ0 m0 w0 ρ Mm w) (Rb : R base ρ' me w') (hs : Step ρ mi w ρ' me w')
  (hl : ∀ b, b ∈ l -> m0.next <= b /\ b < mi.next /\ mi.get b = .dead) (TF : ∀ b L, ρ b = some L -> b ∉ l -> mi.get b = Mm.get b \/ mi.get b = .dead) (Sa : ∀ b, b < m0.next -> mi.get b = Mm.get b) (wQ : m0.next <= mi.next)
  (Wp : M2.next = me.next) (YA : ∀ b, M2.get b = if b ∈ l then Mm.get b else me.get b) : R base ρ' M2 w' /\ Step ρ0 m0 w0 ρ' M2 w' := by
 have old : ∀ b L, b ∈ l -> ρ' b = some L -> ρ b = some L := by
  intro b L hb hL
  cases e : ρ b with
  | some L' => rw [hs.ext b L' e] at hL; exact hL
  | none => have := hs.new b e (by rw [hL]; simp); have := (hl b hb).2.1; omega
 have sE : ∀ b, b ∈ l -> M2.get b = Mm.get b := fun b hb => by rw [YA, if_pos hb]
 have uj : ∀ b, b ∉ l -> M2.get b = me.get b := fun b hb => by rw [YA, if_neg hb]
 -- a block H5 waits is not in the To reach
 have apart : ∀ b L, b ∈ l -> ρ b = some L -> Live Mm b -> L.ro = false -> L.bT < w.heap.size /\ ¬ Cb ρ mi L.bT := by
  intro b L hb hL oA lQ
  refine ⟨(hR.bT b L hL).lt oA, ?_⟩
  rintro ⟨c, Mc, hc, CK, PS, oD⟩
  have mN : c ∉ l := fun h => CK (hl c h).2.2
  have P2 : Live Mm c := by
   rcases TF c Mc hc mN with e | e
   ·unfold Live at *; rwa [e] at CK
   ·exact absurd e CK
  have := hR.inj c b Mc L hc hL P2 oA PS oD
  exact mN (this ▸ hb)
 have mix : ∀ b c L L', b ∈ l -> c ∉ l -> ρ' b = some L -> ρ' c = some L' -> Live M2 b -> Live M2 c -> L.bT = L'.bT -> (L.ro = false \/ L'.ro = false) -> False := by
  intro b c L L' hb hc h1 h2 h3 h4 oD lQ
  have Al := old b L hb h1
  have Yz : Live Mm b := by unfold Live at *; rwa [sE b hb] at h3
  have Yy : Live me c := by unfold Live at *; rwa [uj c hc] at h4
  have s1 := side (hR.bT b L Al) Yz
  have s2 := side (Rb.bT c L' h2) Yy
  have both : L.ro = false /\ L'.ro = false := by
   cases e1 : L.ro <;> cases e2 : L'.ro
   ·exact ⟨rfl, rfl⟩
   ·have a1 := s1.1 e1; have a2 := s2.2 e2; omega
   ·have a1 := s1.2 e1; have a2 := s2.1 e2; omega
   ·rcases lQ with h | h
    ·rw [e1] at h; cases h
    ·rw [e2] at h; cases h
  obtain ⟨a1, a2⟩ := apart b L hb Al Yz both.1
  exact a2 (hs.Cb L.bT a1 ⟨c, L', h2, Yy, both.2, oD.symm⟩)
 refine ⟨⟨fun b L hb => by rw [Wp]; exact Rb.lt b L hb, ?_, ?_, Rb.base, ?_⟩, ⟨cx.ext.trans hs.ext, ?_, ?_, ?_, ?_, vn cx.size hs.size, ?_, ?_, hs.os.trans cx.os, hs.tape.trans cx.tape, hs.output.trans cx.output⟩⟩
 ·intro b L hb
  by_cases yS : b ∈ l
  ·rw [sE b yS]
   have hL := old b L yS hb
   by_cases hd : Mm.get b = .dead
   ·rw [hd]; trivial
   ·have hB := hR.bT b L hL
    refine hB.of_heap hs.ext ?_
    cases lQ : L.ro with
    | false => obtain ⟨a1, a2⟩ := apart b L yS hL hd lQ; exact hs.kept L.bT a1 a2
    | true =>
     refine hs.kept L.bT (hB.lt hd) ?_
     rintro ⟨c, Mc, hc, CK, PS, oD⟩
     have mN : c ∉ l := fun h => CK (hl c h).2.2
     have P2 : Live Mm c := by
      rcases TF c Mc hc mN with e | e
      ·unfold Live at *; rwa [e] at CK
      ·exact absurd e CK
     have s1 := (side hB hd).2 lQ
     have s2 := (side (hR.bT c Mc hc) P2).1 PS
     omega
  ·rw [uj b yS]; exact Rb.bT b L hb
 ·intro b c L L' h1 h2 h3 h4 lQ oD
  by_cases hb : b ∈ l <;> by_cases hc : c ∈ l
  ·exact hR.inj b c L L' (old b L hb h1) (old c L' hc h2) (by unfold Live at *; rwa [sE b hb] at h3) (by unfold Live at *; rwa [sE c hc] at h4) lQ oD
  ·exact (mix b c L L' hb hc h1 h2 h3 h4 oD (.inl lQ)).elim
  ·exact (mix c b L' L hc hb h2 h1 h4 h3 oD.symm (.inr lQ)).elim
  ·exact Rb.inj b c L L' h1 h2 (by unfold Live at *; rwa [uj b hb] at h3) (by unfold Live at *; rwa [uj c hc] at h4) lQ oD
 ·intro b hb
  rw [Wp] at hb;have yS : b ∉ l := fun h => by have := (hl b h).2.1; have := hs.next; omega
  rw [uj b yS]; exact Rb.clean b hb
 ·intro b h0 h1
  cases e : ρ b with
  | some L => exact cx.new b h0 (by rw [e]; simp)
  | none => exact vn wQ (hs.new b e h1)
 ·rw [Wp]; exact vn wQ hs.next
 ·intro b hb h0
  have yS : b ∉ l := fun h => by have := (hl b h).1; omega
  have hρ : ρ b = none := by
   cases e : ρ b with
   | none => rfl
   | some L => have := cx.new b h0 (by rw [e]; simp); omega
  rw [uj b yS, hs.same b (ve hb wQ) hρ, Sa b hb, cx.same b hb h0]
 ·intro b hb hd
  have yS : b ∉ l := fun h => by have := (hl b h).1; omega
  rw [uj b yS];exact hs.dead b (ve hb wQ) (by rw [Sa b hb]; exact cx.dead b hb hd)
 ·rintro i hi ⟨b, L, h1, h2, h3, h4⟩
  by_cases hb : b ∈ l
  ·exact cx.Cb i hi ⟨b, L, old b L hb h1, by unfold Live at *; rwa [sE b hb] at h2, h3, h4⟩
  ·obtain ⟨c, Lc, c1, c2, c3, c4⟩ := hs.Cb i (ve hi cx.size) ⟨b, L, h1, by unfold Live at *; rwa [uj b hb] at h2, h3, h4⟩
   have mN : c ∉ l := fun h => c2 (hl c h).2.2
   refine cx.Cb i hi ⟨c, Lc, c1, ?_, c3, c4⟩
   rcases TF c Lc c1 mN with e | e
   ·unfold Live at *; rwa [e] at c2
   ·exact absurd e c2
 ·intro i hi hr
  rw [hs.kept i (ve hi cx.size), cx.kept i hi hr]
  rintro ⟨c, Lc, c1, c2, c3, c4⟩
  have mN : c ∉ l := fun h => c2 (hl c h).2.2
  refine hr (cx.Cb i hi ⟨c, Lc, c1, ?_, c3, c4⟩)
  rcases TF c Lc c1 mN with e | e
  ·unfold Live at *; rwa [e] at c2
  ·exact absurd e c2
theorem Gl {base : Nat} {ρ0 ρ ρ' : Ren} {m0 Mm : Mem} {w0 w w' : World} {k : Nat} {B : cY} (hR : R base ρ Mm w) (cx : Step ρ0 m0 w0 ρ Mm w) (Q8 : m0.next <= k) (hk : k < Mm.next) (hm : Made base ρ ⟨k, Mm.kl⟩ w ρ' B w') :
  R base ρ' ⟨Mm.next, Mm.kl.set k B⟩ w' /\ Step ρ0 m0 w0 ρ' ⟨Mm.next, Mm.kl.set k B⟩ w' := by
 have hg : ∀ b, (⟨Mm.next, Mm.kl.set k B⟩ : Mem).get b = if b = k then B else Mm.get b := fun b => by
  unfold Mem.get; simp only [Tr.ba]; split <;> rfl
 have oC : ∀ b, ((⟨k, Mm.kl⟩ : Mem).new B).get b = if b = k then B else Mm.get b := fun b => by rw [Mem.dv]; rfl
 have Qc : ∀ b, b ≠ k -> ρ' b = ρ b := fun b hb => hm.Tg b hb
 refine ⟨⟨?_, ?_, ?_, hm.base, ?_⟩, ⟨cx.ext.trans hm.ext, ?_, cx.next, ?_, ?_, by have := cx.size; have := hm.size; omega, ?_, ?_, hm.os.trans cx.os, hm.tape.trans cx.tape, hm.output.trans cx.output⟩⟩
 ·intro b L hb
  by_cases e : b = k
  ·rw [e]; exact hk
  ·rw [Qc b e] at hb; exact hR.lt b L hb
 ·intro b L hb
  rw [hg, <- oC]; exact hm.bT b L hb
 ·intro b c L L' h1 h2 h3 h4
  exact hm.inj b c L L' h1 h2 (by unfold Live at *; rw [oC] ; rwa [hg] at h3) (by unfold Live at *; rw [oC]; rwa [hg] at h4)
 ·intro b hb
  have hb : Mm.next <= b := hb
  rw [hg, if_neg (by omega)]; exact hR.clean b hb
 ·intro b h0 h1
  by_cases e : b = k
  ·rw [e]; exact Q8
  ·rw [Qc b e] at h1; exact cx.new b h0 h1
 ·intro b hb h0
  rw [hg, if_neg (by omega)]; exact cx.same b hb h0
 ·intro b hb hd
  rw [hg, if_neg (by omega)]; exact cx.dead b hb hd
 ·rintro i hi ⟨b, L, h1, h2, h3, h4⟩
  by_cases e : b = k
  ·subst e
   obtain ⟨L0, q1, q2⟩ := hm.loc
   have : ρ' b = some L0 := q1
   rw [this] at h1; cases h1
   have := cx.size
   omega
  ·rw [Qc b e] at h1
   exact cx.Cb i hi ⟨b, L, h1, by unfold Live at *; rwa [hg, if_neg e] at h2, h3, h4⟩
 ·intro i hi hr
  rw [hm.old i (ve hi cx.size), cx.kept i hi hr]
end
section
section
variable {P : Program} {G : List Nat} {n : Nat} {call : Call}
theorem Im (op : iR) : bM op <= 3 := by
 cases op <;> simp [bM]
 case conv c x => cases c <;> simp
theorem sM (op : qH) : sort op <= 3 := by
 cases op <;> simp only [sort] <;> first | exact Im _ | omega
theorem tY {f : aD -> EV} {op : iR} (hs : bM op = 1) {m m1 : Mem} {v : EV} (h : ap f op m = some (.val v m1)) : ∃ (B : cY) (mk : Nat -> EV), v = mk m.next /\ m1 = m.new B /\ ∀ m', ap f op m' = some (.val (mk m'.next) (m'.new B)) := by
 cases op <;> (try simp only [bM] at hs) <;> (try (simp at hs; done))
 case alloc e z =>
  simp only [ap, aQ, R1.val.injEq] at h ⊢
  exact ⟨.cells z z.length e false, fun k => .ptr k 0, h.1.symm, h.2.symm, fun m' => ⟨rfl, rfl⟩⟩
 case box e x =>
  simp only [ap] at h ⊢
  cases hc : (f x).cells with
  | none => simp [hc] at h
  | some cs =>
   simp only [hc, aQ, R1.val.injEq] at h ⊢
   exact ⟨.cells cs cs.length e false, fun k => .ptr k 0, h.1.symm, h.2.symm, fun m' => ⟨rfl, rfl⟩⟩
 case aU e s len z ps =>
  simp only [ap] at h ⊢
  cases hc : cU (cH len z) (ps.map fun p => (p.1 * s, s, f p.2)) with
  | none => simp [hc] at h
  | some cs =>
   simp only [hc, aQ, R1.val.injEq] at h ⊢
   exact ⟨.cells cs s e false, fun k => .slice k 0 len (some len), h.1.symm, h.2.symm, fun m' => ⟨rfl, rfl⟩⟩
 case nz =>
  simp only [ap, aQ, R1.val.injEq] at h ⊢
  exact ⟨.map [], fun k => .map k, h.1.symm, h.2.symm, fun m' => ⟨rfl, rfl⟩⟩
 case gy e s z l c =>
  simp only [ap, Bool.cond_eq_ite] at h ⊢
  generalize f l = el at h ⊢
  generalize f c = ec at h ⊢
  split at h
  ·rename_i ln cn
   split at h
   ·rename_i hq
    split at h
    ·rename_i RY
     simp only [aQ, R1.val.injEq] at h;exact ⟨.cells (cH cn z) s e false, fun k => .slice k 0 ln (some cn), h.1.symm, h.2.symm, fun m' => by rw [if_pos hq, if_pos RY]⟩
    ·cases h
   ·cases h
  ·cases h
 case conv c x =>
  cases c <;> (try (simp at hs; done))
  rename_i e
  simp only [ap] at h ⊢
  have h1 := iU h
  generalize f x = ex at h1 ⊢
  cases ex <;> simp only [fA, reduceCtorEq, aQ, kj] at h1
  rename_i s
  exact ⟨.cells (s.map fun b => .int .u8 (b.toNat : Int)) 1 e false, fun k => .slice k 0 s.length none, h1.1.symm, h1.2.symm, fun m' => rfl⟩
theorem Jg {m : Mem} {agg : Option Nat} {x v : EV} (hf : wK x = false) (h : m.load agg x = some v) : ∃ b off, x = .ptr b off /\ m.get b ≠ .dead := by
 cases x <;> simp only [Mem.load, reduceCtorEq] at h
 case dl => simp [wK] at hf
 rename_i b off
 refine ⟨b, off, rfl, fun e => ?_⟩
 rw [e] at h
 cases h
theorem Jh {o : Oper} {io : iR} (hc : O2 P G o = some io) (hs : bM io = 2) : ∃ agg x x0, io = .load agg x /\ cR G x0 = some x := by
 unfold O2 at hc
 split at hc
 case h_1 => obtain ⟨_, _, rfl⟩ := af hc; simp [bM] at hs
 case h_2 => obtain ⟨_, _, rfl⟩ := af hc; simp [bM] at hs
 case h_3 => obtain ⟨_, _, hc⟩ := ae hc; obtain ⟨_, _, hc⟩ := ae hc; obtain ⟨_, _, rfl⟩ := af hc; simp [bM] at hs
 case h_4 => obtain ⟨_, _, rfl⟩ := af hc; simp [bM] at hs
 case h_5 => obtain ⟨_, _, rfl⟩ := af hc; simp [bM] at hs
 case h_6 =>
  obtain ⟨_, _, hc⟩ := ae hc
  rcases dE hc with hc | hc
  ·obtain ⟨_, _, hc⟩ := ae hc; obtain ⟨_, _, hc⟩ := ae hc; obtain ⟨_, _, rfl⟩ := af hc; simp [bM] at hs
  ·obtain ⟨_, _, hc⟩ := ae hc; obtain ⟨_, _, hc⟩ := ae hc; obtain ⟨_, _, rfl⟩ := af hc; simp [bM] at hs
 case h_7 => obtain ⟨_, _, hc⟩ := ae hc; obtain ⟨_, _, hc⟩ := ae hc; obtain ⟨_, _, hc⟩ := ae hc; obtain ⟨_, _, hc⟩ := ae hc; obtain ⟨_, _, hc⟩ := ae hc; obtain ⟨_, _, rfl⟩ := af hc; simp [bM] at hs
 case h_8 => obtain ⟨_, _, hc⟩ := ae hc; obtain ⟨x, hx, rfl⟩ := af hc; exact ⟨_, x, _, rfl, hx⟩
 case h_9 => obtain ⟨_, _, hc⟩ := ae hc; obtain ⟨_, _, hc⟩ := ae hc; obtain ⟨_, _, rfl⟩ := af hc; simp [bM] at hs
 case h_10 => obtain ⟨_, _, rfl⟩ := af hc; simp [bM] at hs
 case h_11 op t x y yt ho =>
  obtain ⟨_, _, hc⟩ := ae hc; obtain ⟨_, _, hc⟩ := ae hc
  split at hc
  ·unfold O3 at hc
   simp only [Bool.cond_eq_ite] at hc
   split at hc <;> (obtain ⟨_, _, rfl⟩ := af hc; simp [bM] at hs)
  ·unfold O3 at hc
   simp only [Bool.cond_eq_ite] at hc
   split at hc <;> (obtain ⟨_, _, rfl⟩ := af hc; simp [bM] at hs)
  ·cases hc; simp [bM] at hs
 case h_12 => obtain ⟨_, _, rfl⟩ := af hc; simp [bM] at hs
 case h_13 =>
  obtain ⟨_, _, hc⟩ := ae hc
  rcases dE hc with hc | hc
  ·obtain ⟨_, _, hc⟩ := ae hc; obtain ⟨_, _, rfl⟩ := af hc; simp [bM] at hs
  rcases dE hc with hc | hc
  ·obtain ⟨_, _, hc⟩ := ae hc; obtain ⟨_, _, rfl⟩ := af hc; simp [bM] at hs
  rcases dE hc with hc | hc
  ·obtain ⟨_, _, hc⟩ := ae hc; obtain ⟨_, _, hc⟩ := ae hc; obtain ⟨_, _, hc⟩ := ae hc; obtain ⟨_, _, rfl⟩ := af hc; simp [bM] at hs
  obtain ⟨_, _, hc⟩ := ae hc; obtain ⟨_, _, hc⟩ := ae hc; obtain ⟨_, _, hc⟩ := ae hc; obtain ⟨_, _, rfl⟩ := af hc; simp [bM] at hs
 case h_14 => obtain ⟨_, _, hc⟩ := ae hc; obtain ⟨_, _, rfl⟩ := af hc; simp [bM] at hs
 case h_15 => obtain ⟨_, _, hc⟩ := ae hc; obtain ⟨_, _, rfl⟩ := af hc; simp [bM] at hs
 case h_16 => obtain ⟨_, _, rfl⟩ := af hc; simp [bM] at hs
 case h_17 => obtain ⟨_, _, rfl⟩ := af hc; simp [bM] at hs
 case h_18 => obtain ⟨_, _, hc⟩ := ae hc; obtain ⟨_, _, hc⟩ := ae hc; obtain ⟨_, _, hc⟩ := ae hc; obtain ⟨_, _, hc⟩ := ae hc; obtain ⟨_, _, hc⟩ := ae hc; obtain ⟨_, _, hc⟩ := ae hc; obtain ⟨_, _, rfl⟩ := af hc; simp [bM] at hs
 case h_19 =>
  obtain ⟨_, _, hc⟩ := ae hc; obtain ⟨_, _, hc⟩ := ae hc; obtain ⟨_, _, hc⟩ := ae hc; obtain ⟨_, _, hc⟩ := ae hc; obtain ⟨_, _, hc⟩ := ae hc
  rcases dE hc with hc | hc
  ·obtain ⟨_, _, hc⟩ := ae hc; obtain ⟨_, _, rfl⟩ := af hc; simp [bM] at hs
  rcases dE hc with hc | hc
  ·obtain ⟨_, _, hc⟩ := ae hc; obtain ⟨_, _, rfl⟩ := af hc; simp [bM] at hs
  ·obtain ⟨_, _, hc⟩ := ae hc; obtain ⟨_, _, rfl⟩ := af hc; simp [bM] at hs
 case h_20 => obtain ⟨_, _, hc⟩ := ae hc; obtain ⟨_, _, hc⟩ := ae hc; obtain ⟨_, _, hc⟩ := ae hc; obtain ⟨_, _, hc⟩ := ae hc; obtain ⟨_, _, rfl⟩ := af hc; simp [bM] at hs
 case h_21 => obtain ⟨_, _, hc⟩ := ae hc; obtain ⟨_, _, hc⟩ := ae hc; obtain ⟨_, _, hc⟩ := ae hc; obtain ⟨_, _, rfl⟩ := af hc; simp [bM] at hs
 case h_22 =>
  obtain ⟨_, _, hc⟩ := ae hc; obtain ⟨_, _, hc⟩ := ae hc
  rcases dE hc with hc | hc
  ·obtain ⟨_, _, hc⟩ := ae hc; obtain ⟨_, _, rfl⟩ := af hc; simp [bM] at hs
  ·obtain ⟨_, _, hc⟩ := ae hc; obtain ⟨_, _, rfl⟩ := af hc; simp [bM] at hs
 case h_23 =>
  obtain ⟨_, _, hc⟩ := ae hc; obtain ⟨_, _, hc⟩ := ae hc
  rcases dE hc with hc | hc
  ·obtain ⟨_, _, rfl⟩ := af hc; simp [bM] at hs
  ·obtain ⟨_, _, hc⟩ := ae hc; obtain ⟨_, _, hc⟩ := ae hc; obtain ⟨_, _, rfl⟩ := af hc; simp [bM] at hs
 case h_24 => obtain ⟨_, _, hc⟩ := ae hc; obtain ⟨_, _, hc⟩ := ae hc; obtain ⟨_, _, hc⟩ := ae hc; obtain ⟨_, _, hc⟩ := ae hc; obtain ⟨_, _, rfl⟩ := af hc; simp [bM] at hs
 case h_25 => obtain ⟨_, _, hc⟩ := ae hc; obtain ⟨_, _, hc⟩ := ae hc; obtain ⟨_, _, hc⟩ := ae hc; obtain ⟨_, _, hc⟩ := ae hc; obtain ⟨_, _, rfl⟩ := af hc; simp [bM] at hs
 case h_26 => obtain ⟨_, _, hc⟩ := ae hc; obtain ⟨_, _, hc⟩ := ae hc; obtain ⟨_, _, hc⟩ := ae hc; obtain ⟨_, _, hc⟩ := ae hc; obtain ⟨_, _, rfl⟩ := af hc; simp [bM] at hs
 case h_27 => obtain ⟨_, _, hc⟩ := ae hc; obtain ⟨_, _, rfl⟩ := af hc; simp [bM] at hs
 case h_28 => obtain ⟨_, _, rfl⟩ := af hc; simp [bM] at hs
 case h_29 c ho =>
  obtain ⟨ys, JF, hc⟩ := ae hc
  split at hc
  ·exfalso
   unfold nS at hc;simp only [Bool.cond_eq_ite] at hc
   split at hc
   ·split at hc <;> first | (cases hc; simp [bM] at hs; done) | cases hc
   ·split at hc <;> first | (cases hc; simp [bM] at hs; done) | cases hc
   ·cases hc; simp [bM] at hs
   ·cases hc; simp [bM] at hs
   ·obtain ⟨_, _, hc⟩ := ae hc
    obtain ⟨_, _, hc⟩ := ae hc
    obtain ⟨_, _, hc⟩ := ae hc
    obtain ⟨_, _, hc⟩ := ae hc
    obtain ⟨_, _, hc⟩ := ae hc
    split at hc <;> first | (cases hc; simp [bM] at hs; done) | cases hc
   ·split at hc
    ·split at hc <;> first | (cases hc; simp [bM] at hs; done) | cases hc
    ·cases hc
   ·split at hc
    ·obtain ⟨_, _, rfl⟩ := af hc; simp [bM] at hs
    ·cases hc
   ·cases hc
  ·cases hc
 case h_30 => cases hc
theorem Gb {o : aF} {x : aD} (hx : x ∈ kP o.op) : ∀ t, x = .tmp t -> t ∈ named o := by
 intro t ht
 subst ht;unfold named;have : t ∈ tmpsOf (kP o.op) := by
  generalize kP o.op = l at hx
  induction l with
  | nil => simp at hx
  | cons y l ih =>
   rcases lj.1 hx with e | TA
   ·subst e; simp [tmpsOf]
   ·cases y with
    | tmp s => simp only [tmpsOf]; exact rA _ (ih TA)
    | const v => simp only [tmpsOf]; exact ih TA
 simp [this]
theorem zM {o : aF} {t : Nat} {b : Bool} (h : o.guard = some (t, b)) : t ∈ named o := by unfold named; simp [h]
theorem Gc {o : aF} {t : Nat} (h : o.dst = some t) : t ∈ named o := by unfold named; simp [h]
structure Cx (P : Program) (G : List Nat) (n : Nat) (call : Call) (ops : Array Oper) (is : List aF) (chk : List (Nat × Nat)) (B0 : Nat) (F : Nat -> Fr) (M : Nat -> Mem) (V : Nat -> EV) : Prop where
 comp : ∀ (i : Nat) (io : aF), is[i]? = some io -> ∃ o, ops[i]? = some o /\ na P G n ops o = some io
 at_ : ∀ (k : Nat) (o : aF), is[k]? = some o -> At call B0 o k (F k) (M k) (V k) (M (k + 1)) /\ F (k + 1) = (F k).put o.dst (V k)
 c1 : ∀ (k : Nat) (o : aF) (agg : Option Nat) (a : aD) (l : Nat) (q : aF), is[k]? = some o -> is[l]? = some q -> va o (F k) agg a -> ki q (F l) -> aZ k l chk = true ->
  (l < k -> (M l).cJ agg ((F k).eval a) (V k) = true) /\ (k < l -> (M (l + 1)).cJ agg ((F k).eval a) (V k) = true)
 open_ : ∀ (i j : Nat) (io jo : aF), i < j -> is[i]? = some io -> is[j]? = some jo -> i ∉ (cX ops.toList []).getD j [] ->
  ¬ (sort io.op = 3 /\ sort jo.op = 3) /\ (∀ t, io.dst = some t -> t ∉ named jo) /\ (∀ t, jo.dst = some t -> t ∉ named io) /\ (sort io.op = 2 -> sort jo.op = 3 -> aZ i j chk = true) /\ (sort io.op = 3 -> sort jo.op = 2 -> aZ j i chk = true)
variable {ops : Array Oper} {is : List aF} {chk : List (Nat × Nat)} {B0 : Nat} {F : Nat -> Fr} {M : Nat -> Mem} {V : Nat -> EV}
def qu (is : List aF) (F : Nat -> Fr) (V : Nat -> EV) (S : List Nat) (t : Nat) : Nat -> EV
 | 0 => (F 0).get t
 | k + 1 => if k ∈ S /\ (is[k]?).bind (·.dst) = some t then V k else qu is F V S t k
theorem rl (C : Cx P G n call ops is chk B0 F M V) (S : List Nat) (t : Nat) : ∀ k, k <= is.length -> (∀ j o, j < k -> is[j]? = some o -> o.dst = some t -> j ∈ S) -> qu is F V S t k = (F k).get t
 | 0, _, _ => rfl
 | k + 1, hk, h => by
  have aP : k < is.length := by omega
  have ho : is[k]? = some is[k] := ij aP
  obtain ⟨_, hF⟩ := C.at_ k _ ho
  simp only [qu, ho, Option.bind_some];rw [hF];by_cases hd : is[k].dst = some t
  ·rw [if_pos ⟨h k _ (by omega) ho hd, hd⟩, hd]
   simp only [Fr.put, Fr.ba, if_true]
  ·rw [if_neg (fun e => hd e.2), rl C S t k (by omega) (fun j o hj => h j o (by omega))]
   cases Qe : is[k].dst with
   | none => rfl
   | some u =>
    simp only [Fr.put, Fr.ba];rw [if_neg];intro e; subst e; exact hd Qe
theorem rm (S : List Nat) (t : Nat) : ∀ d k, (∀ j o, k <= j -> j < k + d -> is[j]? = some o -> o.dst = some t -> j ∉ S) -> qu is F V S t (k + d) = qu is F V S t k
 | 0, k, _ => rfl
 | d + 1, k, h => by
  rw [<- Nat.add_assoc];simp only [qu];rw [if_neg]
  ·exact rm S t d k fun j o h1 h2 => h j o h1 (by omega)
  ·rintro ⟨h1, h2⟩
   cases ho : is[k + d]? with
   | none => rw [ho] at h2; cases h2
   | some o => rw [ho] at h2; exact h (k + d) o (by omega) (by omega) ho h2 h1
theorem xh {S S' : List Nat} (t : Nat) : ∀ k, (∀ j o, j < k -> is[j]? = some o -> o.dst = some t -> (j ∈ S ↔ j ∈ S')) -> qu is F V S t k = qu is F V S' t k
 | 0, _ => rfl
 | k + 1, h => by
  simp only [qu];rw [xh t k fun j o hj => h j o (by omega)]
  cases ho : is[k]? with
  | none => simp
  | some o =>
   simp only [Option.bind_some];by_cases hd : o.dst = some t
   ·have := h k o (by omega) ho hd
    by_cases hk : k ∈ S
    ·rw [if_pos ⟨hk, hd⟩, if_pos ⟨this.1 hk, hd⟩]
    ·rw [if_neg (fun e => hk e.1), if_neg (fun e => hk (this.2 e.1))]
   ·rw [if_neg (fun e => hd e.2), if_neg (fun e => hd e.2)]
def eg (is : List aF) (B0 : Nat) (F : Nat -> Fr) (M : Nat -> Mem) (j : Nat) (B : cY) : Prop :=
 ∃ o op, is[j]? = some o /\ o.op = .val op /\ bM op = 1 /\ aG (F j) o.guard = some true /\ M (j + 1) = ⟨(M j).next, (M j).kl.set (B0 + j) B⟩
theorem sO (m : Mem) (k : Nat) (B : cY) (b : Nat) : (⟨m.next, m.kl.set k B⟩ : Mem).get b = if b = k then B else m.get b := by
 unfold Mem.get; simp only [Tr.ba]; split <;> rfl
theorem eg.get {j : Nat} {B : cY} (h : eg is B0 F M j B) : (M (j + 1)).get (B0 + j) = B := by
 obtain ⟨_, _, _, _, _, _, h⟩ := h
 rw [h, sO, if_pos rfl]
theorem eg.LA {j : Nat} {B B' : cY} (h : eg is B0 F M j B) (h' : eg is B0 F M j B') : B = B' := h.get.symm.trans h'.get
theorem eg.no {j : Nat} {B : cY} (h : eg is B0 F M j B) {o : aF} (ho : is[j]? = some o) (ha : ki o (F j)) : False := by
 obtain ⟨o', op, h1, h2, h3, _⟩ := h
 rw [ho] at h1; cases h1
 have := ha.2
 rw [h2] at this;simp only [sort] at this;omega
theorem Cc (C : Cx P G n call ops is chk B0 F M V) {k : Nat} {o : aF} (ho : is[k]? = some o) (Q6 : ¬ ki o (F k)) : (M (k + 1) = M k /\ ∀ B, ¬ eg is B0 F M k B) \/ ∃ B, eg is B0 F M k B := by
 obtain ⟨HI, _⟩ := C.at_ k o ho
 cases HI with
 | skip hw _ hm => exact .inl ⟨hm, fun B ⟨o', op, h1, h2, h3, h4, _⟩ => by rw [ho] at h1; cases h1; rw [hw] at h4; cases h4⟩
 | pure op m1 hw jk hs _ hm => exact .inl ⟨hm, fun B ⟨o', Uj, h1, h2, h3, h4, _⟩ => by rw [ho] at h1; cases h1; rw [jk] at h2; cases h2; omega⟩
 | load agg a hw jk _ hm => exact .inl ⟨hm, fun B ⟨o', Uj, h1, h2, h3, h4, _⟩ => by rw [ho] at h1; cases h1; rw [jk] at h2; cases h2; simp [bM] at h3⟩
 | make op m1 hw jk hs h hm =>
  obtain ⟨B, mk, _, h2, _⟩ := tY hs h
  exact .inr ⟨B, o, op, ho, jk, hs, hw, by rw [hm, h2]; rfl⟩
 | act op hw jk hs h => exact absurd ⟨hw, by rw [jk]; exact hs⟩ Q6
 | call f args hw jk h => exact absurd ⟨hw, by rw [jk]; simp [sort]⟩ Q6
theorem XM (C : Cx P G n call ops is chk B0 F M V) (K : Nat) : ∀ i, K <= i -> i <= is.length -> (∀ e o, K <= e -> e < i -> is[e]? = some o -> ¬ ki o (F e)) ->
  (M i).next = (M K).next /\ ∀ b, (∃ j B, K <= j /\ j < i /\ eg is B0 F M j B /\ b = B0 + j /\ (M i).get b = B) \/ ((∀ j B, K <= j -> j < i -> eg is B0 F M j B -> b ≠ B0 + j) /\ (M i).get b = (M K).get b) := by
 intro i
 induction i with
 | zero => intro h _ _; obtain rfl : K = 0 := (by omega); exact ⟨rfl, fun b => .inr ⟨fun j B h1 h2 => absurd h2 (by omega), rfl⟩⟩
 | succ i ih =>
  intro h1 h2 h3
  by_cases hK : K = i + 1
  ·subst hK; exact ⟨rfl, fun b => .inr ⟨fun j B h1 h2 => absurd h2 (by omega), rfl⟩⟩
  ·obtain ⟨hn, hb⟩ := ih (by omega) (by omega) (fun e o he Ra => h3 e o he (by omega))
   have aP : i < is.length := by omega
   have ho : is[i]? = some is[i] := ij aP
   rcases Cc C ho (h3 i _ (by omega) (by omega) ho) with ⟨e, re⟩ | ⟨B, hB⟩
   ·rw [e]
    refine ⟨hn, fun b => ?_⟩
    rcases hb b with ⟨j, B, q1, q2, q3, q4, q5⟩ | ⟨q1, q2⟩
    ·exact .inl ⟨j, B, q1, by omega, q3, q4, q5⟩
    ·refine .inr ⟨fun j B j1 j2 hj => ?_, q2⟩
     by_cases yR : j < i
     ·exact q1 j B j1 yR hj
     ·obtain rfl : j = i := by omega
      exact absurd hj (re B)
   ·have M3 := hB
    obtain ⟨_, _, _, _, _, _, hM⟩ := M3
    rw [hM];refine ⟨hn, fun b => ?_⟩
    rw [sO];by_cases TN : b = B0 + i
    ·exact .inl ⟨i, B, by omega, by omega, hB, TN, by rw [if_pos TN]⟩
    ·rw [if_neg TN]
     rcases hb b with ⟨j, B', q1, q2, q3, q4, q5⟩ | ⟨q1, q2⟩
     ·exact .inl ⟨j, B', q1, by omega, q3, q4, q5⟩
     ·refine .inr ⟨fun j B' j1 j2 hj => ?_, q2⟩
      by_cases yR : j < i
      ·exact q1 j B' j1 yR hj
      ·obtain rfl : j = i := by omega
       exact TN
structure Inv (n : Nat) (ops : Array Oper) (is : List aF) (B0 : Nat) (F : Nat -> Fr) (M : Nat -> Mem) (V : Nat -> EV) (base : Nat) (ρ0 : Ren) (m0 : Mem) (w0 : World) (S : List Nat) (K : Nat) (ρ : Ren) (Mm : Mem) (nn : Fr) (a : Act) (w : World) : Prop where
 b0 : m0.next = B0
 sub : ∀ i, i ∈ S -> i < is.length
 Ri : ∀ j, j ∈ S -> ∀ i, i ∈ (cX ops.toList []).getD j [] -> i ∈ S
 vR : ∀ (e : Nat) (o : aF), is[e]? = some o -> ki o (F e) -> (e ∈ S ↔ e < K)
 last : K = 0 \/ ∃ e o, K = e + 1 /\ is[e]? = some o /\ ki o (F e)
 hR : R base ρ Mm w
 nx : Mm.next = (M K).next
 QU : B0 + is.length <= (M K).next
 Kc : ∀ (j : Nat) (B : cY), eg is B0 F M j B -> j ∈ S -> K <= j -> Mm.get (B0 + j) = B
 GR : ∀ b, (∀ (j : Nat) (B : cY), eg is B0 F M j B -> j ∈ S -> K <= j -> b ≠ B0 + j) -> Mm.get b = (M K).get b
 un : ∀ j, j < is.length -> ρ (B0 + j) ≠ none -> j ∈ S
 late : ∀ (j : Nat) (B : cY), eg is B0 F M j B -> j < K -> j ∉ S -> (M K).get (B0 + j) = B
 dd : ∀ j, K <= j -> j < is.length -> (M K).get (B0 + j) = .dead
 st : Step ρ0 m0 w0 ρ Mm w
 fr : sJ ρ n nn a
 Wv : ∀ t, nn.get t = qu is F V S t is.length
 df : nn.defers = (F 0).defers
section
variable {base : Nat} {ρ0 ρ : Ren} {m0 Mm : Mem} {w0 w : World} {S : List Nat} {K : Nat} {nn : Fr} {a : Act}
theorem Inv.kN (I : Inv n ops is B0 F M V base ρ0 m0 w0 S K ρ Mm nn a w) : K <= is.length := by
 rcases I.last with h | ⟨e, o, h, ho, _⟩
 ·omega
 ·have := (kO.1 ho).1; omega
theorem eg.lt {j : Nat} {B : cY} (h : eg is B0 F M j B) : j < is.length := by
 obtain ⟨o, _, ho, _⟩ := h
 exact (kO.1 ho).1
theorem Inv.wk (C : Cx P G n call ops is chk B0 F M V) (I : Inv n ops is B0 F M V base ρ0 m0 w0 S K ρ Mm nn a w) {i : Nat} (h1 : K <= i) (h2 : i <= is.length) (h3 : ∀ e o, K <= e -> e < i -> is[e]? = some o -> ¬ ki o (F e)) :
  (M i).next = (M K).next /\ (∀ b L, ρ b = some L -> (M i).get b = Mm.get b \/ (M i).get b = .dead) /\ (∀ b, (∀ j, j < is.length -> b ≠ B0 + j) -> (M i).get b = Mm.get b) /\
   (∀ j, i <= j -> j < is.length -> (M i).get (B0 + j) = .dead) /\ (∀ j B, eg is B0 F M j B -> j < i -> j ∉ S -> (M i).get (B0 + j) = B) := by
 obtain ⟨hn, hb⟩ := XM C K i h1 h2 h3
 refine ⟨hn, fun b L hL => ?_, fun b re => ?_, fun j j1 j2 => ?_, fun j B hj j1 j2 => ?_⟩
 ·rcases hb b with ⟨j, B, q1, q2, q3, q4, q5⟩ | ⟨q1, q2⟩
  ·left
   rw [q5, q4];exact (I.Kc j B q3 (I.un j q3.lt (by rw [<- q4, hL]; simp)) q1).symm
  ·by_cases hp : ∃ j B, eg is B0 F M j B /\ j ∈ S /\ K <= j /\ b = B0 + j
   ·obtain ⟨j, B, p1, p2, p3, p4⟩ := hp
    right
    rw [q2, p4];exact I.dd j p3 p1.lt
   ·left
    rw [q2];exact (I.GR b fun j B p1 p2 p3 p4 => hp ⟨j, B, p1, p2, p3, p4⟩).symm
 ·rcases hb b with ⟨j, B, q1, q2, q3, q4, q5⟩ | ⟨q1, q2⟩
  ·exact absurd q4 (re j q3.lt)
  ·rw [q2]
   exact (I.GR b fun j B p1 _ _ => re j p1.lt).symm
 ·rcases hb (B0 + j) with ⟨j', B, q1, q2, q3, q4, q5⟩ | ⟨q1, q2⟩
  ·omega
  ·rw [q2]; exact I.dd j (by omega) j2
 ·rcases hb (B0 + j) with ⟨j', B', q1, q2, q3, q4, q5⟩ | ⟨q1, q2⟩
  ·have : j = j' := by omega
   subst this;rw [q5]; exact q3.LA hj
  ·rw [q2]
   by_cases Z7 : j < K
   ·exact I.late j B hj Z7 j2
   ·exact absurd rfl (q1 j B (by omega) j1 hj)
theorem Inv.val (C : Cx P G n call ops is chk B0 F M V) (I : Inv n ops is B0 F M V base ρ0 m0 w0 S K ρ Mm nn a w) {i : Nat} {o : aF} (ho : is[i]? = some o) (hi : i ∉ S) (hb : ∀ j, j ∈ (cX ops.toList []).getD i [] -> j ∈ S) :
  ∀ t, t ∈ named o -> nn.get t = (F i).get t := by
 intro t ht
 have aP := (kO.1 ho).1
 rw [I.Wv t, show is.length = i + (is.length - i) by omega, rm S t _ i, rl C S t i (by omega)]
 ·intro j q hj hq hd
  apply sj
  intro CL
  exact (C.open_ j i q o hj hq ho (fun h => CL (hb j h))).2.1 t hd ht
 ·intro j q h1 h2 hq hd CL
  by_cases e : j = i
  ·subst e; exact hi CL
  ·exact (C.open_ i j o q (by omega) ho hq (fun h => hi (I.Ri j CL i h))).2.2.1 t hd ht
theorem eval_eq {f g : Fr} {o : aF} (h : ∀ t, t ∈ named o -> f.get t = g.get t) : ∀ x, x ∈ kP o.op -> f.eval x = g.eval x := by
 intro x hx
 cases x with
 | const v => rfl
 | tmp t => exact h t (Gb hx t rfl)
theorem yX {f g : Fr} {o : aF} (h : ∀ t, t ∈ named o -> f.get t = g.get t) : aG f o.guard = aG g o.guard := by
 cases hg : o.guard with
 | none => rfl
 | some p =>
  obtain ⟨t, b⟩ := p
  simp only [aG, h t (zM hg)]
theorem Inv.yz (C : Cx P G n call ops is chk B0 F M V) (I : Inv n ops is B0 F M V base ρ0 m0 w0 S K ρ Mm nn a w) {i : Nat} {o : aF} (ho : is[i]? = some o) (hi : i ∉ S) :
  ∀ t, (nn.put o.dst (V i)).get t = qu is F V (i :: S) t is.length := by
 intro t
 have aP := (kO.1 ho).1
 by_cases hd : o.dst = some t
 ·rw [hd, show is.length = (i + 1) + (is.length - (i + 1)) by omega, rm (i :: S) t _ (i + 1)]
  ·simp only [qu, ho, Option.bind_some]
   rw [if_pos ⟨by simp, hd⟩];simp only [Fr.put, Fr.ba, if_true]
  ·intro j q h1 h2 hq Wb hj
   rcases lj.1 hj with e | CL
   ·omega
   ·exact (C.open_ i j o q (by omega) ho hq (fun h => hi (I.Ri j CL i h))).2.1 t hd (Gc Wb)
 ·have : (nn.put o.dst (V i)).get t = nn.get t := by
   cases Qe : o.dst with
   | none => rfl
   | some u =>
    simp only [Fr.put, Fr.ba];rw [if_neg];intro e; subst e; exact hd Qe
  rw [this, I.Wv t];refine xh t _ fun j q hj hq Wb => ?_
  constructor
  ·intro h; exact rA _ h
  ·intro h
   rcases lj.1 h with e | h
   ·subst e; rw [ho] at hq; cases hq; exact absurd Wb hd
   ·exact h
theorem Inv.idle (C : Cx P G n call ops is chk B0 F M V) (I : Inv n ops is B0 F M V base ρ0 m0 w0 S K ρ Mm nn a w) {i : Nat} {o : aF} (ho : is[i]? = some o) (hi : i ∉ S) (hb : ∀ j, j ∈ (cX ops.toList []).getD i [] -> j ∈ S)
  (Q6 : ¬ ki o (F i)) (sB : ∀ B, ¬ eg is B0 F M i B) {ρ1 : Ren} {w1 : World} {a1 : Act} (iP : R base ρ1 Mm w1) (hs : Step ρ Mm w ρ1 Mm w1) (hF : sJ ρ1 n (nn.put o.dst (V i)) a1) :
  Inv n ops is B0 F M V base ρ0 m0 w0 (i :: S) K ρ1 Mm (nn.put o.dst (V i)) a1 w1 := by
 have aP := (kO.1 ho).1
 refine ⟨I.b0, ?_, ?_, ?_, I.last, iP, I.nx, I.QU, ?_, ?_, ?_, ?_, I.dd, I.st.trans hs, hF, I.yz C ho hi, by rw [put_defers]; exact I.df⟩
 ·intro j hj
  rcases lj.1 hj with e | hj
  ·rw [e]; exact aP
  ·exact I.sub j hj
 ·intro j hj k hk
  rcases lj.1 hj with e | hj
  ·rw [e] at hk; exact rA _ (hb k hk)
  ·exact rA _ (I.Ri j hj k hk)
 ·intro e q hq hA
  rw [<- I.vR e q hq hA]
  constructor
  ·intro h
   rcases lj.1 h with e1 | h
   ·subst e1; rw [ho] at hq; cases hq; exact absurd hA Q6
   ·exact h
  ·exact rA _
 ·intro j B hj CL hK
  rcases lj.1 CL with e | h
  ·rw [e] at hj; exact absurd hj (sB B)
  ·exact I.Kc j B hj h hK
 ·intro b re
  exact I.GR b fun j B h1 h2 h3 => re j B h1 (rA _ h2) h3
 ·intro j hj h1
  refine rA _ (I.un j hj ?_)
  intro h0
  have := hs.new _ h0 h1
  have := I.nx; have := I.QU
  omega
 ·intro j B hj h1 h2
  exact I.late j B hj h1 fun h => h2 (rA _ h)
theorem Inv.make (C : Cx P G n call ops is chk B0 F M V) (I : Inv n ops is B0 F M V base ρ0 m0 w0 S K ρ Mm nn a w) {i : Nat} {o : aF} (ho : is[i]? = some o) (hi : i ∉ S) (hb : ∀ j, j ∈ (cX ops.toList []).getD i [] -> j ∈ S)
  {B : cY} (hm : eg is B0 F M i B) {ρ1 : Ren} {w1 : World} {a1 : Act} (hM : Made base ρ ⟨B0 + i, Mm.kl⟩ w ρ1 B w1) (hF : sJ ρ1 n (nn.put o.dst (V i)) a1) :
  Inv n ops is B0 F M V base ρ0 m0 w0 (i :: S) K ρ1 ⟨Mm.next, Mm.kl.set (B0 + i) B⟩ (nn.put o.dst (V i)) a1 w1 := by
 have aP := (kO.1 ho).1
 obtain ⟨iP, hs⟩ := Gl I.hR I.st (by have := I.b0; omega) (by have := I.nx; have := I.QU; omega) hM
 refine ⟨I.b0, ?_, ?_, ?_, I.last, iP, I.nx, I.QU, ?_, ?_, ?_, ?_, I.dd, hs, hF, I.yz C ho hi, by rw [put_defers]; exact I.df⟩
 ·intro j hj
  rcases lj.1 hj with e | hj
  ·rw [e]; exact aP
  ·exact I.sub j hj
 ·intro j hj k hk
  rcases lj.1 hj with e | hj
  ·rw [e] at hk; exact rA _ (hb k hk)
  ·exact rA _ (I.Ri j hj k hk)
 ·intro e q hq hA
  rw [<- I.vR e q hq hA]
  constructor
  ·intro h
   rcases lj.1 h with e1 | h
   ·subst e1; exact (hm.no hq hA).elim
   ·exact h
  ·exact rA _
 ·intro j B' hj CL hK
  rw [sO];by_cases e : j = i
  ·subst e; rw [if_pos rfl]; exact hm.LA hj
  ·rw [if_neg (by omega)]
   rcases lj.1 CL with h | h
   ·exact absurd h e
   ·exact I.Kc j B' hj h hK
 ·intro b re
  rw [sO];by_cases e : b = B0 + i
  ·rw [if_pos e]
   have Z9 : i < K := by
    apply sj
    intro h
    exact re i B hm (by simp) (by omega) e
   rw [e];exact (I.late i B hm Z9 hi).symm
  ·rw [if_neg e]
   exact I.GR b fun j B h1 h2 h3 => re j B h1 (rA _ h2) h3
 ·intro j hj h1
  by_cases e : j = i
  ·rw [e]; simp
  ·refine rA _ (I.un j hj ?_)
   rw [<- hM.Tg (B0 + j) (show B0 + j ≠ B0 + i by omega)];exact h1
 ·intro j B' hj h1 h2
  exact I.late j B' hj h1 fun h => h2 (rA _ h)
theorem Inv.next (C : Cx P G n call ops is chk B0 F M V) (I : Inv n ops is B0 F M V base ρ0 m0 w0 S K ρ Mm nn a w) {i : Nat} {o : aF} (ho : is[i]? = some o) (hi : i ∉ S) (hb : ∀ j, j ∈ (cX ops.toList []).getD i [] -> j ∈ S)
  (hA : ki o (F i)) : K <= i /\ ∀ e q, K <= e -> e < i -> is[e]? = some q -> ¬ ki q (F e) := by
 have MZ : K <= i := by
  apply sj
  intro h
  exact hi ((I.vR i o ho hA).2 (by omega))
 refine ⟨MZ, fun e q h1 h2 hq Ez => ?_⟩
 have OQ : e ∈ S := by
  apply sj
  intro OQ
  have := (C.open_ e i q o h2 hq ho (fun h => OQ (hb e h))).1
  exact this ⟨Nat.le_antisymm (sM _) Ez.2, Nat.le_antisymm (sM _) hA.2⟩
 have := (I.vR e q hq Ez).1 OQ
 omega
theorem Inv.text (C : Cx P G n call ops is chk B0 F M V) (I : Inv n ops is B0 F M V base ρ0 m0 w0 S K ρ Mm nn a w) {i : Nat} (h1 : K <= i) (h2 : i <= is.length) (h3 : ∀ e o, K <= e -> e < i -> is[e]? = some o -> ¬ ki o (F e)) :
  R base ρ (M i) w := by
 obtain ⟨k1, k2, k3, k4, k5⟩ := I.wk C h1 h2 h3
 refine I.hR.weaken (fun b L hb => ?_) k2 (fun b hb => ?_)
 ·rw [k1, <- I.nx]; exact I.hR.lt b L hb
 ·rw [k1] at hb
  rw [k3 b (fun j hj => by have := I.QU; omega)]
  exact I.hR.clean b (by rw [I.nx]; exact hb)
theorem Inv.act (C : Cx P G n call ops is chk B0 F M V) (I : Inv n ops is B0 F M V base ρ0 m0 w0 S K ρ Mm nn a w) {i : Nat} {o : aF} (ho : is[i]? = some o) (hi : i ∉ S) (hb : ∀ j, j ∈ (cX ops.toList []).getD i [] -> j ∈ S)
  (hA : ki o (F i)) {ρ1 : Ren} {w1 : World} {a1 : Act} (iP : R base ρ1 (M (i + 1)) w1) (hs : Step ρ (M i) w ρ1 (M (i + 1)) w1) (hF : sJ ρ1 n (nn.put o.dst (V i)) a1) :
  ∃ M2, Inv n ops is B0 F M V base ρ0 m0 w0 (i :: S) (i + 1) ρ1 M2 (nn.put o.dst (V i)) a1 w1 := by
 have aP := (kO.1 ho).1
 obtain ⟨MZ, re⟩ := I.next C ho hi hb hA
 obtain ⟨k1, k2, k3, k4, k5⟩ := I.wk C MZ (Nat.le_of_lt aP) re
 have hb0 := I.b0
 have wQ := I.nx
 have ZU := I.QU
 have rW := hs.next
 let l := (S.filter fun j => decide (i < j)).map fun j => B0 + j
 have hl : ∀ b, b ∈ l ↔ ∃ j, j ∈ S /\ i < j /\ b = B0 + j := by
  intro b
  simp only [l, List.mem_map, List.mem_filter, decide_eq_true_eq]
  constructor
  ·rintro ⟨j, ⟨h1, h2⟩, h3⟩; exact ⟨j, h1, h2, h3.symm⟩
  ·rintro ⟨j, h1, h2, h3⟩; exact ⟨j, ⟨h1, h2⟩, h3.symm⟩
 obtain ⟨M2, m1, m2⟩ := over (M (i + 1)) Mm.get l
 have OJ : R base ρ1 M2 w1 /\ Step ρ0 m0 w0 ρ1 M2 w1 := by
  refine K0 l I.hR I.st iP hs (fun b yS => ?_) (fun b L hL _ => k2 b L hL) (fun b yS => ?_) (by omega) m1 m2
  ·obtain ⟨j, j1, j2, rfl⟩ := (hl b).1 yS
   have := I.sub j j1
   exact ⟨by omega, by omega, k4 j (by omega) this⟩
  ·exact k3 b fun j hj => by omega
 refine ⟨M2, I.b0, ?_, ?_, ?_, .inr ⟨i, o, rfl, ho, hA⟩, OJ.1, m1, by omega, ?_, ?_, ?_, ?_, ?_, OJ.2, hF, I.yz C ho hi, by rw [put_defers]; exact I.df⟩
 ·intro j hj
  rcases lj.1 hj with e | hj
  ·rw [e]; exact aP
  ·exact I.sub j hj
 ·intro j hj k hk
  rcases lj.1 hj with e | hj
  ·rw [e] at hk; exact rA _ (hb k hk)
  ·exact rA _ (I.Ri j hj k hk)
 ·intro e q hq Ez
  constructor
  ·intro h
   rcases lj.1 h with e1 | h
   ·omega
   ·have := (I.vR e q hq Ez).1 h; omega
  ·intro h
   by_cases e1 : e = i
   ·rw [e1]; simp
   ·refine rA _ ((I.vR e q hq Ez).2 ?_)
    apply sj
    intro h2
    exact re e q (by omega) (by omega) hq Ez
 ·intro j B hj CL hK
  rcases lj.1 CL with e | h
  ·omega
  ·rw [m2, if_pos ((hl _).2 ⟨j, h, by omega, rfl⟩)]
   exact I.Kc j B hj h (by omega)
 ·intro b VQ
  rw [m2]
  split
  ·rename_i yS
   obtain ⟨j, j1, j2, rfl⟩ := (hl b).1 yS
   have TI := I.sub j j1
   rw [hs.dead (B0 + j) (by omega) (k4 j (by omega) TI), I.GR (B0 + j) ?_]
   ·exact I.dd j (by omega) TI
   ·intro j' B h1 h2 h3 h4
    have : j = j' := by omega
    subst this;exact VQ j B h1 (rA _ h2) (by omega) rfl
  ·rfl
 ·intro j hj h1
  refine rA _ (I.un j hj ?_)
  intro h0
  have := hs.new _ h0 h1
  omega
 ·intro j B hj h1 h2
  have CL : j ∉ S := fun h => h2 (rA _ h)
  have yR : j ≠ i := fun e => h2 (by rw [e]; simp)
  have TI := hj.lt
  have hρ : ρ (B0 + j) = none := by
   cases e : ρ (B0 + j) with
   | none => rfl
   | some L => exact absurd (I.un j TI (by rw [e]; simp)) CL
  rw [hs.same (B0 + j) (by omega) hρ];exact k5 j B hj (by omega) CL
 ·intro j h1 h2
  exact hs.dead (B0 + j) (by omega) (k4 j (by omega) h2)
theorem Inv.load (C : Cx P G n call ops is chk B0 F M V) (I : Inv n ops is B0 F M V base ρ0 m0 w0 S K ρ Mm nn a w) {i : Nat} {o : aF} (ho : is[i]? = some o) (hi : i ∉ S) (hb : ∀ j, j ∈ (cX ops.toList []).getD i [] -> j ∈ S)
  {agg : Option Nat} {x : aD} (hL : va o (F i) agg x) (h : (M i).load agg ((F i).eval x) = some (V i)) {x' : Value} (hv : VR ρ ((F i).eval x) x') : Mm.load agg ((F i).eval x) = some (V i) := by
 have aP := (kO.1 ho).1
 have JI : sort o.op = 2 := by rw [hL.2.1]; rfl
 -- a place in the Ud order from Rm no act parts us
 have hex : ∃ k, K <= k /\ k <= is.length /\ (∀ e q, K <= e -> e < k -> is[e]? = some q -> ¬ ki q (F e)) /\ (M k).load agg ((F i).eval x) = some (V i) := by
  by_cases MZ : K <= i
  ·by_cases J5 : ∃ e, K <= e /\ e < i /\ ∃ q, is[e]? = some q /\ ki q (F e)
   ·-- the first of YX
    obtain ⟨e, ⟨TL, Ra, q, hq, Ez⟩, VX⟩ : ∃ e, (K <= e /\ e < i /\ ∃ q, is[e]? = some q /\ ki q (F e)) /\ ∀ e', e' < e -> ¬ (K <= e' /\ e' < i /\ ∃ q, is[e']? = some q /\ ki q (F e')) := by
     obtain ⟨e, he⟩ := J5
     induction e using Nat.strongRecOn with
     | _ e ih =>
      by_cases h : ∃ e', e' < e /\ (K <= e' /\ e' < i /\ ∃ q, is[e']? = some q /\ ki q (F e'))
      ·obtain ⟨e', h1, h2⟩ := h; exact ih e' h1 h2
      ·exact ⟨e, he, fun e' h1 h2 => h ⟨e', h1, h2⟩⟩
    have OQ : e ∉ S := fun hh => by have := (I.vR e q hq Ez).1 hh; omega
    have hp := (C.open_ e i q o Ra hq ho (fun hh => OQ (hb e hh))).2.2.2.2 (Nat.le_antisymm (sM _) Ez.2) JI
    have := (C.c1 i o agg x e q ho hq hL Ez hp).1 Ra
    exact ⟨e, TL, by omega, fun e' q' h1 h2 wP hA' => VX e' h2 ⟨h1, by omega, q', wP, hA'⟩, wa this⟩
   ·exact ⟨i, MZ, by omega, fun e q h1 h2 hq hA => J5 ⟨e, h1, h2, q, hq, hA⟩, h⟩
  ·rcases I.last with h0 | ⟨e, q, hK, hq, Ez⟩
   ·omega
   ·have OQ : e ∈ S := (I.vR e q hq Ez).2 (by omega)
    have hie : i ≠ e := fun h => hi (h ▸ OQ)
    have hp := (C.open_ i e o q (by omega) ho hq (fun hh => hi (I.Ri e OQ i hh))).2.2.2.1 JI (Nat.le_antisymm (sM _) Ez.2)
    have := (C.c1 i o agg x e q ho hq hL Ez hp).2 (by omega)
    refine ⟨K, ee _, I.kN, fun e' q' h1 h2 => absurd h2 (by omega), ?_⟩
    rw [hK]; exact wa this
 obtain ⟨k, h1, h2, h3, h4⟩ := hex
 obtain ⟨_, k2, _, _, _⟩ := I.wk C h1 h2 h3
 obtain ⟨b, off, hx, hd⟩ := Jg hL.2.2 h4
 rw [hx] at hv h4 ⊢
 cases hv with
 | ptr hL =>
 rcases k2 b _ hL with e | e
 ·rw [<- Ji e]; exact h4
 ·exact absurd e hd
theorem Tf (aY : li P G call) (C : Cx P G n call ops is chk B0 F M V) (hG : fJ G ρ0) : ∀ (l S : List Nat) (K : Nat) (ρ : Ren) (Mm : Mem) (nn : Fr) (a : Act) (w : World), Inv n ops is B0 F M V base ρ0 m0 w0 S K ρ Mm nn a w ->
  (∀ (k i : Nat), l[k]? = some i -> i < is.length /\ i ∉ S /\ i ∉ l.take k /\ ∀ b, b ∈ (cX ops.toList []).getD i [] -> b ∈ S \/ b ∈ l.take k) -> (∀ i, i < is.length -> i ∈ S \/ i ∈ l) ->
  wpOps P ops (Reach base n ρ0 m0 w0 (.norm (F is.length) (M is.length))) l a w := by
 intro l
 induction l with
 | nil =>
  intro S K ρ Mm nn a w I hl hall
  have hS : ∀ i, i < is.length -> i ∈ S := fun i hi => by rcases hall i hi with h | h; exact h; cases h
  obtain ⟨k1, k2, k3, k4, k5⟩ := I.wk C I.kN (ee _) (fun e q h1 h2 hq hA => by have := (I.vR e q hq hA).1 (hS e h2); omega)
  obtain ⟨_, hb⟩ := XM C K is.length I.kN (ee _) (fun e q h1 h2 hq hA => by have := (I.vR e q hq hA).1 (hS e h2); omega)
  have hg : ∀ b, (M is.length).get b = Mm.get b := by
   intro b
   rcases hb b with ⟨j, B, q1, q2, q3, q4, q5⟩ | ⟨q1, q2⟩
   ·rw [q5, q4]; exact (I.Kc j B q3 (hS j q2) q1).symm
   ·rw [q2]; exact (I.GR b fun j B p1 p2 p3 p4 => q1 j B p3 p1.lt p1 p4).symm
  have wQ : (M is.length).next = Mm.next := by rw [k1, I.nx]
  have Qd : ∀ k, k <= is.length -> (F k).defers = (F 0).defers := by
   intro k
   induction k with
   | zero => intro _; rfl
   | succ k ih =>
    intro hk
    have aP : k < is.length := by omega
    obtain ⟨_, hF⟩ := C.at_ k is[k] (ij aP)
    rw [hF, put_defers]; exact ih (by omega)
  refine ⟨rfl, ρ, I.hR.congr wQ hg, I.st.congr wQ hg, ⟨⟨I.fr.tm.size, fun t => ?_⟩, ?_⟩⟩
  ·have := I.fr.tm.tmp t
   rw [I.Wv t, rl C S t is.length (ee _) (fun j o hj _ _ => hS j hj)] at this;exact this
  ·rw [Qd _ (ee _), <- I.df]; exact I.fr.vL
 | cons i l ih =>
  intro S K ρ Mm nn a w I hl hall
  obtain ⟨aP, hi, _, hb⟩ := hl 0 i rfl
  have hb : ∀ j, j ∈ (cX ops.toList []).getD i [] -> j ∈ S := fun j hj => by
   rcases hb j hj with h | h
   ·exact h
   ·simp at h
  have sD : is[i]? = some is[i] := ij aP
  generalize is[i] = io at sD
  have next : ∀ {K1 : Nat} {ρ1 : Ren} {M1 : Mem} {dB : Fr} {a1 : Act} {w1 : World}, Inv n ops is B0 F M V base ρ0 m0 w0 (i :: S) K1 ρ1 M1 dB a1 w1 -> wpOps P ops (Reach base n ρ0 m0 w0 (.norm (F is.length) (M is.length))) l a1 w1 := by
   intro K1 ρ1 M1 dB a1 w1 I1
   refine ih (i :: S) K1 ρ1 M1 dB a1 w1 I1 (fun k j hj => ?_) (fun j hj => ?_)
   ·obtain ⟨g1, g2, g3, g4⟩ := hl (k + 1) j (by simpa using hj)
    rw [List.take_succ_cons] at g3 g4;refine ⟨g1, ?_, fun h => g3 (rA _ h), fun b hb => ?_⟩
    ·intro h
     rcases lj.1 h with e | h
     ·exact g3 (by rw [e]; simp)
     ·exact g2 h
    ·rcases g4 b hb with h | h
     ·exact .inl (rA _ h)
     ·rcases lj.1 h with e | h
      ·exact .inl (by rw [e]; simp)
      ·exact .inr h
   ·rcases hall j hj with h | h
    ·exact .inl (rA _ h)
    ·rcases lj.1 h with e | h
     ·exact .inl (by rw [e]; simp)
     ·exact .inr h
  obtain ⟨o, ho, hc⟩ := C.comp i io sD
  obtain ⟨hx, jX, rh, kz⟩ := A3 hc
  obtain ⟨HI, _⟩ := C.at_ i io sD
  have hval := I.val C sD hi hb
  have l9 := eval_eq hval
  have Q3 := yX hval
  have Rd := hG.ext I.st.ext
  simp only [wpOps, ho]
  -- one H5 looks at the memory cM it is
  have still : ∀ {op : iR}, io.op = .val op -> ¬ ki io (F i) -> (∀ B, ¬ eg is B0 F M i B) -> ap nn.eval op Mm = some (.val (V i) Mm) ->
    o.wp P a w (wpOps P ops (Reach base n ρ0 m0 w0 (.norm (F is.length) (M is.length))) l) (Reach base n ρ0 m0 w0 (.norm (F is.length) (M is.length))) := by
   intro op jk Q6 sB he
   rw [jk] at hx;obtain ⟨ρ1, w1, v', gz, hv, iP, hs⟩ := tN (nR hx) Rd I.hR I.fr.tm he
   have hF := (I.fr.ext hs.ext).put rh hv
   rw [<- jX] at hF;have := next (I.idle C sD hi hb Q6 sB iP hs hF)
   simp only [Oper.wp];rw [jX] at this;rcases gz with gz | ⟨gz, rfl⟩
   ·rw [gz]; exact this
   ·rw [gz]; exact this
  cases HI with
  | skip hw hv hm =>
   rw [jr I.fr.tm kz (Q3.trans hw), if_neg (by simp)];have hF := I.fr.put rh (VR.undef (ρ := ρ))
   rw [<- hv, <- jX] at hF;have := next (I.idle C sD hi hb (fun hA => by have := hA.1; rw [hw] at this; cases this) (fun B ⟨o', op, h1, h2, h3, h4, _⟩ => by rw [sD] at h1; cases h1; rw [hw] at h4; cases h4) I.hR (.refl _ _ _) hF)
   rw [jX] at this;exact this
  | pure op m1 hw jk hs h hm =>
   rw [jr I.fr.tm kz (Q3.trans hw), if_pos rfl]
   left
   refine still jk (fun hA => by have := hA.2; rw [jk] at this; simp only [sort] at this; omega) (fun B ⟨o', Uj, h1, h2, h3, h4, _⟩ => by rw [sD] at h1; cases h1; rw [jk] at h2; cases h2; omega) ?_
   rw [pk (g := (F i).eval) (fun x JG => l9 x (by rw [jk]; exact JG))]
   exact (zy hs h).2 Mm
  | load agg x hw jk h hm =>
   rw [jr I.fr.tm kz (Q3.trans hw), if_pos rfl]
   left
   refine still jk (fun hA => by have := hA.2; rw [jk] at this; simp [sort, bM] at this) (fun B ⟨o', Uj, h1, h2, h3, h4, _⟩ => by rw [sD] at h1; cases h1; rw [jk] at h2; cases h2; simp [bM] at h3) ?_
   have GD : nn.eval x = (F i).eval x := l9 x (by rw [jk]; simp [kP, eY])
   rw [jk] at hx;have mX : ∃ x', VR ρ (nn.eval x) x' := by
    cases x with
    | tmp t => exact ⟨_, I.fr.tm.tmp t⟩
    | const v =>
     obtain ⟨Tn, x1, x0, q1, q2⟩ := Jh (nR hx) rfl
     cases q1
     exact ⟨_, eK Rd I.fr.tm q2⟩
   obtain ⟨x', HE⟩ := mX
   rw [GD] at HE
   have := I.load C sD hi hb ⟨hw, jk, by generalize (F i).eval x = y at HE; cases HE <;> rfl⟩ h HE
   simp only [ap, GD, this, dQ, Option.map_some]
  | make op m1 hw jk hs h hm =>
   rw [jr I.fr.tm kz (Q3.trans hw), if_pos rfl]
   left
   rw [jk] at hx;obtain ⟨B, mk, e1, e2, e3⟩ := tY hs h
   have Z0 : eg is B0 F M i B := ⟨io, op, sD, jk, hs, hw, by rw [hm, e2]; rfl⟩
   have he : ap nn.eval op ⟨B0 + i, Mm.kl⟩ = some (.val (V i) ((⟨B0 + i, Mm.kl⟩ : Mem).new B)) := by
    rw [pk (g := (F i).eval) (fun x JG => l9 x (by rw [jk]; exact JG)), e3, e1]
   have hRN : RN base ρ ⟨B0 + i, Mm.kl⟩ w := by
    refine ⟨?_, I.hR.bT, I.hR.inj, I.hR.base⟩
    apply sj
    intro e
    exact hi (I.un i aP e)
   obtain ⟨B', M3, ρ1, w1, v', gz, hv, hM⟩ := Cu (nR hx) hs Rd hRN I.fr.tm he
   have : B' = B := by
    have h1 := congrArg (fun m : Mem => m.get (B0 + i)) M3
    simp only [Mem.dv, if_true] at h1;exact h1.symm
   subst this;have hF := (I.fr.ext hM.ext).put rh hv
   rw [<- jX] at hF;have := next (I.make C sD hi hb Z0 hM hF)
   rw [jX] at this;simp only [Oper.wp];rw [gz]; exact this
  | act op hw jk hs h =>
   rw [jr I.fr.tm kz (Q3.trans hw), if_pos rfl]
   left
   rw [jk] at hx;have hA : ki io (F i) := ⟨hw, by rw [jk]; exact hs⟩
   obtain ⟨MZ, re⟩ := I.next C sD hi hb hA
   have TP := I.text C MZ (Nat.le_of_lt aP) re
   rw [<- pk (f := nn.eval) (fun x JG => l9 x (by rw [jk]; exact JG))] at h
   obtain ⟨ρ1, w1, v', gz, hv, iP, cx⟩ := tN (nR hx) Rd TP I.fr.tm h
   have hF := (I.fr.ext cx.ext).put rh hv
   rw [<- jX] at hF;obtain ⟨M2, I2⟩ := I.act C sD hi hb hA iP cx hF
   have := next I2
   rw [jX] at this;simp only [Oper.wp];rcases gz with gz | ⟨gz, rfl⟩
   ·rw [gz]; exact this
   ·rw [gz]; exact this
  | call f args hw jk h =>
   rw [jr I.fr.tm kz (Q3.trans hw), if_pos rfl]
   left
   rw [jk] at hx;have hA : ki io (F i) := ⟨hw, by rw [jk]; simp [sort]⟩
   obtain ⟨MZ, re⟩ := I.next C sD hi hb hA
   have TP := I.text C MZ (Nat.le_of_lt aP) re
   obtain ⟨f0, QL, XH, JP, hf, JF⟩ := xk hx
   have MW : nn.eval f = (F i).eval f := l9 f (by rw [jk]; simp [kP])
   have hae : args.map nn.eval = args.map (F i).eval := kZ fun x JG => l9 x (by rw [jk]; simp [kP, JG])
   rw [<- MW, <- hae] at h
   cases Af : nn.eval f <;> simp only [Af, dy, reduceCtorEq] at h
   rename_i g x y
   obtain ⟨aj, gz, hv⟩ := Eb (w := w) (P := P) JP hf JF Rd I.fr.tm Af
   simp only [Oper.wp];rw [gz];rcases aY _ _ _ _ h base ρ w aj TP Rd hv with ⟨h1, h2⟩ | ⟨v, v', e, h1, h2⟩
   ·rw [h1]
    simp only [Oper.upon];refine h2.mono fun e w' hp => ?_
    obtain ⟨ρ1, v', rfl, qb, iP, cx⟩ := hp
    have hF := (I.fr.ext cx.ext).put rh qb
    rw [<- jX] at hF;obtain ⟨M2, I2⟩ := I.act C sD hi hb hA iP cx hF
    have := next I2
    rw [jX] at this;exact this
   ·rw [h1]
    simp only [Oper.upon];simp only [Fin.ret.injEq] at e;obtain ⟨rfl, e⟩ := e
    have hF := I.fr.put rh h2
    rw [<- jX] at hF;obtain ⟨M2, I2⟩ := I.act C sD hi hb hA (by rw [e]; exact TP) (by rw [e]; exact .refl _ _ _) hF
    have := next I2
    rw [jX] at this;exact this
end
theorem pe {i j : Nat} : ∀ {l : List (Nat × Nat)}, (i, j) ∈ l -> aZ i j l = true
 | [], h => by cases h
 | (a, b) :: l, h => by
  simp only [aZ];rcases lj.1 h with e | h
  ·cases e
   simp
  ·have := pe h
   cases h1 : a.beq i <;> simp only [cond_true, cond_false]
   ·exact this
   ·cases h2 : b.beq j <;> simp only [cond_true, cond_false]
    ·exact this
theorem FX {n i j : Nat} (h : i < j) (hj : j < n) : (i, j) ∈ D8 n := by
 unfold D8;refine List.mem_flatMap.2 ⟨j, by simpa using hj, List.mem_map.2 ⟨i, by simpa using h, rfl⟩⟩
theorem o8 {acc : List (List Nat)} {sH : List Nat} (h : ∀ k i, (sH.getD k 0).testBit i = true -> i ∈ acc.getD k []) : ∀ (es : List Edge) (i : Nat), (qZ sH es).testBit i = true ->
  i ∈ (es.filter dr).flatMap fun e => e.on :: acc.getD e.on []
 | [], i, hi => by simp [qZ] at hi
 | e :: es, i, hi => by
  simp only [qZ] at hi
  cases hp : dr e with
  | false =>
   simp only [hp, cond_false] at hi;rw [List.filter_cons, hp];exact o8 h es i hi
  | true =>
   simp only [hp, cond_true, Nat.testBit_or, Bool.or_eq_true, Nat.testBit_two_pow, decide_eq_true_eq] at hi;rw [List.filter_cons, hp];simp only [if_true, List.flatMap_cons, nY, lj];rcases hi with (hi | hi) | hi
   ·exact .inl (.inl hi.symm)
   ·exact .inl (.inr (h _ _ hi))
   ·exact .inr (o8 h es i hi)
theorem wE : ∀ (l : List Oper) (acc : List (List Nat)) (sH : List Nat), sH.length = acc.length -> (∀ k i, (sH.getD k 0).testBit i = true -> i ∈ acc.getD k []) ->
  ∀ k i, ((zV l sH).getD k 0).testBit i = true -> i ∈ (cX l acc).getD k []
 | [], _, _, _, h => h
 | o :: l, acc, sH, hl, h => by
  refine wE l _ _ (by simp [hl]) fun k i hi => ?_
  by_cases hk : k < sH.length
  ·rw [List.getD_eq_getElem?_getD, rB hk, <- List.getD_eq_getElem?_getD] at hi
   rw [List.getD_eq_getElem?_getD, rB (by omega), <- List.getD_eq_getElem?_getD];exact h k i hi
  ·rw [List.getD_eq_getElem?_getD, qJ (by omega)] at hi
   rw [List.getD_eq_getElem?_getD, qJ (by omega)];rw [hl] at hi
   cases hx : k - acc.length with
   | zero =>
    rw [hx] at hi;simp only [List.getElem?_cons_zero, Option.getD_some] at hi ⊢
    exact o8 h _ i hi
   | succ x => rw [hx] at hi; simp at hi
theorem yv {l : List Oper} {is : List aF} {chk : List (Nat × Nat)} (h : mn l is = some chk) : nJ l 0 = true /\
  ∀ (i j : Nat) (io jo : aF), i < j -> is[i]? = some io -> is[j]? = some jo -> i ∉ (cX l []).getD j [] ->
   ¬ (sort io.op = 3 /\ sort jo.op = 3) /\ (∀ t, io.dst = some t -> t ∉ named jo) /\ (∀ t, jo.dst = some t -> t ∉ named io) /\ (sort io.op = 2 -> sort jo.op = 3 -> aZ i j chk = true) /\ (sort io.op = 3 -> sort jo.op = 2 -> aZ j i chk = true) := by
 unfold mn at h;simp only [Bool.cond_eq_ite] at h
 split at h
 ·rename_i hq
  simp only [kD] at hq;obtain ⟨h1, h2⟩ := hq
  refine ⟨h1, fun i j io jo Ls sD TH re => ?_⟩
  have hm : (i, j) ∈ (D8 is.length).filter fun (p : Nat × Nat) => !((zV l []).getD p.2 0).testBit p.1 := by
   refine List.mem_filter.2 ⟨FX Ls (kO.1 TH).1, ?_⟩
   cases hb : ((zV l []).getD j 0).testBit i with
   | false => simp only [hb, Bool.not_false]
   | true => exact absurd (wE l [] [] rfl (fun k i h => by simp at h) j i hb) re
  have h3 := List.all_eq_true.1 h2 (i, j) hm
  simp only [sD, TH, Option.map_some, Option.getD_some, Option.bind_some, kD] at h3;obtain ⟨⟨h4, h5⟩, h6⟩ := h3
  simp only [aQ] at h;refine ⟨fun ⟨a, b⟩ => by rw [a, b] at h4; simp at h4, fun t ht => ?_, fun t ht => ?_, fun a b => ?_, fun a b => ?_⟩
  ·rw [ht] at h5; simpa using h5
  ·rw [ht] at h6; simpa using h6
  ·rw [<- h]
   refine pe (List.mem_flatMap.2 ⟨(i, j), hm, ?_⟩)
   simp [sD, TH, a, b]
  ·rw [<- h]
   refine pe (List.mem_flatMap.2 ⟨(i, j), hm, ?_⟩)
   simp [sD, TH, a, b]
 ·cases h
theorem Dj (eT : P.follows .mixedOrders = true) (aY : li P G call) {base id : Nat} {ops : Array Oper} {is : List aF} {chk : List (Nat × Nat)} (MT : ops.toList.mapM (na P G n ops) = some is)
  (Qg : mn ops.toList is = some chk) {ρ : Ren} {m : Mem} {w : World} {fr : Fr} {a : Act} {out : Out} (hR : R base ρ m w) (hG : fJ G ρ) (hF : sJ ρ n fr a)
  (h : b6 call chk m.next is 0 fr ⟨m.next + is.length, m.kl⟩ [] [] = some out) : (Code.region id ops true).wp P (Reach base n ρ m w out) a w := by
 obtain ⟨qi, R4⟩ := yv Qg
 obtain ⟨hlen, Sl⟩ := mapM_some _ MT
 have hlen : ops.size = is.length := by simpa using hlen
 obtain ⟨F, M, V, f0, m0, uj, Sn⟩ := KR is 0 fr _ [] [] out h
 simp only [Nat.zero_add] at uj;subst uj;have C : Cx P G n call ops is chk m.next F M V := by
  refine ⟨fun i io hi => ?_, fun k o hk => by simpa using Sn.at_ k o hk, fun k o agg x l q hk hl hL hA hp => ?_, R4⟩
  ·have aP : i < ops.size := by have := (kO.1 hi).1; omega
   exact ⟨ops[i], Array.getElem?_eq_getElem aP, Sl i ops[i] io (by simp [aP]) hi⟩
  ·have := Sn.c1 k o agg x l q hk hl (by simpa using hL) (by simpa using hA) (by simpa using hp)
   simpa using this
 refine wp_region_draw fun t => ?_
 have q : Quiet w { w with drawn := w.drawn + 1 } := ⟨rfl, rfl, rfl, rfl⟩
 generalize { w with drawn := w.drawn + 1 } = w1 at q
 have hl := xB eT ops qi t
 have yS := vQ qi hl
 generalize Region.schedule (P.follows .mixedOrders) ops t = l at hl yS
 have iP := hR.quiet q
 have cx : Step ρ m w ρ m w1 := .quiet q
 have jW : ∀ b, (M 0).get b = m.get b := fun b => by rw [m0]; rfl
 have rW : (M 0).next = m.next + is.length := by rw [m0]
 have Wm : R base ρ (M 0) w1 := ⟨fun b L hb => by rw [rW]; have := iP.lt b L hb; omega, fun b L hb => by rw [jW]; exact iP.bT b L hb,
  fun b c L L' h1 h2 h3 h4 => iP.inj b c L L' h1 h2 (by unfold Live at *; rwa [jW] at h3) (by unfold Live at *; rwa [jW] at h4), iP.base, fun b hb => by rw [jW]; exact iP.clean b (by rw [rW] at hb; omega)⟩
 have VH : Step ρ m w ρ (M 0) w1 := ⟨cx.ext, cx.new, by rw [rW]; omega, fun b hb hn => by rw [jW], fun b hb hd => by rw [jW]; exact hd, cx.size,
  fun i hi ⟨b, L, h1, h2, h3, h4⟩ => ⟨b, L, h1, by unfold Live at *; rwa [jW] at h2, h3, h4⟩, cx.kept, cx.os, cx.tape, cx.output⟩
 have Sk : ∀ t, ∀ k, qu is F V [] t k = (F 0).get t := by
  intro t k
  induction k with
  | zero => rfl
  | succ k ih => simp only [qu]; rw [if_neg (by simp)]; exact ih
 have I : Inv n ops is m.next F M V base ρ m w [] 0 ρ (M 0) fr a w1 := by
  refine ⟨rfl, by simp, by simp, by simp, .inl rfl, Wm, rfl, by rw [rW]; omega, by simp, fun b _ => rfl, fun j _ hj => ?_, fun j B _ h => absurd h (by omega), fun j _ _ => ?_, VH, hF, fun t => by rw [Sk, f0], by rw [f0]⟩
  ·exfalso
   apply hj
   cases e : ρ (m.next + j) with
   | none => rfl
   | some L => have := hR.lt _ _ e; omega
  ·rw [jW]; exact hR.clean _ (by omega)
 refine Tf aY C hG l [] 0 ρ (M 0) fr a w1 I (fun k i hk => ?_) (fun i hi => .inr ((hl.all i).2 (by omega)))
 refine ⟨by have := (hl.all i).1 (List.mem_of_getElem? hk); omega, by simp, ?_, fun b hb => .inr (yS i k hk b hb)⟩
 intro sE
 obtain ⟨k', Bq⟩ := List.mem_iff_getElem?.1 sE
 have aP : k' < k := by have := (kO.1 Bq).1; simp at this; omega
 rw [List.getElem?_take, if_pos aP] at Bq
 have h1 := kO.1 hk
 have h2 := kO.1 Bq
 obtain ⟨g1, e1⟩ := h1
 obtain ⟨g2, e2⟩ := h2
 exact List.pairwise_iff_getElem.1 hl.nodup k' k g2 g1 aP (by rw [e1, e2])
end
end
end Go.Proofs.YtblcomejcahkdaaDoor.Ev
