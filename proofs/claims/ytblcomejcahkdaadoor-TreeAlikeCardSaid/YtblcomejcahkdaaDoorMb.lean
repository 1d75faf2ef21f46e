/- EvOpG, EvOp, EvOps, EvDraw, EvSched, EvMake, EvDraws, EvDrawEnd. -/
import Derived.Test.YtblcomejcahkdaaDoorMa
set_option linter.unusedSimpArgs false
set_option linter.unusedVariables false
set_option linter.unusedSectionVars false
section
namespace Go.Proofs.YtblcomejcahkdaaDoor.Ev
open Go
section
variable {base : Nat} {ρ : Ren} {m : Mem} {w : World} {P : Program}

theorem copy_sound (hR : R base ρ m w) {t u e : TypeId} {size : Nat} (ht : P.underlying t = some (.slice e)) (hs : cSize P e = some size) {d s : EV} {d' s' : Value} (hd : VR ρ d d') (hx : VR ρ s s') {v : EV} {m' : Mem} (h : evCopy m size d s = some (v, m')) :
    Runs P (Builtin.copy_ #[t, u] t #[d', s']) base ρ m w v m' := by
  unfold evCopy at h
  cases hd <;> simp only [reduceCtorEq] at h
  case nilslice =>
    obtain ⟨nx, hsrc, h2⟩ := Option.map_eq_some_iff.1 h
    cases h2
    obtain ⟨s1, s2, s3⟩ := source_sound (P := P) hR hx size (n := nx.1) (xs := nx.2) hsrc
    obtain ⟨vs, f1, f2, f3⟩ := s3 0 (Nat.zero_le _)
    refine ⟨ρ, w, .int .i64 0, ?_, .int _ _, hR, .refl _ _ _⟩
    unfold Builtin.copy_
    simp only [List.getElem?_toArray, List.getElem?_cons_zero, List.getElem?_cons_succ, Sem.run_bind, run_underlying ht, Result.andThen_ok, s1, run_sizeOf' hs]
    rw [show Nat.min nx.1 0 = 0 by simp]
    simp only [f1, Result.andThen_ok, Sem.run_pure, goInt]
    rfl
  case slice b off len c o L hL hc ho hr =>
    cases hsrc : m.source size s with
    | none => simp [hsrc] at h
    | some nx =>
    obtain ⟨n, xs⟩ := nx
    simp only [hsrc] at h
    obtain ⟨m1, hm1, h2⟩ := Option.map_eq_some_iff.1 h
    cases h2
    obtain ⟨s1, s2, s3⟩ := source_sound (P := P) hR hx size hsrc
    obtain ⟨vs, f1, f2, f3⟩ := s3 (min n len) (Nat.min_le_left _ _)
    obtain ⟨w', r1, r2, r3⟩ := write_sound (P := P) hR hL f2 f3 hm1
    have hst : (storeCells ⟨L.blk, o, none⟩ vs).run P w = .ok () w' := by
      rcases Nat.eq_zero_or_pos len with h0 | h0
      · have : vs = [] := by
          have := f2.length
          rw [h0] at this
          simp at this
          exact List.eq_nil_of_length_eq_zero this.symm
        subst this
        exact r1
      · rw [ho h0]; exact r1
    refine ⟨ρ, w', .int .i64 (min n len : Nat), ?_, .int _ _, r2, r3⟩
    unfold Builtin.copy_
    simp only [List.getElem?_toArray, List.getElem?_cons_zero, List.getElem?_cons_succ, Sem.run_bind, run_underlying ht, Result.andThen_ok, s1, run_sizeOf' hs]
    rw [show Nat.min n len = min n len from rfl]
    simp only [f1, Result.andThen_ok, Sem.run_pure, goInt, hst]
  case sliceE b off a =>
    cases hsrc : m.source size s with
    | none => simp [hsrc] at h
    | some nx =>
    obtain ⟨n, xs⟩ := nx
    simp only [hsrc] at h
    obtain ⟨m1, hm1, h2⟩ := Option.map_eq_some_iff.1 h
    cases h2
    obtain ⟨s1, s2, s3⟩ := source_sound (P := P) hR hx size hsrc
    obtain ⟨vs, f1, f2, f3⟩ := s3 (min n 0) (Nat.min_le_left _ _)
    obtain ⟨q1, q2⟩ := write_nil (by rw [Nat.min_zero, Nat.zero_mul, List.take_zero] at hm1; exact hm1)
    obtain ⟨r2, r3⟩ := hR.same_get q1 q2
    have hvs : vs = [] := by
      have := f2.length
      simp at this
      exact List.eq_nil_of_length_eq_zero this.symm
    subst hvs
    refine ⟨ρ, w, .int .i64 (min n 0 : Nat), ?_, .int _ _, r2, r3⟩
    unfold Builtin.copy_
    simp only [List.getElem?_toArray, List.getElem?_cons_zero, List.getElem?_cons_succ, Sem.run_bind, run_underlying ht, Result.andThen_ok, s1, run_sizeOf' hs]
    rw [show Nat.min n 0 = min n 0 from rfl]
    simp only [f1, Result.andThen_ok, Sem.run_pure, goInt, storeCells]
  case sliceC b off len c o L hL hc ho =>
    cases hsrc : m.source size s with
    | none => simp [hsrc] at h
    | some nx =>
    obtain ⟨n, xs⟩ := nx
    simp only [hsrc] at h
    obtain ⟨m1, hm1, h2⟩ := Option.map_eq_some_iff.1 h
    cases h2
    obtain ⟨s1, s2, s3⟩ := source_sound (P := P) hR hx size hsrc
    obtain ⟨vs, f1, f2, f3⟩ := s3 (min n len) (Nat.min_le_left _ _)
    obtain ⟨w', r1, r2, r3⟩ := write_sound (P := P) hR hL f2 f3 hm1
    have hst : (storeCells ⟨L.blk, o, none⟩ vs).run P w = .ok () w' := by
      rcases Nat.eq_zero_or_pos len with h0 | h0
      · have : vs = [] := by
          have := f2.length
          rw [h0] at this
          simp at this
          exact List.eq_nil_of_length_eq_zero this.symm
        subst this
        exact r1
      · rw [ho (by omega)]; exact r1
    refine ⟨ρ, w', .int .i64 (min n len : Nat), ?_, .int _ _, r2, r3⟩
    unfold Builtin.copy_
    simp only [List.getElem?_toArray, List.getElem?_cons_zero, List.getElem?_cons_succ, Sem.run_bind, run_underlying ht, Result.andThen_ok, s1, run_sizeOf' hs]
    rw [show Nat.min n len = min n len from rfl]
    simp only [f1, Result.andThen_ok, Sem.run_pure, goInt, hst]

def KeyTy (P : Program) (kt : TypeId) (c : Nat) : Prop := ∃ d, P.underlying kt = some d ∧ ((c = 0 ∧ d = .bool) ∨ (c = 1 ∧ d = .string) ∨ (c = 2 ∧ ∃ k, d = .int k))
theorem cKey_sound {kt : TypeId} {c : Nat} (h : cKey P kt = some c) : KeyTy P kt c := by
  unfold cKey at h
  cases hu : P.underlying kt with
  | none => simp [hu] at h
  | some d =>
    rw [hu] at h
    refine ⟨d, hu, ?_⟩
    cases d <;> simp at h <;> subst h <;> simp
theorem checkKey_run {kt : TypeId} {c : Nat} (h : KeyTy P kt c) (b : Bool) (n : Nat) (v : Value) (w : World) : (Instr.checkKey b (n + 1) kt v).run P w = .ok () w := by
  obtain ⟨d, hu, h⟩ := h
  rcases h with ⟨_, rfl⟩ | ⟨_, rfl⟩ | ⟨_, k, rfl⟩ <;> simp [Instr.checkKey, run_underlying hu]
theorem sameInt_eq : ∀ {a b : Int}, sameInt a b = decide (a = b)
  | .ofNat a, .ofNat b => by
    simp only [sameInt]
    cases h : a.beq b with
    | true => simp [of_beq h]
    | false => have := of_beq_ff h; simp; omega
  | .negSucc a, .negSucc b => by
    simp only [sameInt]
    cases h : a.beq b with
    | true => simp [of_beq h]
    | false => have := of_beq_ff h; simp [this]
  | .ofNat a, .negSucc b => by simp [sameInt]
  | .negSucc a, .ofNat b => by simp [sameInt]
theorem kind_sort {k l : IntKind} (h : 2 + kindNo k = 2 + kindNo l) : k = l := kindNo_inj (by rw [show kindNo k = kindNo l by omega]; exact beq_self _)
theorem key_same {kt : TypeId} {c : Nat} {d : TypeDesc} (hu : P.underlying kt = some d) (hd : (c = 0 ∧ d = .bool) ∨ (c = 1 ∧ d = .string) ∨ (c = 2 ∧ ∃ k, d = .int k)) {k l : EV} {k' l' : Value} (hk : VR ρ k k') (hl : VR ρ l l') (hki : keyIs c k = true) (hs : sortOf l = sortOf k) :
    Instr.sameNow d k' l' = some (EV.same k l) ∧ (EV.same k l = true → Instr.sameBits 10000 l' k' = true) := by
  cases hk <;> simp only [keyIs, Bool.false_eq_true] at hki
  case bool a =>
    cases hl <;> simp only [sortOf] at hs <;> (try (omega))
    · have := of_beq hki; subst this
      rcases hd with ⟨_, rfl⟩ | ⟨h, _⟩ | ⟨h, _⟩
      · exact ⟨rfl, fun h => by simp [EV.same] at h; simp [Instr.sameBits, h]⟩
      · cases h
      · cases h
  case int x a =>
    cases hl <;> simp only [sortOf] at hs <;> (try (exfalso; cases x <;> simp [kindNo] at hs; done))
    · have := of_beq hki; subst this
      obtain rfl := kind_sort hs
      rcases hd with ⟨h, _⟩ | ⟨h, _⟩ | ⟨_, kk, rfl⟩
      · cases h
      · cases h
      · refine ⟨?_, fun h => ?_⟩
        · simp only [Instr.sameNow, if_true, EV.same, beq_self, cond_true, sameInt_eq]; rfl
        · simp only [EV.same, beq_self, cond_true, sameInt_eq, decide_eq_true_eq] at h
          simp [Instr.sameBits, h]
  case str a =>
    cases hl <;> simp only [sortOf] at hs <;> (try omega)
    · have := of_beq hki; subst this
      rcases hd with ⟨h, _⟩ | ⟨_, rfl⟩ | ⟨h, _⟩
      · cases h
      · refine ⟨?_, fun h => ?_⟩
        · simp only [Instr.sameNow, EV.same, sameBytes_eq, bytes_beq]
        · simp only [EV.same, sameBytes_eq, decide_eq_true_eq] at h
          simp [Instr.sameBits, bytes_beq, h]
      · cases h
def EntsR (ρ : Ren) (es : List (EV × EV)) (ds : List MapEntry) : Prop := es.length = ds.length ∧ ∀ (i : Nat) (e : EV × EV) (d : MapEntry), es[i]? = some e → ds[i]? = some d → EntR ρ e d
theorem EntsR.cons {e : EV × EV} {es : List (EV × EV)} {ds : List MapEntry} (h : EntsR ρ (e :: es) ds) : ∃ d ds', ds = d :: ds' ∧ EntR ρ e d ∧ EntsR ρ es ds' := by
  cases ds with
  | nil => have := h.1; simp at this
  | cons d ds' => exact ⟨d, ds', rfl, h.2 0 e d rfl rfl, by have := h.1; simpa using this, fun i a b ha hb => h.2 (i + 1) a b (by simpa using ha) (by simpa using hb)⟩
theorem find_sound {kt : TypeId} {c : Nat} {d : TypeDesc} (hu : P.underlying kt = some d) (hd : (c = 0 ∧ d = .bool) ∨ (c = 1 ∧ d = .string) ∨ (c = 2 ∧ ∃ k, d = .int k)) {k : EV} {k' : Value} (hk : VR ρ k k') (hki : keyIs c k = true) :
    ∀ (es : List (EV × EV)) (ds : List MapEntry) (i : Nat), EntsR ρ es ds → sortsOk k es = true →
      (Instr.findNow d k' ds i = some none ∧ find k es = none ∧ (∀ v, update k v es = es ++ [(k, v)]) ∧ erase k es = es) ∨
      (∃ j v v' old, Instr.findNow d k' ds i = some (some (i + j, v')) ∧ find k es = some v ∧ VR ρ v v' ∧ ds[j]? = some old ∧ old.val = v' ∧ (∀ u, update k u es = es.set j (k, u)) ∧ erase k es = es.eraseIdx j ∧ j < es.length ∧ Instr.sameBits 10000 old.key k' = true) := by
  intro es
  induction es with
  | nil =>
    intro ds i h _
    have : ds = [] := by have := h.1; simp at this; exact List.eq_nil_of_length_eq_zero this.symm
    subst this
    exact .inl ⟨rfl, rfl, fun _ => rfl, rfl⟩
  | cons e es ih =>
    intro ds i h hs
    obtain ⟨x, ds', rfl, hx, hr⟩ := h.cons
    obtain ⟨l, u⟩ := e
    simp only [sortsOk] at hs
    cases hso : (sortOf l).beq (sortOf k) <;> simp only [hso, cond_true, cond_false, Bool.false_eq_true] at hs
    obtain ⟨hs1, hs2⟩ := key_same hu hd hk hx.1 hki (of_beq hso)
    cases hq : EV.same k l with
    | true =>
      right
      refine ⟨0, u, x.val, x, ?_, ?_, hx.2, rfl, rfl, fun z => ?_, ?_, by simp, hs2 hq⟩
      · simp only [Instr.findNow, hs1, hq]; rfl
      · simp [find, hq]
      · simp [update, hq]
      · simp [erase, hq]
    | false =>
      rcases ih ds' (i + 1) hr hs with ⟨a1, a2, a3, a4⟩ | ⟨j, v, v', old, a1, a2, a3, a4, a5, a6, a7, a8, a9⟩
      · left
        refine ⟨?_, by simp [find, hq, a2], fun z => by simp [update, hq, a3], by simp [erase, hq, a4]⟩
        simp only [Instr.findNow, hs1, hq]; exact a1
      · right
        refine ⟨j + 1, v, v', old, ?_, by simp [find, hq, a2], a3, by simpa using a4, a5, fun z => by simp [update, hq, a6], by simp [erase, hq, a7], by simp; omega, a9⟩
        simp only [Instr.findNow, hs1, hq]
        rw [a1]; congr 3; omega
theorem keysOk_parts {c : Nat} {k : EV} {es : List (EV × EV)} (h : keysOk c k es = true) : keyIs c k = true ∧ sortsOk k es = true := by
  unfold keysOk at h
  cases hk : keyIs c k <;> simp only [hk, cond_true, cond_false, Bool.false_eq_true] at h
  exact ⟨rfl, h⟩
theorem map_at (hR : R base ρ m w) {b : Nat} {L : Loc} (hL : ρ b = some L) {es : List (EV × EV)} (hm : m.get b = .map es) : ∃ ds c, w.heap[L.blk]? = some (.map ds c) ∧ EntsR ρ es ds.toList ∧ base ≤ L.blk ∧ L.ro = false := by
  have := hR.blk b L hL
  rw [hm] at this
  obtain ⟨ds, c, h1, h2, h3, h4⟩ := this
  exact ⟨ds, c, h1, ⟨by simpa using h2, fun i e d he hd => h3 i e d he (by simpa using hd)⟩, h4⟩
theorem map_write (hR : R base ρ m w) {b : Nat} {L : Loc} (hL : ρ b = some L) {es fs : List (EV × EV)} (hm : m.get b = .map es) {ds gs : Array MapEntry} {c c' : Nat} (hw : w.heap[L.blk]? = some (.map ds c)) (he : EntsR ρ fs gs.toList) (hbase : base ≤ L.blk) (hro : L.ro = false) :
    R base ρ (m.set b (.map fs)) { w with heap := w.heap.setIfInBounds L.blk (.map gs c') } ∧ Step ρ m w ρ (m.set b (.map fs)) { w with heap := w.heap.setIfInBounds L.blk (.map gs c') } := by
  have hlv : Live m b := by unfold Live; rw [hm]; simp
  have hget : ∀ d, d ≠ b → (m.set b (.map fs)).get d = m.get d := fun d hd => by rw [Mem.get_set, if_neg hd]
  have hlive : ∀ d, Live (m.set b (.map fs)) d → Live m d := by
    intro d hd
    by_cases e : d = b
    · subst e; exact hlv
    · unfold Live at hd ⊢; rwa [hget d e] at hd
  have hlt : L.blk < w.heap.size := (Array.getElem?_eq_some_iff.1 hw).1
  have hother : ∀ k, k ≠ L.blk → (w.heap.setIfInBounds L.blk (.map gs c'))[k]? = w.heap[k]? := fun k hk => by rw [Array.getElem?_setIfInBounds_ne (by omega)]
  refine ⟨⟨hR.lt, fun d M hM => ?_, fun d f M M' h1 h2 h3 h4 => hR.inj d f M M' h1 h2 (hlive d h3) (hlive f h4), by simpa using hR.base, fun d hd => by rw [hget d (fun e => by subst e; have := hR.lt _ _ hL; rw [Mem.next_set] at hd; omega)]; exact hR.clean d hd⟩,
    ⟨.refl ρ, fun _ h h' => absurd h h', Nat.le_refl _, fun d hd hn => hget d (fun e => by subst e; rw [hL] at hn; cases hn), fun d _ hd => by rw [hget d (fun e => by subst e; rw [hm] at hd; cases hd)]; exact hd, by simp, fun i hi => ?_, fun i hi hr => hother i (fun e => hr ⟨b, L, hL, hlv, hro, e.symm⟩), rfl, rfl, rfl⟩⟩
  · by_cases e : d = b
    · subst e
      rw [hL] at hM; cases hM
      rw [Mem.get_set, if_pos rfl]
      refine ⟨gs, c', by simp [hlt], by simpa using he.1, fun i x y hx hy => he.2 i x y hx (by simpa using hy), hbase, hro⟩
    · rw [hget d e]
      by_cases hl : m.get d = .dead
      · rw [hl]; trivial
      · have hne : M.blk ≠ L.blk := fun heq => e (hR.inj b d L M hL hM hlv hl hro heq.symm).symm
        exact (hR.blk d M hM).of_heap (.refl ρ) (hother _ hne)
  · rintro ⟨d, M, hM, h1, h2, h3⟩
    exact ⟨d, M, hM, hlive d h1, h2, h3⟩
theorem run_getObj_map {r : Nat} {ds : Array MapEntry} {c : Nat} (h : w.heap[r]? = some (.map ds c)) : (getObj r).run P w = .ok (.map ds c) w := by
  simp only [getObj, Sem.run, h]
theorem run_setObj_map {r : Nat} {ds : Array MapEntry} {c : Nat} (h : w.heap[r]? = some (.map ds c)) (o : Obj) : (setObj r o).run P w = .ok () { w with heap := w.heap.setIfInBounds r o } := by
  simp only [setObj, Sem.run, h]

theorem lookup_sound (hR : R base ρ m w) {t kt e : TypeId} {c : Nat} (ht : P.underlying t = some (.map kt e)) (hc : cKey P kt = some c) {z : EV} (hz : cZero P e = some z) {mp k : EV} {mp' k' : Value} (hmp : VR ρ mp mp') (hk : VR ρ k k') {ok : Bool} {fr : Opd → EV} {om okk : Opd} (e1 : fr om = mp) (e2 : fr okk = k) {v : EV} {m' : Mem}
    (h : evOp fr (.lookup c z ok om okk) m = some (.val v m')) : Runs P (Instr.lookup t mp' k' ok) base ρ m w v m' := by
  obtain ⟨zv, z1, z2⟩ := zero_sound (ρ := ρ) hz
  have hkt := cKey_sound hc
  have hkt' := hkt
  obtain ⟨d, hu, hd⟩ := hkt'
  simp only [evOp, e1, e2] at h
  cases hmp <;> simp only [reduceCtorEq] at h
  case nilmap =>
    cases hki : keyIs c k <;> simp only [hki, cond_true, cond_false, reduceCtorEq, Option.some.injEq, R1.val.injEq] at h
    obtain ⟨rfl, rfl⟩ := h
    refine ⟨ρ, w, if ok then .tuple #[zv, .bool false] else zv, ?_, ?_, hR, .refl _ _ _⟩
    · simp only [Instr.lookup, Sem.run_bind, run_underlying ht, Result.andThen_ok, Sem.run_pure, checkKey_run hkt, Instr.findKey, run_underlying hu, Instr.findNow, z1]
    · cases ok
      · exact z2
      · exact .tuple (.cons z2 (.cons (.bool _) .nil))
  case map b L hL =>
    cases hm : m.get b with
    | dead => simp [hm] at h
    | cells => simp [hm] at h
    | map es =>
    simp only [hm] at h
    cases hks : keysOk c k es <;> simp only [hks, cond_true, cond_false, reduceCtorEq] at h
    obtain ⟨hki, hso⟩ := keysOk_parts hks
    obtain ⟨ds, cl, hw, hes, _, _⟩ := map_at hR hL hm
    rcases find_sound hu hd hk hki es ds.toList 0 hes hso with ⟨a1, a2, _, _⟩ | ⟨j, x, x', old, a1, a2, a3, a4, a5, _⟩
    · simp only [a2, Option.some.injEq, R1.val.injEq] at h
      obtain ⟨rfl, rfl⟩ := h
      refine ⟨ρ, w, if ok then .tuple #[zv, .bool false] else zv, ?_, ?_, hR, .refl _ _ _⟩
      · simp only [Instr.lookup, Sem.run_bind, run_underlying ht, Result.andThen_ok, Sem.run_pure, run_getObj_map hw, checkKey_run hkt, Instr.findKey, run_underlying hu, a1, z1]
      · cases ok
        · exact z2
        · exact .tuple (.cons z2 (.cons (.bool _) .nil))
    · simp only [a2, Option.some.injEq, R1.val.injEq] at h
      obtain ⟨rfl, rfl⟩ := h
      refine ⟨ρ, w, if ok then .tuple #[x', .bool true] else x', ?_, ?_, hR, .refl _ _ _⟩
      · simp only [Instr.lookup, Sem.run_bind, run_underlying ht, Result.andThen_ok, Sem.run_pure, run_getObj_map hw, checkKey_run hkt, Instr.findKey, run_underlying hu, a1]
      · cases ok
        · exact a3
        · exact .tuple (.cons a3 (.cons (.bool _) .nil))
theorem mapupd_sound (hR : R base ρ m w) {t kt e : TypeId} {c : Nat} (ht : P.underlying t = some (.map kt e)) (hc : cKey P kt = some c) {mp k x : EV} {mp' k' x' : Value} (hmp : VR ρ mp mp') (hk : VR ρ k k') (hx : VR ρ x x') {fr : Opd → EV} {om okk ox : Opd} (e1 : fr om = mp) (e2 : fr okk = k) (e3 : fr ox = x) {v : EV} {m' : Mem}
    (h : evOp fr (.mapupd c om okk ox) m = some (.val v m')) : ∃ w', (Instr.mapUpdate t mp' k' x').run P w = .ok () w' ∧ v = .undef ∧ R base ρ m' w' ∧ Step ρ m w ρ m' w' := by
  have hkt := cKey_sound hc
  have hkt' := hkt
  obtain ⟨d, hu, hd⟩ := hkt'
  simp only [evOp, e1, e2, e3] at h
  cases hmp <;> simp only [reduceCtorEq] at h
  case map b L hL =>
    cases hm : m.get b with
    | dead => simp [hm] at h
    | cells => simp [hm] at h
    | map es =>
    simp only [hm] at h
    cases hks : keysOk c k es <;> simp only [hks, cond_true, cond_false, reduceCtorEq, Option.some.injEq, R1.val.injEq] at h
    obtain ⟨hki, hso⟩ := keysOk_parts hks
    obtain ⟨rfl, rfl⟩ := h
    obtain ⟨ds, cl, hw, hes, hb, hro⟩ := map_at hR hL hm
    rcases find_sound hu hd hk hki es ds.toList 0 hes hso with ⟨a1, _, a3, _⟩ | ⟨j, y, y', old, a1, _, _, a4, a5, a6, _, a8, a9⟩
    · obtain ⟨q1, q2⟩ := map_write (c' := cl + 1) hR hL hm hw (fs := update k x es) (gs := ds.push { key := k', val := x', born := cl }) (by
        rw [a3]
        refine ⟨by simp [hes.1], fun i p q hp hq => ?_⟩
        simp only [Array.toList_push] at hq
        by_cases hi : i < es.length
        · rw [List.getElem?_append_left hi] at hp
          rw [List.getElem?_append_left (by rw [← hes.1]; exact hi)] at hq
          exact hes.2 i p q hp hq
        · rw [List.getElem?_append_right (by omega)] at hp
          rw [List.getElem?_append_right (by rw [← hes.1]; omega), ← hes.1] at hq
          have h0 : i - es.length = 0 := by
            have := (List.getElem?_eq_some_iff.1 hp).1
            simp at this; omega
          rw [h0] at hp hq
          simp at hp hq
          subst hp hq
          exact ⟨hk, hx⟩) hb hro
      refine ⟨_, ?_, rfl, q1, q2⟩
      simp only [Instr.mapUpdate, Sem.run_bind, run_underlying ht, Result.andThen_ok, Sem.run_pure, run_getObj_map hw, checkKey_run hkt, Instr.findKey, run_underlying hu, a1, run_setObj_map hw]
    · have hjd : j < ds.size := by have := hes.1; simp at this; omega
      have hds : ds[j]? = some old := by simpa using a4
      obtain ⟨q1, q2⟩ := map_write (c' := cl) hR hL hm hw (fs := update k x es) (gs := ds.modify j fun e => { e with key := k', val := x' }) (by
        rw [a6]
        refine ⟨by simp; simpa using hes.1, fun i p q hp hq => ?_⟩
        rw [Array.getElem?_toList, Array.getElem?_modify] at hq
        rw [List.getElem?_set] at hp
        by_cases hij : j = i
        · subst hij
          rw [if_pos rfl, if_pos a8] at hp
          rw [if_pos rfl, hds] at hq
          cases hp; cases hq
          exact ⟨hk, hx⟩
        · rw [if_neg hij] at hp
          rw [if_neg hij] at hq
          exact hes.2 i p q hp (by simpa using hq)) hb hro
      refine ⟨_, ?_, rfl, q1, q2⟩
      simp only [Instr.mapUpdate, Sem.run_bind, run_underlying ht, Result.andThen_ok, Sem.run_pure, run_getObj_map hw, checkKey_run hkt, Instr.findKey, run_underlying hu, a1, Nat.zero_add, hds, Option.map_some, Option.getD_some, Instr.keyThatStays, a9, if_true, run_setObj_map hw]
theorem delete_sound (hR : R base ρ m w) {t u kt e : TypeId} {c : Nat} (ht : P.underlying t = some (.map kt e)) (hc : cKey P kt = some c) {mp k : EV} {mp' k' : Value} (hmp : VR ρ mp mp') (hk : VR ρ k k') {fr : Opd → EV} {om okk : Opd} (e1 : fr om = mp) (e2 : fr okk = k) {v : EV} {m' : Mem} (ty : TypeId)
    (h : evOp fr (.delete c om okk) m = some (.val v m')) : Runs P (Builtin.delete_ #[t, u] ty #[mp', k']) base ρ m w v m' := by
  have hkt := cKey_sound hc
  have hkt' := hkt
  obtain ⟨d, hu, hd⟩ := hkt'
  simp only [evOp, e1, e2] at h
  cases hmp <;> simp only [reduceCtorEq] at h
  case nilmap =>
    cases hki : keyIs c k <;> simp only [hki, cond_true, cond_false, reduceCtorEq, Option.some.injEq, R1.val.injEq] at h
    obtain ⟨rfl, rfl⟩ := h
    refine ⟨ρ, w, .tuple #[], ?_, .tuple .nil, hR, .refl _ _ _⟩
    simp only [Builtin.delete_, List.getElem?_toArray, List.getElem?_cons_zero, List.getElem?_cons_succ, Sem.run_bind, run_underlying ht, Result.andThen_ok, checkKey_run hkt, Sem.run_pure]
  case map b L hL =>
    cases hm : m.get b with
    | dead => simp [hm] at h
    | cells => simp [hm] at h
    | map es =>
    simp only [hm] at h
    cases hks : keysOk c k es <;> simp only [hks, cond_true, cond_false, reduceCtorEq, Option.some.injEq, R1.val.injEq] at h
    obtain ⟨hki, hso⟩ := keysOk_parts hks
    obtain ⟨rfl, rfl⟩ := h
    obtain ⟨ds, cl, hw, hes, hb, hro⟩ := map_at hR hL hm
    rcases find_sound hu hd hk hki es ds.toList 0 hes hso with ⟨a1, _, _, a4⟩ | ⟨j, y, y', old, a1, _, _, a4, _, _, a7, a8, _⟩
    · obtain ⟨q1, q2⟩ := map_write (c' := cl) hR hL hm hw (fs := erase k es) (gs := ds) (by rw [a4]; exact hes) hb hro
      refine ⟨ρ, _, .tuple #[], ?_, .tuple .nil, q1, q2⟩
      simp only [Builtin.delete_, List.getElem?_toArray, List.getElem?_cons_zero, List.getElem?_cons_succ, Sem.run_bind, run_underlying ht, Result.andThen_ok, run_getObj_map hw, checkKey_run hkt, Instr.findKey, run_underlying hu, a1, Sem.run_pure, run_setObj_map hw]
    · obtain ⟨q1, q2⟩ := map_write (c' := cl) hR hL hm hw (fs := erase k es) (gs := ds.eraseIdxIfInBounds j) (by
        rw [a7]
        have hjd : j < ds.size := by have := hes.1; simp at this; omega
        have hl : (ds.eraseIdxIfInBounds j).toList = ds.toList.eraseIdx j := by
          simp [Array.eraseIdxIfInBounds, hjd]
        rw [hl]
        refine ⟨by rw [List.length_eraseIdx, List.length_eraseIdx, hes.1], fun i p q hp hq => ?_⟩
        rw [List.getElem?_eraseIdx] at hp hq
        by_cases hij : i < j
        · rw [if_pos hij] at hp hq; exact hes.2 i p q hp hq
        · rw [if_neg hij] at hp hq; exact hes.2 (i + 1) p q hp hq) hb hro
      refine ⟨ρ, _, .tuple #[], ?_, .tuple .nil, q1, q2⟩
      simp only [Builtin.delete_, List.getElem?_toArray, List.getElem?_cons_zero, List.getElem?_cons_succ, Sem.run_bind, run_underlying ht, Result.andThen_ok, run_getObj_map hw, checkKey_run hkt, Instr.findKey, run_underlying hu, a1, Sem.run_pure, Nat.zero_add, run_setObj_map hw]
theorem max_fold : ∀ (l : List EV) (l' : List Value) (k : IntKind) (x : Int) (v : EV), VRs ρ l l' → maxFrom k x l = some v → ∃ v', VR ρ v v' ∧ (l'.foldlM Builtin.max2 (.int k x)).run P w = .ok v' w := by
  intro l
  induction l with
  | nil => intro l' k x v hl h; cases hl; simp [maxFrom] at h; subst h; exact ⟨_, .int _ _, rfl⟩
  | cons y l ih =>
    intro l' k x v hl h
    cases hl with
    | cons hy hs =>
    cases hy with
    | int k2 n =>
      simp only [maxFrom] at h
      cases hk : (kindNo k).beq (kindNo k2) <;> simp only [hk, cond_true, cond_false, reduceCtorEq] at h
      obtain rfl := kindNo_inj hk
      obtain ⟨v', h1, h2⟩ := ih _ k _ v hs h
      exact ⟨v', h1, by simp only [List.foldlM_cons, Builtin.max2, Sem.run_bind, Sem.run_pure, Result.andThen_ok, h2]⟩
    | _ => simp [maxFrom] at h
theorem min_fold : ∀ (l : List EV) (l' : List Value) (k : IntKind) (x : Int) (v : EV), VRs ρ l l' → minFrom k x l = some v → ∃ v', VR ρ v v' ∧ (l'.foldlM Builtin.min2 (.int k x)).run P w = .ok v' w := by
  intro l
  induction l with
  | nil => intro l' k x v hl h; cases hl; simp [minFrom] at h; subst h; exact ⟨_, .int _ _, rfl⟩
  | cons y l ih =>
    intro l' k x v hl h
    cases hl with
    | cons hy hs =>
    cases hy with
    | int k2 n =>
      simp only [minFrom] at h
      cases hk : (kindNo k).beq (kindNo k2) <;> simp only [hk, cond_true, cond_false, reduceCtorEq] at h
      obtain rfl := kindNo_inj hk
      obtain ⟨v', h1, h2⟩ := ih _ k _ v hs h
      exact ⟨v', h1, by simp only [List.foldlM_cons, Builtin.min2, Sem.run_bind, Sem.run_pure, Result.andThen_ok, h2]⟩
    | _ => simp [minFrom] at h
theorem max_sound {l : List EV} {l' : List Value} (hl : VRs ρ l l') {v : EV} (h : evMax l = some v) (a : Array TypeId) (t : TypeId) : ∃ v', VR ρ v v' ∧ (Builtin.max_ a t ⟨l'⟩).run P w = .ok v' w := by
  cases hl with
  | nil => simp [evMax] at h
  | cons hx hs =>
    cases hx with
    | int k n => exact max_fold _ _ k n v hs h
    | _ => simp [evMax] at h
theorem min_sound {l : List EV} {l' : List Value} (hl : VRs ρ l l') {v : EV} (h : evMin l = some v) (a : Array TypeId) (t : TypeId) : ∃ v', VR ρ v v' ∧ (Builtin.min_ a t ⟨l'⟩).run P w = .ok v' w := by
  cases hl with
  | nil => simp [evMin] at h
  | cons hx hs =>
    cases hx with
    | int k n => exact min_fold _ _ k n v hs h
    | _ => simp [evMin] at h
end
end Go.Proofs.YtblcomejcahkdaaDoor.Ev
end
section
namespace Go.Proofs.YtblcomejcahkdaaDoor.Ev
open Go
section
variable {G : List Nat} {base : Nat} {ρ : Ren} {m : Mem} {w : World} {P : Program} {n : Nat} {fr : Fr} {a : Act}

theorem ofEV_val {v : EV} {m m' : Mem} {x : Option EV} (h : ofEV m x = some (.val v m')) : x = some v ∧ m' = m := by
  unfold ofEV at h
  obtain ⟨y, hy, h2⟩ := Option.map_eq_some_iff.1 h
  cases h2
  exact ⟨hy, rfl⟩
theorem ofEM_val {v : EV} {m' : Mem} {x : Option (EV × Mem)} (h : ofEM x = some (.val v m')) : x = some (v, m') := by
  unfold ofEM at h
  obtain ⟨y, hy, h2⟩ := Option.map_eq_some_iff.1 h
  cases h2
  exact hy
theorem ofM_val {v : EV} {m' : Mem} {x : Option Mem} (h : ofM x = some (.val v m')) : x = some m' ∧ v = .undef := by
  unfold ofM at h
  obtain ⟨y, hy, h2⟩ := Option.map_eq_some_iff.1 h
  cases h2
  exact ⟨hy, rfl⟩
theorem map_some' {α β : Type} {x : Option α} {f : α → β} {y : β} (h : x.map f = some y) : ∃ a, x = some a ∧ f a = y := Option.map_eq_some_iff.1 h

theorem eq_sound {op : BinOp} {neg : Bool} (hop : (op = .eql ∧ neg = false) ∨ (op = .neq ∧ neg = true)) {t : TypeId} {e : EqTy} (he : cEqTy P 20 t = some e) (hgd : P.eqGuardType P.depth t = false ∨ ∃ ms, P.underlying t = some (.interface ms)) {ox oy : Operand} {x y : EV} {x' y' : Value} (hx : VR ρ x x') (hy : VR ρ y y') {b : Bool} (h : evEq e x y = some b) :
    ((do eqGuard op t ox oy x' y'; binOp op t x' y') : Sem Value).run P w = .ok (.bool (neg ^^ b)) w := by
  have hr := evEq_sound (P := P) (w := w) 20 t e he Op.maxDepth (by decide) x y x' y' hx hy b h
  have hguard : (eqGuard op t ox oy x' y').run P w = .ok () w := by
    cases hx with
    | agg hv hf =>
      cases hy with
      | agg hv' hf' =>
        rcases hgd with hgd | ⟨ms, hms⟩
        · rcases hop with ⟨rfl, rfl⟩ | ⟨rfl, rfl⟩ <;> simp [eqGuard, hgd]
        · simp [cEqTy, hms] at he
          subst he
          simp [evEq, evEqPrim] at h
      | undef => cases e <;> simp [evEq, evEqPrim] at h
      | _ => rcases hop with ⟨rfl, rfl⟩ | ⟨rfl, rfl⟩ <;> rfl
    | undef => cases e <;> simp [evEq, evEqPrim] at h
    | niliface =>
      cases hy with
      | niliface =>
        exfalso
        cases e with
        | prim k => simp [evEq, evEqPrim] at h
        | agg es => simp [evEq] at h
      | undef => cases e <;> simp [evEq, evEqPrim] at h
      | _ => rcases hop with ⟨rfl, rfl⟩ | ⟨rfl, rfl⟩ <;> rfl
    | _ => rcases hop with ⟨rfl, rfl⟩ | ⟨rfl, rfl⟩ <;> rfl
  simp only [Sem.run_bind, hguard, Result.andThen_ok]
  -- whole numbers and strings are compared by other ways
  cases hx with
  | int k z =>
    cases hy with
    | int l u =>
      cases e with
      | agg es => simp [evEq] at h
      | prim q =>
        simp only [evEq, evEqPrim] at h
        cases hq : q.beq 1 <;> simp only [hq, cond_true, cond_false, reduceCtorEq] at h
        cases hk : (kindNo k).beq (kindNo l) <;> simp only [hk, cond_true, cond_false, reduceCtorEq, Option.some.injEq] at h
        obtain rfl := kindNo_inj hk
        subst h
        rcases hop with ⟨rfl, rfl⟩ | ⟨rfl, rfl⟩
        · simp [binOp, Op.intCmp]; rfl
        · simp [binOp, Op.intCmp]; rfl
    | _ => cases e <;> simp [evEq, evEqPrim] at h
  | str s =>
    cases hy with
    | str s2 =>
      cases e with
      | agg es => simp [evEq] at h
      | prim q =>
        simp only [evEq, evEqPrim] at h
        cases hq : q.beq 2 <;> simp only [hq, cond_true, cond_false, reduceCtorEq, Option.some.injEq] at h
        subst h
        rcases hop with ⟨rfl, rfl⟩ | ⟨rfl, rfl⟩ <;> simp only [binOp, Op.stringOp, bytes_list, sameBytes_eq, list_beq] <;> simp
    | _ => cases e <;> simp [evEq, evEqPrim] at h
  | _ =>
    cases hy <;> (first
      | (cases e <;> simp [evEq, evEqPrim] at h; done)
      | (rcases hop with ⟨rfl, rfl⟩ | ⟨rfl, rfl⟩
         · simp only [binOp, Op.equal, Sem.run_bind, hr, Result.andThen_ok, Sem.run_pure]; simp
         · simp only [binOp, Op.equal, Sem.run_bind, hr, Result.andThen_ok, Sem.run_pure]; simp))

theorem builtin_run {o : Oper} {c : Go.Call} (ho : o.op = .call c) {b : Builtin} (hb : c.callee = .builtin b) :
    execOp a.eval o = builtin b c.argTypes o.type (c.args.map fun | .const _ => true | _ => false) (c.args.map a.eval) := by
  simp only [execOp, ho, resolve, hb]
  rfl
theorem len_sound (hR : R base ρ m w) {t ty : TypeId} {e : TypeId} (hu : P.underlying t = some (.slice e)) {x : EV} {x' : Value} (hx : VR ρ x x') {v : EV} {fr : Opd → EV} {ox : Opd} (e1 : fr ox = x) {m' : Mem} (h : evOp fr (.len ox) m = some (.val v m')) :
    Runs P (Builtin.len_ #[t] ty #[x']) base ρ m w v m' := by
  simp only [evOp, e1] at h
  cases hx <;> simp only [reduceCtorEq, Option.some.injEq, R1.val.injEq] at h
  all_goals
    obtain ⟨rfl, rfl⟩ := h
    exact ⟨ρ, w, _, by simp only [Builtin.len_, List.getElem?_toArray, List.getElem?_cons_zero, Sem.run_bind, run_underlying hu, Result.andThen_ok, Sem.run_pure, goInt] <;> rfl, .int _ _, hR, .refl _ _ _⟩
theorem lenstr_sound (hR : R base ρ m w) {t ty : TypeId} (hu : P.underlying t = some .string) {x : EV} {x' : Value} (hx : VR ρ x x') {v : EV} {fr : Opd → EV} {ox : Opd} (e1 : fr ox = x) {m' : Mem} (h : evOp fr (.lenstr ox) m = some (.val v m')) :
    Runs P (Builtin.len_ #[t] ty #[x']) base ρ m w v m' := by
  simp only [evOp, e1] at h
  cases hx <;> simp only [reduceCtorEq, Option.some.injEq, R1.val.injEq] at h
  case str s =>
    obtain ⟨rfl, rfl⟩ := h
    exact ⟨ρ, w, .int .i64 (s.size : Int), by simp [Builtin.len_, run_underlying hu, goInt], .int _ _, hR, .refl _ _ _⟩
theorem lenmap_sound (hR : R base ρ m w) {t ty k e : TypeId} (hu : P.underlying t = some (.map k e)) {x : EV} {x' : Value} (hx : VR ρ x x') {v : EV} {fr : Opd → EV} {ox : Opd} (e1 : fr ox = x) {m' : Mem} (h : evOp fr (.lenmap ox) m = some (.val v m')) :
    Runs P (Builtin.len_ #[t] ty #[x']) base ρ m w v m' := by
  simp only [evOp, e1] at h
  cases hx <;> simp only [reduceCtorEq, Option.some.injEq, R1.val.injEq] at h
  case nilmap =>
    obtain ⟨rfl, rfl⟩ := h
    exact ⟨ρ, w, _, by simp only [Builtin.len_, List.getElem?_toArray, List.getElem?_cons_zero, Sem.run_bind, run_underlying hu, Result.andThen_ok, Sem.run_pure, goInt] <;> rfl, .int _ _, hR, .refl _ _ _⟩
  case map b L hL =>
    cases hm : m.get b with
    | dead => simp [hm] at h
    | cells => simp [hm] at h
    | map es =>
      simp only [hm, Option.some.injEq, R1.val.injEq] at h
      obtain ⟨rfl, rfl⟩ := h
      obtain ⟨ds, c, hw, he, _⟩ := map_at hR hL hm
      refine ⟨ρ, w, .int .i64 (ds.size : Int), ?_, ?_, hR, .refl _ _ _⟩
      · simp [Builtin.len_, run_underlying hu, goInt, run_getObj_map hw]
      · have := he.1
        simp at this
        rw [this]; exact .int _ _

theorem builtin_sound (hR : R base ρ m w) {b : Builtin} {ts : List TypeId} {xs' : List Value} {ys : List Opd} (hv : VRs ρ (ys.map fr.eval) xs') {io : IOp} (hc : cBuiltin P b ts ys = some io) (ty : TypeId) (cs : Array Bool) {v : EV} {m' : Mem} (h : evOp fr.eval io m = some (.val v m')) :
    Good base ρ m w v m' ((builtin b ⟨ts⟩ ty cs ⟨xs'⟩).run P w) := by
  unfold cBuiltin at hc
  split at hc
  · -- len
    rename_i t x
    cases hv with
    | cons hx hn =>
    cases hn
    cases hu : P.underlying t with
    | none => simp [hu] at hc
    | some d =>
      rw [hu] at hc
      cases d <;> simp only [reduceCtorEq, Option.some.injEq] at hc <;> subst hc
      case string => exact (lenstr_sound hR hu hx rfl h).good
      case slice e => exact (len_sound hR hu hx rfl h).good
      case map k e => exact (lenmap_sound hR hu hx rfl h).good
      case array k e =>
        simp only [evOp, Option.some.injEq, R1.val.injEq] at h
        obtain ⟨rfl, rfl⟩ := h
        exact Good.still (s := Builtin.len_ #[t] ty #[_]) hR (by simp [Builtin.len_, run_underlying hu, goInt]) (.int _ _)
  · -- cap
    rename_i t x
    cases hv with
    | cons hx hn =>
    cases hn
    cases hu : P.underlying t with
    | none => simp [hu] at hc
    | some d =>
      rw [hu] at hc
      cases d <;> simp only [reduceCtorEq, Option.some.injEq] at hc
      subst hc
      simp only [evOp] at h
      generalize hev : fr.eval x = e at hx h
      cases hx <;> simp only [reduceCtorEq, Option.some.injEq, R1.val.injEq] at h
      all_goals
        obtain ⟨rfl, rfl⟩ := h
        exact Good.still (s := Builtin.cap_ #[t] ty #[_]) hR (by simp [Builtin.cap_, run_underlying hu, goInt]) (.int _ _)
  · -- max
    cases hc
    simp only [evOp] at h
    obtain ⟨h1, rfl⟩ := ofEV_val h
    obtain ⟨v', r1, r2⟩ := max_sound (P := P) (w := w) hv h1 ⟨ts⟩ ty
    exact Good.still (s := Builtin.max_ ⟨ts⟩ ty ⟨xs'⟩) hR r2 r1
  · cases hc
    simp only [evOp] at h
    obtain ⟨h1, rfl⟩ := ofEV_val h
    obtain ⟨v', r1, r2⟩ := min_sound (P := P) (w := w) hv h1 ⟨ts⟩ ty
    exact Good.still (s := Builtin.min_ ⟨ts⟩ ty ⟨xs'⟩) hR r2 r1
  · -- append
    rename_i t u s x
    cases hv with
    | cons hs hn =>
    cases hn with
    | cons hx hn =>
    cases hn
    obtain ⟨e, he, hc⟩ := Option.bind_eq_some_iff.1 hc
    obtain ⟨_, hsrc, hc⟩ := Option.bind_eq_some_iff.1 hc
    obtain ⟨i, hi, hc⟩ := Option.bind_eq_some_iff.1 hc
    obtain ⟨z, hz, hc⟩ := Option.bind_eq_some_iff.1 hc
    obtain ⟨_, hq, hc⟩ := Option.bind_eq_some_iff.1 hc
    cases hq' : z.length.beq i.size <;> simp only [hq', cond_true, cond_false, reduceCtorEq] at hq
    cases hb : i.bytes.ble 65536 <;> simp only [hb, cond_true, cond_false, reduceCtorEq, Option.some.injEq] at hc
    subst hc
    have ht : P.underlying t = some (.slice e) := by
      unfold uSlice0 at he
      split at he
      · cases he; assumption
      · cases he
    have hdu : ∃ du, P.underlying u = some du ∧ ((∃ v, du = .slice v) ∨ du = .string) := by
      unfold srcOk at hsrc
      split at hsrc
      · exact ⟨_, by assumption, .inl ⟨_, rfl⟩⟩
      · exact ⟨_, by assumption, .inr rfl⟩
      · cases hsrc
    obtain ⟨du, hu, hdu⟩ := hdu
    simp only [evOp] at h
    have happ := append_sound (P := P) hR ht hu hdu hi hz (of_beq hq') (Nat.le_of_ble_eq_true hb) hs hx (ofEM_val h)
    obtain ⟨ρ', w', v', r1, r2⟩ := happ
    exact (show Runs P (Builtin.append_ #[t, u] ty #[_, _]) base ρ m w v m' from ⟨ρ', w', v', r1, r2⟩).good
  · -- copy
    rename_i t u s x
    cases hv with
    | cons hs hn =>
    cases hn with
    | cons hx hn =>
    cases hn
    cases ht : P.underlying t with
    | none => simp [ht] at hc
    | some dt =>
      rw [ht] at hc
      cases dt <;> simp only [reduceCtorEq] at hc
      rename_i e
      cases hz : cSize P e with
      | none => simp [hz] at hc
      | some k =>
        simp only [hz, Option.some.injEq] at hc
        subst hc
        simp only [evOp] at h
        obtain ⟨ρ', w', v', r1, r2⟩ := copy_sound (P := P) (u := u) hR ht hz hs hx (ofEM_val h)
        exact (show Runs P (Builtin.copy_ #[t, u] ty #[_, _]) base ρ m w v m' from ⟨ρ', w', v', r1, r2⟩).good
  · -- delete
    rename_i t u s x
    cases hv with
    | cons hs hn =>
    cases hn with
    | cons hx hn =>
    cases hn
    cases ht : P.underlying t with
    | none => simp [ht] at hc
    | some dt =>
      rw [ht] at hc
      cases dt <;> simp only [reduceCtorEq] at hc
      rename_i kt e
      obtain ⟨c, hk, rfl⟩ := map_some' hc
      exact (delete_sound (P := P) (u := u) hR ht hk hs hx rfl rfl ty h).good
  · cases hc

theorem Good.of_run {v : EV} {s : Sem Value} (hR : R base ρ m w) (h : ∃ v', VR ρ v v' ∧ s.run P w = .ok v' w) : Good base ρ m w v m ((do pure (Next.value (← s)) : Sem Next).run P w) :=
  let ⟨_, h1, h2⟩ := h; Good.still hR h2 h1

theorem uSlice_of {t e : TypeId} (h : uSlice P t = some e) : P.underlying t = some (.slice e) := by
  unfold uSlice at h; split at h <;> cases h; assumption
theorem uArray_of {t : TypeId} {q : Nat × TypeId} (h : uArray P t = some q) : P.underlying t = some (.array q.1 q.2) := by
  unfold uArray at h; split at h <;> cases h; assumption
theorem uStruct_of {t : TypeId} {fs : Array Field} (h : uStruct P t = some fs) : P.underlying t = some (.struct fs) := by
  unfold uStruct at h; split at h <;> cases h; assumption
theorem uMap_of {t : TypeId} {q : TypeId × TypeId} (h : uMap P t = some q) : P.underlying t = some (.map q.1 q.2) := by
  unfold uMap at h; split at h <;> cases h; assumption
theorem uString_of {t : TypeId} {u : Unit} (h : uString P t = some u) : P.underlying t = some .string := by
  unfold uString at h; split at h <;> cases h; assumption
theorem uInt_of {t : TypeId} {k : IntKind} (h : uInt P t = some k) : P.underlying t = some (.int k) := by
  unfold uInt at h; split at h <;> cases h; assumption
theorem uIface_of {t : TypeId} {u : Unit} (h : uIface P t = some u) : ∃ ms, P.underlying t = some (.interface ms) := by
  unfold uIface at h; split at h <;> cases h; exact ⟨_, by assumption⟩
theorem uOther_of {t : TypeId} {u : Unit} (h : uOther P t = some u) : ∃ d, P.underlying t = some d ∧ ∀ ms, d ≠ .interface ms := by
  unfold uOther at h
  cases hu : P.underlying t with
  | none => rw [hu] at h; cases h
  | some d => rw [hu] at h; refine ⟨d, rfl, fun ms e => ?_⟩; subst e; cases h
theorem must_of {b : Bool} {u : Unit} (h : must b = some u) : b = true := by
  unfold must at h; cases b <;> simp at h; rfl
theorem or1_of {x y : Option IOp} {r : IOp} (h : or1 x y = some r) : x = some r ∨ y = some r := by
  unfold or1 at h
  cases x with
  | none => exact .inr h
  | some z => exact .inl h
theorem bind_of {α β : Type} {x : Option α} {f : α → Option β} {y : β} (h : x.bind f = some y) : ∃ a, x = some a ∧ f a = some y := Option.bind_eq_some_iff.1 h

theorem op_sound {o : Oper} {io : IOp} (hc : cOp P G o = some io) (hG : Globs G ρ) (hR : R base ρ m w) (hF : FR ρ n fr a) {v : EV} {m' : Mem} (h : evOp fr.eval io m = some (.val v m')) :
    Good base ρ m w v m' ((execOp a.eval o).run P w) := by
  have E : ∀ {x : Operand} {y : Opd}, cOpd G x = some y → VR ρ (fr.eval y) (a.eval x) := fun h => cOpd_sound hG hF h
  have EO : ∀ {x : Option Operand} {y : Option Opd}, cOpt G x = some y → OptR ρ (y.map fr.eval) (x.map a.eval) := fun h => cOpt_sound hG hF h
  unfold cOp at hc
  split at hc
  case h_1 x ho =>
    obtain ⟨y, hy, rfl⟩ := map_some' hc
    simp only [evOp, Option.some.injEq, R1.val.injEq] at h
    obtain ⟨rfl, rfl⟩ := h
    exact ⟨ρ, w, a.eval x, .inl (by simp only [execOp, ho]; rfl), E hy, hR, .refl _ _ _⟩
  case h_2 x ho =>
    obtain ⟨y, hy, rfl⟩ := map_some' hc
    simp only [evOp, Option.some.injEq, R1.val.injEq] at h
    obtain ⟨rfl, rfl⟩ := h
    exact ⟨ρ, w, a.eval x, .inl (by simp only [execOp, ho]; rfl), E hy, hR, .refl _ _ _⟩
  case h_3 c x y ho =>
    obtain ⟨c', h1, hc⟩ := bind_of hc
    obtain ⟨x', h2, hc⟩ := bind_of hc
    obtain ⟨y', h3, rfl⟩ := map_some' hc
    have hcv := E h1
    simp only [evOp] at h
    generalize fr.eval c' = cv at hcv h
    generalize hcc : a.eval c = cc at hcv
    cases hcv <;> simp only [reduceCtorEq, Option.some.injEq, R1.val.injEq] at h
    rename_i b
    obtain ⟨rfl, rfl⟩ := h
    refine ⟨ρ, w, if b then a.eval x else a.eval y, .inl (by simp only [execOp, ho, hcc, asBool, Sem.run_bind, Sem.run_pure, Result.andThen_ok]), ?_, hR, .refl _ _ _⟩
    cases b
    · exact E h3
    · exact E h2
  case h_4 e ho =>
    obtain ⟨z, hz, rfl⟩ := map_some' hc
    simp only [evOp, Option.some.injEq, R1.val.injEq] at h
    obtain ⟨rfl, rfl⟩ := h
    simp only [execOp, ho]
    exact ((alloc_made hR.n hz).runs hR).good
  case h_5 e x ho =>
    obtain ⟨y, hy, rfl⟩ := map_some' hc
    simp only [evOp] at h
    cases hcs : (fr.eval y).cells with
    | none => simp [hcs] at h
    | some cs =>
      simp only [hcs, Option.some.injEq, R1.val.injEq] at h
      obtain ⟨rfl, rfl⟩ := h
      simp only [execOp, ho]
      exact ((box_made hR.n (E hy) hcs).runs hR).good
  case h_6 t parts ho =>
    obtain ⟨z, hz, hc⟩ := bind_of hc
    obtain ⟨zv, z1, z2, z3⟩ := zeros_sound (ρ := ρ) hz
    rcases or1_of hc with hc | hc
    · obtain ⟨fs, hu, hc⟩ := bind_of hc
      obtain ⟨_, hall, hc⟩ := bind_of hc
      obtain ⟨ps, hp, rfl⟩ := map_some' hc
      have hu := uStruct_of hu
      have hall := must_of hall
      simp only [evOp] at h
      have hE := ofEV_val (x := (fillIn z (ps.map fun p => (p.1, p.2.1, fr.eval p.2.2))).map .agg) h
      obtain ⟨hE1, hE2⟩ := hE
      subst hE2
      obtain ⟨ds, hf, hE3⟩ := Option.map_eq_some_iff.1 hE1
      subst hE3
      obtain ⟨p1, p2⟩ := parts_sound hG hF hp
      have hplaces : ∀ (l : List Field) (w : World), (∀ f ∈ l, ∃ s, cSize P f.type = some s) → (l.mapM fun (f : Field) => (do pure (f.offset, ← sizeOf f.type) : Sem (Nat × Nat))).run P w = .ok (l.map fun f => (f.offset, (cSize P f.type).getD 0)) w := by
        intro l w hl
        induction l with
        | nil => rfl
        | cons f l ih =>
          obtain ⟨s, hs⟩ := hl f (by simp)
          simp only [List.mapM_cons, Sem.run_bind, run_sizeOf' hs, Result.andThen_ok, Sem.run_pure, ih (fun g hg => hl g (by simp [hg])), List.map_cons, hs, Option.getD_some]
      have hpl := hplaces fs.toList w (fun f hf => Option.isSome_iff_exists.1 (List.all_eq_true.1 hall f hf))
      obtain ⟨ds', f1, f2, f3, _⟩ := fill_sound (ρ := ρ) (place := fun i => (fs.toList.map fun f => (f.offset, (cSize P f.type).getD 0)).toArray[i]?) _ (parts.toList.map fun p => (p.1, a.eval p.2)) z zv.cells z2 z3 p1 (fun i p q hp' hq' => by
        obtain ⟨g1, g2⟩ := p2 i p q hp' hq'
        refine ⟨?_, g2⟩
        obtain ⟨f, hf1, hf2⟩ := bind_of g1
        obtain ⟨s, hs1, hs2⟩ := map_some' hf2
        rw [← hs2]
        have : fs.toList[q.1]? = some f := by simpa using hf1
        simp [hf1, hs1]) ds hf
      have hrun : (Instr.build t (parts.map fun (i, x) => (i, a.eval x))).run P w = .ok (.agg ds') w := by
        simp only [Instr.build, Sem.run_bind, z1, Result.andThen_ok, run_underlying hu, Array.toList_map]
        rw [show (fs.mapM fun f => (do pure (f.offset, ← sizeOf f.type) : Sem (Nat × Nat))).run P w = .ok (fs.toList.map fun f => (f.offset, (cSize P f.type).getD 0)).toArray w by
          rw [Array.mapM_eq_mapM_toList, Sem.run_map, hpl]; rfl]
        simp only [Result.andThen_ok, f1, Sem.run_pure]
      simp only [execOp, ho]
      exact Good.still hR hrun (.agg f2 f3)
    · obtain ⟨q, hu, hc⟩ := bind_of hc
      obtain ⟨s, hs, hc⟩ := bind_of hc
      obtain ⟨ps, hp, rfl⟩ := map_some' hc
      have hu := uArray_of hu
      simp only [evOp] at h
      have hE := ofEV_val (x := (fillIn z (ps.map fun p => (p.1, p.2.1, fr.eval p.2.2))).map .agg) h
      obtain ⟨hE1, hE2⟩ := hE
      subst hE2
      obtain ⟨ds, hf, hE3⟩ := Option.map_eq_some_iff.1 hE1
      subst hE3
      obtain ⟨p1, p2⟩ := parts_sound hG hF hp
      obtain ⟨ds', f1, f2, f3, _⟩ := fill_sound (ρ := ρ) (place := fun i => some (i * s, s)) _ (parts.toList.map fun p => (p.1, a.eval p.2)) z zv.cells z2 z3 p1 (fun i p q hp' hq' => p2 i p q hp' hq') ds hf
      have hrun : (Instr.build t (parts.map fun (i, x) => (i, a.eval x))).run P w = .ok (.agg ds') w := by
        simp only [Instr.build, Sem.run_bind, z1, Result.andThen_ok, run_underlying hu, Array.toList_map, run_sizeOf' hs, f1, Sem.run_pure]
      simp only [execOp, ho]
      exact Good.still hR hrun (.agg f2 f3)
  case h_7 t len parts ho =>
    obtain ⟨e, hu, hc⟩ := bind_of hc
    obtain ⟨s, hs, hc⟩ := bind_of hc
    obtain ⟨z, hz, hc⟩ := bind_of hc
    obtain ⟨ps, hp, hc⟩ := bind_of hc
    obtain ⟨_, hzs, hc⟩ := bind_of hc
    obtain ⟨_, hl, rfl⟩ := map_some' hc
    have hu := uSlice_of hu
    simp only [evOp] at h
    cases hcs : fillIn (copies len z) (ps.map fun p => (p.1 * s, s, fr.eval p.2)) with
    | none => simp [hcs] at h
    | some cs =>
      simp only [hcs, Option.some.injEq, R1.val.injEq] at h
      obtain ⟨rfl, rfl⟩ := h
      obtain ⟨p1, p2⟩ := mapM_some _ hp
      have hb := bslice_made (P := P) hR.n hu hs hz (of_beq (must_of hzs)) (Nat.le_of_ble_eq_true (must_of hl)) (qs := parts.toList.map fun p => (p.1, a.eval p.2)) (by simpa using p1.symm) (fun i p q hp' hq' => by
        rw [List.getElem?_map] at hp' hq'
        obtain ⟨p0, hp0, rfl⟩ := Option.map_eq_some_iff.1 hp'
        obtain ⟨q0, hq0, rfl⟩ := Option.map_eq_some_iff.1 hq'
        obtain ⟨x, hx, hxp⟩ := map_some' (p2 i q0 p0 hq0 hp0)
        subst hxp
        exact ⟨⟨rfl, rfl⟩, E hx⟩) hcs
      simp only [execOp, ho]
      have : (parts.map fun (i, x) => (i, a.eval x)) = (⟨parts.toList.map fun p => (p.1, a.eval p.2)⟩ : Array (Nat × Value)) := by apply Array.ext'; simp
      rw [this]
      exact (hb.runs hR).good
  case h_8 t x ho =>
    obtain ⟨g, hg, hc⟩ := bind_of hc
    obtain ⟨y, hy, rfl⟩ := map_some' hc
    simp only [evOp] at h
    obtain ⟨h1, h2⟩ := ofEV_val h
    subst h2
    obtain ⟨ad, v', e1, e2, e3⟩ := loadVar_sound (P := P) hR hg (E hy) h1
    simp only [execOp, ho]
    refine Good.still (s := Instr.loadAt t (a.eval x)) hR (v' := v') ?_ e3
    rw [e1]
    simp only [Instr.loadAt, Instr.sureAddr, Sem.run_bind, Sem.run_pure, Result.andThen_ok, e2]
  case h_9 t x y ho =>
    obtain ⟨s, hs, hc⟩ := bind_of hc
    obtain ⟨x', hx, hc⟩ := bind_of hc
    obtain ⟨y', hy, rfl⟩ := map_some' hc
    simp only [evOp] at h
    obtain ⟨h1, rfl⟩ := ofM_val h
    have hxv := E hx
    have hyv := E hy
    unfold Mem.store at h1
    cases hx0 : fr.eval x' <;> simp only [hx0, reduceCtorEq] at h1
    rename_i b off
    cases hcs : (fr.eval y').cells with
    | none => simp [hcs] at h1
    | some vs =>
      simp only [hcs] at h1
      cases hl : vs.length.beq s <;> simp only [hl, cond_true, cond_false, reduceCtorEq] at h1
      rw [hx0] at hxv
      generalize hav : a.eval x = av at hxv
      cases hxv with
      | @ptr _ _ L hL =>
      obtain ⟨c1, c2⟩ := hyv.cells hcs
      obtain ⟨w', r1, r2, r3⟩ := write_sound (P := P) hR hL c1 c2 h1
      refine ⟨ρ, w', undef, .inr ⟨?_, rfl⟩, .undef, r2, r3⟩
      have hsz : (a.eval y).cells.size = s := by rw [← of_beq hl, c1.length]; simp
      simp only [execOp, ho, hav, Instr.storeAt, Instr.sureAddr, storeVar, Sem.run_bind, Sem.run_pure, Result.andThen_ok, run_sizeOf' hs]
      rw [if_neg (by simp [hsz])]
      simp only [r1, Result.andThen_ok]
  case h_10 x ho =>
    obtain ⟨y, hy, rfl⟩ := map_some' hc
    have hyv := E hy
    simp only [evOp] at h
    generalize fr.eval y = e at hyv h
    generalize hav : a.eval x = av at hyv
    cases hyv <;> simp only [reduceCtorEq, Option.some.injEq, R1.val.injEq] at h
    case ptr b off L hL =>
      obtain ⟨rfl, rfl⟩ := h
      exact ⟨ρ, w, _, .inl (by simp only [execOp, ho, hav]; rfl), .ptr hL, hR, .refl _ _ _⟩
    case func f p q p' q' h1 h2 =>
      obtain ⟨rfl, rfl⟩ := h
      exact ⟨ρ, w, _, .inl (by simp only [execOp, ho, hav]; rfl), .func h1 h2, hR, .refl _ _ _⟩
    case iface t p p' h1 =>
      obtain ⟨rfl, rfl⟩ := h
      exact ⟨ρ, w, _, .inl (by simp only [execOp, ho, hav]; rfl), .iface h1, hR, .refl _ _ _⟩
  case h_11 op t x y yt ho =>
    obtain ⟨x', hx, hc⟩ := bind_of hc
    obtain ⟨y', hy, hc⟩ := bind_of hc
    have plain : op ≠ .eql → op ≠ .neq → some (IOp.bin op x' y') = some io → Good base ρ m w v m' ((execOp a.eval o).run P w) := by
      intro n1 n2 hc
      cases hc
      simp only [evOp] at h
      obtain ⟨h1, h2⟩ := ofEV_val h
      subst h2
      obtain ⟨v', r1, r2⟩ := evBin_sound (P := P) (w := w) (t := t) (E hx) (E hy) h1
      simp only [execOp, ho]
      refine Good.still hR (v' := v') ?_ r1
      rw [eqGuard_other n1 n2]
      simpa using r2
    have eqs : ∀ neg, ((op = .eql ∧ neg = false) ∨ (op = .neq ∧ neg = true)) → cEq P neg t x' y' = some io → Good base ρ m w v m' ((execOp a.eval o).run P w) := by
      intro neg hop hc
      unfold cEq at hc
      have : ∃ e, cEqTy P 20 t = some e ∧ io = .eq neg e x' y' ∧ (P.eqGuardType P.depth t = false ∨ ∃ ms, P.underlying t = some (.interface ms)) := by
        cases hg : P.eqGuardType P.depth t <;> simp only [hg, cond_true, cond_false] at hc
        · obtain ⟨e, he, rfl⟩ := map_some' hc
          exact ⟨e, he, rfl, .inl rfl⟩
        · obtain ⟨_, hi, rfl⟩ := map_some' hc
          obtain ⟨ms, hms⟩ := uIface_of hi
          exact ⟨.prim 7, by simp [cEqTy, hms], rfl, .inr ⟨ms, hms⟩⟩
      obtain ⟨e, he, rfl, hgd⟩ := this
      simp only [evOp] at h
      have hE := ofEV_val (x := (evEq e (fr.eval x') (fr.eval y')).map fun b => .bool (neg ^^ b)) h
      obtain ⟨hE1, hE2⟩ := hE
      subst hE2
      obtain ⟨b, hb, hE3⟩ := Option.map_eq_some_iff.1 hE1
      subst hE3
      have hr := eq_sound (P := P) (w := w) (ox := x) (oy := y) hop he hgd (E hx) (E hy) hb
      simp only [execOp, ho]
      exact Good.still hR hr (.bool _)
    cases op <;> first
      | exact eqs false (.inl ⟨rfl, rfl⟩) hc
      | exact eqs true (.inr ⟨rfl, rfl⟩) hc
      | exact plain (by simp) (by simp) hc
  case h_12 op t x ho =>
    obtain ⟨y, hy, rfl⟩ := map_some' hc
    simp only [evOp] at h
    obtain ⟨h1, h2⟩ := ofEV_val h
    subst h2
    obtain ⟨v', r1, r2⟩ := evUn_sound (P := P) (w := w) (E hy) h1
    simp only [execOp, ho]
    exact Good.still hR r2 r1
  case h_13 s d x ho =>
    obtain ⟨y, hy, hc⟩ := bind_of hc
    have hyv := E hy
    simp only [execOp, ho]
    rcases or1_of hc with hc | hc
    · obtain ⟨_, hs, hc⟩ := bind_of hc
      obtain ⟨k, hd, rfl⟩ := map_some' hc
      obtain ⟨ds, hs, _⟩ := uOther_of hs
      have hd := uInt_of hd
      simp only [evOp] at h
      have h1 := ofEM_val h
      generalize fr.eval y = e at hyv h1
      generalize a.eval x = av at hyv
      cases hyv <;> simp only [evConv, reduceCtorEq, Option.some.injEq, Prod.mk.injEq] at h1
      obtain ⟨rfl, rfl⟩ := h1
      exact Good.still hR (conv_int hs hd _ _) (.int _ _)
    rcases or1_of hc with hc | hc
    · obtain ⟨_, hs, hc⟩ := bind_of hc
      obtain ⟨_, hd, rfl⟩ := map_some' hc
      simp only [evOp] at h
      have h1 := ofEM_val h
      generalize fr.eval y = e at hyv h1
      generalize a.eval x = av at hyv
      cases hyv <;> simp only [evConv, reduceCtorEq, Option.some.injEq, Prod.mk.injEq] at h1
      obtain ⟨rfl, rfl⟩ := h1
      exact Good.still hR (conv_same (uString_of hs) (uString_of hd) _) (.str _)
    rcases or1_of hc with hc | hc
    · obtain ⟨_, hs, hc⟩ := bind_of hc
      obtain ⟨e, hd, hc⟩ := bind_of hc
      obtain ⟨k, he, hc⟩ := bind_of hc
      obtain ⟨_, hk, rfl⟩ := map_some' hc
      have hk : k = .u8 := by have := of_beq (must_of hk); cases k <;> simp [kindNo] at this; rfl
      subst hk
      simp only [evOp] at h
      obtain ⟨B, rfl, hB⟩ := bytes_made (P := P) hR.n (uString_of hs) (uSlice_of hd) (uInt_of he) hyv (ofEM_val h)
      exact (hB.runs hR).good
    · obtain ⟨e, hs, hc⟩ := bind_of hc
      obtain ⟨_, hd, hc⟩ := bind_of hc
      obtain ⟨k, he, hc⟩ := bind_of hc
      obtain ⟨_, hk, rfl⟩ := map_some' hc
      have hk : k = .u8 := by have := of_beq (must_of hk); cases k <;> simp [kindNo] at this; rfl
      subst hk
      simp only [evOp] at h
      exact (text_sound hR (uSlice_of hs) (uInt_of he) (uString_of hd) hyv (ofEM_val h)).good
  case h_14 t x ho =>
    obtain ⟨_, hu, hc⟩ := bind_of hc
    obtain ⟨y, hy, rfl⟩ := map_some' hc
    obtain ⟨d, hu, hd⟩ := uOther_of hu
    simp only [evOp, Option.some.injEq, R1.val.injEq] at h
    obtain ⟨rfl, rfl⟩ := h
    simp only [execOp, ho]
    refine Good.still (v' := .iface t (a.eval x)) hR ?_ (.iface (E hy))
    simp only [Instr.makeInterface, Sem.run_bind, run_underlying hu, Result.andThen_ok]
    cases d <;> first | rfl | exact absurd rfl (hd _)
  case h_15 f p c ho =>
    obtain ⟨p', hp, hc⟩ := bind_of hc
    obtain ⟨c', hcc, rfl⟩ := map_some' hc
    simp only [evOp, Option.some.injEq, R1.val.injEq] at h
    obtain ⟨rfl, rfl⟩ := h
    have h1 := cOpds_sound hG hF hp
    have h2 := cOpds_sound hG hF hcc
    simp only [execOp, ho]
    refine Good.still (v' := .func (.func f) (p.map a.eval) (c.map a.eval)) hR rfl ?_
    have e1 : p.map a.eval = ⟨p.toList.map a.eval⟩ := by apply Array.ext'; simp
    have e2 : c.map a.eval = ⟨c.toList.map a.eval⟩ := by apply Array.ext'; simp
    rw [e1, e2]
    exact .func h1 h2
  case h_16 t ho =>
    obtain ⟨_, _, rfl⟩ := map_some' hc
    simp only [evOp, Option.some.injEq, R1.val.injEq] at h
    obtain ⟨rfl, rfl⟩ := h
    simp only [execOp, ho]
    have := ((mkmap_made (P := P) hR.n).runs hR).good
    simpa [Instr.makeMap] using this
  case h_17 t k z ho =>
    obtain ⟨q, hu, rfl⟩ := map_some' hc
    have hu := uMap_of hu
    simp only [evOp, Option.some.injEq, R1.val.injEq] at h
    obtain ⟨rfl, rfl⟩ := h
    simp only [execOp, ho]
    have := ((mkmap_made (P := P) hR.n).runs hR).good
    simpa [Instr.makeMap, run_underlying hu, Act.eval, asInt, asIntOf] using this
  case h_18 t l c ho =>
    obtain ⟨e, hu, hc⟩ := bind_of hc
    obtain ⟨i, hi, hc⟩ := bind_of hc
    obtain ⟨z, hz, hc⟩ := bind_of hc
    obtain ⟨l', hl, hc⟩ := bind_of hc
    obtain ⟨c', hcc, hc⟩ := bind_of hc
    obtain ⟨_, hzs, hc⟩ := bind_of hc
    obtain ⟨_, hb, rfl⟩ := map_some' hc
    have hlv := E hl
    have hcv := E hcc
    simp only [evOp] at h
    simp only [execOp, ho]
    generalize fr.eval l' = el at hlv h
    generalize fr.eval c' = ec at hcv h
    generalize a.eval l = al at hlv
    generalize a.eval c = ac at hcv
    cases hlv <;> (try simp only [reduceCtorEq] at h)
    rename_i k1 n1
    cases k1 <;> (try simp only [reduceCtorEq] at h)
    cases n1 <;> (try simp only [reduceCtorEq] at h)
    rename_i ln
    cases hcv <;> (try simp only [reduceCtorEq] at h)
    rename_i k2 n2
    cases k2 <;> (try simp only [reduceCtorEq] at h)
    cases n2 <;> (try simp only [reduceCtorEq] at h)
    rename_i cn
    cases h1 : ln.ble cn <;> simp only [h1, cond_true, cond_false, reduceCtorEq] at h
    cases h2 : cn.ble room <;> simp only [h2, cond_true, cond_false, reduceCtorEq, Option.some.injEq, R1.val.injEq] at h
    obtain ⟨rfl, rfl⟩ := h
    exact ((mkslice_made hR.n (uSlice_of hu) hi hz (of_beq (must_of hzs)) (Nat.le_of_ble_eq_true (must_of hb)) (Nat.le_of_ble_eq_true h1) (Nat.le_of_ble_eq_true h2)).runs hR).good
  case h_19 t x lo hi mx ho =>
    obtain ⟨_, hmh, hc⟩ := bind_of hc
    obtain ⟨x', hx, hc⟩ := bind_of hc
    obtain ⟨lo', hlo, hc⟩ := bind_of hc
    obtain ⟨hi', hhi, hc⟩ := bind_of hc
    obtain ⟨mx', hmx, hc⟩ := bind_of hc
    have hxv := E hx
    have hlv := EO hlo
    have hhv := EO hhi
    have hmv := EO hmx
    have hmh2 : (mx.map a.eval).isSome = true → (hi.map a.eval).isSome = true := by
      have := must_of hmh
      cases mx <;> cases hi <;> simp at this ⊢
    simp only [execOp, ho]
    rcases or1_of hc with hc | hc
    · obtain ⟨q, hu, hc⟩ := bind_of hc
      obtain ⟨s, hs, rfl⟩ := map_some' hc
      have hu := uArray_of hu
      simp only [evOp] at h
      generalize fr.eval x' = e at hxv h
      generalize a.eval x = av at hxv
      cases hxv <;> simp only [reduceCtorEq] at h
      rename_i b off L hL
      obtain ⟨h1, h2⟩ := ofEV_val h
      subst h2
      obtain ⟨l, hh, t', r1, r2⟩ := slice_known (P := P) (w := w) hlv hhv hmv hmh2 hL (Nat.le_refl q.1) (o := L.off + off) (fun _ => rfl) false h1
      refine Good.still hR ?_ r2
      simp only [Instr.sliceAt, Sem.run_bind, run_underlying hu, Result.andThen_ok, Instr.sureAddr, Sem.run_pure, r1, run_sizeOf' hs, cutV, Option.map_some]
      split <;> rfl
    rcases or1_of hc with hc | hc
    · obtain ⟨el, hu, hc⟩ := bind_of hc
      obtain ⟨s, hs, rfl⟩ := map_some' hc
      have hu := uSlice_of hu
      simp only [evOp] at h
      generalize fr.eval x' = e at hxv h
      generalize a.eval x = av at hxv
      cases hxv <;> simp only [reduceCtorEq] at h
      case nilslice =>
        cases h1 : bound (mx'.map fr.eval) 0 0 with
        | none => simp [h1] at h
        | some t1 =>
        cases h2 : bound (hi'.map fr.eval) 0 0 with
        | none => simp [h1, h2] at h
        | some t2 =>
        cases h3 : bound (lo'.map fr.eval) 0 0 with
        | none => simp [h1, h2, h3] at h
        | some t3 =>
        simp only [h1, h2, h3, Option.some.injEq, R1.val.injEq] at h
        obtain ⟨rfl, rfl⟩ := h
        have z : ∀ {y : Option EV} {r : Nat}, bound y 0 0 = some r → r = 0 := by
          intro y r hb
          unfold bound at hb
          split at hb
          · cases hb; rfl
          · rename_i i
            cases hq : i.ble 0 <;> simp only [hq, cond_true, cond_false, reduceCtorEq, Option.some.injEq] at hb
            have := Nat.le_of_ble_eq_true hq
            omega
          · cases hb
        have e1 := z h1; have e2 := z h2; have e3 := z h3
        subst e1 e2 e3
        obtain ⟨r, _⟩ := bounds_sound (P := P) (w := w) hlv hhv hmv hmh2 true (n := 0) rfl (t := 0) (h := 0) (l := 0) (c := 0) (by
          cases hm : mx'.map fr.eval with
          | none => exact .inl ⟨rfl, rfl⟩
          | some y => rw [hm] at h1; exact .inr ⟨0, h1, by simp⟩) h2 h3
        refine Good.still (v' := .slice none 0 0) hR ?_ .nilslice
        simp only [Instr.sliceAt, Instr.slice, Sem.run_bind, run_underlying hu, Result.andThen_ok, r, run_sizeOf' hs, Sem.run_pure, if_true]
      case slice b off len c o L hL hcl hoo hrr =>
        cases hm : m.get b with
        | dead => simp [hm] at h
        | map => simp [hm] at h
        | cells cs e1 el1 ro1 =>
        simp only [hm] at h
        cases hq : e1.beq s <;> simp only [hq, cond_true, cond_false, reduceCtorEq] at h
        obtain ⟨h1, h2⟩ := ofEV_val h
        subst h2
        obtain ⟨l, hh, t', r1, r2⟩ := slice_open (P := P) (w := w) hlv hhv hmv hmh2 hL hcl hoo hrr (by rw [esz_of hR hL hm, of_beq hq]) true h1
        refine Good.still hR ?_ r2
        simp only [Instr.sliceAt, Instr.slice, Sem.run_bind, run_underlying hu, Result.andThen_ok, r1, run_sizeOf' hs, Sem.run_pure, cutV]
      case sliceE b off a0 =>
        obtain ⟨h1, h2⟩ := ofEV_val h
        subst h2
        obtain ⟨l, hh, t', r1, r2⟩ := slice_empty (P := P) (w := w) (a := a0) hlv hhv hmv hmh2 true h1
        refine Good.still hR ?_ r2
        simp only [Instr.sliceAt, Instr.slice, Sem.run_bind, run_underlying hu, Result.andThen_ok, r1, run_sizeOf' hs, Sem.run_pure, cutV]
      case sliceC b off len c o L hL hcl hoo =>
        obtain ⟨h1, h2⟩ := ofEV_val h
        subst h2
        obtain ⟨l, hh, t', r1, r2⟩ := slice_known (P := P) (w := w) hlv hhv hmv hmh2 hL hcl hoo true h1
        refine Good.still hR ?_ r2
        simp only [Instr.sliceAt, Instr.slice, Sem.run_bind, run_underlying hu, Result.andThen_ok, r1, run_sizeOf' hs, Sem.run_pure, cutV]
    · obtain ⟨_, hu, hc⟩ := bind_of hc
      obtain ⟨_, hmn, rfl⟩ := map_some' hc
      have hu := uString_of hu
      have hmn := must_of hmn
      have : mx = none := by
        cases mx with
        | none => rfl
        | some y =>
          simp [cOpt] at hmx
          obtain ⟨z, hz, rfl⟩ := hmx
          simp at hmn
      subst this
      simp only [evOp] at h
      generalize fr.eval x' = e at hxv h
      generalize a.eval x = av at hxv
      cases hxv <;> simp only [reduceCtorEq] at h
      rename_i s'
      cases h1 : bound (hi'.map fr.eval) s'.data.toList.length s'.data.toList.length with
      | none => simp only [h1, reduceCtorEq] at h
      | some hh =>
      cases h2 : bound (lo'.map fr.eval) 0 hh with
      | none => simp only [h1, h2, reduceCtorEq] at h
      | some l =>
        simp only [h1, h2, Option.some.injEq, R1.val.injEq] at h
        obtain ⟨rfl, rfl⟩ := h
        obtain ⟨v', r1, r2⟩ := slstr_sound (P := P) (w := w) hu hlv hhv h1 h2
        exact Good.still hR r2 r1
  case h_20 s x f ho =>
    obtain ⟨fs, hu, hc⟩ := bind_of hc
    obtain ⟨x', hx, hc⟩ := bind_of hc
    obtain ⟨fl, hf, hc⟩ := bind_of hc
    obtain ⟨sz, hs, hc⟩ := bind_of hc
    obtain ⟨_, h1, rfl⟩ := map_some' hc
    have h1 := Nat.le_of_ble_eq_true (must_of h1)
    obtain ⟨k, rfl⟩ : ∃ k, sz = k + 1 := ⟨sz - 1, by omega⟩
    have hxv := E hx
    simp only [evOp] at h
    simp only [execOp, ho]
    generalize fr.eval x' = e at hxv h
    generalize a.eval x = av at hxv
    cases hxv <;> simp only [reduceCtorEq, Option.some.injEq, R1.val.injEq] at h
    rename_i hL
    obtain ⟨rfl, rfl⟩ := h
    exact Good.of_run hR (faddr_sound (uStruct_of hu) hf hs (.ptr hL))
  case h_21 t x f ho =>
    obtain ⟨fs, hu, hc⟩ := bind_of hc
    obtain ⟨x', hx, hc⟩ := bind_of hc
    obtain ⟨fl, hf, hc⟩ := bind_of hc
    obtain ⟨g, hg, rfl⟩ := map_some' hc
    have hxv := E hx
    simp only [evOp] at h
    simp only [execOp, ho]
    cases he : fr.eval x' <;> simp only [he, reduceCtorEq] at h
    rename_i cs
    rw [he] at hxv
    obtain ⟨h1, h2⟩ := ofEV_val h
    subst h2
    exact Good.of_run hR (field_sound (uStruct_of hu) hf hg hxv h1)
  case h_22 t x i ho =>
    obtain ⟨x', hx, hc⟩ := bind_of hc
    obtain ⟨i', hi, hc⟩ := bind_of hc
    have hxv := E hx
    have hiv := E hi
    simp only [execOp, ho]
    rcases or1_of hc with hc | hc
    · obtain ⟨e, hu, hc⟩ := bind_of hc
      obtain ⟨s, hs, rfl⟩ := map_some' hc
      simp only [evOp] at h
      cases he : fr.eval x' <;> simp only [he, reduceCtorEq] at h
      case fz => rw [he] at hxv; cases hxv
      rename_i b off len cap
      rw [he] at hxv
      cases hj : idx len (fr.eval i') with
      | none => simp [hj] at h
      | some j =>
        simp only [hj, Option.some.injEq, R1.val.injEq] at h
        obtain ⟨rfl, rfl⟩ := h
        exact Good.of_run hR (iaddr_sound (uSlice_of hu) hs hxv hiv hj)
    · obtain ⟨q, hu, hc⟩ := bind_of hc
      obtain ⟨s, hs, rfl⟩ := map_some' hc
      simp only [evOp] at h
      cases he : fr.eval x' <;> simp only [he, reduceCtorEq] at h
      rename_i b off
      rw [he] at hxv
      cases hj : idx q.1 (fr.eval i') with
      | none => simp [hj] at h
      | some j =>
        simp only [hj, Option.some.injEq, R1.val.injEq] at h
        obtain ⟨rfl, rfl⟩ := h
        exact Good.of_run hR (iaddrArr_sound (uArray_of hu) hs hxv hiv hj)
  case h_23 t x i ho =>
    obtain ⟨x', hx, hc⟩ := bind_of hc
    obtain ⟨i', hi, hc⟩ := bind_of hc
    have hxv := E hx
    have hiv := E hi
    simp only [execOp, ho]
    rcases or1_of hc with hc | hc
    · obtain ⟨_, hu, rfl⟩ := map_some' hc
      simp only [evOp] at h
      generalize fr.eval x' = e at hxv h
      generalize a.eval x = av at hxv
      cases hxv <;> simp only [reduceCtorEq] at h
      rename_i s'
      cases hj : idx s'.data.toList.length (fr.eval i') with
      | none => simp only [hj, reduceCtorEq] at h
      | some j =>
        simp only [hj] at h
        cases hcj : s'.data.toList[j]? with
        | none => simp only [hcj, reduceCtorEq] at h
        | some c =>
          simp only [hcj, Option.some.injEq, R1.val.injEq] at h
          obtain ⟨rfl, rfl⟩ := h
          exact Good.still hR (idxstr_sound (uString_of hu) hiv hj hcj) (.int _ _)
    · obtain ⟨q, hu, hc⟩ := bind_of hc
      obtain ⟨s, hs, hc⟩ := bind_of hc
      obtain ⟨g, hg, rfl⟩ := map_some' hc
      simp only [evOp] at h
      cases he : fr.eval x' <;> simp only [he, reduceCtorEq] at h
      rename_i cs
      rw [he] at hxv
      cases hj : idx q.1 (fr.eval i') with
      | none => simp [hj] at h
      | some j =>
        simp only [hj] at h
        obtain ⟨h1, h2⟩ := ofEV_val h
        subst h2
        exact Good.of_run hR (idxagg_sound (uArray_of hu) hs hg hxv hiv hj h1)
  case h_24 t mp k ok ho =>
    obtain ⟨q, hu, hc⟩ := bind_of hc
    obtain ⟨c, hk, hc⟩ := bind_of hc
    obtain ⟨z, hz, hc⟩ := bind_of hc
    obtain ⟨m1, hm, hc⟩ := bind_of hc
    obtain ⟨k1, hkk, rfl⟩ := map_some' hc
    simp only [execOp, ho]
    exact (lookup_sound hR (uMap_of hu) hk hz (E hm) (E hkk) rfl rfl h).good
  case h_25 t mp k x ho =>
    obtain ⟨q, hu, hc⟩ := bind_of hc
    obtain ⟨c, hk, hc⟩ := bind_of hc
    obtain ⟨m1, hm, hc⟩ := bind_of hc
    obtain ⟨k1, hkk, hc⟩ := bind_of hc
    obtain ⟨x1, hx, rfl⟩ := map_some' hc
    obtain ⟨w', r1, rfl, r2, r3⟩ := mapupd_sound (P := P) hR (uMap_of hu) hk (E hm) (E hkk) (E hx) rfl rfl rfl h
    exact ⟨ρ, w', undef, .inr ⟨by simp only [execOp, ho, Sem.run_bind, r1, Result.andThen_ok, Sem.run_pure], rfl⟩, .undef, r2, r3⟩
  case h_26 t mp k x ho =>
    obtain ⟨q, hu, hc⟩ := bind_of hc
    obtain ⟨c, hk, hc⟩ := bind_of hc
    obtain ⟨m1, hm, hc⟩ := bind_of hc
    obtain ⟨k1, hkk, hc⟩ := bind_of hc
    obtain ⟨x1, hx, rfl⟩ := map_some' hc
    obtain ⟨w', r1, rfl, r2, r3⟩ := mapupd_sound (P := P) hR (uMap_of hu) hk (E hm) (E hkk) (E hx) rfl rfl rfl h
    exact ⟨ρ, w', undef, .inr ⟨by simp only [execOp, ho, Sem.run_bind, r1, Result.andThen_ok, Sem.run_pure], rfl⟩, .undef, r2, r3⟩
  case h_27 x xt t ho =>
    obtain ⟨_, hu, hc⟩ := bind_of hc
    obtain ⟨y, hy, rfl⟩ := map_some' hc
    obtain ⟨d, hu, hd⟩ := uOther_of hu
    have hyv := E hy
    simp only [evOp] at h
    simp only [execOp, ho]
    generalize fr.eval y = e at hyv h
    generalize a.eval x = av at hyv
    cases hyv <;> simp only [reduceCtorEq] at h
    rename_i u v0 v1 hv
    cases hq : t.beq u <;> simp only [hq, cond_true, cond_false, reduceCtorEq, Option.some.injEq, R1.val.injEq] at h
    obtain ⟨rfl, rfl⟩ := h
    obtain rfl := of_beq hq
    refine Good.still hR ?_ hv
    simp only [Instr.typeAssert, Sem.run_bind, run_underlying hu, Result.andThen_ok]
    cases d <;> first | (exact absurd rfl (hd _)) | simp
  case h_28 x i ho =>
    obtain ⟨y, hy, rfl⟩ := map_some' hc
    have hyv := E hy
    simp only [evOp] at h
    simp only [execOp, ho]
    generalize fr.eval y = e at hyv h
    generalize a.eval x = av at hyv
    cases hyv <;> simp only [reduceCtorEq] at h
    rename_i vs vs' hvs
    obtain ⟨h1, h2⟩ := ofEV_val h
    subst h2
    obtain ⟨v', g1, g2⟩ := hvs.get i v h1
    refine Good.still hR ?_ g2
    simp [Instr.extract, g1]
  case h_29 c ho =>
    obtain ⟨ys, hys, hc⟩ := bind_of hc
    split at hc
    · rename_i b hb
      rw [builtin_run ho hb]
      have hv := cOpds_sound hG hF hys
      have e1 : c.args.map a.eval = ⟨c.args.toList.map a.eval⟩ := by apply Array.ext'; simp
      rw [e1]
      exact builtin_sound (ts := c.argTypes.toList) hR hv hc _ _ h
    · cases hc
  case h_30 => cases hc

theorem op_call {o : Oper} {f : Operand} {xs : Array Operand} {ts : Array TypeId} (ho : o.op = .call ⟨.value f, xs, ts⟩) {f' : Opd} {ys : List Opd} (hf : cOpd G f = some f') (hys : cOpds G xs.toList = some ys) (hG : Globs G ρ) (hF : FR ρ n fr a) {g : Nat} {x y : List EV} (he : fr.eval f' = .func g x y) :
    ∃ args' : Array Value, (execOp a.eval o).run P w = (callFunc g args').run P w ∧ VRs ρ (x ++ ys.map fr.eval ++ y) args'.toList := by
  have hgv := cOpd_sound hG hF hf
  have hv := cOpds_sound hG hF hys
  rw [he] at hgv
  generalize hav : a.eval f = av at hgv
  cases hgv with
  | @func _ _ _ x' y' hx hy =>
  refine ⟨⟨x' ++ xs.toList.map a.eval ++ y'⟩, ?_, (hx.append hv).append hy⟩
  simp only [execOp, ho, resolve, hav, Deferred.ofValue, Sem.run_bind, Sem.run_pure, Result.andThen_ok, invoke]
  congr 2
  apply Array.ext'
  simp
theorem op_panic {o : Oper} {x : Operand} (ho : o.op = .panic x) {x' : Opd} (hx : cOpd G x = some x') (hG : Globs G ρ) (hF : FR ρ n fr a) {t : Nat} {v : EV} (he : fr.eval x' = .iface t v) :
    ∃ v', (execOp a.eval o).run P w = .halt (.panic v') w ∧ VR ρ (.iface t v) v' := by
  have hv := cOpd_sound hG hF hx
  rw [he] at hv
  generalize hav : a.eval x = av at hv
  cases hv with
  | iface h => exact ⟨_, by simp [execOp, ho, hav, Instr.panic], .iface h⟩
end
end Go.Proofs.YtblcomejcahkdaaDoor.Ev
end
section
namespace Go.Proofs.YtblcomejcahkdaaDoor.Ev
open Go

def DefR (ρ : Ren) (e : Nat × List EV) (d : Deferred) : Prop := ∃ c' : Array Value, d.target = .fn (.func e.1) c' ∧ VRs ρ e.2 (d.args.toList ++ c'.toList)
inductive DefsR (ρ : Ren) : List (Nat × List EV) → List Deferred → Prop
  | nil : DefsR ρ [] []
  | cons {e : Nat × List EV} {d : Deferred} {es : List (Nat × List EV)} {ds : List Deferred} (h : DefR ρ e d) (hs : DefsR ρ es ds) : DefsR ρ (e :: es) (d :: ds)
theorem DefsR.ext {ρ ρ' : Ren} (e : Ext ρ ρ') {es : List (Nat × List EV)} {ds : List Deferred} (h : DefsR ρ es ds) : DefsR ρ' es ds := by
  induction h with
  | nil => exact .nil
  | cons h _ ih => obtain ⟨c', h1, h2⟩ := h; exact .cons ⟨c', h1, h2.ext e⟩ ih
structure FrR (ρ : Ren) (n : Nat) (fr : Fr) (a : Act) : Prop where
  tm : FR ρ n fr a
  defs : DefsR ρ fr.defers a.defers
theorem FrR.ext {ρ ρ' : Ren} {n : Nat} {fr : Fr} {a : Act} (e : Ext ρ ρ') (h : FrR ρ n fr a) : FrR ρ' n fr a := ⟨h.tm.ext e, h.defs.ext e⟩
theorem put_defers (fr : Fr) (d : Option Nat) (v : EV) : (fr.put d v).defers = fr.defers := by cases d <;> rfl
theorem put_defers' (a : Act) (d : Option Nat) (v : Value) : (a.put d v).defers = a.defers := by cases d <;> rfl
theorem FrR.put {ρ : Ren} {n : Nat} {fr : Fr} {a : Act} (h : FrR ρ n fr a) {d : Option Nat} (hd : ∀ x, d = some x → x < n) {v : EV} {v' : Value} (hv : VR ρ v v') : FrR ρ n (fr.put d v) (a.put d v') :=
  ⟨h.tm.put hd hv, by rw [put_defers, put_defers']; exact h.defs⟩

def Reach (base n : Nat) (ρ : Ren) (m : Mem) (w : World) (out : Out) (e : Exit) (a' : Act) (w' : World) : Prop :=
  match out with
  | .norm fr' m' => e = .normal ∧ ∃ ρ', R base ρ' m' w' ∧ Step ρ m w ρ' m' w' ∧ FrR ρ' n fr' a'
  | .exit id fr' m' => e = .exit id ∧ ∃ ρ', R base ρ' m' w' ∧ Step ρ m w ρ' m' w' ∧ FrR ρ' n fr' a'
  | .ret fr' m' => e = .ret ∧ ∃ ρ', R base ρ' m' w' ∧ Step ρ m w ρ' m' w' ∧ FrR ρ' n fr' a'
  | .pan v fr' m' => ∃ ρ' v', e = .panic [{ v := v', recovered := false }] ∧ VR ρ' v v' ∧ R base ρ' m' w' ∧ Step ρ m w ρ' m' w' ∧ FrR ρ' n fr' a'
theorem Reach.after {base n : Nat} {ρ ρ1 : Ren} {m m1 : Mem} {w w1 : World} (s : Step ρ m w ρ1 m1 w1) {out : Out} {e : Exit} {a' : Act} {w' : World} (h : Reach base n ρ1 m1 w1 out e a' w') : Reach base n ρ m w out e a' w' := by
  cases out with
  | norm fr' m' => obtain ⟨he, ρ', h1, h2, h3⟩ := h; exact ⟨he, ρ', h1, s.trans h2, h3⟩
  | exit id fr' m' => obtain ⟨he, ρ', h1, h2, h3⟩ := h; exact ⟨he, ρ', h1, s.trans h2, h3⟩
  | ret fr' m' => obtain ⟨he, ρ', h1, h2, h3⟩ := h; exact ⟨he, ρ', h1, s.trans h2, h3⟩
  | pan v fr' m' => obtain ⟨ρ', v', he, h0, h1, h2, h3⟩ := h; exact ⟨ρ', v', he, h0, h1, s.trans h2, h3⟩
def CallPost (base : Nat) (ρ : Ren) (m : Mem) (w : World) (fin : Fin) (e : Ending) (w' : World) : Prop :=
  match fin with
  | .ret v m' => ∃ ρ' v', e = .returned v' ∧ VR ρ' v v' ∧ R base ρ' m' w' ∧ Step ρ m w ρ' m' w'
  | .pan v m' => ∃ ρ' v', e = .panicked [{ v := v', recovered := false }] ∧ VR ρ' v v' ∧ R base ρ' m' w' ∧ Step ρ m w ρ' m' w'
def CallOk (P : Program) (G : List Nat) (call : Call) : Prop :=
  ∀ f args m fin, call f args m = some fin → ∀ base ρ w (args' : Array Value), R base ρ m w → Globs G ρ → VRs ρ args args'.toList →
    ((callFunc f args').run P w = .ok (.enter f args') w ∧ Calls P f args' w (CallPost base ρ m w fin)) ∨
    (∃ v v', fin = .ret v m ∧ (callFunc f args').run P w = .ok (.value v') w ∧ VR ρ v v')

section
variable {P : Program} {G : List Nat} {n : Nat} {call : Call}

theorem cOper_of {ops : Array Oper} {o : Oper} {io : IOper} (h : cOper P G n ops o = some io) : cXOp P G o = some io.op ∧ io.dst = o.dst ∧ (∀ x, o.dst = some x → x < n) ∧
    ((o.guard = none ∧ io.guard = none) ∨ (∃ j w t, o.guard = some (j, w) ∧ (ops[j]?).bind (·.dst) = some t ∧ io.guard = some (t, w))) := by
  unfold cOper at h
  cases hx : cXOp P G o with
  | none => simp [hx] at h
  | some op =>
    simp only [hx] at h
    cases hb : dstOk n o.dst with
    | false => simp [hb] at h
    | true =>
    simp only [hb, cond_true] at h
    have hdst : ∀ x, o.dst = some x → x < n := by
      intro x hx
      rw [hx] at hb
      exact Nat.le_of_ble_eq_true hb
    cases hg : o.guard with
    | none => simp only [hg, Option.some.injEq] at h; subst h; exact ⟨rfl, rfl, hdst, .inl ⟨rfl, rfl⟩⟩
    | some jw =>
      obtain ⟨j, w⟩ := jw
      simp only [hg] at h
      cases ht : (ops[j]?).bind (·.dst) with
      | none => simp [ht] at h
      | some t => simp only [ht, Option.some.injEq] at h; subst h; exact ⟨rfl, rfl, hdst, .inr ⟨j, w, t, rfl, ht, rfl⟩⟩
theorem wanted_eq {ρ : Ren} {ops : Array Oper} {o : Oper} {io : IOper} {fr : Fr} {a : Act} (hF : FR ρ n fr a)
    (hg : (o.guard = none ∧ io.guard = none) ∨ (∃ j w t, o.guard = some (j, w) ∧ (ops[j]?).bind (·.dst) = some t ∧ io.guard = some (t, w))) {b : Bool} (h : wantedE fr io.guard = some b) :
    Region.wanted o (yielded ops a.tmps) = b := by
  rcases hg with ⟨h1, h2⟩ | ⟨j, w, t, h1, h2, h3⟩
  · rw [h2] at h; simp [wantedE] at h; subst h; simp [Region.wanted, h1]
  · rw [h3] at h
    simp only [wantedE] at h
    cases hv : fr.get t <;> simp only [hv, reduceCtorEq, Option.some.injEq] at h
    case undef =>
      have ht := hF.tmp t
      rw [hv] at ht
      generalize htv : a.tmps.getD t undef = tv at ht
      cases ht
      subst h
      simp only [Region.wanted, h1, yielded, h2, Option.bind_some]
      cases hq : a.tmps[t]? with
      | none => rfl
      | some x =>
        rw [Array.getD_eq_getD_getElem?, hq] at htv
        simp only [Option.getD_some] at htv
        rw [htv]; rfl
    rename_i c
    have ht := hF.tmp t
    rw [hv] at ht
    generalize htv : a.tmps.getD t undef = tv at ht
    cases ht
    simp only [Region.wanted, h1, yielded, h2, Option.bind_some]
    have : a.tmps[t]? = some (.bool c) := by
      rw [Array.getD_eq_getD_getElem?] at htv
      cases hq : a.tmps[t]? with
      | none => rw [hq] at htv; simp [undef] at htv
      | some x => rw [hq] at htv; simp at htv; rw [htv]
    rw [this]
    subst h
    simp

theorem cXOp_val {o : Oper} {op : IOp} (h : cXOp P G o = some (.val op)) : cOp P G o = some op := by
  unfold cXOp at h
  split at h
  · obtain ⟨_, _, h⟩ := bind_of h; obtain ⟨_, _, h⟩ := map_some' h; cases h
  · obtain ⟨_, _, h⟩ := bind_of h; obtain ⟨_, _, h⟩ := map_some' h; cases h
  · obtain ⟨_, _, h⟩ := map_some' h; cases h
  · obtain ⟨_, hh, h⟩ := map_some' h; cases h; exact hh
theorem cXOp_call {o : Oper} {f : Opd} {ys : List Opd} (h : cXOp P G o = some (.call f ys)) : ∃ f0 xs ts, o.op = .call ⟨.value f0, xs, ts⟩ ∧ cOpd G f0 = some f ∧ cOpds G xs.toList = some ys := by
  unfold cXOp at h
  split at h
  · rename_i f0 xs ts ho
    obtain ⟨_, h1, h⟩ := bind_of h; obtain ⟨_, h2, h⟩ := map_some' h; cases h
    exact ⟨f0, xs, ts, ho, h2, h1⟩
  · obtain ⟨_, _, h⟩ := bind_of h; obtain ⟨_, _, h⟩ := map_some' h; cases h
  · obtain ⟨_, _, h⟩ := map_some' h; cases h
  · obtain ⟨_, hh, h⟩ := map_some' h; cases h
theorem cXOp_defer {o : Oper} {f : Opd} {ys : List Opd} (h : cXOp P G o = some (.defer f ys)) : ∃ f0 xs ts, o.op = .defer ⟨.value f0, xs, ts⟩ ∧ cOpd G f0 = some f ∧ cOpds G xs.toList = some ys := by
  unfold cXOp at h
  split at h
  · obtain ⟨_, _, h⟩ := bind_of h; obtain ⟨_, _, h⟩ := map_some' h; cases h
  · rename_i f0 xs ts ho
    obtain ⟨_, h1, h⟩ := bind_of h; obtain ⟨_, h2, h⟩ := map_some' h; cases h
    exact ⟨f0, xs, ts, ho, h2, h1⟩
  · obtain ⟨_, _, h⟩ := map_some' h; cases h
  · obtain ⟨_, hh, h⟩ := map_some' h; cases h
theorem cXOp_panic {o : Oper} {x : Opd} (h : cXOp P G o = some (.panic x)) : ∃ x0, o.op = .panic x0 ∧ cOpd G x0 = some x := by
  unfold cXOp at h
  split at h
  · obtain ⟨_, _, h⟩ := bind_of h; obtain ⟨_, _, h⟩ := map_some' h; cases h
  · obtain ⟨_, _, h⟩ := bind_of h; obtain ⟨_, _, h⟩ := map_some' h; cases h
  · rename_i x0 ho
    obtain ⟨_, h2, h⟩ := map_some' h; cases h
    exact ⟨x0, ho, h2⟩
  · obtain ⟨_, hh, h⟩ := map_some' h; cases h
theorem upon_mono {o : Oper} {a : Act} {next next' : Act → World → Prop} {Q Q' : Exit → Act → World → Prop} (hn : ∀ a w, next a w → next' a w) (hq : ∀ e a w, Q e a w → Q' e a w) {r : Result Next} (h : o.upon P a next Q r) : o.upon P a next' Q' r := by
  unfold Oper.upon at *
  split at h
  · exact hn _ _ h
  · exact hn _ _ h
  · exact hn _ _ h
  · refine h.mono fun e w hp => ?_
    cases e with
    | returned v => exact hn _ _ hp
    | panicked c => exact hq _ _ _ hp
    | outgrown => obtain ⟨a, w, h⟩ := hp; exact ⟨a, w, hq _ _ _ h⟩
  · exact h.mono fun v w hp => hn _ _ hp
  · exact hq _ _ _ h
  · exact h
theorem wpOps_mono {ops : Array Oper} {Q Q' : Exit → Act → World → Prop} (hq : ∀ e a w, Q e a w → Q' e a w) : ∀ (l : List Nat) (a : Act) (w : World), wpOps P ops Q l a w → wpOps P ops Q' l a w
  | [], a, w, h => hq _ _ _ h
  | i :: l, a, w, h => by
    simp only [wpOps] at h ⊢
    cases ho : ops[i]? with
    | none => simp only [ho] at h ⊢; exact wpOps_mono hq l a w h
    | some o =>
      simp only [ho] at h ⊢
      split
      · rename_i hw
        rw [if_pos hw] at h
        rcases h with h | ⟨h1, a0, w0, h2⟩
        · exact .inl (upon_mono (wpOps_mono hq l) hq h)
        · exact .inr ⟨h1, a0, w0, hq _ _ _ h2⟩
      · rename_i hw
        rw [if_neg hw] at h
        exact wpOps_mono hq l _ w h

theorem ops_sound (hcall : CallOk P G call) {base : Nat} {ops : Array Oper} : ∀ (is : List IOper) (l : List Nat), is.length = l.length → (∀ (k : Nat) (i : Nat) (io : IOper), l[k]? = some i → is[k]? = some io → ∃ o, ops[i]? = some o ∧ cOper P G n ops o = some io) →
    ∀ (ρ : Ren) (m : Mem) (w : World) (fr : Fr) (a : Act) (out : Out), R base ρ m w → Globs G ρ → FrR ρ n fr a → evOps call is fr m = some out → wpOps P ops (Reach base n ρ m w out) l a w := by
  intro is
  induction is with
  | nil =>
    intro l hl hrel ρ m w fr a out hR hG hF h
    cases l with
    | cons x l => simp at hl
    | nil =>
      simp only [evOps, Option.some.injEq] at h
      subst h
      exact ⟨rfl, ρ, hR, .refl _ _ _, hF⟩
  | cons io is ih =>
    intro l hl hrel ρ m w fr a out hR hG hF h
    cases l with
    | nil => simp at hl
    | cons i l =>
    obtain ⟨o, ho, hc⟩ := hrel 0 i io rfl rfl
    obtain ⟨hx, hdst, hdlt, hgd⟩ := cOper_of hc
    have hl' : is.length = l.length := by simpa using hl
    have hrel' : ∀ (k : Nat) (i : Nat) (io : IOper), l[k]? = some i → is[k]? = some io → ∃ o, ops[i]? = some o ∧ cOper P G n ops o = some io :=
      fun k i io h1 h2 => hrel (k + 1) i io (by simpa using h1) (by simpa using h2)
    -- what follows, from where a step has led
    have next : ∀ {ρ1 : Ren} {m1 : Mem} {w1 : World} {fr1 : Fr} {a1 : Act}, R base ρ1 m1 w1 → Step ρ m w ρ1 m1 w1 → FrR ρ1 n fr1 a1 → evOps call is fr1 m1 = some out → wpOps P ops (Reach base n ρ m w out) l a1 w1 := by
      intro ρ1 m1 w1 fr1 a1 hR1 hs hF1 h1
      have := ih l hl' hrel' ρ1 m1 w1 fr1 a1 out hR1 (hG.ext hs.ext) hF1 h1
      exact wpOps_mono (fun e a w hq => hq.after hs) l a1 w1 this
    simp only [evOps] at h
    simp only [wpOps, ho]
    cases hw : wantedE fr io.guard with
    | none => simp [hw] at h
    | some b =>
    rw [wanted_eq hF.tm hgd hw]
    cases b with
    | false =>
      simp only [hw] at h
      rw [if_neg (by simp)]
      rw [hdst] at h
      exact next hR (.refl _ _ _) (hF.put hdlt .undef) h
    | true =>
      simp only [hw] at h
      rw [if_pos rfl]
      left
      simp only [Oper.wp]
      cases hop : io.op with
      | val op =>
        simp only [hop] at h
        cases hev : evOp fr.eval op m with
        | none => simp [hev] at h
        | some r =>
          obtain ⟨v, m1⟩ := r
          simp only [hev] at h
          rw [hop] at hx
          obtain ⟨ρ1, w1, v', hrun, hv, hR1, hs⟩ := op_sound (cXOp_val hx) hG hR hF.tm hev
          rcases hrun with hrun | ⟨hrun, rfl⟩
          · rw [hrun]
            simp only [Oper.upon]
            rw [hdst] at h
            exact next hR1 hs ((hF.ext hs.ext).put hdlt hv) h
          · rw [hrun]
            simp only [Oper.upon]
            rw [hdst] at h
            exact next hR1 hs ((hF.ext hs.ext).put hdlt hv) h
      | call f args =>
        simp only [hop] at h
        rw [hop] at hx
        obtain ⟨f0, xs0, ts0, hoo, hf, hys⟩ := cXOp_call hx
        cases hfv : fr.eval f <;> simp only [hfv, evCall, reduceCtorEq] at h
        rename_i g x y
        obtain ⟨args', hrun, hv⟩ := op_call (w := w) (P := P) hoo hf hys hG hF.tm hfv
        rw [hrun]
        cases hfin : call g (x ++ args.map fr.eval ++ y) m with
        | none => simp only [hfin, reduceCtorEq] at h
        | some fin =>
          rcases hcall _ _ _ _ hfin base ρ w args' hR hG hv with ⟨h1, h2⟩ | ⟨v, v', rfl, h1, h2⟩
          · rw [h1]
            simp only [Oper.upon]
            refine h2.mono fun e w' hp => ?_
            cases fin with
            | ret v m1 =>
              obtain ⟨ρ1, v', rfl, hvv, hR1, hs⟩ := hp
              simp only [hfin] at h
              rw [hdst] at h
              exact next hR1 hs ((hF.ext hs.ext).put hdlt hvv) h
            | pan v m1 =>
              obtain ⟨ρ1, v', rfl, hvv, hR1, hs⟩ := hp
              simp only [hfin, Option.some.injEq] at h
              subst h
              exact ⟨ρ1, v', rfl, hvv, hR1, hs, hF.ext hs.ext⟩
          · rw [h1]
            simp only [hfin] at h
            simp only [Oper.upon]
            rw [hdst] at h
            exact next hR (.refl _ _ _) (hF.put hdlt h2) h
      | panic x =>
        simp only [hop] at h
        rw [hop] at hx
        obtain ⟨x0, hoo, hxx⟩ := cXOp_panic hx
        cases hxv : fr.eval x <;> simp only [hxv, reduceCtorEq, Option.some.injEq] at h
        rename_i t v
        subst h
        obtain ⟨v', hrun, hv⟩ := op_panic (w := w) (P := P) hoo hxx hG hF.tm hxv
        rw [hrun]
        exact ⟨ρ, v', rfl, hv, hR, .refl _ _ _, hF⟩
      | defer f args =>
        simp only [hop] at h
        rw [hop] at hx
        obtain ⟨f0, xs0, ts0, hoo, hf, hys⟩ := cXOp_defer hx
        cases hfv : fr.eval f <;> simp only [hfv, reduceCtorEq] at h
        rename_i g x y
        have hgv := cOpd_sound hG hF.tm hf
        have hv := cOpds_sound hG hF.tm hys
        rw [hfv] at hgv
        generalize hav : a.eval f0 = av at hgv
        cases hgv with
        | @func _ _ _ x' y' hx' hy' =>
        have hrun : (execOp a.eval o).run P w = .ok (.defer { target := .fn (.func g) ⟨y'⟩, args := ⟨x'⟩ ++ xs0.map a.eval }) w := by
          simp only [execOp, hoo, resolve, hav, Deferred.ofValue, Sem.run_bind, Sem.run_pure, Result.andThen_ok]
        rw [hrun]
        simp only [Oper.upon]
        rw [hdst] at h
        have e1 : ((⟨x'⟩ : Array Value) ++ xs0.map a.eval).toList = x' ++ xs0.toList.map a.eval := by simp
        have hF2 : FrR ρ n ⟨fr.tmps, (g, x ++ args.map fr.eval ++ y) :: fr.defers⟩ { a with defers := { target := .fn (.func g) ⟨y'⟩, args := ⟨x'⟩ ++ xs0.map a.eval } :: a.defers } :=
          ⟨⟨hF.tm.size, hF.tm.tmp⟩, .cons ⟨⟨y'⟩, rfl, by rw [e1]; exact (hx'.append hv).append hy'⟩ hF.defs⟩
        exact next hR (.refl _ _ _) (hF2.put hdlt .undef) h
end
end Go.Proofs.YtblcomejcahkdaaDoor.Ev
end
section
namespace Go.Proofs.YtblcomejcahkdaaDoor.Ev
open Go
section
variable {P : Program} {G : List Nat} {n : Nat} {call : Call} {chk : List (Nat × Nat)} {B0 : Nat}

inductive At (call : Call) (B0 : Nat) (o : IOper) (i : Nat) (fr : Fr) (m : Mem) (v : EV) (m' : Mem) : Prop
  | skip (hw : wantedE fr o.guard = some false) (hv : v = .undef) (hm : m' = m)
  | pure (op : IOp) (m1 : Mem) (hw : wantedE fr o.guard = some true) (ho : o.op = .val op) (hs : srt op = 0) (h : evOp fr.eval op m = some (.val v m1)) (hm : m' = m)
  | make (op : IOp) (m1 : Mem) (hw : wantedE fr o.guard = some true) (ho : o.op = .val op) (hs : srt op = 1) (h : evOp fr.eval op ⟨B0 + i, m.tbl⟩ = some (.val v m1)) (hm : m' = ⟨m.next, m1.tbl⟩)
  | load (agg : Option Nat) (a : Opd) (hw : wantedE fr o.guard = some true) (ho : o.op = .val (.load agg a)) (h : m.load agg (fr.eval a) = some v) (hm : m' = m)
  | act (op : IOp) (hw : wantedE fr o.guard = some true) (ho : o.op = .val op) (hs : 3 ≤ srt op) (h : evOp fr.eval op m = some (.val v m'))
  | call (f : Opd) (args : List Opd) (hw : wantedE fr o.guard = some true) (ho : o.op = .call f args) (h : evCall call (fr.eval f) (args.map fr.eval) m = some (.ret v m'))
def Acts (o : IOper) (fr : Fr) : Prop := wantedE fr o.guard = some true ∧ 3 ≤ sort o.op
def Loads (o : IOper) (fr : Fr) (agg : Option Nat) (a : Opd) : Prop := wantedE fr o.guard = some true ∧ o.op = .val (.load agg a) ∧ isF (fr.eval a) = false

structure Canon (call : Call) (chk : List (Nat × Nat)) (B0 : Nat) (r : List IOper) (i : Nat) (F : Nat → Fr) (M : Nat → Mem) (V : Nat → EV) : Prop where
  at_ : ∀ k o, r[k]? = some o → At call B0 o (i + k) (F (i + k)) (M (i + k)) (V (i + k)) (M (i + k + 1)) ∧ F (i + k + 1) = (F (i + k)).put o.dst (V (i + k))
  c1 : ∀ k o agg a l q, r[k]? = some o → r[l]? = some q → Loads o (F (i + k)) agg a → Acts q (F (i + l)) → hasPair (i + k) (i + l) chk = true →
    (l < k → (M (i + l)).stands agg ((F (i + k)).eval a) (V (i + k)) = true) ∧ (k < l → (M (i + l + 1)).stands agg ((F (i + k)).eval a) (V (i + k)) = true)
structure CanonOn (call : Call) (chk : List (Nat × Nat)) (B0 : Nat) (r : List IOper) (i : Nat) (snaps : List (Nat × Mem)) (seen : List Seen) (F : Nat → Fr) (M : Nat → Mem) (V : Nat → EV) : Prop extends Canon call chk B0 r i F M V where
  c2 : ∀ k o agg a, r[k]? = some o → Loads o (F (i + k)) agg a → ∀ j mj, (j, mj) ∈ snaps → hasPair (i + k) j chk = true → mj.stands agg ((F (i + k)).eval a) (V (i + k)) = true
  c3 : ∀ l q, r[l]? = some q → Acts q (F (i + l)) → ∀ s, s ∈ seen → hasPair s.i (i + l) chk = true → (M (i + l + 1)).stands s.agg s.a s.v = true

theorem canon_cons {o : IOper} {r : List IOper} {i : Nat} {fr fr' : Fr} {m m' : Mem} {v : EV} {snaps snaps' : List (Nat × Mem)} {seen seen' : List Seen} {F' : Nat → Fr} {M' : Nat → Mem} {V' : Nat → EV}
    (hat : At call B0 o i fr m v m') (hfr : fr' = fr.put o.dst v) (hF : F' (i + 1) = fr') (hM : M' (i + 1) = m') (hc : CanonOn call chk B0 r (i + 1) snaps' seen' F' M' V')
    (hsn : ∀ x, x ∈ snaps → x ∈ snaps') (hse : ∀ x, x ∈ seen → x ∈ seen') (hact : Acts o fr → (i, m) ∈ snaps' ∧ ∀ s, s ∈ seen → hasPair s.i i chk = true → m'.stands s.agg s.a s.v = true)
    (hload : ∀ agg a, Loads o fr agg a → ⟨i, agg, fr.eval a, v⟩ ∈ seen' ∧ ∀ j mj, (j, mj) ∈ snaps → hasPair i j chk = true → mj.stands agg (fr.eval a) v = true) :
    ∃ F M V, F i = fr ∧ M i = m ∧ F (i + (r.length + 1)) = F' (i + 1 + r.length) ∧ M (i + (r.length + 1)) = M' (i + 1 + r.length) ∧ CanonOn call chk B0 (o :: r) i snaps seen F M V := by
  let F : Nat → Fr := fun x => if x = i then fr else F' x
  let M : Nat → Mem := fun x => if x = i then m else M' x
  let V : Nat → EV := fun x => if x = i then v else V' x
  have F0 : F i = fr := if_pos rfl
  have M0 : M i = m := if_pos rfl
  have V0 : V i = v := if_pos rfl
  have FS : ∀ k, F (i + (k + 1)) = F' (i + 1 + k) := fun k => by show (if _ then _ else _) = _; rw [if_neg (by omega)]; congr 1; omega
  have MS : ∀ k, M (i + (k + 1)) = M' (i + 1 + k) := fun k => by show (if _ then _ else _) = _; rw [if_neg (by omega)]; congr 1; omega
  have VS : ∀ k, V (i + (k + 1)) = V' (i + 1 + k) := fun k => by show (if _ then _ else _) = _; rw [if_neg (by omega)]; congr 1; omega
  have F1 : F (i + 0 + 1) = fr' := by have := FS 0; rw [show i + 0 + 1 = i + (0 + 1) by omega, this]; exact hF
  have M1 : M (i + 0 + 1) = m' := by have := MS 0; rw [show i + 0 + 1 = i + (0 + 1) by omega, this]; exact hM
  have FS1 : ∀ k, F (i + (k + 1) + 1) = F' (i + 1 + k + 1) := fun k => by rw [show i + (k + 1) + 1 = i + (k + 1 + 1) by omega, FS]; congr 1
  have MS1 : ∀ k, M (i + (k + 1) + 1) = M' (i + 1 + k + 1) := fun k => by rw [show i + (k + 1) + 1 = i + (k + 1 + 1) by omega, MS]; congr 1
  have pr : ∀ k, i + (k + 1) = i + 1 + k := fun k => by omega
  refine ⟨F, M, V, F0, M0, FS _, MS _, ⟨⟨?_, ?_⟩, ?_, ?_⟩⟩
  · intro k q hk
    cases k with
    | zero =>
      simp at hk; subst hk
      rw [F1, M1]
      simp only [Nat.add_zero, F0, M0, V0]
      exact ⟨hat, hfr⟩
    | succ k =>
      simp at hk
      have := hc.at_ k q hk
      rw [FS, MS, VS, FS1, MS1, pr k]
      exact this
  · intro k p agg a l q hk hl hL hA hp
    cases k with
    | zero =>
      simp at hk; subst hk
      simp only [Nat.add_zero, F0, V0] at hL hp ⊢
      cases l with
      | zero =>
        refine ⟨fun h => absurd h (by omega), fun h => absurd h (by omega)⟩
      | succ l =>
        simp at hl
        refine ⟨fun h => absurd h (by omega), fun _ => ?_⟩
        rw [MS1]
        rw [FS] at hA
        rw [pr l] at hp
        exact hc.c3 l q hl hA _ (hload agg a hL).1 hp
    | succ k =>
      simp at hk
      rw [FS, VS] at *
      cases l with
      | zero =>
        simp at hl; subst hl
        simp only [Nat.add_zero, F0, M0] at hA hp ⊢
        refine ⟨fun _ => ?_, fun h => absurd h (by omega)⟩
        rw [pr k] at hp
        exact hc.c2 k p agg a hk hL i m (hact hA).1 hp
      | succ l =>
        simp at hl
        rw [FS] at hA
        rw [pr k, pr l] at hp
        obtain ⟨g1, g2⟩ := hc.c1 k p agg a l q hk hl hL hA hp
        rw [MS, MS1]
        exact ⟨fun h => g1 (by omega), fun h => g2 (by omega)⟩
  · intro k p agg a hk hL j mj hj hp
    cases k with
    | zero =>
      simp at hk; subst hk
      simp only [Nat.add_zero, F0, V0] at hL hp ⊢
      exact (hload agg a hL).2 j mj hj hp
    | succ k =>
      simp at hk
      rw [FS, VS] at *
      rw [pr k] at hp
      exact hc.c2 k p agg a hk hL j mj (hsn _ hj) hp
  · intro l q hl hA s hs hp
    cases l with
    | zero =>
      simp at hl; subst hl
      rw [M1]
      simp only [Nat.add_zero, F0] at hA hp
      exact (hact hA).2 s hs hp
    | succ l =>
      simp at hl
      rw [MS1]
      rw [FS] at hA
      rw [pr l] at hp
      exact hc.c3 l q hl hA s (hse _ hs) hp
theorem checkSnap_of {i : Nat} {agg : Option Nat} {a v : EV} : ∀ {sn : List (Nat × Mem)}, checkSnap chk i agg a v sn = true → ∀ j mj, (j, mj) ∈ sn → hasPair i j chk = true → mj.stands agg a v = true
  | [], _, j, mj, h, _ => by simp at h
  | (x, y) :: sn, h, j, mj, hm, hp => by
    simp only [checkSnap] at h
    rcases List.mem_cons.1 hm with e | hm
    · cases e
      simp only [hp, cond_true] at h
      cases hs : y.stands agg a v <;> simp only [hs, cond_true, cond_false, Bool.false_eq_true] at h
      rfl
    · have : checkSnap chk i agg a v sn = true := by
        cases hq : hasPair i x chk <;> simp only [hq, cond_true, cond_false] at h
        · exact h
        · cases hs : y.stands agg a v <;> simp only [hs, cond_true, cond_false, Bool.false_eq_true] at h
          exact h
      exact checkSnap_of this j mj hm hp
theorem checkSeen_of {j : Nat} {m : Mem} : ∀ {se : List Seen}, checkSeen chk j m se = true → ∀ s, s ∈ se → hasPair s.i j chk = true → m.stands s.agg s.a s.v = true
  | [], _, s, h, _ => by simp at h
  | x :: se, h, s, hm, hp => by
    simp only [checkSeen] at h
    rcases List.mem_cons.1 hm with e | hm
    · cases e
      simp only [hp, cond_true] at h
      cases hs : m.stands x.agg x.a x.v <;> simp only [hs, cond_true, cond_false, Bool.false_eq_true] at h
      rfl
    · have : checkSeen chk j m se = true := by
        cases hq : hasPair x.i j chk <;> simp only [hq, cond_true, cond_false] at h
        · exact h
        · cases hs : m.stands x.agg x.a x.v <;> simp only [hs, cond_true, cond_false, Bool.false_eq_true] at h
          exact h
      exact checkSeen_of this s hm hp
theorem canon_of : ∀ (r : List IOper) (i : Nat) (fr : Fr) (m : Mem) (snaps : List (Nat × Mem)) (seen : List Seen) (out : Out), evDraw call chk B0 r i fr m snaps seen = some out →
    ∃ F M V, F i = fr ∧ M i = m ∧ out = .norm (F (i + r.length)) (M (i + r.length)) ∧ CanonOn call chk B0 r i snaps seen F M V := by
  intro r
  induction r with
  | nil =>
    intro i fr m snaps seen out h
    simp only [evDraw, Option.some.injEq] at h
    subst h
    exact ⟨fun _ => fr, fun _ => m, fun _ => .undef, rfl, rfl, rfl, ⟨⟨by simp, by simp⟩, by simp, by simp⟩⟩
  | cons o r ih =>
    intro i fr m snaps seen out h
    -- one operation, and what follows
    have go : ∀ {v : EV} {m' : Mem} {snaps' : List (Nat × Mem)} {seen' : List Seen}, At call B0 o i fr m v m' → evDraw call chk B0 r (i + 1) (fr.put o.dst v) m' snaps' seen' = some out →
        (∀ x, x ∈ snaps → x ∈ snaps') → (∀ x, x ∈ seen → x ∈ seen') → (Acts o fr → (i, m) ∈ snaps' ∧ ∀ s, s ∈ seen → hasPair s.i i chk = true → m'.stands s.agg s.a s.v = true) →
        (∀ agg a, Loads o fr agg a → ⟨i, agg, fr.eval a, v⟩ ∈ seen' ∧ ∀ j mj, (j, mj) ∈ snaps → hasPair i j chk = true → mj.stands agg (fr.eval a) v = true) →
        ∃ F M V, F i = fr ∧ M i = m ∧ out = .norm (F (i + (o :: r).length)) (M (i + (o :: r).length)) ∧ CanonOn call chk B0 (o :: r) i snaps seen F M V := by
      intro v m' snaps' seen' hat hr h1 h2 h3 h4
      obtain ⟨F', M', V', e1, e2, e3, hc⟩ := ih (i + 1) _ _ _ _ out hr
      obtain ⟨F, M, V, f1, f2, f3, f4, hcc⟩ := canon_cons hat rfl e1 e2 hc h1 h2 h3 h4
      exact ⟨F, M, V, f1, f2, by rw [List.length_cons, f3, f4]; exact e3, hcc⟩
    simp only [evDraw] at h
    cases hw : wantedE fr o.guard with
    | none => simp [hw] at h
    | some b =>
    cases b with
    | false =>
      simp only [hw] at h
      exact go (.skip hw rfl rfl) h (fun _ h => h) (fun _ h => h) (fun ha => by have := ha.1; rw [hw] at this; cases this) (fun _ _ hl => by have := hl.1; rw [hw] at this; cases this)
    | true =>
      simp only [hw] at h
      cases ho : o.op with
      | panic x => simp [ho] at h
      | defer f x => simp [ho] at h
      | call f args =>
        simp only [ho] at h
        cases hc : evCall call (fr.eval f) (args.map fr.eval) m with
        | none => simp [hc] at h
        | some fin =>
          cases fin with
          | pan v m1 => simp [hc] at h
          | ret v m1 =>
            simp only [hc] at h
            cases hk : checkSeen chk i m1 seen <;> simp only [hk, cond_true, cond_false, reduceCtorEq] at h
            exact go (.call f args hw ho hc) h (fun _ h => List.mem_cons_of_mem _ h) (fun _ h => h) (fun _ => ⟨by simp, checkSeen_of hk⟩) (fun _ _ hl => by have := hl.2.1; rw [ho] at this; cases this)
      | val op =>
        simp only [ho] at h
        have noact : srt op < 3 → Acts o fr → False := fun hs ha => by have := ha.2; rw [ho] at this; simp only [sort] at this; omega
        have noload : srt op ≠ 2 → ∀ agg a, Loads o fr agg a → False := fun hs agg a hl => by
          have := hl.2.1; rw [ho] at this; cases this; exact hs rfl
        split at h
        · rename_i hs
          cases hev : evOp fr.eval op m with
          | none => simp [hev] at h
          | some q =>
            obtain ⟨v, m1⟩ := q
            simp only [hev] at h
            exact go (.pure op m1 hw ho hs hev rfl) h (fun _ h => h) (fun _ h => h) (fun ha => (noact (by omega) ha).elim) (fun _ _ hl => (noload (by omega) _ _ hl).elim)
        · rename_i hs
          cases hev : evOp fr.eval op ⟨B0 + i, m.tbl⟩ with
          | none => simp [hev] at h
          | some q =>
            obtain ⟨v, m1⟩ := q
            simp only [hev] at h
            exact go (.make op m1 hw ho hs hev rfl) h (fun _ h => h) (fun _ h => h) (fun ha => (noact (by omega) ha).elim) (fun _ _ hl => (noload (by omega) _ _ hl).elim)
        · rename_i hs
          cases op <;> simp only [reduceCtorEq] at h
          rename_i agg a
          cases hl : m.load agg (fr.eval a) with
          | none => simp [hl] at h
          | some v =>
            simp only [hl] at h
            cases hf : isF (fr.eval a) <;> simp only [hf, cond_true, cond_false] at h
            · cases hk : checkSnap chk i agg (fr.eval a) v snaps <;> simp only [hk, cond_true, cond_false, reduceCtorEq] at h
              refine go (.load agg a hw ho hl rfl) h (fun _ h => h) (fun _ h => List.mem_cons_of_mem _ h) (fun ha => (noact (by rw [hs]; omega) ha).elim) (fun agg' a' hl' => ?_)
              have := hl'.2.1; rw [ho] at this; cases this
              exact ⟨by simp, checkSnap_of hk⟩
            · cases hk : checkOld chk i m.next snaps <;> simp only [hk, cond_true, cond_false, reduceCtorEq] at h
              refine go (.load agg a hw ho hl rfl) h (fun _ h => h) (fun _ h => h) (fun ha => (noact (by rw [hs]; omega) ha).elim) (fun agg' a' hl' => ?_)
              have := hl'.2.1; rw [ho] at this; cases this
              have := hl'.2.2; rw [hf] at this; cases this
        · rename_i h0 h1 h2
          have hs : 3 ≤ srt op := by
            rcases Nat.lt_or_ge (srt op) 3 with h3 | h3
            · exfalso
              have : srt op = 0 ∨ srt op = 1 ∨ srt op = 2 := by omega
              rcases this with e | e | e
              · exact h0 e
              · exact h1 e
              · exact h2 e
            · exact h3
          cases hev : evOp fr.eval op m with
          | none => simp [hev] at h
          | some q =>
            obtain ⟨v, m1⟩ := q
            simp only [hev] at h
            cases hk : checkSeen chk i m1 seen <;> simp only [hk, cond_true, cond_false, reduceCtorEq] at h
            exact go (.act op hw ho hs hev) h (fun _ h => List.mem_cons_of_mem _ h) (fun _ h => h) (fun _ => ⟨by simp, checkSeen_of hk⟩) (fun _ _ hl => (noload (by omega) _ _ hl).elim)
end
end Go.Proofs.YtblcomejcahkdaaDoor.Ev
end
section
namespace Go.Proofs.YtblcomejcahkdaaDoor.Ev
open Go

structure Listed (ops : Array Oper) (l : List Nat) : Prop where
  nodup : l.Nodup
  all : ∀ i, i ∈ l ↔ i < ops.size
  edges : ∀ (k i : Nat) (o : Oper) (e : Edge), l[k]? = some i → ops[i]? = some o → e ∈ o.after → plainEdge e = true → e.on ∈ l.take k

theorem plain_binds {e : Edge} (h : plainEdge e = true) : Region.binds .any e = true := by
  unfold plainEdge at h
  unfold Region.binds
  cases hg : e.ground <;> simp_all

theorem goDown_of : ∀ (l : List Oper) (i : Nat), goDown l i = true → ∀ (k : Nat) (o : Oper) (e : Edge), l[k]? = some o → e ∈ o.after → plainEdge e = true → e.on < i + k
  | [], i, _, k, o, e, h, _, _ => by simp at h
  | x :: l, i, hd, k, o, e, h, he, hp => by
    simp only [goDown, Bool.and_eq_true] at hd
    cases k with
    | zero =>
      simp at h; subst h
      have := List.all_eq_true.1 hd.1 e (by simpa using he)
      simp [hp] at this
      omega
    | succ k =>
      have := goDown_of l (i + 1) hd.2 k o e (by simpa using h) he hp
      omega

theorem nodup_le : ∀ (n : Nat) (l : List Nat), l.Nodup → (∀ x, x ∈ l → x < n) → l.length ≤ n
  | 0, l, _, h => by
    cases l with
    | nil => simp
    | cons x l => exact absurd (h x (by simp)) (by omega)
  | n + 1, l, hn, h => by
    by_cases hm : n ∈ l
    · have h1 := nodup_le n (l.erase n) (hn.erase n) (fun x hx => by
        have h2 := (hn.mem_erase_iff).1 hx
        have := h x h2.2
        have := h2.1
        omega)
      rw [List.length_erase_of_mem hm] at h1
      omega
    · have h1 := nodup_le n l hn (fun x hx => by
        have h2 := h x hx
        have : x ≠ n := fun e => hm (e ▸ hx)
        omega)
      omega
theorem nodup_all {n : Nat} {l : List Nat} (hn : l.Nodup) (h : ∀ x, x ∈ l → x < n) (hl : l.length = n) : ∀ i, i < n → i ∈ l := by
  intro i hi
  apply Classical.byContradiction
  intro hni
  have := nodup_le n (i :: l) (List.nodup_cons.2 ⟨hni, hn⟩) (fun x hx => by
    rcases List.mem_cons.1 hx with rfl | hx
    · exact hi
    · exact h x hx)
  simp at this
  omega
theorem nodup_rev {l : List Nat} (h : l.Nodup) : l.reverse.Nodup := List.pairwise_reverse.2 (List.Pairwise.imp (fun h => Ne.symm h) h)
theorem lin_go (ops : Array Oper) (hdown : goDown ops.toList 0 = true) : ∀ (fuel t : Nat) (listed : Array Bool) (acc : List Nat), listed.size = ops.size → (∀ i, listed.getD i true = false ↔ (i < ops.size ∧ i ∉ acc)) → (∀ i, i ∈ acc → i < ops.size) → acc.Nodup → acc.length + fuel = ops.size →
    (∀ (k i : Nat) (o : Oper) (e : Edge), acc.reverse[k]? = some i → ops[i]? = some o → e ∈ o.after → plainEdge e = true → e.on ∈ acc.reverse.take k) →
    Listed ops (Region.linearise.go .any ops fuel t listed acc)
  | 0, t, listed, acc, hsz, hl, hlt, hnd, hlen, hed => by
    simp only [Region.linearise.go]
    refine ⟨nodup_rev hnd, fun i => ?_, hed⟩
    rw [List.mem_reverse]
    exact ⟨hlt i, nodup_all hnd hlt (by omega) i⟩
  | fuel + 1, t, listed, acc, hsz, hl, hlt, hnd, hlen, hed => by
    simp only [Region.linearise.go]
    -- somebody is ready: the least that is not listed
    have hex : ∃ i, i < ops.size ∧ i ∉ acc := by
      apply Classical.byContradiction
      intro hno
      have hall : ∀ i, i < ops.size → i ∈ acc := fun x hx => Classical.byContradiction fun hx2 => hno ⟨x, hx, hx2⟩
      have h1 : (List.range ops.size).length ≤ acc.length := by
        have h2 := nodup_le acc.length ((List.range ops.size).map fun x => acc.idxOf x) ?_ ?_
        · simpa using h2
        · have hinj : ∀ x, x < ops.size → ∀ y, y < ops.size → acc.idxOf x = acc.idxOf y → x = y := by
            intro x hx y hy hxy
            have e1 := List.getElem_idxOf (List.idxOf_lt_length_iff.2 (hall x hx))
            have e2 := List.getElem_idxOf (List.idxOf_lt_length_iff.2 (hall y hy))
            rw [← e1, ← e2]
            congr 1
          rw [List.Nodup, List.pairwise_map]
          refine List.Pairwise.imp_of_mem ?_ (List.nodup_range (n := ops.size))
          intro a b ha hb hab e
          exact hab (hinj a (by simpa using ha) b (by simpa using hb) e)
        · intro x hx
          obtain ⟨y, hy, rfl⟩ := List.mem_map.1 hx
          exact List.idxOf_lt_length_iff.2 (hall y (by simpa using hy))
      simp at h1
      omega
    generalize hrs : (List.range ops.size).filter (fun i => !listed.getD i true && ((ops[i]?).map (fun x => x.after.all fun e => !Region.binds .any e || listed.getD e.on false)).getD false) = rs
    have hmem : ∀ i, i ∈ rs ↔ i < ops.size ∧ listed.getD i true = false ∧ ∀ o, ops[i]? = some o → ∀ e ∈ o.after, Region.binds .any e = true → listed.getD e.on false = true := by
      intro i
      rw [← hrs]
      simp only [List.mem_filter, List.mem_range, Bool.and_eq_true, Bool.not_eq_true']
      constructor
      · rintro ⟨h1, h2, h3⟩
        refine ⟨h1, h2, fun o ho e he hb => ?_⟩
        rw [ho] at h3
        simp only [Option.map_some, Option.getD_some, Array.all_eq_true_iff_forall_mem] at h3
        have := h3 e he
        simpa [hb] using this
      · rintro ⟨h1, h2, h3⟩
        refine ⟨h1, h2, ?_⟩
        have ho : ops[i]? = some ops[i] := Array.getElem?_eq_getElem h1
        rw [ho]
        simp only [Option.map_some, Option.getD_some, Array.all_eq_true_iff_forall_mem]
        intro e he
        cases hb : Region.binds .any e with
        | false => rfl
        | true => simpa using h3 _ ho e he hb
    have hgt : ∀ i, listed.getD i false = true ↔ (i < ops.size ∧ i ∈ acc) := by
      intro i
      have h1 := hl i
      by_cases hi : i < ops.size
      · have e1 : listed.getD i true = listed.getD i false := by simp [Array.getD, hsz, hi]
        rw [e1] at h1
        cases hb : listed.getD i false with
        | true => rw [hb] at h1; simp at h1; exact ⟨fun _ => ⟨hi, h1 hi⟩, fun _ => rfl⟩
        | false => rw [hb] at h1; simp at h1; exact ⟨fun h => (by cases h), fun h => absurd h.2 h1.2⟩
      · have e2 : listed.getD i false = false := by simp [Array.getD, hsz, hi]
        rw [e2]
        exact ⟨fun h => (by cases h), fun h => absurd h.1 hi⟩
    have hne : rs ≠ [] := by
      -- the least one
      obtain ⟨i, hi⟩ : ∃ i, (i < ops.size ∧ i ∉ acc) ∧ ∀ j, j < i → ¬ (j < ops.size ∧ j ∉ acc) := by
        obtain ⟨i, hi⟩ := hex
        induction i using Nat.strongRecOn with
        | _ i ih =>
          by_cases h : ∃ j, j < i ∧ (j < ops.size ∧ j ∉ acc)
          · obtain ⟨j, hj, hj2⟩ := h; exact ih j hj hj2
          · exact ⟨i, hi, fun j hj h2 => h ⟨j, hj, h2⟩⟩
      intro hnil
      have : i ∈ rs := by
        rw [hmem]
        refine ⟨hi.1.1, (hl i).2 hi.1, fun o ho e he hb => ?_⟩
        rw [hgt]
        have hp : plainEdge e = true := by
          unfold Region.binds at hb
          unfold plainEdge
          cases hg : e.ground <;> simp_all
        have hlt2 : e.on < i := by
          have := goDown_of ops.toList 0 hdown i o e (by simpa using ho) he hp
          omega
        have h2 := hi.2 e.on hlt2
        refine ⟨by omega, ?_⟩
        apply Classical.byContradiction
        intro h3
        exact h2 ⟨by omega, h3⟩
      rw [hnil] at this
      simp at this
    have hpos : 0 < rs.length := List.length_pos_iff.2 hne
    have hidx : t % rs.length < rs.length := Nat.mod_lt _ hpos
    rw [List.getElem?_eq_getElem hidx]
    simp only
    have hi : rs[t % rs.length] ∈ rs := List.getElem_mem hidx
    generalize rs[t % rs.length] = i at hi
    obtain ⟨h1, h2, h3⟩ := (hmem i).1 hi
    have hni : i ∉ acc := ((hl i).1 h2).2
    refine lin_go ops hdown fuel _ _ (i :: acc) (by simpa using hsz) (fun j => ?_) (fun j hj => ?_) (List.nodup_cons.2 ⟨hni, hnd⟩) (by simp; omega) ?_
    · by_cases e : j = i
      · subst e
        have : (listed.setIfInBounds j true).getD j true = true := by simp [Array.getD_eq_getD_getElem?, hsz, h1]
        rw [this]
        simp
      · have : (listed.setIfInBounds i true).getD j true = listed.getD j true := by
          rw [Array.getD_eq_getD_getElem?, Array.getElem?_setIfInBounds_ne (fun h => e h.symm), ← Array.getD_eq_getD_getElem?]
        rw [this, hl j]
        simp [e]
    · rcases List.mem_cons.1 hj with rfl | hj
      · exact h1
      · exact hlt j hj
    · intro k j o e hk ho he hp
      rw [List.reverse_cons] at hk ⊢
      by_cases hkl : k < acc.reverse.length
      · rw [List.getElem?_append_left hkl] at hk
        rw [List.take_append_of_le_length (by omega)]
        exact hed k j o e hk ho he hp
      · have hkl2 : k = acc.reverse.length := by
          have := (List.getElem?_eq_some_iff.1 hk).1
          simp at this hkl ⊢
          omega
        subst hkl2
        rw [List.getElem?_append_right (Nat.le_refl _)] at hk
        simp at hk
        subst hk
        rw [List.take_append_of_le_length (Nat.le_refl _), List.take_length]
        have := (hgt e.on).1 (h3 o ho e he (plain_binds hp))
        exact List.mem_reverse.2 this.2
theorem sched_listed {P : Program} (hmix : P.follows .mixedOrders = true) (ops : Array Oper) (hdown : goDown ops.toList 0 = true) (t : Nat) : Listed ops (Region.schedule (P.follows .mixedOrders) ops t) := by
  unfold Region.schedule
  rw [hmix]
  simp only [Bool.true_or, if_true]
  unfold Region.linearise
  exact lin_go ops hdown ops.size t _ [] (by simp) (fun i => by
    by_cases hi : i < ops.size
    · simp [Array.getD_eq_getD_getElem?, hi]
    · simp [Array.getD_eq_getD_getElem?, hi]) (by simp) (by simp) (by simp) (by simp)

theorem befores_keep : ∀ (l : List Oper) (acc : List (List Nat)) (i : Nat), i < acc.length → (befores l acc)[i]? = acc[i]?
  | [], acc, i, _ => rfl
  | o :: l, acc, i, h => by
    simp only [befores]
    rw [befores_keep l _ i (by simp; omega), List.getElem?_append_left h]
theorem befores_at : ∀ (l : List Oper) (acc : List (List Nat)) (k : Nat) (o : Oper), l[k]? = some o →
    ∃ acc' : List (List Nat), (befores l acc)[acc.length + k]? = some ((o.after.toList.filter plainEdge).flatMap fun e => e.on :: acc'.getD e.on []) ∧ acc'.length = acc.length + k ∧ ∀ i, i < acc'.length → acc'[i]? = (befores l acc)[i]?
  | [], acc, k, o, h => by simp at h
  | x :: l, acc, k, o, h => by
    cases k with
    | zero =>
      simp at h; subst h
      refine ⟨acc, ?_, rfl, fun i hi => ?_⟩
      · simp only [befores]
        rw [befores_keep l _ _ (by simp)]
        simp
      · simp only [befores]
        rw [befores_keep l _ i (by simp; omega), List.getElem?_append_left hi]
    | succ k =>
      simp only [befores]
      obtain ⟨acc', h1, h2, h3⟩ := befores_at l (acc ++ [(x.after.toList.filter plainEdge).flatMap fun e => e.on :: acc.getD e.on []]) k o (by simpa using h)
      refine ⟨acc', ?_, by rw [h2]; simp; omega, h3⟩
      rw [← h1]; congr 1; simp; omega
theorem before_listed {ops : Array Oper} (hdown : goDown ops.toList 0 = true) {l : List Nat} (hl : Listed ops l) : ∀ (j k : Nat), l[k]? = some j → ∀ i, i ∈ (befores ops.toList []).getD j [] → i ∈ l.take k := by
  intro j
  induction j using Nat.strongRecOn with
  | _ j ih =>
    intro k hk i hi
    have hj : j < ops.size := (hl.all j).1 (List.mem_of_getElem? hk)
    have ho : ops.toList[j]? = some ops[j] := by simp [hj]
    obtain ⟨acc', h1, h2, h3⟩ := befores_at ops.toList [] j ops[j] ho
    simp only [List.length_nil, Nat.zero_add] at h1 h2
    rw [List.getD_eq_getElem?_getD, h1, Option.getD_some] at hi
    obtain ⟨e, he, hi⟩ := List.mem_flatMap.1 hi
    obtain ⟨he1, he2⟩ := List.mem_filter.1 he
    have hlt : e.on < j := by
      have := goDown_of ops.toList 0 hdown j ops[j] e ho (by simpa using he1) he2
      omega
    have hon := hl.edges k j ops[j] e hk (Array.getElem?_eq_getElem hj) (by simpa using he1) he2
    rcases List.mem_cons.1 hi with rfl | hi
    · exact hon
    · have hacc : acc'.getD e.on [] = (befores ops.toList []).getD e.on [] := by
        rw [List.getD_eq_getElem?_getD, List.getD_eq_getElem?_getD, h3 e.on (by omega)]
      rw [hacc] at hi
      obtain ⟨k', hk'⟩ := List.mem_iff_getElem?.1 hon
      have hk'lt : k' < k := by
        have := (List.getElem?_eq_some_iff.1 hk').1
        simp at this; omega
      rw [List.getElem?_take, if_pos hk'lt] at hk'
      have := ih e.on hlt k' hk' i hi
      exact (List.take_subset_take_left l (Nat.le_of_lt hk'lt)) this
end Go.Proofs.YtblcomejcahkdaaDoor.Ev
end
section
namespace Go.Proofs.YtblcomejcahkdaaDoor.Ev
open Go
section
variable {G : List Nat} {base : Nat} {ρ : Ren} {m : Mem} {w : World} {P : Program} {n : Nat} {fr : Fr} {a : Act}

theorem make_sound {o : Oper} {io : IOp} (hc : cOp P G o = some io) (hs : srt io = 1) (hG : Globs G ρ) (hR : RN base ρ m w) (hF : FR ρ n fr a) {v : EV} {m1 : Mem} (h : evOp fr.eval io m = some (.val v m1)) :
    ∃ B, m1 = m.new B ∧ ∃ ρ' w' v', (execOp a.eval o).run P w = .ok (.value v') w' ∧ VR ρ' v v' ∧ Made base ρ m w ρ' B w' := by
  have E : ∀ {x : Operand} {y : Opd}, cOpd G x = some y → VR ρ (fr.eval y) (a.eval x) := fun h => cOpd_sound hG hF h
  have fin : ∀ {s : Sem Value} {B : Blk}, execOp a.eval o = (do pure (Next.value (← s)) : Sem Next) → RunsM P s base ρ m w v B → ∃ ρ' w' v', (execOp a.eval o).run P w = .ok (.value v') w' ∧ VR ρ' v v' ∧ Made base ρ m w ρ' B w' := by
    rintro s B he ⟨ρ', w', v', h1, h2, h3⟩
    exact ⟨ρ', w', v', by rw [he]; simp [h1], h2, h3⟩
  unfold cOp at hc
  split at hc
  case h_1 => obtain ⟨_, _, rfl⟩ := map_some' hc; simp [srt] at hs
  case h_2 => obtain ⟨_, _, rfl⟩ := map_some' hc; simp [srt] at hs
  case h_3 => obtain ⟨_, _, hc⟩ := bind_of hc; obtain ⟨_, _, hc⟩ := bind_of hc; obtain ⟨_, _, rfl⟩ := map_some' hc; simp [srt] at hs
  case h_4 e ho =>
    obtain ⟨z, hz, rfl⟩ := map_some' hc
    simp only [evOp, Option.some.injEq, R1.val.injEq] at h
    obtain ⟨rfl, rfl⟩ := h
    exact ⟨_, rfl, fin (by simp only [execOp, ho]) (alloc_made hR hz)⟩
  case h_5 e x ho =>
    obtain ⟨y, hy, rfl⟩ := map_some' hc
    simp only [evOp] at h
    cases hcs : (fr.eval y).cells with
    | none => simp [hcs] at h
    | some cs =>
      simp only [hcs, Option.some.injEq, R1.val.injEq] at h
      obtain ⟨rfl, rfl⟩ := h
      exact ⟨_, rfl, fin (by simp only [execOp, ho]) (box_made hR (E hy) hcs)⟩
  case h_6 =>
    obtain ⟨_, _, hc⟩ := bind_of hc
    rcases or1_of hc with hc | hc
    · obtain ⟨_, _, hc⟩ := bind_of hc; obtain ⟨_, _, hc⟩ := bind_of hc; obtain ⟨_, _, rfl⟩ := map_some' hc; simp [srt] at hs
    · obtain ⟨_, _, hc⟩ := bind_of hc; obtain ⟨_, _, hc⟩ := bind_of hc; obtain ⟨_, _, rfl⟩ := map_some' hc; simp [srt] at hs
  case h_7 t len parts ho =>
    obtain ⟨e, hu, hc⟩ := bind_of hc
    obtain ⟨s, hsz, hc⟩ := bind_of hc
    obtain ⟨z, hz, hc⟩ := bind_of hc
    obtain ⟨ps, hp, hc⟩ := bind_of hc
    obtain ⟨_, hzs, hc⟩ := bind_of hc
    obtain ⟨_, hl, rfl⟩ := map_some' hc
    have hu := uSlice_of hu
    simp only [evOp] at h
    cases hcs : fillIn (copies len z) (ps.map fun p => (p.1 * s, s, fr.eval p.2)) with
    | none => simp [hcs] at h
    | some cs =>
      simp only [hcs, Option.some.injEq, R1.val.injEq] at h
      obtain ⟨rfl, rfl⟩ := h
      obtain ⟨p1, p2⟩ := mapM_some _ hp
      have hb := bslice_made (P := P) hR hu hsz hz (of_beq (must_of hzs)) (Nat.le_of_ble_eq_true (must_of hl)) (qs := parts.toList.map fun p => (p.1, a.eval p.2)) (by simpa using p1.symm) (fun i p q hp' hq' => by
        rw [List.getElem?_map] at hp' hq'
        obtain ⟨p0, hp0, rfl⟩ := Option.map_eq_some_iff.1 hp'
        obtain ⟨q0, hq0, rfl⟩ := Option.map_eq_some_iff.1 hq'
        obtain ⟨x, hx, hxp⟩ := map_some' (p2 i q0 p0 hq0 hp0)
        subst hxp
        exact ⟨⟨rfl, rfl⟩, E hx⟩) hcs
      have : (parts.map fun (i, x) => (i, a.eval x)) = (⟨parts.toList.map fun p => (p.1, a.eval p.2)⟩ : Array (Nat × Value)) := by apply Array.ext'; simp
      exact ⟨_, rfl, fin (by simp only [execOp, ho]; rw [this]) hb⟩
  case h_8 => obtain ⟨_, _, hc⟩ := bind_of hc; obtain ⟨_, _, rfl⟩ := map_some' hc; simp [srt] at hs
  case h_9 => obtain ⟨_, _, hc⟩ := bind_of hc; obtain ⟨_, _, hc⟩ := bind_of hc; obtain ⟨_, _, rfl⟩ := map_some' hc; simp [srt] at hs
  case h_10 => obtain ⟨_, _, rfl⟩ := map_some' hc; simp [srt] at hs
  case h_11 op t x y yt ho =>
    obtain ⟨_, _, hc⟩ := bind_of hc; obtain ⟨_, _, hc⟩ := bind_of hc
    split at hc
    · unfold cEq at hc
      simp only [Bool.cond_eq_ite] at hc
      split at hc <;> (obtain ⟨_, _, rfl⟩ := map_some' hc; simp [srt] at hs)
    · unfold cEq at hc
      simp only [Bool.cond_eq_ite] at hc
      split at hc <;> (obtain ⟨_, _, rfl⟩ := map_some' hc; simp [srt] at hs)
    · cases hc; simp [srt] at hs
  case h_12 => obtain ⟨_, _, rfl⟩ := map_some' hc; simp [srt] at hs
  case h_13 s d x ho =>
    obtain ⟨y, hy, hc⟩ := bind_of hc
    rcases or1_of hc with hc | hc
    · obtain ⟨_, _, hc⟩ := bind_of hc; obtain ⟨_, _, rfl⟩ := map_some' hc; simp [srt] at hs
    rcases or1_of hc with hc | hc
    · obtain ⟨_, _, hc⟩ := bind_of hc; obtain ⟨_, _, rfl⟩ := map_some' hc; simp [srt] at hs
    rcases or1_of hc with hc | hc
    · obtain ⟨_, hsu, hc⟩ := bind_of hc
      obtain ⟨e, hd, hc⟩ := bind_of hc
      obtain ⟨k, he, hc⟩ := bind_of hc
      obtain ⟨_, hk, rfl⟩ := map_some' hc
      have hk : k = .u8 := by have := of_beq (must_of hk); cases k <;> simp [kindNo] at this; rfl
      subst hk
      simp only [evOp] at h
      obtain ⟨B, rfl, hB⟩ := bytes_made (P := P) hR (uString_of hsu) (uSlice_of hd) (uInt_of he) (E hy) (ofEM_val h)
      exact ⟨B, rfl, fin (by simp only [execOp, ho]) hB⟩
    · obtain ⟨_, _, hc⟩ := bind_of hc; obtain ⟨_, _, hc⟩ := bind_of hc; obtain ⟨_, _, hc⟩ := bind_of hc; obtain ⟨_, _, rfl⟩ := map_some' hc; simp [srt] at hs
  case h_14 => obtain ⟨_, _, hc⟩ := bind_of hc; obtain ⟨_, _, rfl⟩ := map_some' hc; simp [srt] at hs
  case h_15 => obtain ⟨_, _, hc⟩ := bind_of hc; obtain ⟨_, _, rfl⟩ := map_some' hc; simp [srt] at hs
  case h_16 t ho =>
    obtain ⟨_, _, rfl⟩ := map_some' hc
    simp only [evOp, Option.some.injEq, R1.val.injEq] at h
    obtain ⟨rfl, rfl⟩ := h
    refine ⟨_, rfl, fin (by simp only [execOp, ho]) (s := Instr.makeMap t (none.map a.eval)) ?_⟩
    have := mkmap_made (P := P) hR
    simpa [Instr.makeMap] using this
  case h_17 t k z ho =>
    obtain ⟨q, hu, rfl⟩ := map_some' hc
    have hu := uMap_of hu
    simp only [evOp, Option.some.injEq, R1.val.injEq] at h
    obtain ⟨rfl, rfl⟩ := h
    refine ⟨_, rfl, fin (by simp only [execOp, ho]) (s := Instr.makeMap t ((some (.const (.int k z))).map a.eval)) ?_⟩
    obtain ⟨ρ', w', v', h1, h2⟩ := mkmap_made (P := P) hR
    exact ⟨ρ', w', v', by simpa [Instr.makeMap, run_underlying hu, Act.eval, asInt, asIntOf] using h1, h2⟩
  case h_18 t l c ho =>
    obtain ⟨e, hu, hc⟩ := bind_of hc
    obtain ⟨i, hi, hc⟩ := bind_of hc
    obtain ⟨z, hz, hc⟩ := bind_of hc
    obtain ⟨l', hl, hc⟩ := bind_of hc
    obtain ⟨c', hcc, hc⟩ := bind_of hc
    obtain ⟨_, hzs, hc⟩ := bind_of hc
    obtain ⟨_, hb, rfl⟩ := map_some' hc
    have hlv := E hl
    have hcv := E hcc
    simp only [evOp] at h
    have hex : execOp a.eval o = (do pure (Next.value (← Instr.makeSlice t (a.eval l) (a.eval c))) : Sem Next) := by simp only [execOp, ho]
    generalize fr.eval l' = el at hlv h
    generalize fr.eval c' = ec at hcv h
    generalize a.eval l = al at hlv hex
    generalize a.eval c = ac at hcv hex
    cases hlv <;> (try simp only [reduceCtorEq] at h)
    rename_i k1 n1
    cases k1 <;> (try simp only [reduceCtorEq] at h)
    cases n1 <;> (try simp only [reduceCtorEq] at h)
    rename_i ln
    cases hcv <;> (try simp only [reduceCtorEq] at h)
    rename_i k2 n2
    cases k2 <;> (try simp only [reduceCtorEq] at h)
    cases n2 <;> (try simp only [reduceCtorEq] at h)
    rename_i cn
    cases h1 : ln.ble cn <;> simp only [h1, cond_true, cond_false, reduceCtorEq] at h
    cases h2 : cn.ble room <;> simp only [h2, cond_true, cond_false, reduceCtorEq, Option.some.injEq, R1.val.injEq] at h
    obtain ⟨rfl, rfl⟩ := h
    exact ⟨_, rfl, fin hex (mkslice_made hR (uSlice_of hu) hi hz (of_beq (must_of hzs)) (Nat.le_of_ble_eq_true (must_of hb)) (Nat.le_of_ble_eq_true h1) (Nat.le_of_ble_eq_true h2))⟩
  case h_19 =>
    obtain ⟨_, _, hc⟩ := bind_of hc; obtain ⟨_, _, hc⟩ := bind_of hc; obtain ⟨_, _, hc⟩ := bind_of hc; obtain ⟨_, _, hc⟩ := bind_of hc; obtain ⟨_, _, hc⟩ := bind_of hc
    rcases or1_of hc with hc | hc
    · obtain ⟨_, _, hc⟩ := bind_of hc; obtain ⟨_, _, rfl⟩ := map_some' hc; simp [srt] at hs
    rcases or1_of hc with hc | hc
    · obtain ⟨_, _, hc⟩ := bind_of hc; obtain ⟨_, _, rfl⟩ := map_some' hc; simp [srt] at hs
    · obtain ⟨_, _, hc⟩ := bind_of hc; obtain ⟨_, _, rfl⟩ := map_some' hc; simp [srt] at hs
  case h_20 => obtain ⟨_, _, hc⟩ := bind_of hc; obtain ⟨_, _, hc⟩ := bind_of hc; obtain ⟨_, _, hc⟩ := bind_of hc; obtain ⟨_, _, hc⟩ := bind_of hc; obtain ⟨_, _, rfl⟩ := map_some' hc; simp [srt] at hs
  case h_21 => obtain ⟨_, _, hc⟩ := bind_of hc; obtain ⟨_, _, hc⟩ := bind_of hc; obtain ⟨_, _, hc⟩ := bind_of hc; obtain ⟨_, _, rfl⟩ := map_some' hc; simp [srt] at hs
  case h_22 =>
    obtain ⟨_, _, hc⟩ := bind_of hc; obtain ⟨_, _, hc⟩ := bind_of hc
    rcases or1_of hc with hc | hc
    · obtain ⟨_, _, hc⟩ := bind_of hc; obtain ⟨_, _, rfl⟩ := map_some' hc; simp [srt] at hs
    · obtain ⟨_, _, hc⟩ := bind_of hc; obtain ⟨_, _, rfl⟩ := map_some' hc; simp [srt] at hs
  case h_23 =>
    obtain ⟨_, _, hc⟩ := bind_of hc; obtain ⟨_, _, hc⟩ := bind_of hc
    rcases or1_of hc with hc | hc
    · obtain ⟨_, _, rfl⟩ := map_some' hc; simp [srt] at hs
    · obtain ⟨_, _, hc⟩ := bind_of hc; obtain ⟨_, _, hc⟩ := bind_of hc; obtain ⟨_, _, rfl⟩ := map_some' hc; simp [srt] at hs
  case h_24 => obtain ⟨_, _, hc⟩ := bind_of hc; obtain ⟨_, _, hc⟩ := bind_of hc; obtain ⟨_, _, hc⟩ := bind_of hc; obtain ⟨_, _, hc⟩ := bind_of hc; obtain ⟨_, _, rfl⟩ := map_some' hc; simp [srt] at hs
  case h_25 => obtain ⟨_, _, hc⟩ := bind_of hc; obtain ⟨_, _, hc⟩ := bind_of hc; obtain ⟨_, _, hc⟩ := bind_of hc; obtain ⟨_, _, hc⟩ := bind_of hc; obtain ⟨_, _, rfl⟩ := map_some' hc; simp [srt] at hs
  case h_26 => obtain ⟨_, _, hc⟩ := bind_of hc; obtain ⟨_, _, hc⟩ := bind_of hc; obtain ⟨_, _, hc⟩ := bind_of hc; obtain ⟨_, _, hc⟩ := bind_of hc; obtain ⟨_, _, rfl⟩ := map_some' hc; simp [srt] at hs
  case h_27 => obtain ⟨_, _, hc⟩ := bind_of hc; obtain ⟨_, _, rfl⟩ := map_some' hc; simp [srt] at hs
  case h_28 => obtain ⟨_, _, rfl⟩ := map_some' hc; simp [srt] at hs
  case h_29 c ho =>
    obtain ⟨ys, hys, hc⟩ := bind_of hc
    split at hc
    · exfalso
      unfold cBuiltin at hc
      simp only [Bool.cond_eq_ite] at hc
      split at hc
      · split at hc <;> first | (cases hc; simp [srt] at hs; done) | cases hc
      · split at hc <;> first | (cases hc; simp [srt] at hs; done) | cases hc
      · cases hc; simp [srt] at hs
      · cases hc; simp [srt] at hs
      · obtain ⟨_, _, hc⟩ := bind_of hc
        obtain ⟨_, _, hc⟩ := bind_of hc
        obtain ⟨_, _, hc⟩ := bind_of hc
        obtain ⟨_, _, hc⟩ := bind_of hc
        obtain ⟨_, _, hc⟩ := bind_of hc
        split at hc <;> first | (cases hc; simp [srt] at hs; done) | cases hc
      · split at hc
        · split at hc <;> first | (cases hc; simp [srt] at hs; done) | cases hc
        · cases hc
      · split at hc
        · obtain ⟨_, _, rfl⟩ := map_some' hc; simp [srt] at hs
        · cases hc
      · cases hc
    · cases hc
  case h_30 => cases hc

theorem map_congr' {l : List Opd} {f g : Opd → EV} (h : ∀ x, x ∈ l → f x = g x) : l.map f = l.map g := List.map_congr_left h
theorem optl_congr {l : Option Opd} {f g : Opd → EV} (h : ∀ x, x ∈ optl l → f x = g x) : l.map f = l.map g := by
  cases l with
  | none => rfl
  | some x => simp [h x (by simp [optl])]
theorem evOp_congr {f g : Opd → EV} {op : IOp} (h : ∀ x, x ∈ opds op → f x = g x) (m : Mem) : evOp f op m = evOp g op m := by
  cases op
  case build z ps =>
    simp only [evOp]
    rw [List.map_congr_left (g := fun p => (p.1, p.2.1, g p.2.2))]
    intro p hp
    rw [h p.2.2 (by simp only [opds, List.mem_map]; exact ⟨p, hp, rfl⟩)]
  case bslice e s l z ps =>
    simp only [evOp]
    rw [List.map_congr_left (g := fun p => (p.1 * s, s, g p.2))]
    intro p hp
    rw [h p.2 (by simp only [opds, List.mem_map]; exact ⟨p, hp, rfl⟩)]
  case mkfn k x y =>
    simp only [evOp]
    rw [map_congr' (l := x) (fun z hz => h z (by simp [opds, hz])), map_congr' (l := y) (fun z hz => h z (by simp [opds, hz]))]
  case max xs => simp only [evOp]; rw [map_congr' (l := xs) h]
  case min xs => simp only [evOp]; rw [map_congr' (l := xs) h]
  case slstr x l hh =>
    simp only [evOp]
    rw [h x (by simp [opds]), optl_congr (l := l) (fun z hz => h z (by simp [opds, hz])), optl_congr (l := hh) (fun z hz => h z (by simp [opds, hz]))]
  case slsl e x l hh mm =>
    simp only [evOp]
    rw [h x (by simp [opds]), optl_congr (l := l) (fun z hz => h z (by simp [opds, hz])), optl_congr (l := hh) (fun z hz => h z (by simp [opds, hz])), optl_congr (l := mm) (fun z hz => h z (by simp [opds, hz]))]
  case slarr e k x l hh mm =>
    simp only [evOp]
    rw [h x (by simp [opds]), optl_congr (l := l) (fun z hz => h z (by simp [opds, hz])), optl_congr (l := hh) (fun z hz => h z (by simp [opds, hz])), optl_congr (l := mm) (fun z hz => h z (by simp [opds, hz]))]
  all_goals
    simp only [opds, List.mem_cons, List.not_mem_nil, or_false, forall_eq_or_imp, forall_eq] at h
    simp only [evOp, h]
theorem pure_any {f : Opd → EV} {op : IOp} (hs : srt op = 0) {m m1 : Mem} {v : EV} (h : evOp f op m = some (.val v m1)) : m1 = m ∧ ∀ m', evOp f op m' = some (.val v m') := by
  have e1 : ∀ {x : Option EV}, ofEV m x = some (.val v m1) → m1 = m ∧ ∀ m', ofEV m' x = some (.val v m') := by
    intro x hx
    obtain ⟨h1, h2⟩ := ofEV_val hx
    exact ⟨h2, fun m' => by rw [h1]; rfl⟩
  cases op <;> simp only [srt] at hs <;> (try (simp at hs; done))
  case conv c x =>
    cases c <;> simp at hs
    all_goals
      simp only [evOp] at h ⊢
      have h1 := ofEM_val h
      generalize f x = e at h1 ⊢
      cases e <;> simp only [evConv, reduceCtorEq, Option.some.injEq, Prod.mk.injEq] at h1
      obtain ⟨rfl, rfl⟩ := h1
      exact ⟨rfl, fun m' => rfl⟩
  all_goals
    simp only [evOp, Bool.cond_eq_ite] at h ⊢
    first
      | exact e1 h
      | (simp only [Option.some.injEq, R1.val.injEq] at h; obtain ⟨rfl, rfl⟩ := h; exact ⟨rfl, fun m' => rfl⟩)
      | (revert h; (repeat' split) <;> intro h <;> first
          | (cases h; done)
          | exact e1 h
          | (simp only [Option.some.injEq, R1.val.injEq] at h; obtain ⟨rfl, rfl⟩ := h; exact ⟨rfl, fun m' => rfl⟩)
          | (simp_all; done))
end
end Go.Proofs.YtblcomejcahkdaaDoor.Ev
end
section
namespace Go.Proofs.YtblcomejcahkdaaDoor.Ev
open Go

theorem sameOpt_eq {a b : Option Nat} (h : sameOpt a b = true) : a = b := by
  cases a <;> cases b <;> simp [sameOpt] at h
  · rfl
  · exact congrArg some h
mutual
theorem same_eq : ∀ {a b : EV}, EV.same a b = true → a = b
  | a, b, h => by
    cases a <;> cases b <;> simp only [EV.same, Bool.false_eq_true] at h
    case undef.undef => rfl
    case nilptr.nilptr => rfl
    case nilslice.nilslice => rfl
    case nilmap.nilmap => rfl
    case nilfunc.nilfunc => rfl
    case niliface.niliface => rfl
    case bool.bool x y => rw [beq_iff_eq.1 h]
    case int.int k x l y =>
      cases hk : (kindNo k).beq (kindNo l) <;> simp only [hk, cond_true, cond_false, Bool.false_eq_true] at h
      rw [kindNo_inj hk, sameInt_eq] at *
      rw [of_decide_eq_true h]
    case str.str x y =>
      rw [sameBytes_eq] at h
      rw [of_decide_eq_true h]
    case ptr.ptr x i y j =>
      cases hk : x.beq y <;> simp only [hk, cond_true, cond_false, Bool.false_eq_true] at h
      rw [of_beq hk, of_beq h]
    case slice.slice x i k c y j l d =>
      cases h1 : x.beq y <;> simp only [h1, cond_true, cond_false, Bool.false_eq_true] at h
      cases h2 : i.beq j <;> simp only [h2, cond_true, cond_false, Bool.false_eq_true] at h
      cases h3 : k.beq l <;> simp only [h3, cond_true, cond_false, Bool.false_eq_true] at h
      rw [of_beq h1, of_beq h2, of_beq h3, sameOpt_eq h]
    case map.map x y => rw [of_beq h]
    case func.func f x y g z u =>
      cases h1 : f.beq g <;> simp only [h1, cond_true, cond_false, Bool.false_eq_true] at h
      cases h2 : EV.sames x z <;> simp only [h2, cond_true, cond_false, Bool.false_eq_true] at h
      rw [of_beq h1, sames_eq h2, sames_eq h]
    case iface.iface t v u z =>
      cases h1 : t.beq u <;> simp only [h1, cond_true, cond_false, Bool.false_eq_true] at h
      rw [of_beq h1, same_eq h]
    case agg.agg x y => rw [sames_eq h]
    case tuple.tuple x y => rw [sames_eq h]
    case fz.fz t e x u f y =>
      cases h0 : t.beq 0 <;> simp only [h0, cond_true, cond_false, Bool.false_eq_true] at h
      cases h1 : t.beq u <;> simp only [h1, cond_true, cond_false, Bool.false_eq_true] at h
      cases h2 : e.beq f <;> simp only [h2, cond_true, cond_false, Bool.false_eq_true] at h
      rw [of_beq h1, of_beq h2, samess_eq h]
theorem sames_eq : ∀ {a b : List EV}, EV.sames a b = true → a = b
  | [], [], _ => rfl
  | [], _ :: _, h => by simp [EV.sames] at h
  | _ :: _, [], h => by simp [EV.sames] at h
  | x :: a, y :: b, h => by
    simp only [EV.sames] at h
    cases h1 : EV.same x y <;> simp only [h1, cond_true, cond_false, Bool.false_eq_true] at h
    rw [same_eq h1, sames_eq h]
theorem samess_eq : ∀ {a b : List (List EV)}, EV.samess a b = true → a = b
  | [], [], _ => rfl
  | [], _ :: _, h => by simp [EV.samess] at h
  | _ :: _, [], h => by simp [EV.samess] at h
  | x :: a, y :: b, h => by
    simp only [EV.samess] at h
    cases h1 : EV.sames x y <;> simp only [h1, cond_true, cond_false, Bool.false_eq_true] at h
    rw [sames_eq h1, samess_eq h]
end
theorem stands_of {m : Mem} {agg : Option Nat} {a v : EV} (h : m.stands agg a v = true) : m.load agg a = some v := by
  unfold Mem.stands at h
  cases hl : m.load agg a with
  | none => simp [hl] at h
  | some x => simp only [hl] at h; rw [same_eq h]
theorem load_get {m m' : Mem} {agg : Option Nat} {b off : Nat} (h : m.get b = m'.get b) : m.load agg (.ptr b off) = m'.load agg (.ptr b off) := by
  simp only [Mem.load, h]

theorem R.congr {base : Nat} {ρ : Ren} {m m' : Mem} {w : World} (h : R base ρ m w) (hn : m'.next = m.next) (hg : ∀ b, m'.get b = m.get b) : R base ρ m' w :=
  ⟨fun b L hb => by rw [hn]; exact h.lt b L hb, fun b L hb => by rw [hg]; exact h.blk b L hb, fun b c L L' h1 h2 h3 h4 => h.inj b c L L' h1 h2 (by unfold Live at *; rwa [hg] at h3) (by unfold Live at *; rwa [hg] at h4), h.base,
    fun b hb => by rw [hg]; exact h.clean b (by rw [← hn]; exact hb)⟩
theorem Step.congr {ρ ρ' : Ren} {m m1 m1' : Mem} {w w' : World} (h : Step ρ m w ρ' m1 w') (hn : m1'.next = m1.next) (hg : ∀ b, m1'.get b = m1.get b) : Step ρ m w ρ' m1' w' :=
  ⟨h.ext, h.new, by rw [hn]; exact h.next, fun b hb hr => by rw [hg]; exact h.same b hb hr, fun b hb hd => by rw [hg]; exact h.dead b hb hd, h.size,
    fun i hi ⟨b, L, h1, h2, h3, h4⟩ => h.rng i hi ⟨b, L, h1, by unfold Live at *; rwa [hg] at h2, h3, h4⟩, h.kept, h.os, h.tape, h.output⟩
theorem R.weaken {base : Nat} {ρ : Ren} {m m' : Mem} {w : World} (h : R base ρ m w) (hn : ∀ b L, ρ b = some L → b < m'.next) (hg : ∀ b L, ρ b = some L → m'.get b = m.get b ∨ m'.get b = .dead) (hc : ∀ b, m'.next ≤ b → m'.get b = .dead) : R base ρ m' w := by
  have lv : ∀ b L, ρ b = some L → Live m' b → Live m b := fun b L hb hl => by
    rcases hg b L hb with e | e
    · unfold Live at *; rwa [e] at hl
    · exact absurd e hl
  refine ⟨hn, fun b L hb => ?_, fun b c L L' h1 h2 h3 h4 => h.inj b c L L' h1 h2 (lv b L h1 h3) (lv c L' h2 h4), h.base, hc⟩
  rcases hg b L hb with e | e
  · rw [e]; exact h.blk b L hb
  · rw [e]; trivial
theorem side {base : Nat} {ρ : Ren} {B : Blk} {L : Loc} {w : World} (h : BlkR base ρ B L w) (hl : B ≠ .dead) : (L.ro = false → base ≤ L.blk) ∧ (L.ro = true → L.blk < base) := by
  cases B with
  | dead => exact absurd rfl hl
  | cells cs esz el ro =>
    obtain ⟨_, _, _, _, _, _, h4, _, _, h7, h8⟩ := h
    exact ⟨fun e => (h7 (by rw [← h4]; exact e)).1, fun e => h8 (by rw [← h4]; exact e)⟩
  | map es =>
    obtain ⟨_, _, _, _, _, h4, h5⟩ := h
    exact ⟨fun _ => h4, fun e => by rw [h5] at e; cases e⟩
theorem over (m : Mem) (f : Nat → Blk) : ∀ l : List Nat, ∃ m' : Mem, m'.next = m.next ∧ ∀ b, m'.get b = if b ∈ l then f b else m.get b
  | [] => ⟨m, rfl, fun b => by simp⟩
  | x :: l => by
    obtain ⟨m', h1, h2⟩ := over m f l
    refine ⟨m'.set x (f x), h1, fun b => ?_⟩
    rw [Mem.get_set, h2 b]
    by_cases e : b = x
    · subst e; simp
    · simp [e]

theorem act_over {base : Nat} {ρ0 ρ ρ' : Ren} {m0 Mm mi me M2 : Mem} {w0 w w' : World} (l : List Nat) (hR : R base ρ Mm w) (hst : Step ρ0 m0 w0 ρ Mm w) (hR' : R base ρ' me w') (hs : Step ρ mi w ρ' me w')
    (hl : ∀ b, b ∈ l → m0.next ≤ b ∧ b < mi.next ∧ mi.get b = .dead) (hmi : ∀ b L, ρ b = some L → b ∉ l → mi.get b = Mm.get b ∨ mi.get b = .dead) (hlow : ∀ b, b < m0.next → mi.get b = Mm.get b) (hnx : m0.next ≤ mi.next)
    (h2n : M2.next = me.next) (h2g : ∀ b, M2.get b = if b ∈ l then Mm.get b else me.get b) : R base ρ' M2 w' ∧ Step ρ0 m0 w0 ρ' M2 w' := by
  have old : ∀ b L, b ∈ l → ρ' b = some L → ρ b = some L := by
    intro b L hb hL
    cases e : ρ b with
    | some L' => rw [hs.ext b L' e] at hL; exact hL
    | none => have := hs.new b e (by rw [hL]; simp); have := (hl b hb).2.1; omega
  have hin : ∀ b, b ∈ l → M2.get b = Mm.get b := fun b hb => by rw [h2g, if_pos hb]
  have hout : ∀ b, b ∉ l → M2.get b = me.get b := fun b hb => by rw [h2g, if_neg hb]
  -- a block that waits is not in the action's reach
  have apart : ∀ b L, b ∈ l → ρ b = some L → Live Mm b → L.ro = false → L.blk < w.heap.size ∧ ¬ rng ρ mi L.blk := by
    intro b L hb hL hlv hro
    refine ⟨(hR.blk b L hL).lt hlv, ?_⟩
    rintro ⟨c, Mc, hc, hlc, hroc, heq⟩
    have hcl : c ∉ l := fun h => hlc (hl c h).2.2
    have hlc' : Live Mm c := by
      rcases hmi c Mc hc hcl with e | e
      · unfold Live at *; rwa [e] at hlc
      · exact absurd e hlc
    have := hR.inj c b Mc L hc hL hlc' hlv hroc heq
    exact hcl (this ▸ hb)
  have mix : ∀ b c L L', b ∈ l → c ∉ l → ρ' b = some L → ρ' c = some L' → Live M2 b → Live M2 c → L.blk = L'.blk → (L.ro = false ∨ L'.ro = false) → False := by
    intro b c L L' hb hc h1 h2 h3 h4 heq hro
    have h1' := old b L hb h1
    have h3' : Live Mm b := by unfold Live at *; rwa [hin b hb] at h3
    have h4' : Live me c := by unfold Live at *; rwa [hout c hc] at h4
    have s1 := side (hR.blk b L h1') h3'
    have s2 := side (hR'.blk c L' h2) h4'
    have both : L.ro = false ∧ L'.ro = false := by
      cases e1 : L.ro <;> cases e2 : L'.ro
      · exact ⟨rfl, rfl⟩
      · have a1 := s1.1 e1; have a2 := s2.2 e2; omega
      · have a1 := s1.2 e1; have a2 := s2.1 e2; omega
      · rcases hro with h | h
        · rw [e1] at h; cases h
        · rw [e2] at h; cases h
    obtain ⟨a1, a2⟩ := apart b L hb h1' h3' both.1
    exact a2 (hs.rng L.blk a1 ⟨c, L', h2, h4', both.2, heq.symm⟩)
  refine ⟨⟨fun b L hb => by rw [h2n]; exact hR'.lt b L hb, ?_, ?_, hR'.base, ?_⟩, ⟨hst.ext.trans hs.ext, ?_, ?_, ?_, ?_, Nat.le_trans hst.size hs.size, ?_, ?_, hs.os.trans hst.os, hs.tape.trans hst.tape, hs.output.trans hst.output⟩⟩
  · intro b L hb
    by_cases hbl : b ∈ l
    · rw [hin b hbl]
      have hL := old b L hbl hb
      by_cases hd : Mm.get b = .dead
      · rw [hd]; trivial
      · have hB := hR.blk b L hL
        refine hB.of_heap hs.ext ?_
        cases hro : L.ro with
        | false => obtain ⟨a1, a2⟩ := apart b L hbl hL hd hro; exact hs.kept L.blk a1 a2
        | true =>
          refine hs.kept L.blk (hB.lt hd) ?_
          rintro ⟨c, Mc, hc, hlc, hroc, heq⟩
          have hcl : c ∉ l := fun h => hlc (hl c h).2.2
          have hlc' : Live Mm c := by
            rcases hmi c Mc hc hcl with e | e
            · unfold Live at *; rwa [e] at hlc
            · exact absurd e hlc
          have s1 := (side hB hd).2 hro
          have s2 := (side (hR.blk c Mc hc) hlc').1 hroc
          omega
    · rw [hout b hbl]; exact hR'.blk b L hb
  · intro b c L L' h1 h2 h3 h4 hro heq
    by_cases hb : b ∈ l <;> by_cases hc : c ∈ l
    · exact hR.inj b c L L' (old b L hb h1) (old c L' hc h2) (by unfold Live at *; rwa [hin b hb] at h3) (by unfold Live at *; rwa [hin c hc] at h4) hro heq
    · exact (mix b c L L' hb hc h1 h2 h3 h4 heq (.inl hro)).elim
    · exact (mix c b L' L hc hb h2 h1 h4 h3 heq.symm (.inr hro)).elim
    · exact hR'.inj b c L L' h1 h2 (by unfold Live at *; rwa [hout b hb] at h3) (by unfold Live at *; rwa [hout c hc] at h4) hro heq
  · intro b hb
    rw [h2n] at hb
    have hbl : b ∉ l := fun h => by have := (hl b h).2.1; have := hs.next; omega
    rw [hout b hbl]; exact hR'.clean b hb
  · intro b h0 h1
    cases e : ρ b with
    | some L => exact hst.new b h0 (by rw [e]; simp)
    | none => exact Nat.le_trans hnx (hs.new b e h1)
  · rw [h2n]; exact Nat.le_trans hnx hs.next
  · intro b hb h0
    have hbl : b ∉ l := fun h => by have := (hl b h).1; omega
    have hρ : ρ b = none := by
      cases e : ρ b with
      | none => rfl
      | some L => have := hst.new b h0 (by rw [e]; simp); omega
    rw [hout b hbl, hs.same b (Nat.lt_of_lt_of_le hb hnx) hρ, hlow b hb, hst.same b hb h0]
  · intro b hb hd
    have hbl : b ∉ l := fun h => by have := (hl b h).1; omega
    rw [hout b hbl]
    exact hs.dead b (Nat.lt_of_lt_of_le hb hnx) (by rw [hlow b hb]; exact hst.dead b hb hd)
  · rintro i hi ⟨b, L, h1, h2, h3, h4⟩
    by_cases hb : b ∈ l
    · exact hst.rng i hi ⟨b, L, old b L hb h1, by unfold Live at *; rwa [hin b hb] at h2, h3, h4⟩
    · obtain ⟨c, Lc, c1, c2, c3, c4⟩ := hs.rng i (Nat.lt_of_lt_of_le hi hst.size) ⟨b, L, h1, by unfold Live at *; rwa [hout b hb] at h2, h3, h4⟩
      have hcl : c ∉ l := fun h => c2 (hl c h).2.2
      refine hst.rng i hi ⟨c, Lc, c1, ?_, c3, c4⟩
      rcases hmi c Lc c1 hcl with e | e
      · unfold Live at *; rwa [e] at c2
      · exact absurd e c2
  · intro i hi hr
    rw [hs.kept i (Nat.lt_of_lt_of_le hi hst.size), hst.kept i hi hr]
    rintro ⟨c, Lc, c1, c2, c3, c4⟩
    have hcl : c ∉ l := fun h => c2 (hl c h).2.2
    refine hr (hst.rng i hi ⟨c, Lc, c1, ?_, c3, c4⟩)
    rcases hmi c Lc c1 hcl with e | e
    · unfold Live at *; rwa [e] at c2
    · exact absurd e c2
theorem make_over {base : Nat} {ρ0 ρ ρ' : Ren} {m0 Mm : Mem} {w0 w w' : World} {k : Nat} {B : Blk} (hR : R base ρ Mm w) (hst : Step ρ0 m0 w0 ρ Mm w) (hk0 : m0.next ≤ k) (hk : k < Mm.next) (hm : Made base ρ ⟨k, Mm.tbl⟩ w ρ' B w') :
    R base ρ' ⟨Mm.next, Mm.tbl.set k B⟩ w' ∧ Step ρ0 m0 w0 ρ' ⟨Mm.next, Mm.tbl.set k B⟩ w' := by
  have hg : ∀ b, (⟨Mm.next, Mm.tbl.set k B⟩ : Mem).get b = if b = k then B else Mm.get b := fun b => by
    unfold Mem.get; simp only [Tr.get_set]; split <;> rfl
  have hg' : ∀ b, ((⟨k, Mm.tbl⟩ : Mem).new B).get b = if b = k then B else Mm.get b := fun b => by rw [Mem.get_new]; rfl
  have hdom : ∀ b, b ≠ k → ρ' b = ρ b := fun b hb => hm.dom b hb
  refine ⟨⟨?_, ?_, ?_, hm.base, ?_⟩, ⟨hst.ext.trans hm.ext, ?_, hst.next, ?_, ?_, by have := hst.size; have := hm.size; omega, ?_, ?_, hm.os.trans hst.os, hm.tape.trans hst.tape, hm.output.trans hst.output⟩⟩
  · intro b L hb
    by_cases e : b = k
    · rw [e]; exact hk
    · rw [hdom b e] at hb; exact hR.lt b L hb
  · intro b L hb
    rw [hg, ← hg']; exact hm.blk b L hb
  · intro b c L L' h1 h2 h3 h4
    exact hm.inj b c L L' h1 h2 (by unfold Live at *; rw [hg'] ; rwa [hg] at h3) (by unfold Live at *; rw [hg']; rwa [hg] at h4)
  · intro b hb
    have hb : Mm.next ≤ b := hb
    rw [hg, if_neg (by omega)]; exact hR.clean b hb
  · intro b h0 h1
    by_cases e : b = k
    · rw [e]; exact hk0
    · rw [hdom b e] at h1; exact hst.new b h0 h1
  · intro b hb h0
    rw [hg, if_neg (by omega)]; exact hst.same b hb h0
  · intro b hb hd
    rw [hg, if_neg (by omega)]; exact hst.dead b hb hd
  · rintro i hi ⟨b, L, h1, h2, h3, h4⟩
    by_cases e : b = k
    · subst e
      obtain ⟨L0, q1, q2⟩ := hm.loc
      have : ρ' b = some L0 := q1
      rw [this] at h1; cases h1
      have := hst.size
      omega
    · rw [hdom b e] at h1
      exact hst.rng i hi ⟨b, L, h1, by unfold Live at *; rwa [hg, if_neg e] at h2, h3, h4⟩
  · intro i hi hr
    rw [hm.old i (Nat.lt_of_lt_of_le hi hst.size), hst.kept i hi hr]
end Go.Proofs.YtblcomejcahkdaaDoor.Ev
end
section
namespace Go.Proofs.YtblcomejcahkdaaDoor.Ev
open Go
section
variable {P : Program} {G : List Nat} {n : Nat} {call : Call}

theorem srt_le (op : IOp) : srt op ≤ 3 := by
  cases op <;> simp [srt]
  case conv c x => cases c <;> simp
theorem sort_le (op : XOp) : sort op ≤ 3 := by
  cases op <;> simp only [sort] <;> first | exact srt_le _ | omega
theorem make_any {f : Opd → EV} {op : IOp} (hs : srt op = 1) {m m1 : Mem} {v : EV} (h : evOp f op m = some (.val v m1)) : ∃ (B : Blk) (mk : Nat → EV), v = mk m.next ∧ m1 = m.new B ∧ ∀ m', evOp f op m' = some (.val (mk m'.next) (m'.new B)) := by
  cases op <;> (try simp only [srt] at hs) <;> (try (simp at hs; done))
  case alloc e z =>
    simp only [evOp, Option.some.injEq, R1.val.injEq] at h ⊢
    exact ⟨.cells z z.length e false, fun k => .ptr k 0, h.1.symm, h.2.symm, fun m' => ⟨rfl, rfl⟩⟩
  case box e x =>
    simp only [evOp] at h ⊢
    cases hc : (f x).cells with
    | none => simp [hc] at h
    | some cs =>
      simp only [hc, Option.some.injEq, R1.val.injEq] at h ⊢
      exact ⟨.cells cs cs.length e false, fun k => .ptr k 0, h.1.symm, h.2.symm, fun m' => ⟨rfl, rfl⟩⟩
  case bslice e s len z ps =>
    simp only [evOp] at h ⊢
    cases hc : fillIn (copies len z) (ps.map fun p => (p.1 * s, s, f p.2)) with
    | none => simp [hc] at h
    | some cs =>
      simp only [hc, Option.some.injEq, R1.val.injEq] at h ⊢
      exact ⟨.cells cs s e false, fun k => .slice k 0 len (some len), h.1.symm, h.2.symm, fun m' => ⟨rfl, rfl⟩⟩
  case mkmap =>
    simp only [evOp, Option.some.injEq, R1.val.injEq] at h ⊢
    exact ⟨.map [], fun k => .map k, h.1.symm, h.2.symm, fun m' => ⟨rfl, rfl⟩⟩
  case mkslice e s z l c =>
    simp only [evOp, Bool.cond_eq_ite] at h ⊢
    generalize f l = el at h ⊢
    generalize f c = ec at h ⊢
    split at h
    · rename_i ln cn
      split at h
      · rename_i hq
        split at h
        · rename_i hq2
          simp only [Option.some.injEq, R1.val.injEq] at h
          exact ⟨.cells (copies cn z) s e false, fun k => .slice k 0 ln (some cn), h.1.symm, h.2.symm, fun m' => by rw [if_pos hq, if_pos hq2]⟩
        · cases h
      · cases h
    · cases h
  case conv c x =>
    cases c <;> (try (simp at hs; done))
    rename_i e
    simp only [evOp] at h ⊢
    have h1 := ofEM_val h
    generalize f x = ex at h1 ⊢
    cases ex <;> simp only [evConv, reduceCtorEq, Option.some.injEq, Prod.mk.injEq] at h1
    rename_i s
    exact ⟨.cells (s.map fun b => .int .u8 (b.toNat : Int)) 1 e false, fun k => .slice k 0 s.length none, h1.1.symm, h1.2.symm, fun m' => rfl⟩
theorem load_ptr {m : Mem} {agg : Option Nat} {x v : EV} (hf : isF x = false) (h : m.load agg x = some v) : ∃ b off, x = .ptr b off ∧ m.get b ≠ .dead := by
  cases x <;> simp only [Mem.load, reduceCtorEq] at h
  case fptr => simp [isF] at hf
  rename_i b off
  refine ⟨b, off, rfl, fun e => ?_⟩
  rw [e] at h
  cases h
theorem load_opd {o : Oper} {io : IOp} (hc : cOp P G o = some io) (hs : srt io = 2) : ∃ agg x x0, io = .load agg x ∧ cOpd G x0 = some x := by
  unfold cOp at hc
  split at hc
  case h_1 => obtain ⟨_, _, rfl⟩ := map_some' hc; simp [srt] at hs
  case h_2 => obtain ⟨_, _, rfl⟩ := map_some' hc; simp [srt] at hs
  case h_3 => obtain ⟨_, _, hc⟩ := bind_of hc; obtain ⟨_, _, hc⟩ := bind_of hc; obtain ⟨_, _, rfl⟩ := map_some' hc; simp [srt] at hs
  case h_4 => obtain ⟨_, _, rfl⟩ := map_some' hc; simp [srt] at hs
  case h_5 => obtain ⟨_, _, rfl⟩ := map_some' hc; simp [srt] at hs
  case h_6 =>
    obtain ⟨_, _, hc⟩ := bind_of hc
    rcases or1_of hc with hc | hc
    · obtain ⟨_, _, hc⟩ := bind_of hc; obtain ⟨_, _, hc⟩ := bind_of hc; obtain ⟨_, _, rfl⟩ := map_some' hc; simp [srt] at hs
    · obtain ⟨_, _, hc⟩ := bind_of hc; obtain ⟨_, _, hc⟩ := bind_of hc; obtain ⟨_, _, rfl⟩ := map_some' hc; simp [srt] at hs
  case h_7 => obtain ⟨_, _, hc⟩ := bind_of hc; obtain ⟨_, _, hc⟩ := bind_of hc; obtain ⟨_, _, hc⟩ := bind_of hc; obtain ⟨_, _, hc⟩ := bind_of hc; obtain ⟨_, _, hc⟩ := bind_of hc; obtain ⟨_, _, rfl⟩ := map_some' hc; simp [srt] at hs
  case h_8 => obtain ⟨_, _, hc⟩ := bind_of hc; obtain ⟨x, hx, rfl⟩ := map_some' hc; exact ⟨_, x, _, rfl, hx⟩
  case h_9 => obtain ⟨_, _, hc⟩ := bind_of hc; obtain ⟨_, _, hc⟩ := bind_of hc; obtain ⟨_, _, rfl⟩ := map_some' hc; simp [srt] at hs
  case h_10 => obtain ⟨_, _, rfl⟩ := map_some' hc; simp [srt] at hs
  case h_11 op t x y yt ho =>
    obtain ⟨_, _, hc⟩ := bind_of hc; obtain ⟨_, _, hc⟩ := bind_of hc
    split at hc
    · unfold cEq at hc
      simp only [Bool.cond_eq_ite] at hc
      split at hc <;> (obtain ⟨_, _, rfl⟩ := map_some' hc; simp [srt] at hs)
    · unfold cEq at hc
      simp only [Bool.cond_eq_ite] at hc
      split at hc <;> (obtain ⟨_, _, rfl⟩ := map_some' hc; simp [srt] at hs)
    · cases hc; simp [srt] at hs
  case h_12 => obtain ⟨_, _, rfl⟩ := map_some' hc; simp [srt] at hs
  case h_13 =>
    obtain ⟨_, _, hc⟩ := bind_of hc
    rcases or1_of hc with hc | hc
    · obtain ⟨_, _, hc⟩ := bind_of hc; obtain ⟨_, _, rfl⟩ := map_some' hc; simp [srt] at hs
    rcases or1_of hc with hc | hc
    · obtain ⟨_, _, hc⟩ := bind_of hc; obtain ⟨_, _, rfl⟩ := map_some' hc; simp [srt] at hs
    rcases or1_of hc with hc | hc
    · obtain ⟨_, _, hc⟩ := bind_of hc; obtain ⟨_, _, hc⟩ := bind_of hc; obtain ⟨_, _, hc⟩ := bind_of hc; obtain ⟨_, _, rfl⟩ := map_some' hc; simp [srt] at hs
    obtain ⟨_, _, hc⟩ := bind_of hc; obtain ⟨_, _, hc⟩ := bind_of hc; obtain ⟨_, _, hc⟩ := bind_of hc; obtain ⟨_, _, rfl⟩ := map_some' hc; simp [srt] at hs
  case h_14 => obtain ⟨_, _, hc⟩ := bind_of hc; obtain ⟨_, _, rfl⟩ := map_some' hc; simp [srt] at hs
  case h_15 => obtain ⟨_, _, hc⟩ := bind_of hc; obtain ⟨_, _, rfl⟩ := map_some' hc; simp [srt] at hs
  case h_16 => obtain ⟨_, _, rfl⟩ := map_some' hc; simp [srt] at hs
  case h_17 => obtain ⟨_, _, rfl⟩ := map_some' hc; simp [srt] at hs
  case h_18 => obtain ⟨_, _, hc⟩ := bind_of hc; obtain ⟨_, _, hc⟩ := bind_of hc; obtain ⟨_, _, hc⟩ := bind_of hc; obtain ⟨_, _, hc⟩ := bind_of hc; obtain ⟨_, _, hc⟩ := bind_of hc; obtain ⟨_, _, hc⟩ := bind_of hc; obtain ⟨_, _, rfl⟩ := map_some' hc; simp [srt] at hs
  case h_19 =>
    obtain ⟨_, _, hc⟩ := bind_of hc; obtain ⟨_, _, hc⟩ := bind_of hc; obtain ⟨_, _, hc⟩ := bind_of hc; obtain ⟨_, _, hc⟩ := bind_of hc; obtain ⟨_, _, hc⟩ := bind_of hc
    rcases or1_of hc with hc | hc
    · obtain ⟨_, _, hc⟩ := bind_of hc; obtain ⟨_, _, rfl⟩ := map_some' hc; simp [srt] at hs
    rcases or1_of hc with hc | hc
    · obtain ⟨_, _, hc⟩ := bind_of hc; obtain ⟨_, _, rfl⟩ := map_some' hc; simp [srt] at hs
    · obtain ⟨_, _, hc⟩ := bind_of hc; obtain ⟨_, _, rfl⟩ := map_some' hc; simp [srt] at hs
  case h_20 => obtain ⟨_, _, hc⟩ := bind_of hc; obtain ⟨_, _, hc⟩ := bind_of hc; obtain ⟨_, _, hc⟩ := bind_of hc; obtain ⟨_, _, hc⟩ := bind_of hc; obtain ⟨_, _, rfl⟩ := map_some' hc; simp [srt] at hs
  case h_21 => obtain ⟨_, _, hc⟩ := bind_of hc; obtain ⟨_, _, hc⟩ := bind_of hc; obtain ⟨_, _, hc⟩ := bind_of hc; obtain ⟨_, _, rfl⟩ := map_some' hc; simp [srt] at hs
  case h_22 =>
    obtain ⟨_, _, hc⟩ := bind_of hc; obtain ⟨_, _, hc⟩ := bind_of hc
    rcases or1_of hc with hc | hc
    · obtain ⟨_, _, hc⟩ := bind_of hc; obtain ⟨_, _, rfl⟩ := map_some' hc; simp [srt] at hs
    · obtain ⟨_, _, hc⟩ := bind_of hc; obtain ⟨_, _, rfl⟩ := map_some' hc; simp [srt] at hs
  case h_23 =>
    obtain ⟨_, _, hc⟩ := bind_of hc; obtain ⟨_, _, hc⟩ := bind_of hc
    rcases or1_of hc with hc | hc
    · obtain ⟨_, _, rfl⟩ := map_some' hc; simp [srt] at hs
    · obtain ⟨_, _, hc⟩ := bind_of hc; obtain ⟨_, _, hc⟩ := bind_of hc; obtain ⟨_, _, rfl⟩ := map_some' hc; simp [srt] at hs
  case h_24 => obtain ⟨_, _, hc⟩ := bind_of hc; obtain ⟨_, _, hc⟩ := bind_of hc; obtain ⟨_, _, hc⟩ := bind_of hc; obtain ⟨_, _, hc⟩ := bind_of hc; obtain ⟨_, _, rfl⟩ := map_some' hc; simp [srt] at hs
  case h_25 => obtain ⟨_, _, hc⟩ := bind_of hc; obtain ⟨_, _, hc⟩ := bind_of hc; obtain ⟨_, _, hc⟩ := bind_of hc; obtain ⟨_, _, hc⟩ := bind_of hc; obtain ⟨_, _, rfl⟩ := map_some' hc; simp [srt] at hs
  case h_26 => obtain ⟨_, _, hc⟩ := bind_of hc; obtain ⟨_, _, hc⟩ := bind_of hc; obtain ⟨_, _, hc⟩ := bind_of hc; obtain ⟨_, _, hc⟩ := bind_of hc; obtain ⟨_, _, rfl⟩ := map_some' hc; simp [srt] at hs
  case h_27 => obtain ⟨_, _, hc⟩ := bind_of hc; obtain ⟨_, _, rfl⟩ := map_some' hc; simp [srt] at hs
  case h_28 => obtain ⟨_, _, rfl⟩ := map_some' hc; simp [srt] at hs
  case h_29 c ho =>
    obtain ⟨ys, hys, hc⟩ := bind_of hc
    split at hc
    · exfalso
      unfold cBuiltin at hc
      simp only [Bool.cond_eq_ite] at hc
      split at hc
      · split at hc <;> first | (cases hc; simp [srt] at hs; done) | cases hc
      · split at hc <;> first | (cases hc; simp [srt] at hs; done) | cases hc
      · cases hc; simp [srt] at hs
      · cases hc; simp [srt] at hs
      · obtain ⟨_, _, hc⟩ := bind_of hc
        obtain ⟨_, _, hc⟩ := bind_of hc
        obtain ⟨_, _, hc⟩ := bind_of hc
        obtain ⟨_, _, hc⟩ := bind_of hc
        obtain ⟨_, _, hc⟩ := bind_of hc
        split at hc <;> first | (cases hc; simp [srt] at hs; done) | cases hc
      · split at hc
        · split at hc <;> first | (cases hc; simp [srt] at hs; done) | cases hc
        · cases hc
      · split at hc
        · obtain ⟨_, _, rfl⟩ := map_some' hc; simp [srt] at hs
        · cases hc
      · cases hc
    · cases hc
  case h_30 => cases hc
theorem named_opd {o : IOper} {x : Opd} (hx : x ∈ xopds o.op) : ∀ t, x = .tmp t → t ∈ named o := by
  intro t ht
  subst ht
  unfold named
  have : t ∈ tmpsOf (xopds o.op) := by
    generalize xopds o.op = l at hx
    induction l with
    | nil => simp at hx
    | cons y l ih =>
      rcases List.mem_cons.1 hx with e | hx2
      · subst e; simp [tmpsOf]
      · cases y with
        | tmp s => simp only [tmpsOf]; exact List.mem_cons_of_mem _ (ih hx2)
        | const v => simp only [tmpsOf]; exact ih hx2
  simp [this]
theorem named_guard {o : IOper} {t : Nat} {b : Bool} (h : o.guard = some (t, b)) : t ∈ named o := by unfold named; simp [h]
theorem named_dst {o : IOper} {t : Nat} (h : o.dst = some t) : t ∈ named o := by unfold named; simp [h]

structure Cx (P : Program) (G : List Nat) (n : Nat) (call : Call) (ops : Array Oper) (is : List IOper) (chk : List (Nat × Nat)) (B0 : Nat) (F : Nat → Fr) (M : Nat → Mem) (V : Nat → EV) : Prop where
  comp : ∀ (i : Nat) (io : IOper), is[i]? = some io → ∃ o, ops[i]? = some o ∧ cOper P G n ops o = some io
  at_ : ∀ (k : Nat) (o : IOper), is[k]? = some o → At call B0 o k (F k) (M k) (V k) (M (k + 1)) ∧ F (k + 1) = (F k).put o.dst (V k)
  c1 : ∀ (k : Nat) (o : IOper) (agg : Option Nat) (a : Opd) (l : Nat) (q : IOper), is[k]? = some o → is[l]? = some q → Loads o (F k) agg a → Acts q (F l) → hasPair k l chk = true →
    (l < k → (M l).stands agg ((F k).eval a) (V k) = true) ∧ (k < l → (M (l + 1)).stands agg ((F k).eval a) (V k) = true)
  open_ : ∀ (i j : Nat) (io jo : IOper), i < j → is[i]? = some io → is[j]? = some jo → i ∉ (befores ops.toList []).getD j [] →
    ¬ (sort io.op = 3 ∧ sort jo.op = 3) ∧ (∀ t, io.dst = some t → t ∉ named jo) ∧ (∀ t, jo.dst = some t → t ∉ named io) ∧ (sort io.op = 2 → sort jo.op = 3 → hasPair i j chk = true) ∧ (sort io.op = 3 → sort jo.op = 2 → hasPair j i chk = true)

variable {ops : Array Oper} {is : List IOper} {chk : List (Nat × Nat)} {B0 : Nat} {F : Nat → Fr} {M : Nat → Mem} {V : Nat → EV}

def curU (is : List IOper) (F : Nat → Fr) (V : Nat → EV) (S : List Nat) (t : Nat) : Nat → EV
  | 0 => (F 0).get t
  | k + 1 => if k ∈ S ∧ (is[k]?).bind (·.dst) = some t then V k else curU is F V S t k
theorem curU_text (C : Cx P G n call ops is chk B0 F M V) (S : List Nat) (t : Nat) : ∀ k, k ≤ is.length → (∀ j o, j < k → is[j]? = some o → o.dst = some t → j ∈ S) → curU is F V S t k = (F k).get t
  | 0, _, _ => rfl
  | k + 1, hk, h => by
    have hlt : k < is.length := by omega
    have ho : is[k]? = some is[k] := List.getElem?_eq_getElem hlt
    obtain ⟨_, hF⟩ := C.at_ k _ ho
    simp only [curU, ho, Option.bind_some]
    rw [hF]
    by_cases hd : is[k].dst = some t
    · rw [if_pos ⟨h k _ (by omega) ho hd, hd⟩, hd]
      simp only [Fr.put, Fr.get_set, if_true]
    · rw [if_neg (fun e => hd e.2), curU_text C S t k (by omega) (fun j o hj => h j o (by omega))]
      cases hdd : is[k].dst with
      | none => rfl
      | some u =>
        simp only [Fr.put, Fr.get_set]
        rw [if_neg]
        intro e; subst e; exact hd hdd
theorem curU_stop (S : List Nat) (t : Nat) : ∀ d k, (∀ j o, k ≤ j → j < k + d → is[j]? = some o → o.dst = some t → j ∉ S) → curU is F V S t (k + d) = curU is F V S t k
  | 0, k, _ => rfl
  | d + 1, k, h => by
    rw [← Nat.add_assoc]
    simp only [curU]
    rw [if_neg]
    · exact curU_stop S t d k fun j o h1 h2 => h j o h1 (by omega)
    · rintro ⟨h1, h2⟩
      cases ho : is[k + d]? with
      | none => rw [ho] at h2; cases h2
      | some o => rw [ho] at h2; exact h (k + d) o (by omega) (by omega) ho h2 h1
theorem curU_same {S S' : List Nat} (t : Nat) : ∀ k, (∀ j o, j < k → is[j]? = some o → o.dst = some t → (j ∈ S ↔ j ∈ S')) → curU is F V S t k = curU is F V S' t k
  | 0, _ => rfl
  | k + 1, h => by
    simp only [curU]
    rw [curU_same t k fun j o hj => h j o (by omega)]
    cases ho : is[k]? with
    | none => simp
    | some o =>
      simp only [Option.bind_some]
      by_cases hd : o.dst = some t
      · have := h k o (by omega) ho hd
        by_cases hk : k ∈ S
        · rw [if_pos ⟨hk, hd⟩, if_pos ⟨this.1 hk, hd⟩]
        · rw [if_neg (fun e => hk e.1), if_neg (fun e => hk (this.2 e.1))]
      · rw [if_neg (fun e => hd e.2), if_neg (fun e => hd e.2)]

def MakeAt (is : List IOper) (B0 : Nat) (F : Nat → Fr) (M : Nat → Mem) (j : Nat) (B : Blk) : Prop :=
  ∃ o op, is[j]? = some o ∧ o.op = .val op ∧ srt op = 1 ∧ wantedE (F j) o.guard = some true ∧ M (j + 1) = ⟨(M j).next, (M j).tbl.set (B0 + j) B⟩
theorem set_get (m : Mem) (k : Nat) (B : Blk) (b : Nat) : (⟨m.next, m.tbl.set k B⟩ : Mem).get b = if b = k then B else m.get b := by
  unfold Mem.get; simp only [Tr.get_set]; split <;> rfl
theorem MakeAt.get {j : Nat} {B : Blk} (h : MakeAt is B0 F M j B) : (M (j + 1)).get (B0 + j) = B := by
  obtain ⟨_, _, _, _, _, _, h⟩ := h
  rw [h, set_get, if_pos rfl]
theorem MakeAt.uniq {j : Nat} {B B' : Blk} (h : MakeAt is B0 F M j B) (h' : MakeAt is B0 F M j B') : B = B' := h.get.symm.trans h'.get
theorem MakeAt.no {j : Nat} {B : Blk} (h : MakeAt is B0 F M j B) {o : IOper} (ho : is[j]? = some o) (ha : Acts o (F j)) : False := by
  obtain ⟨o', op, h1, h2, h3, _⟩ := h
  rw [ho] at h1; cases h1
  have := ha.2
  rw [h2] at this
  simp only [sort] at this
  omega
theorem plain_step (C : Cx P G n call ops is chk B0 F M V) {k : Nat} {o : IOper} (ho : is[k]? = some o) (hna : ¬ Acts o (F k)) : (M (k + 1) = M k ∧ ∀ B, ¬ MakeAt is B0 F M k B) ∨ ∃ B, MakeAt is B0 F M k B := by
  obtain ⟨hat, _⟩ := C.at_ k o ho
  cases hat with
  | skip hw _ hm => exact .inl ⟨hm, fun B ⟨o', op, h1, h2, h3, h4, _⟩ => by rw [ho] at h1; cases h1; rw [hw] at h4; cases h4⟩
  | pure op m1 hw hop hs _ hm => exact .inl ⟨hm, fun B ⟨o', op', h1, h2, h3, h4, _⟩ => by rw [ho] at h1; cases h1; rw [hop] at h2; cases h2; omega⟩
  | load agg a hw hop _ hm => exact .inl ⟨hm, fun B ⟨o', op', h1, h2, h3, h4, _⟩ => by rw [ho] at h1; cases h1; rw [hop] at h2; cases h2; simp [srt] at h3⟩
  | make op m1 hw hop hs h hm =>
    obtain ⟨B, mk, _, h2, _⟩ := make_any hs h
    exact .inr ⟨B, o, op, ho, hop, hs, hw, by rw [hm, h2]; rfl⟩
  | act op hw hop hs h => exact absurd ⟨hw, by rw [hop]; exact hs⟩ hna
  | call f args hw hop h => exact absurd ⟨hw, by rw [hop]; simp [sort]⟩ hna
theorem seg (C : Cx P G n call ops is chk B0 F M V) (K : Nat) : ∀ i, K ≤ i → i ≤ is.length → (∀ e o, K ≤ e → e < i → is[e]? = some o → ¬ Acts o (F e)) →
    (M i).next = (M K).next ∧ ∀ b, (∃ j B, K ≤ j ∧ j < i ∧ MakeAt is B0 F M j B ∧ b = B0 + j ∧ (M i).get b = B) ∨ ((∀ j B, K ≤ j → j < i → MakeAt is B0 F M j B → b ≠ B0 + j) ∧ (M i).get b = (M K).get b) := by
  intro i
  induction i with
  | zero => intro h _ _; obtain rfl : K = 0 := (by omega); exact ⟨rfl, fun b => .inr ⟨fun j B h1 h2 => absurd h2 (by omega), rfl⟩⟩
  | succ i ih =>
    intro h1 h2 h3
    by_cases hK : K = i + 1
    · subst hK; exact ⟨rfl, fun b => .inr ⟨fun j B h1 h2 => absurd h2 (by omega), rfl⟩⟩
    · obtain ⟨hn, hb⟩ := ih (by omega) (by omega) (fun e o he he2 => h3 e o he (by omega))
      have hlt : i < is.length := by omega
      have ho : is[i]? = some is[i] := List.getElem?_eq_getElem hlt
      rcases plain_step C ho (h3 i _ (by omega) (by omega) ho) with ⟨e, hno⟩ | ⟨B, hB⟩
      · rw [e]
        refine ⟨hn, fun b => ?_⟩
        rcases hb b with ⟨j, B, q1, q2, q3, q4, q5⟩ | ⟨q1, q2⟩
        · exact .inl ⟨j, B, q1, by omega, q3, q4, q5⟩
        · refine .inr ⟨fun j B j1 j2 hj => ?_, q2⟩
          by_cases hji : j < i
          · exact q1 j B j1 hji hj
          · obtain rfl : j = i := by omega
            exact absurd hj (hno B)
      · have hB' := hB
        obtain ⟨_, _, _, _, _, _, hM⟩ := hB'
        rw [hM]
        refine ⟨hn, fun b => ?_⟩
        rw [set_get]
        by_cases hbi : b = B0 + i
        · exact .inl ⟨i, B, by omega, by omega, hB, hbi, by rw [if_pos hbi]⟩
        · rw [if_neg hbi]
          rcases hb b with ⟨j, B', q1, q2, q3, q4, q5⟩ | ⟨q1, q2⟩
          · exact .inl ⟨j, B', q1, by omega, q3, q4, q5⟩
          · refine .inr ⟨fun j B' j1 j2 hj => ?_, q2⟩
            by_cases hji : j < i
            · exact q1 j B' j1 hji hj
            · obtain rfl : j = i := by omega
              exact hbi

structure Inv (n : Nat) (ops : Array Oper) (is : List IOper) (B0 : Nat) (F : Nat → Fr) (M : Nat → Mem) (V : Nat → EV) (base : Nat) (ρ0 : Ren) (m0 : Mem) (w0 : World) (S : List Nat) (K : Nat) (ρ : Ren) (Mm : Mem) (frS : Fr) (a : Act) (w : World) : Prop where
  b0 : m0.next = B0
  sub : ∀ i, i ∈ S → i < is.length
  bef : ∀ j, j ∈ S → ∀ i, i ∈ (befores ops.toList []).getD j [] → i ∈ S
  acts : ∀ (e : Nat) (o : IOper), is[e]? = some o → Acts o (F e) → (e ∈ S ↔ e < K)
  last : K = 0 ∨ ∃ e o, K = e + 1 ∧ is[e]? = some o ∧ Acts o (F e)
  hR : R base ρ Mm w
  nx : Mm.next = (M K).next
  nxN : B0 + is.length ≤ (M K).next
  get1 : ∀ (j : Nat) (B : Blk), MakeAt is B0 F M j B → j ∈ S → K ≤ j → Mm.get (B0 + j) = B
  get2 : ∀ b, (∀ (j : Nat) (B : Blk), MakeAt is B0 F M j B → j ∈ S → K ≤ j → b ≠ B0 + j) → Mm.get b = (M K).get b
  un : ∀ j, j < is.length → ρ (B0 + j) ≠ none → j ∈ S
  late : ∀ (j : Nat) (B : Blk), MakeAt is B0 F M j B → j < K → j ∉ S → (M K).get (B0 + j) = B
  dd : ∀ j, K ≤ j → j < is.length → (M K).get (B0 + j) = .dead
  st : Step ρ0 m0 w0 ρ Mm w
  fr : FrR ρ n frS a
  cur : ∀ t, frS.get t = curU is F V S t is.length
  df : frS.defers = (F 0).defers

section
variable {base : Nat} {ρ0 ρ : Ren} {m0 Mm : Mem} {w0 w : World} {S : List Nat} {K : Nat} {frS : Fr} {a : Act}

theorem Inv.kN (I : Inv n ops is B0 F M V base ρ0 m0 w0 S K ρ Mm frS a w) : K ≤ is.length := by
  rcases I.last with h | ⟨e, o, h, ho, _⟩
  · omega
  · have := (List.getElem?_eq_some_iff.1 ho).1; omega
theorem MakeAt.lt {j : Nat} {B : Blk} (h : MakeAt is B0 F M j B) : j < is.length := by
  obtain ⟨o, _, ho, _⟩ := h
  exact (List.getElem?_eq_some_iff.1 ho).1
theorem Inv.wk (C : Cx P G n call ops is chk B0 F M V) (I : Inv n ops is B0 F M V base ρ0 m0 w0 S K ρ Mm frS a w) {i : Nat} (h1 : K ≤ i) (h2 : i ≤ is.length) (h3 : ∀ e o, K ≤ e → e < i → is[e]? = some o → ¬ Acts o (F e)) :
    (M i).next = (M K).next ∧ (∀ b L, ρ b = some L → (M i).get b = Mm.get b ∨ (M i).get b = .dead) ∧ (∀ b, (∀ j, j < is.length → b ≠ B0 + j) → (M i).get b = Mm.get b) ∧
      (∀ j, i ≤ j → j < is.length → (M i).get (B0 + j) = .dead) ∧ (∀ j B, MakeAt is B0 F M j B → j < i → j ∉ S → (M i).get (B0 + j) = B) := by
  obtain ⟨hn, hb⟩ := seg C K i h1 h2 h3
  refine ⟨hn, fun b L hL => ?_, fun b hno => ?_, fun j j1 j2 => ?_, fun j B hj j1 j2 => ?_⟩
  · rcases hb b with ⟨j, B, q1, q2, q3, q4, q5⟩ | ⟨q1, q2⟩
    · left
      rw [q5, q4]
      exact (I.get1 j B q3 (I.un j q3.lt (by rw [← q4, hL]; simp)) q1).symm
    · by_cases hp : ∃ j B, MakeAt is B0 F M j B ∧ j ∈ S ∧ K ≤ j ∧ b = B0 + j
      · obtain ⟨j, B, p1, p2, p3, p4⟩ := hp
        right
        rw [q2, p4]
        exact I.dd j p3 p1.lt
      · left
        rw [q2]
        exact (I.get2 b fun j B p1 p2 p3 p4 => hp ⟨j, B, p1, p2, p3, p4⟩).symm
  · rcases hb b with ⟨j, B, q1, q2, q3, q4, q5⟩ | ⟨q1, q2⟩
    · exact absurd q4 (hno j q3.lt)
    · rw [q2]
      exact (I.get2 b fun j B p1 _ _ => hno j p1.lt).symm
  · rcases hb (B0 + j) with ⟨j', B, q1, q2, q3, q4, q5⟩ | ⟨q1, q2⟩
    · omega
    · rw [q2]; exact I.dd j (by omega) j2
  · rcases hb (B0 + j) with ⟨j', B', q1, q2, q3, q4, q5⟩ | ⟨q1, q2⟩
    · have : j = j' := by omega
      subst this
      rw [q5]; exact q3.uniq hj
    · rw [q2]
      by_cases hjK : j < K
      · exact I.late j B hj hjK j2
      · exact absurd rfl (q1 j B (by omega) j1 hj)

theorem Inv.val (C : Cx P G n call ops is chk B0 F M V) (I : Inv n ops is B0 F M V base ρ0 m0 w0 S K ρ Mm frS a w) {i : Nat} {o : IOper} (ho : is[i]? = some o) (hi : i ∉ S) (hb : ∀ j, j ∈ (befores ops.toList []).getD i [] → j ∈ S) :
    ∀ t, t ∈ named o → frS.get t = (F i).get t := by
  intro t ht
  have hlt := (List.getElem?_eq_some_iff.1 ho).1
  rw [I.cur t, show is.length = i + (is.length - i) by omega, curU_stop S t _ i, curU_text C S t i (by omega)]
  · intro j q hj hq hd
    apply Classical.byContradiction
    intro hjS
    exact (C.open_ j i q o hj hq ho (fun h => hjS (hb j h))).2.1 t hd ht
  · intro j q h1 h2 hq hd hjS
    by_cases e : j = i
    · subst e; exact hi hjS
    · exact (C.open_ i j o q (by omega) ho hq (fun h => hi (I.bef j hjS i h))).2.2.1 t hd ht
theorem eval_eq {f g : Fr} {o : IOper} (h : ∀ t, t ∈ named o → f.get t = g.get t) : ∀ x, x ∈ xopds o.op → f.eval x = g.eval x := by
  intro x hx
  cases x with
  | const v => rfl
  | tmp t => exact h t (named_opd hx t rfl)
theorem wanted_same {f g : Fr} {o : IOper} (h : ∀ t, t ∈ named o → f.get t = g.get t) : wantedE f o.guard = wantedE g o.guard := by
  cases hg : o.guard with
  | none => rfl
  | some p =>
    obtain ⟨t, b⟩ := p
    simp only [wantedE, h t (named_guard hg)]
theorem Inv.cur_put (C : Cx P G n call ops is chk B0 F M V) (I : Inv n ops is B0 F M V base ρ0 m0 w0 S K ρ Mm frS a w) {i : Nat} {o : IOper} (ho : is[i]? = some o) (hi : i ∉ S) :
    ∀ t, (frS.put o.dst (V i)).get t = curU is F V (i :: S) t is.length := by
  intro t
  have hlt := (List.getElem?_eq_some_iff.1 ho).1
  by_cases hd : o.dst = some t
  · rw [hd, show is.length = (i + 1) + (is.length - (i + 1)) by omega, curU_stop (i :: S) t _ (i + 1)]
    · simp only [curU, ho, Option.bind_some]
      rw [if_pos ⟨by simp, hd⟩]
      simp only [Fr.put, Fr.get_set, if_true]
    · intro j q h1 h2 hq hdq hj
      rcases List.mem_cons.1 hj with e | hjS
      · omega
      · exact (C.open_ i j o q (by omega) ho hq (fun h => hi (I.bef j hjS i h))).2.1 t hd (named_dst hdq)
  · have : (frS.put o.dst (V i)).get t = frS.get t := by
      cases hdd : o.dst with
      | none => rfl
      | some u =>
        simp only [Fr.put, Fr.get_set]
        rw [if_neg]
        intro e; subst e; exact hd hdd
    rw [this, I.cur t]
    refine curU_same t _ fun j q hj hq hdq => ?_
    constructor
    · intro h; exact List.mem_cons_of_mem _ h
    · intro h
      rcases List.mem_cons.1 h with e | h
      · subst e; rw [ho] at hq; cases hq; exact absurd hdq hd
      · exact h
theorem Inv.idle (C : Cx P G n call ops is chk B0 F M V) (I : Inv n ops is B0 F M V base ρ0 m0 w0 S K ρ Mm frS a w) {i : Nat} {o : IOper} (ho : is[i]? = some o) (hi : i ∉ S) (hb : ∀ j, j ∈ (befores ops.toList []).getD i [] → j ∈ S)
    (hna : ¬ Acts o (F i)) (hnm : ∀ B, ¬ MakeAt is B0 F M i B) {ρ1 : Ren} {w1 : World} {a1 : Act} (hR1 : R base ρ1 Mm w1) (hs : Step ρ Mm w ρ1 Mm w1) (hF : FrR ρ1 n (frS.put o.dst (V i)) a1) :
    Inv n ops is B0 F M V base ρ0 m0 w0 (i :: S) K ρ1 Mm (frS.put o.dst (V i)) a1 w1 := by
  have hlt := (List.getElem?_eq_some_iff.1 ho).1
  refine ⟨I.b0, ?_, ?_, ?_, I.last, hR1, I.nx, I.nxN, ?_, ?_, ?_, ?_, I.dd, I.st.trans hs, hF, I.cur_put C ho hi, by rw [put_defers]; exact I.df⟩
  · intro j hj
    rcases List.mem_cons.1 hj with e | hj
    · rw [e]; exact hlt
    · exact I.sub j hj
  · intro j hj k hk
    rcases List.mem_cons.1 hj with e | hj
    · rw [e] at hk; exact List.mem_cons_of_mem _ (hb k hk)
    · exact List.mem_cons_of_mem _ (I.bef j hj k hk)
  · intro e q hq hA
    rw [← I.acts e q hq hA]
    constructor
    · intro h
      rcases List.mem_cons.1 h with e1 | h
      · subst e1; rw [ho] at hq; cases hq; exact absurd hA hna
      · exact h
    · exact List.mem_cons_of_mem _
  · intro j B hj hjS hK
    rcases List.mem_cons.1 hjS with e | h
    · rw [e] at hj; exact absurd hj (hnm B)
    · exact I.get1 j B hj h hK
  · intro b hno
    exact I.get2 b fun j B h1 h2 h3 => hno j B h1 (List.mem_cons_of_mem _ h2) h3
  · intro j hj h1
    refine List.mem_cons_of_mem _ (I.un j hj ?_)
    intro h0
    have := hs.new _ h0 h1
    have := I.nx; have := I.nxN
    omega
  · intro j B hj h1 h2
    exact I.late j B hj h1 fun h => h2 (List.mem_cons_of_mem _ h)
theorem Inv.make (C : Cx P G n call ops is chk B0 F M V) (I : Inv n ops is B0 F M V base ρ0 m0 w0 S K ρ Mm frS a w) {i : Nat} {o : IOper} (ho : is[i]? = some o) (hi : i ∉ S) (hb : ∀ j, j ∈ (befores ops.toList []).getD i [] → j ∈ S)
    {B : Blk} (hm : MakeAt is B0 F M i B) {ρ1 : Ren} {w1 : World} {a1 : Act} (hM : Made base ρ ⟨B0 + i, Mm.tbl⟩ w ρ1 B w1) (hF : FrR ρ1 n (frS.put o.dst (V i)) a1) :
    Inv n ops is B0 F M V base ρ0 m0 w0 (i :: S) K ρ1 ⟨Mm.next, Mm.tbl.set (B0 + i) B⟩ (frS.put o.dst (V i)) a1 w1 := by
  have hlt := (List.getElem?_eq_some_iff.1 ho).1
  obtain ⟨hR1, hs⟩ := make_over I.hR I.st (by have := I.b0; omega) (by have := I.nx; have := I.nxN; omega) hM
  refine ⟨I.b0, ?_, ?_, ?_, I.last, hR1, I.nx, I.nxN, ?_, ?_, ?_, ?_, I.dd, hs, hF, I.cur_put C ho hi, by rw [put_defers]; exact I.df⟩
  · intro j hj
    rcases List.mem_cons.1 hj with e | hj
    · rw [e]; exact hlt
    · exact I.sub j hj
  · intro j hj k hk
    rcases List.mem_cons.1 hj with e | hj
    · rw [e] at hk; exact List.mem_cons_of_mem _ (hb k hk)
    · exact List.mem_cons_of_mem _ (I.bef j hj k hk)
  · intro e q hq hA
    rw [← I.acts e q hq hA]
    constructor
    · intro h
      rcases List.mem_cons.1 h with e1 | h
      · subst e1; exact (hm.no hq hA).elim
      · exact h
    · exact List.mem_cons_of_mem _
  · intro j B' hj hjS hK
    rw [set_get]
    by_cases e : j = i
    · subst e; rw [if_pos rfl]; exact hm.uniq hj
    · rw [if_neg (by omega)]
      rcases List.mem_cons.1 hjS with h | h
      · exact absurd h e
      · exact I.get1 j B' hj h hK
  · intro b hno
    rw [set_get]
    by_cases e : b = B0 + i
    · rw [if_pos e]
      have hiK : i < K := by
        apply Classical.byContradiction
        intro h
        exact hno i B hm (by simp) (by omega) e
      rw [e]
      exact (I.late i B hm hiK hi).symm
    · rw [if_neg e]
      exact I.get2 b fun j B h1 h2 h3 => hno j B h1 (List.mem_cons_of_mem _ h2) h3
  · intro j hj h1
    by_cases e : j = i
    · rw [e]; simp
    · refine List.mem_cons_of_mem _ (I.un j hj ?_)
      rw [← hM.dom (B0 + j) (show B0 + j ≠ B0 + i by omega)]
      exact h1
  · intro j B' hj h1 h2
    exact I.late j B' hj h1 fun h => h2 (List.mem_cons_of_mem _ h)
theorem Inv.next (C : Cx P G n call ops is chk B0 F M V) (I : Inv n ops is B0 F M V base ρ0 m0 w0 S K ρ Mm frS a w) {i : Nat} {o : IOper} (ho : is[i]? = some o) (hi : i ∉ S) (hb : ∀ j, j ∈ (befores ops.toList []).getD i [] → j ∈ S)
    (hA : Acts o (F i)) : K ≤ i ∧ ∀ e q, K ≤ e → e < i → is[e]? = some q → ¬ Acts q (F e) := by
  have hKi : K ≤ i := by
    apply Classical.byContradiction
    intro h
    exact hi ((I.acts i o ho hA).2 (by omega))
  refine ⟨hKi, fun e q h1 h2 hq hAe => ?_⟩
  have heS : e ∈ S := by
    apply Classical.byContradiction
    intro heS
    have := (C.open_ e i q o h2 hq ho (fun h => heS (hb e h))).1
    exact this ⟨Nat.le_antisymm (sort_le _) hAe.2, Nat.le_antisymm (sort_le _) hA.2⟩
  have := (I.acts e q hq hAe).1 heS
  omega
theorem Inv.text (C : Cx P G n call ops is chk B0 F M V) (I : Inv n ops is B0 F M V base ρ0 m0 w0 S K ρ Mm frS a w) {i : Nat} (h1 : K ≤ i) (h2 : i ≤ is.length) (h3 : ∀ e o, K ≤ e → e < i → is[e]? = some o → ¬ Acts o (F e)) :
    R base ρ (M i) w := by
  obtain ⟨k1, k2, k3, k4, k5⟩ := I.wk C h1 h2 h3
  refine I.hR.weaken (fun b L hb => ?_) k2 (fun b hb => ?_)
  · rw [k1, ← I.nx]; exact I.hR.lt b L hb
  · rw [k1] at hb
    rw [k3 b (fun j hj => by have := I.nxN; omega)]
    exact I.hR.clean b (by rw [I.nx]; exact hb)
theorem Inv.act (C : Cx P G n call ops is chk B0 F M V) (I : Inv n ops is B0 F M V base ρ0 m0 w0 S K ρ Mm frS a w) {i : Nat} {o : IOper} (ho : is[i]? = some o) (hi : i ∉ S) (hb : ∀ j, j ∈ (befores ops.toList []).getD i [] → j ∈ S)
    (hA : Acts o (F i)) {ρ1 : Ren} {w1 : World} {a1 : Act} (hR1 : R base ρ1 (M (i + 1)) w1) (hs : Step ρ (M i) w ρ1 (M (i + 1)) w1) (hF : FrR ρ1 n (frS.put o.dst (V i)) a1) :
    ∃ M2, Inv n ops is B0 F M V base ρ0 m0 w0 (i :: S) (i + 1) ρ1 M2 (frS.put o.dst (V i)) a1 w1 := by
  have hlt := (List.getElem?_eq_some_iff.1 ho).1
  obtain ⟨hKi, hno⟩ := I.next C ho hi hb hA
  obtain ⟨k1, k2, k3, k4, k5⟩ := I.wk C hKi (Nat.le_of_lt hlt) hno
  have hb0 := I.b0
  have hnx := I.nx
  have hnxN := I.nxN
  have hnext := hs.next
  let l := (S.filter fun j => decide (i < j)).map fun j => B0 + j
  have hl : ∀ b, b ∈ l ↔ ∃ j, j ∈ S ∧ i < j ∧ b = B0 + j := by
    intro b
    simp only [l, List.mem_map, List.mem_filter, decide_eq_true_eq]
    constructor
    · rintro ⟨j, ⟨h1, h2⟩, h3⟩; exact ⟨j, h1, h2, h3.symm⟩
    · rintro ⟨j, h1, h2, h3⟩; exact ⟨j, ⟨h1, h2⟩, h3.symm⟩
  obtain ⟨M2, m1, m2⟩ := over (M (i + 1)) Mm.get l
  have hrest : R base ρ1 M2 w1 ∧ Step ρ0 m0 w0 ρ1 M2 w1 := by
    refine act_over l I.hR I.st hR1 hs (fun b hbl => ?_) (fun b L hL _ => k2 b L hL) (fun b hbl => ?_) (by omega) m1 m2
    · obtain ⟨j, j1, j2, rfl⟩ := (hl b).1 hbl
      have := I.sub j j1
      exact ⟨by omega, by omega, k4 j (by omega) this⟩
    · exact k3 b fun j hj => by omega
  refine ⟨M2, I.b0, ?_, ?_, ?_, .inr ⟨i, o, rfl, ho, hA⟩, hrest.1, m1, by omega, ?_, ?_, ?_, ?_, ?_, hrest.2, hF, I.cur_put C ho hi, by rw [put_defers]; exact I.df⟩
  · intro j hj
    rcases List.mem_cons.1 hj with e | hj
    · rw [e]; exact hlt
    · exact I.sub j hj
  · intro j hj k hk
    rcases List.mem_cons.1 hj with e | hj
    · rw [e] at hk; exact List.mem_cons_of_mem _ (hb k hk)
    · exact List.mem_cons_of_mem _ (I.bef j hj k hk)
  · intro e q hq hAe
    constructor
    · intro h
      rcases List.mem_cons.1 h with e1 | h
      · omega
      · have := (I.acts e q hq hAe).1 h; omega
    · intro h
      by_cases e1 : e = i
      · rw [e1]; simp
      · refine List.mem_cons_of_mem _ ((I.acts e q hq hAe).2 ?_)
        apply Classical.byContradiction
        intro h2
        exact hno e q (by omega) (by omega) hq hAe
  · intro j B hj hjS hK
    rcases List.mem_cons.1 hjS with e | h
    · omega
    · rw [m2, if_pos ((hl _).2 ⟨j, h, by omega, rfl⟩)]
      exact I.get1 j B hj h (by omega)
  · intro b hnob
    rw [m2]
    split
    · rename_i hbl
      obtain ⟨j, j1, j2, rfl⟩ := (hl b).1 hbl
      have hjN := I.sub j j1
      rw [hs.dead (B0 + j) (by omega) (k4 j (by omega) hjN), I.get2 (B0 + j) ?_]
      · exact I.dd j (by omega) hjN
      · intro j' B h1 h2 h3 h4
        have : j = j' := by omega
        subst this
        exact hnob j B h1 (List.mem_cons_of_mem _ h2) (by omega) rfl
    · rfl
  · intro j hj h1
    refine List.mem_cons_of_mem _ (I.un j hj ?_)
    intro h0
    have := hs.new _ h0 h1
    omega
  · intro j B hj h1 h2
    have hjS : j ∉ S := fun h => h2 (List.mem_cons_of_mem _ h)
    have hji : j ≠ i := fun e => h2 (by rw [e]; simp)
    have hjN := hj.lt
    have hρ : ρ (B0 + j) = none := by
      cases e : ρ (B0 + j) with
      | none => rfl
      | some L => exact absurd (I.un j hjN (by rw [e]; simp)) hjS
    rw [hs.same (B0 + j) (by omega) hρ]
    exact k5 j B hj (by omega) hjS
  · intro j h1 h2
    exact hs.dead (B0 + j) (by omega) (k4 j (by omega) h2)
theorem Inv.load (C : Cx P G n call ops is chk B0 F M V) (I : Inv n ops is B0 F M V base ρ0 m0 w0 S K ρ Mm frS a w) {i : Nat} {o : IOper} (ho : is[i]? = some o) (hi : i ∉ S) (hb : ∀ j, j ∈ (befores ops.toList []).getD i [] → j ∈ S)
    {agg : Option Nat} {x : Opd} (hL : Loads o (F i) agg x) (h : (M i).load agg ((F i).eval x) = some (V i)) {x' : Value} (hv : VR ρ ((F i).eval x) x') : Mm.load agg ((F i).eval x) = some (V i) := by
  have hlt := (List.getElem?_eq_some_iff.1 ho).1
  have hso : sort o.op = 2 := by rw [hL.2.1]; rfl
  -- a place in the text's order from which no act parts us
  have hex : ∃ k, K ≤ k ∧ k ≤ is.length ∧ (∀ e q, K ≤ e → e < k → is[e]? = some q → ¬ Acts q (F e)) ∧ (M k).load agg ((F i).eval x) = some (V i) := by
    by_cases hKi : K ≤ i
    · by_cases hact : ∃ e, K ≤ e ∧ e < i ∧ ∃ q, is[e]? = some q ∧ Acts q (F e)
      · -- the first of them
        obtain ⟨e, ⟨he1, he2, q, hq, hAe⟩, hmin⟩ : ∃ e, (K ≤ e ∧ e < i ∧ ∃ q, is[e]? = some q ∧ Acts q (F e)) ∧ ∀ e', e' < e → ¬ (K ≤ e' ∧ e' < i ∧ ∃ q, is[e']? = some q ∧ Acts q (F e')) := by
          obtain ⟨e, he⟩ := hact
          induction e using Nat.strongRecOn with
          | _ e ih =>
            by_cases h : ∃ e', e' < e ∧ (K ≤ e' ∧ e' < i ∧ ∃ q, is[e']? = some q ∧ Acts q (F e'))
            · obtain ⟨e', h1, h2⟩ := h; exact ih e' h1 h2
            · exact ⟨e, he, fun e' h1 h2 => h ⟨e', h1, h2⟩⟩
        have heS : e ∉ S := fun hh => by have := (I.acts e q hq hAe).1 hh; omega
        have hp := (C.open_ e i q o he2 hq ho (fun hh => heS (hb e hh))).2.2.2.2 (Nat.le_antisymm (sort_le _) hAe.2) hso
        have := (C.c1 i o agg x e q ho hq hL hAe hp).1 he2
        exact ⟨e, he1, by omega, fun e' q' h1 h2 hq' hA' => hmin e' h2 ⟨h1, by omega, q', hq', hA'⟩, stands_of this⟩
      · exact ⟨i, hKi, by omega, fun e q h1 h2 hq hA => hact ⟨e, h1, h2, q, hq, hA⟩, h⟩
    · rcases I.last with h0 | ⟨e, q, hK, hq, hAe⟩
      · omega
      · have heS : e ∈ S := (I.acts e q hq hAe).2 (by omega)
        have hie : i ≠ e := fun h => hi (h ▸ heS)
        have hp := (C.open_ i e o q (by omega) ho hq (fun hh => hi (I.bef e heS i hh))).2.2.2.1 hso (Nat.le_antisymm (sort_le _) hAe.2)
        have := (C.c1 i o agg x e q ho hq hL hAe hp).2 (by omega)
        refine ⟨K, Nat.le_refl _, I.kN, fun e' q' h1 h2 => absurd h2 (by omega), ?_⟩
        rw [hK]; exact stands_of this
  obtain ⟨k, h1, h2, h3, h4⟩ := hex
  obtain ⟨_, k2, _, _, _⟩ := I.wk C h1 h2 h3
  obtain ⟨b, off, hx, hd⟩ := load_ptr hL.2.2 h4
  rw [hx] at hv h4 ⊢
  cases hv with
  | ptr hL =>
  rcases k2 b _ hL with e | e
  · rw [← load_get e]; exact h4
  · exact absurd e hd
theorem draws (hcall : CallOk P G call) (C : Cx P G n call ops is chk B0 F M V) (hG : Globs G ρ0) : ∀ (l S : List Nat) (K : Nat) (ρ : Ren) (Mm : Mem) (frS : Fr) (a : Act) (w : World), Inv n ops is B0 F M V base ρ0 m0 w0 S K ρ Mm frS a w →
    (∀ (k i : Nat), l[k]? = some i → i < is.length ∧ i ∉ S ∧ i ∉ l.take k ∧ ∀ b, b ∈ (befores ops.toList []).getD i [] → b ∈ S ∨ b ∈ l.take k) → (∀ i, i < is.length → i ∈ S ∨ i ∈ l) →
    wpOps P ops (Reach base n ρ0 m0 w0 (.norm (F is.length) (M is.length))) l a w := by
  intro l
  induction l with
  | nil =>
    intro S K ρ Mm frS a w I hl hall
    have hS : ∀ i, i < is.length → i ∈ S := fun i hi => by rcases hall i hi with h | h; exact h; cases h
    obtain ⟨k1, k2, k3, k4, k5⟩ := I.wk C I.kN (Nat.le_refl _) (fun e q h1 h2 hq hA => by have := (I.acts e q hq hA).1 (hS e h2); omega)
    obtain ⟨_, hb⟩ := seg C K is.length I.kN (Nat.le_refl _) (fun e q h1 h2 hq hA => by have := (I.acts e q hq hA).1 (hS e h2); omega)
    have hg : ∀ b, (M is.length).get b = Mm.get b := by
      intro b
      rcases hb b with ⟨j, B, q1, q2, q3, q4, q5⟩ | ⟨q1, q2⟩
      · rw [q5, q4]; exact (I.get1 j B q3 (hS j q2) q1).symm
      · rw [q2]; exact (I.get2 b fun j B p1 p2 p3 p4 => q1 j B p3 p1.lt p1 p4).symm
    have hnx : (M is.length).next = Mm.next := by rw [k1, I.nx]
    have hdef : ∀ k, k ≤ is.length → (F k).defers = (F 0).defers := by
      intro k
      induction k with
      | zero => intro _; rfl
      | succ k ih =>
        intro hk
        have hlt : k < is.length := by omega
        obtain ⟨_, hF⟩ := C.at_ k is[k] (List.getElem?_eq_getElem hlt)
        rw [hF, put_defers]; exact ih (by omega)
    refine ⟨rfl, ρ, I.hR.congr hnx hg, I.st.congr hnx hg, ⟨⟨I.fr.tm.size, fun t => ?_⟩, ?_⟩⟩
    · have := I.fr.tm.tmp t
      rw [I.cur t, curU_text C S t is.length (Nat.le_refl _) (fun j o hj _ _ => hS j hj)] at this
      exact this
    · rw [hdef _ (Nat.le_refl _), ← I.df]; exact I.fr.defs
  | cons i l ih =>
    intro S K ρ Mm frS a w I hl hall
    obtain ⟨hlt, hi, _, hb⟩ := hl 0 i rfl
    have hb : ∀ j, j ∈ (befores ops.toList []).getD i [] → j ∈ S := fun j hj => by
      rcases hb j hj with h | h
      · exact h
      · simp at h
    have hio : is[i]? = some is[i] := List.getElem?_eq_getElem hlt
    generalize is[i] = io at hio
    have next : ∀ {K1 : Nat} {ρ1 : Ren} {M1 : Mem} {fr1 : Fr} {a1 : Act} {w1 : World}, Inv n ops is B0 F M V base ρ0 m0 w0 (i :: S) K1 ρ1 M1 fr1 a1 w1 → wpOps P ops (Reach base n ρ0 m0 w0 (.norm (F is.length) (M is.length))) l a1 w1 := by
      intro K1 ρ1 M1 fr1 a1 w1 I1
      refine ih (i :: S) K1 ρ1 M1 fr1 a1 w1 I1 (fun k j hj => ?_) (fun j hj => ?_)
      · obtain ⟨g1, g2, g3, g4⟩ := hl (k + 1) j (by simpa using hj)
        rw [List.take_succ_cons] at g3 g4
        refine ⟨g1, ?_, fun h => g3 (List.mem_cons_of_mem _ h), fun b hb => ?_⟩
        · intro h
          rcases List.mem_cons.1 h with e | h
          · exact g3 (by rw [e]; simp)
          · exact g2 h
        · rcases g4 b hb with h | h
          · exact .inl (List.mem_cons_of_mem _ h)
          · rcases List.mem_cons.1 h with e | h
            · exact .inl (by rw [e]; simp)
            · exact .inr h
      · rcases hall j hj with h | h
        · exact .inl (List.mem_cons_of_mem _ h)
        · rcases List.mem_cons.1 h with e | h
          · exact .inl (by rw [e]; simp)
          · exact .inr h
    obtain ⟨o, ho, hc⟩ := C.comp i io hio
    obtain ⟨hx, hdst, hdlt, hgd⟩ := cOper_of hc
    obtain ⟨hat, _⟩ := C.at_ i io hio
    have hval := I.val C hio hi hb
    have hev := eval_eq hval
    have hwt := wanted_same hval
    have hGρ := hG.ext I.st.ext
    simp only [wpOps, ho]
    -- one that looks at the memory asx it is
    have still : ∀ {op : IOp}, io.op = .val op → ¬ Acts io (F i) → (∀ B, ¬ MakeAt is B0 F M i B) → evOp frS.eval op Mm = some (.val (V i) Mm) →
        o.wp P a w (wpOps P ops (Reach base n ρ0 m0 w0 (.norm (F is.length) (M is.length))) l) (Reach base n ρ0 m0 w0 (.norm (F is.length) (M is.length))) := by
      intro op hop hna hnm he
      rw [hop] at hx
      obtain ⟨ρ1, w1, v', hrun, hv, hR1, hs⟩ := op_sound (cXOp_val hx) hGρ I.hR I.fr.tm he
      have hF := (I.fr.ext hs.ext).put hdlt hv
      rw [← hdst] at hF
      have := next (I.idle C hio hi hb hna hnm hR1 hs hF)
      simp only [Oper.wp]
      rw [hdst] at this
      rcases hrun with hrun | ⟨hrun, rfl⟩
      · rw [hrun]; exact this
      · rw [hrun]; exact this
    cases hat with
    | skip hw hv hm =>
      rw [wanted_eq I.fr.tm hgd (hwt.trans hw), if_neg (by simp)]
      have hF := I.fr.put hdlt (VR.undef (ρ := ρ))
      rw [← hv, ← hdst] at hF
      have := next (I.idle C hio hi hb (fun hA => by have := hA.1; rw [hw] at this; cases this) (fun B ⟨o', op, h1, h2, h3, h4, _⟩ => by rw [hio] at h1; cases h1; rw [hw] at h4; cases h4) I.hR (.refl _ _ _) hF)
      rw [hdst] at this
      exact this
    | pure op m1 hw hop hs h hm =>
      rw [wanted_eq I.fr.tm hgd (hwt.trans hw), if_pos rfl]
      left
      refine still hop (fun hA => by have := hA.2; rw [hop] at this; simp only [sort] at this; omega) (fun B ⟨o', op', h1, h2, h3, h4, _⟩ => by rw [hio] at h1; cases h1; rw [hop] at h2; cases h2; omega) ?_
      rw [evOp_congr (g := (F i).eval) (fun x hxx => hev x (by rw [hop]; exact hxx))]
      exact (pure_any hs h).2 Mm
    | load agg x hw hop h hm =>
      rw [wanted_eq I.fr.tm hgd (hwt.trans hw), if_pos rfl]
      left
      refine still hop (fun hA => by have := hA.2; rw [hop] at this; simp [sort, srt] at this) (fun B ⟨o', op', h1, h2, h3, h4, _⟩ => by rw [hio] at h1; cases h1; rw [hop] at h2; cases h2; simp [srt] at h3) ?_
      have hxe : frS.eval x = (F i).eval x := hev x (by rw [hop]; simp [xopds, opds])
      rw [hop] at hx
      have hxv : ∃ x', VR ρ (frS.eval x) x' := by
        cases x with
        | tmp t => exact ⟨_, I.fr.tm.tmp t⟩
        | const v =>
          obtain ⟨agg', x1, x0, q1, q2⟩ := load_opd (cXOp_val hx) rfl
          cases q1
          exact ⟨_, cOpd_sound hGρ I.fr.tm q2⟩
      obtain ⟨x', hx'⟩ := hxv
      rw [hxe] at hx'
      have := I.load C hio hi hb ⟨hw, hop, by generalize (F i).eval x = y at hx'; cases hx' <;> rfl⟩ h hx'
      simp only [evOp, hxe, this, ofEV, Option.map_some]
    | make op m1 hw hop hs h hm =>
      rw [wanted_eq I.fr.tm hgd (hwt.trans hw), if_pos rfl]
      left
      rw [hop] at hx
      obtain ⟨B, mk, e1, e2, e3⟩ := make_any hs h
      have hmk : MakeAt is B0 F M i B := ⟨io, op, hio, hop, hs, hw, by rw [hm, e2]; rfl⟩
      have he : evOp frS.eval op ⟨B0 + i, Mm.tbl⟩ = some (.val (V i) ((⟨B0 + i, Mm.tbl⟩ : Mem).new B)) := by
        rw [evOp_congr (g := (F i).eval) (fun x hxx => hev x (by rw [hop]; exact hxx)), e3, e1]
      have hRN : RN base ρ ⟨B0 + i, Mm.tbl⟩ w := by
        refine ⟨?_, I.hR.blk, I.hR.inj, I.hR.base⟩
        apply Classical.byContradiction
        intro e
        exact hi (I.un i hlt e)
      obtain ⟨B', hB', ρ1, w1, v', hrun, hv, hM⟩ := make_sound (cXOp_val hx) hs hGρ hRN I.fr.tm he
      have : B' = B := by
        have h1 := congrArg (fun m : Mem => m.get (B0 + i)) hB'
        simp only [Mem.get_new, if_true] at h1
        exact h1.symm
      subst this
      have hF := (I.fr.ext hM.ext).put hdlt hv
      rw [← hdst] at hF
      have := next (I.make C hio hi hb hmk hM hF)
      rw [hdst] at this
      simp only [Oper.wp]
      rw [hrun]; exact this
    | act op hw hop hs h =>
      rw [wanted_eq I.fr.tm hgd (hwt.trans hw), if_pos rfl]
      left
      rw [hop] at hx
      have hA : Acts io (F i) := ⟨hw, by rw [hop]; exact hs⟩
      obtain ⟨hKi, hno⟩ := I.next C hio hi hb hA
      have hRi := I.text C hKi (Nat.le_of_lt hlt) hno
      rw [← evOp_congr (f := frS.eval) (fun x hxx => hev x (by rw [hop]; exact hxx))] at h
      obtain ⟨ρ1, w1, v', hrun, hv, hR1, hst⟩ := op_sound (cXOp_val hx) hGρ hRi I.fr.tm h
      have hF := (I.fr.ext hst.ext).put hdlt hv
      rw [← hdst] at hF
      obtain ⟨M2, I2⟩ := I.act C hio hi hb hA hR1 hst hF
      have := next I2
      rw [hdst] at this
      simp only [Oper.wp]
      rcases hrun with hrun | ⟨hrun, rfl⟩
      · rw [hrun]; exact this
      · rw [hrun]; exact this
    | call f args hw hop h =>
      rw [wanted_eq I.fr.tm hgd (hwt.trans hw), if_pos rfl]
      left
      rw [hop] at hx
      have hA : Acts io (F i) := ⟨hw, by rw [hop]; simp [sort]⟩
      obtain ⟨hKi, hno⟩ := I.next C hio hi hb hA
      have hRi := I.text C hKi (Nat.le_of_lt hlt) hno
      obtain ⟨f0, xs0, ts0, hoo, hf, hys⟩ := cXOp_call hx
      have hfe : frS.eval f = (F i).eval f := hev f (by rw [hop]; simp [xopds])
      have hae : args.map frS.eval = args.map (F i).eval := map_congr' fun x hxx => hev x (by rw [hop]; simp [xopds, hxx])
      rw [← hfe, ← hae] at h
      cases hfv : frS.eval f <;> simp only [hfv, evCall, reduceCtorEq] at h
      rename_i g x y
      obtain ⟨args', hrun, hv⟩ := op_call (w := w) (P := P) hoo hf hys hGρ I.fr.tm hfv
      simp only [Oper.wp]
      rw [hrun]
      rcases hcall _ _ _ _ h base ρ w args' hRi hGρ hv with ⟨h1, h2⟩ | ⟨v, v', e, h1, h2⟩
      · rw [h1]
        simp only [Oper.upon]
        refine h2.mono fun e w' hp => ?_
        obtain ⟨ρ1, v', rfl, hvv, hR1, hst⟩ := hp
        have hF := (I.fr.ext hst.ext).put hdlt hvv
        rw [← hdst] at hF
        obtain ⟨M2, I2⟩ := I.act C hio hi hb hA hR1 hst hF
        have := next I2
        rw [hdst] at this
        exact this
      · rw [h1]
        simp only [Oper.upon]
        simp only [Fin.ret.injEq] at e
        obtain ⟨rfl, e⟩ := e
        have hF := I.fr.put hdlt h2
        rw [← hdst] at hF
        obtain ⟨M2, I2⟩ := I.act C hio hi hb hA (by rw [e]; exact hRi) (by rw [e]; exact .refl _ _ _) hF
        have := next I2
        rw [hdst] at this
        exact this
end
theorem hasPair_of {i j : Nat} : ∀ {l : List (Nat × Nat)}, (i, j) ∈ l → hasPair i j l = true
  | [], h => by cases h
  | (a, b) :: l, h => by
    simp only [hasPair]
    rcases List.mem_cons.1 h with e | h
    · cases e
      simp
    · have := hasPair_of h
      cases h1 : a.beq i <;> simp only [cond_true, cond_false]
      · exact this
      · cases h2 : b.beq j <;> simp only [cond_true, cond_false]
        · exact this
theorem pairs_mem {n i j : Nat} (h : i < j) (hj : j < n) : (i, j) ∈ pairs n := by
  unfold pairs
  refine List.mem_flatMap.2 ⟨j, by simpa using hj, List.mem_map.2 ⟨i, by simpa using h, rfl⟩⟩
theorem maskOf_sub {acc : List (List Nat)} {accm : List Nat} (h : ∀ k i, (accm.getD k 0).testBit i = true → i ∈ acc.getD k []) : ∀ (es : List Edge) (i : Nat), (maskOf accm es).testBit i = true →
    i ∈ (es.filter plainEdge).flatMap fun e => e.on :: acc.getD e.on []
  | [], i, hi => by simp [maskOf] at hi
  | e :: es, i, hi => by
    simp only [maskOf] at hi
    cases hp : plainEdge e with
    | false =>
      simp only [hp, cond_false] at hi
      rw [List.filter_cons, hp]
      exact maskOf_sub h es i hi
    | true =>
      simp only [hp, cond_true, Nat.testBit_or, Bool.or_eq_true, Nat.testBit_two_pow, decide_eq_true_eq] at hi
      rw [List.filter_cons, hp]
      simp only [if_true, List.flatMap_cons, List.mem_append, List.mem_cons]
      rcases hi with (hi | hi) | hi
      · exact .inl (.inl hi.symm)
      · exact .inl (.inr (h _ _ hi))
      · exact .inr (maskOf_sub h es i hi)
theorem masks_sub : ∀ (l : List Oper) (acc : List (List Nat)) (accm : List Nat), accm.length = acc.length → (∀ k i, (accm.getD k 0).testBit i = true → i ∈ acc.getD k []) →
    ∀ k i, ((masks l accm).getD k 0).testBit i = true → i ∈ (befores l acc).getD k []
  | [], _, _, _, h => h
  | o :: l, acc, accm, hl, h => by
    refine masks_sub l _ _ (by simp [hl]) fun k i hi => ?_
    by_cases hk : k < accm.length
    · rw [List.getD_eq_getElem?_getD, List.getElem?_append_left hk, ← List.getD_eq_getElem?_getD] at hi
      rw [List.getD_eq_getElem?_getD, List.getElem?_append_left (by omega), ← List.getD_eq_getElem?_getD]
      exact h k i hi
    · rw [List.getD_eq_getElem?_getD, List.getElem?_append_right (by omega)] at hi
      rw [List.getD_eq_getElem?_getD, List.getElem?_append_right (by omega)]
      rw [hl] at hi
      cases hx : k - acc.length with
      | zero =>
        rw [hx] at hi
        simp only [List.getElem?_cons_zero, Option.getD_some] at hi ⊢
        exact maskOf_sub h _ i hi
      | succ x => rw [hx] at hi; simp at hi
theorem drawPairs_of {l : List Oper} {is : List IOper} {chk : List (Nat × Nat)} (h : drawPairs l is = some chk) : goDown l 0 = true ∧
    ∀ (i j : Nat) (io jo : IOper), i < j → is[i]? = some io → is[j]? = some jo → i ∉ (befores l []).getD j [] →
      ¬ (sort io.op = 3 ∧ sort jo.op = 3) ∧ (∀ t, io.dst = some t → t ∉ named jo) ∧ (∀ t, jo.dst = some t → t ∉ named io) ∧ (sort io.op = 2 → sort jo.op = 3 → hasPair i j chk = true) ∧ (sort io.op = 3 → sort jo.op = 2 → hasPair j i chk = true) := by
  unfold drawPairs at h
  simp only [Bool.cond_eq_ite] at h
  split at h
  · rename_i hq
    simp only [Bool.and_eq_true] at hq
    obtain ⟨h1, h2⟩ := hq
    refine ⟨h1, fun i j io jo hij hio hjo hno => ?_⟩
    have hm : (i, j) ∈ (pairs is.length).filter fun (p : Nat × Nat) => !((masks l []).getD p.2 0).testBit p.1 := by
      refine List.mem_filter.2 ⟨pairs_mem hij (List.getElem?_eq_some_iff.1 hjo).1, ?_⟩
      cases hb : ((masks l []).getD j 0).testBit i with
      | false => simp only [hb, Bool.not_false]
      | true => exact absurd (masks_sub l [] [] rfl (fun k i h => by simp at h) j i hb) hno
    have h3 := List.all_eq_true.1 h2 (i, j) hm
    simp only [hio, hjo, Option.map_some, Option.getD_some, Option.bind_some, Bool.and_eq_true] at h3
    obtain ⟨⟨h4, h5⟩, h6⟩ := h3
    simp only [Option.some.injEq] at h
    refine ⟨fun ⟨a, b⟩ => by rw [a, b] at h4; simp at h4, fun t ht => ?_, fun t ht => ?_, fun a b => ?_, fun a b => ?_⟩
    · rw [ht] at h5; simpa using h5
    · rw [ht] at h6; simpa using h6
    · rw [← h]
      refine hasPair_of (List.mem_flatMap.2 ⟨(i, j), hm, ?_⟩)
      simp [hio, hjo, a, b]
    · rw [← h]
      refine hasPair_of (List.mem_flatMap.2 ⟨(i, j), hm, ?_⟩)
      simp [hio, hjo, a, b]
  · cases h

theorem draw_sound (hmix : P.follows .mixedOrders = true) (hcall : CallOk P G call) {base id : Nat} {ops : Array Oper} {is : List IOper} {chk : List (Nat × Nat)} (his : ops.toList.mapM (cOper P G n ops) = some is)
    (hchk : drawPairs ops.toList is = some chk) {ρ : Ren} {m : Mem} {w : World} {fr : Fr} {a : Act} {out : Out} (hR : R base ρ m w) (hG : Globs G ρ) (hF : FrR ρ n fr a)
    (h : evDraw call chk m.next is 0 fr ⟨m.next + is.length, m.tbl⟩ [] [] = some out) : (Code.region id ops true).wp P (Reach base n ρ m w out) a w := by
  obtain ⟨hdown, hopen⟩ := drawPairs_of hchk
  obtain ⟨hlen, hcomp⟩ := mapM_some _ his
  have hlen : ops.size = is.length := by simpa using hlen
  obtain ⟨F, M, V, f0, m0, hout, hcan⟩ := canon_of is 0 fr _ [] [] out h
  simp only [Nat.zero_add] at hout
  subst hout
  have C : Cx P G n call ops is chk m.next F M V := by
    refine ⟨fun i io hi => ?_, fun k o hk => by simpa using hcan.at_ k o hk, fun k o agg x l q hk hl hL hA hp => ?_, hopen⟩
    · have hlt : i < ops.size := by have := (List.getElem?_eq_some_iff.1 hi).1; omega
      exact ⟨ops[i], Array.getElem?_eq_getElem hlt, hcomp i ops[i] io (by simp [hlt]) hi⟩
    · have := hcan.c1 k o agg x l q hk hl (by simpa using hL) (by simpa using hA) (by simpa using hp)
      simpa using this
  refine wp_region_draw fun t => ?_
  have q : Quiet w { w with drawn := w.drawn + 1 } := ⟨rfl, rfl, rfl, rfl⟩
  generalize { w with drawn := w.drawn + 1 } = w1 at q
  have hl := sched_listed hmix ops hdown t
  have hbl := before_listed hdown hl
  generalize Region.schedule (P.follows .mixedOrders) ops t = l at hl hbl
  have hR1 := hR.quiet q
  have hst : Step ρ m w ρ m w1 := .quiet q
  have hget : ∀ b, (M 0).get b = m.get b := fun b => by rw [m0]; rfl
  have hnext : (M 0).next = m.next + is.length := by rw [m0]
  have hR2 : R base ρ (M 0) w1 := ⟨fun b L hb => by rw [hnext]; have := hR1.lt b L hb; omega, fun b L hb => by rw [hget]; exact hR1.blk b L hb,
    fun b c L L' h1 h2 h3 h4 => hR1.inj b c L L' h1 h2 (by unfold Live at *; rwa [hget] at h3) (by unfold Live at *; rwa [hget] at h4), hR1.base, fun b hb => by rw [hget]; exact hR1.clean b (by rw [hnext] at hb; omega)⟩
  have hst2 : Step ρ m w ρ (M 0) w1 := ⟨hst.ext, hst.new, by rw [hnext]; omega, fun b hb hn => by rw [hget], fun b hb hd => by rw [hget]; exact hd, hst.size,
    fun i hi ⟨b, L, h1, h2, h3, h4⟩ => ⟨b, L, h1, by unfold Live at *; rwa [hget] at h2, h3, h4⟩, hst.kept, hst.os, hst.tape, hst.output⟩
  have hcur0 : ∀ t, ∀ k, curU is F V [] t k = (F 0).get t := by
    intro t k
    induction k with
    | zero => rfl
    | succ k ih => simp only [curU]; rw [if_neg (by simp)]; exact ih
  have I : Inv n ops is m.next F M V base ρ m w [] 0 ρ (M 0) fr a w1 := by
    refine ⟨rfl, by simp, by simp, by simp, .inl rfl, hR2, rfl, by rw [hnext]; omega, by simp, fun b _ => rfl, fun j _ hj => ?_, fun j B _ h => absurd h (by omega), fun j _ _ => ?_, hst2, hF, fun t => by rw [hcur0, f0], by rw [f0]⟩
    · exfalso
      apply hj
      cases e : ρ (m.next + j) with
      | none => rfl
      | some L => have := hR.lt _ _ e; omega
    · rw [hget]; exact hR.clean _ (by omega)
  refine draws hcall C hG l [] 0 ρ (M 0) fr a w1 I (fun k i hk => ?_) (fun i hi => .inr ((hl.all i).2 (by omega)))
  refine ⟨by have := (hl.all i).1 (List.mem_of_getElem? hk); omega, by simp, ?_, fun b hb => .inr (hbl i k hk b hb)⟩
  intro hin
  obtain ⟨k', hk'⟩ := List.mem_iff_getElem?.1 hin
  have hlt : k' < k := by have := (List.getElem?_eq_some_iff.1 hk').1; simp at this; omega
  rw [List.getElem?_take, if_pos hlt] at hk'
  have h1 := List.getElem?_eq_some_iff.1 hk
  have h2 := List.getElem?_eq_some_iff.1 hk'
  obtain ⟨g1, e1⟩ := h1
  obtain ⟨g2, e2⟩ := h2
  exact List.pairwise_iff_getElem.1 hl.nodup k' k g2 g1 hlt (by rw [e1, e2])
end
end Go.Proofs.YtblcomejcahkdaaDoor.Ev
end
