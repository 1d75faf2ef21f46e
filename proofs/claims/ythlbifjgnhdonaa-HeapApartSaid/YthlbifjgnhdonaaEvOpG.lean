/- Copy, maps, the greatest and the least: what the evaluator does, the model does. -/
import Derived.Test.YthlbifjgnhdonaaEvOpF
namespace Go.Proofs.Ythlbifjgnhdonaa.Ev
open Go
section
variable {base : Nat} {ρ : Ren} {m : Mem} {w : World} {P : Program}

theorem copy_sound (hR : R base ρ m w) {t u e : TypeId} {size : Nat} (ht : P.underlying t = some (.slice e)) (hs : cSize P e = some size) {d s : EV} {d' s' : Value} (hd : VR ρ d d') (hx : VR ρ s s') {v : EV} {m' : Mem} (h : evCopy m size d s = some (v, m')) :
    Runs P (Builtin.copy_ #[t, u] t #[d', s']) base ρ m w v m' := by
  unfold evCopy at h
  cases hd <;> simp only [reduceCtorEq] at h
  case nilslice =>
    obtain ⟨nx, hsrc, h2⟩ := Option.map_eq_some_iff.1 h
    cases h2
    obtain ⟨s1, s2, s3⟩ := source_sound (P := P) hR hx size (n := nx.1) (xs := nx.2) hsrc
    obtain ⟨vs, f1, f2, f3⟩ := s3 0 (Nat.zero_le _)
    refine ⟨ρ, w, .int .i64 0, ?_, .int _ _, hR, .refl _ _ _⟩
    unfold Builtin.copy_
    simp only [List.getElem?_toArray, List.getElem?_cons_zero, List.getElem?_cons_succ, Sem.run_bind, run_underlying ht, Result.andThen_ok, s1, run_sizeOf' hs]
    rw [show Nat.min nx.1 0 = 0 by simp]
    simp only [f1, Result.andThen_ok, Sem.run_pure, goInt]
    rfl
  case slice b off len c o L hL hc ho hr =>
    cases hsrc : m.source size s with
    | none => simp [hsrc] at h
    | some nx =>
    obtain ⟨n, xs⟩ := nx
    simp only [hsrc] at h
    obtain ⟨m1, hm1, h2⟩ := Option.map_eq_some_iff.1 h
    cases h2
    obtain ⟨s1, s2, s3⟩ := source_sound (P := P) hR hx size hsrc
    obtain ⟨vs, f1, f2, f3⟩ := s3 (min n len) (Nat.min_le_left _ _)
    obtain ⟨w', r1, r2, r3⟩ := write_sound (P := P) hR hL f2 f3 hm1
    have hst : (storeCells ⟨L.blk, o, none⟩ vs).run P w = .ok () w' := by
      rcases Nat.eq_zero_or_pos len with h0 | h0
      · have : vs = [] := by
          have := f2.length
          rw [h0] at this
          simp at this
          exact List.eq_nil_of_length_eq_zero this.symm
        subst this
        exact r1
      · rw [ho h0]; exact r1
    refine ⟨ρ, w', .int .i64 (min n len : Nat), ?_, .int _ _, r2, r3⟩
    unfold Builtin.copy_
    simp only [List.getElem?_toArray, List.getElem?_cons_zero, List.getElem?_cons_succ, Sem.run_bind, run_underlying ht, Result.andThen_ok, s1, run_sizeOf' hs]
    rw [show Nat.min n len = min n len from rfl]
    simp only [f1, Result.andThen_ok, Sem.run_pure, goInt, hst]
  case sliceE b off a =>
    cases hsrc : m.source size s with
    | none => simp [hsrc] at h
    | some nx =>
    obtain ⟨n, xs⟩ := nx
    simp only [hsrc] at h
    obtain ⟨m1, hm1, h2⟩ := Option.map_eq_some_iff.1 h
    cases h2
    obtain ⟨s1, s2, s3⟩ := source_sound (P := P) hR hx size hsrc
    obtain ⟨vs, f1, f2, f3⟩ := s3 (min n 0) (Nat.min_le_left _ _)
    obtain ⟨q1, q2⟩ := write_nil (by rw [Nat.min_zero, Nat.zero_mul, List.take_zero] at hm1; exact hm1)
    obtain ⟨r2, r3⟩ := hR.same_get q1 q2
    have hvs : vs = [] := by
      have := f2.length
      simp at this
      exact List.eq_nil_of_length_eq_zero this.symm
    subst hvs
    refine ⟨ρ, w, .int .i64 (min n 0 : Nat), ?_, .int _ _, r2, r3⟩
    unfold Builtin.copy_
    simp only [List.getElem?_toArray, List.getElem?_cons_zero, List.getElem?_cons_succ, Sem.run_bind, run_underlying ht, Result.andThen_ok, s1, run_sizeOf' hs]
    rw [show Nat.min n 0 = min n 0 from rfl]
    simp only [f1, Result.andThen_ok, Sem.run_pure, goInt, storeCells]
  case sliceC b off len c o L hL hc ho =>
    cases hsrc : m.source size s with
    | none => simp [hsrc] at h
    | some nx =>
    obtain ⟨n, xs⟩ := nx
    simp only [hsrc] at h
    obtain ⟨m1, hm1, h2⟩ := Option.map_eq_some_iff.1 h
    cases h2
    obtain ⟨s1, s2, s3⟩ := source_sound (P := P) hR hx size hsrc
    obtain ⟨vs, f1, f2, f3⟩ := s3 (min n len) (Nat.min_le_left _ _)
    obtain ⟨w', r1, r2, r3⟩ := write_sound (P := P) hR hL f2 f3 hm1
    have hst : (storeCells ⟨L.blk, o, none⟩ vs).run P w = .ok () w' := by
      rcases Nat.eq_zero_or_pos len with h0 | h0
      · have : vs = [] := by
          have := f2.length
          rw [h0] at this
          simp at this
          exact List.eq_nil_of_length_eq_zero this.symm
        subst this
        exact r1
      · rw [ho (by omega)]; exact r1
    refine ⟨ρ, w', .int .i64 (min n len : Nat), ?_, .int _ _, r2, r3⟩
    unfold Builtin.copy_
    simp only [List.getElem?_toArray, List.getElem?_cons_zero, List.getElem?_cons_succ, Sem.run_bind, run_underlying ht, Result.andThen_ok, s1, run_sizeOf' hs]
    rw [show Nat.min n len = min n len from rfl]
    simp only [f1, Result.andThen_ok, Sem.run_pure, goInt, hst]

/-! ### Maps -/
def KeyTy (P : Program) (kt : TypeId) (c : Nat) : Prop := ∃ d, P.underlying kt = some d ∧ ((c = 0 ∧ d = .bool) ∨ (c = 1 ∧ d = .string) ∨ (c = 2 ∧ ∃ k, d = .int k))
theorem cKey_sound {kt : TypeId} {c : Nat} (h : cKey P kt = some c) : KeyTy P kt c := by
  unfold cKey at h
  cases hu : P.underlying kt with
  | none => simp [hu] at h
  | some d =>
    rw [hu] at h
    refine ⟨d, hu, ?_⟩
    cases d <;> simp at h <;> subst h <;> simp
theorem checkKey_run {kt : TypeId} {c : Nat} (h : KeyTy P kt c) (b : Bool) (n : Nat) (v : Value) (w : World) : (Instr.checkKey b (n + 1) kt v).run P w = .ok () w := by
  obtain ⟨d, hu, h⟩ := h
  rcases h with ⟨_, rfl⟩ | ⟨_, rfl⟩ | ⟨_, k, rfl⟩ <;> simp [Instr.checkKey, run_underlying hu]
theorem sameInt_eq : ∀ {a b : Int}, sameInt a b = decide (a = b)
  | .ofNat a, .ofNat b => by
    simp only [sameInt]
    cases h : a.beq b with
    | true => simp [of_beq h]
    | false => have := of_beq_ff h; simp; omega
  | .negSucc a, .negSucc b => by
    simp only [sameInt]
    cases h : a.beq b with
    | true => simp [of_beq h]
    | false => have := of_beq_ff h; simp [this]
  | .ofNat a, .negSucc b => by simp [sameInt]
  | .negSucc a, .ofNat b => by simp [sameInt]
theorem kind_sort {k l : IntKind} (h : 2 + kindNo k = 2 + kindNo l) : k = l := kindNo_inj (by rw [show kindNo k = kindNo l by omega]; exact beq_self _)
/-- Keys of one sort are the same in both memories. -/
theorem key_same {kt : TypeId} {c : Nat} {d : TypeDesc} (hu : P.underlying kt = some d) (hd : (c = 0 ∧ d = .bool) ∨ (c = 1 ∧ d = .string) ∨ (c = 2 ∧ ∃ k, d = .int k)) {k l : EV} {k' l' : Value} (hk : VR ρ k k') (hl : VR ρ l l') (hki : keyIs c k = true) (hs : sortOf l = sortOf k) :
    Instr.sameNow d k' l' = some (EV.same k l) ∧ (EV.same k l = true → Instr.sameBits 10000 l' k' = true) := by
  cases hk <;> simp only [keyIs, Bool.false_eq_true] at hki
  case bool a =>
    cases hl <;> simp only [sortOf] at hs <;> (try (omega))
    · have := of_beq hki; subst this
      rcases hd with ⟨_, rfl⟩ | ⟨h, _⟩ | ⟨h, _⟩
      · exact ⟨rfl, fun h => by simp [EV.same] at h; simp [Instr.sameBits, h]⟩
      · cases h
      · cases h
  case int x a =>
    cases hl <;> simp only [sortOf] at hs <;> (try (exfalso; cases x <;> simp [kindNo] at hs; done))
    · have := of_beq hki; subst this
      obtain rfl := kind_sort hs
      rcases hd with ⟨h, _⟩ | ⟨h, _⟩ | ⟨_, kk, rfl⟩
      · cases h
      · cases h
      · refine ⟨?_, fun h => ?_⟩
        · simp only [Instr.sameNow, if_true, EV.same, beq_self, cond_true, sameInt_eq]; rfl
        · simp only [EV.same, beq_self, cond_true, sameInt_eq, decide_eq_true_eq] at h
          simp [Instr.sameBits, h]
  case str a =>
    cases hl <;> simp only [sortOf] at hs <;> (try omega)
    · have := of_beq hki; subst this
      rcases hd with ⟨h, _⟩ | ⟨_, rfl⟩ | ⟨h, _⟩
      · cases h
      · refine ⟨?_, fun h => ?_⟩
        · simp only [Instr.sameNow, EV.same, sameBytes_eq, bytes_beq]
        · simp only [EV.same, sameBytes_eq, decide_eq_true_eq] at h
          simp [Instr.sameBits, bytes_beq, h]
      · cases h
def EntsR (ρ : Ren) (es : List (EV × EV)) (ds : List MapEntry) : Prop := es.length = ds.length ∧ ∀ (i : Nat) (e : EV × EV) (d : MapEntry), es[i]? = some e → ds[i]? = some d → EntR ρ e d
theorem EntsR.cons {e : EV × EV} {es : List (EV × EV)} {ds : List MapEntry} (h : EntsR ρ (e :: es) ds) : ∃ d ds', ds = d :: ds' ∧ EntR ρ e d ∧ EntsR ρ es ds' := by
  cases ds with
  | nil => have := h.1; simp at this
  | cons d ds' => exact ⟨d, ds', rfl, h.2 0 e d rfl rfl, by have := h.1; simpa using this, fun i a b ha hb => h.2 (i + 1) a b (by simpa using ha) (by simpa using hb)⟩
/-- Where a key stands. -/
theorem find_sound {kt : TypeId} {c : Nat} {d : TypeDesc} (hu : P.underlying kt = some d) (hd : (c = 0 ∧ d = .bool) ∨ (c = 1 ∧ d = .string) ∨ (c = 2 ∧ ∃ k, d = .int k)) {k : EV} {k' : Value} (hk : VR ρ k k') (hki : keyIs c k = true) :
    ∀ (es : List (EV × EV)) (ds : List MapEntry) (i : Nat), EntsR ρ es ds → sortsOk k es = true →
      (Instr.findNow d k' ds i = some none ∧ find k es = none ∧ (∀ v, update k v es = es ++ [(k, v)]) ∧ erase k es = es) ∨
      (∃ j v v' old, Instr.findNow d k' ds i = some (some (i + j, v')) ∧ find k es = some v ∧ VR ρ v v' ∧ ds[j]? = some old ∧ old.val = v' ∧ (∀ u, update k u es = es.set j (k, u)) ∧ erase k es = es.eraseIdx j ∧ j < es.length ∧ Instr.sameBits 10000 old.key k' = true) := by
  intro es
  induction es with
  | nil =>
    intro ds i h _
    have : ds = [] := by have := h.1; simp at this; exact List.eq_nil_of_length_eq_zero this.symm
    subst this
    exact .inl ⟨rfl, rfl, fun _ => rfl, rfl⟩
  | cons e es ih =>
    intro ds i h hs
    obtain ⟨x, ds', rfl, hx, hr⟩ := h.cons
    obtain ⟨l, u⟩ := e
    simp only [sortsOk] at hs
    cases hso : (sortOf l).beq (sortOf k) <;> simp only [hso, cond_true, cond_false, Bool.false_eq_true] at hs
    obtain ⟨hs1, hs2⟩ := key_same hu hd hk hx.1 hki (of_beq hso)
    cases hq : EV.same k l with
    | true =>
      right
      refine ⟨0, u, x.val, x, ?_, ?_, hx.2, rfl, rfl, fun z => ?_, ?_, by simp, hs2 hq⟩
      · simp only [Instr.findNow, hs1, hq]; rfl
      · simp [find, hq]
      · simp [update, hq]
      · simp [erase, hq]
    | false =>
      rcases ih ds' (i + 1) hr hs with ⟨a1, a2, a3, a4⟩ | ⟨j, v, v', old, a1, a2, a3, a4, a5, a6, a7, a8, a9⟩
      · left
        refine ⟨?_, by simp [find, hq, a2], fun z => by simp [update, hq, a3], by simp [erase, hq, a4]⟩
        simp only [Instr.findNow, hs1, hq]; exact a1
      · right
        refine ⟨j + 1, v, v', old, ?_, by simp [find, hq, a2], a3, by simpa using a4, a5, fun z => by simp [update, hq, a6], by simp [erase, hq, a7], by simp; omega, a9⟩
        simp only [Instr.findNow, hs1, hq]
        rw [a1]; congr 3; omega
theorem keysOk_parts {c : Nat} {k : EV} {es : List (EV × EV)} (h : keysOk c k es = true) : keyIs c k = true ∧ sortsOk k es = true := by
  unfold keysOk at h
  cases hk : keyIs c k <;> simp only [hk, cond_true, cond_false, Bool.false_eq_true] at h
  exact ⟨rfl, h⟩
theorem map_at (hR : R base ρ m w) {b : Nat} {L : Loc} (hL : ρ b = some L) {es : List (EV × EV)} (hm : m.get b = .map es) : ∃ ds c, w.heap[L.blk]? = some (.map ds c) ∧ EntsR ρ es ds.toList ∧ base ≤ L.blk ∧ L.ro = false := by
  have := hR.blk b L hL
  rw [hm] at this
  obtain ⟨ds, c, h1, h2, h3, h4⟩ := this
  exact ⟨ds, c, h1, ⟨by simpa using h2, fun i e d he hd => h3 i e d he (by simpa using hd)⟩, h4⟩
/-- A map that is written. -/
theorem map_write (hR : R base ρ m w) {b : Nat} {L : Loc} (hL : ρ b = some L) {es fs : List (EV × EV)} (hm : m.get b = .map es) {ds gs : Array MapEntry} {c c' : Nat} (hw : w.heap[L.blk]? = some (.map ds c)) (he : EntsR ρ fs gs.toList) (hbase : base ≤ L.blk) (hro : L.ro = false) :
    R base ρ (m.set b (.map fs)) { w with heap := w.heap.setIfInBounds L.blk (.map gs c') } ∧ Step ρ m w ρ (m.set b (.map fs)) { w with heap := w.heap.setIfInBounds L.blk (.map gs c') } := by
  have hlv : Live m b := by unfold Live; rw [hm]; simp
  have hget : ∀ d, d ≠ b → (m.set b (.map fs)).get d = m.get d := fun d hd => by rw [Mem.get_set, if_neg hd]
  have hlive : ∀ d, Live (m.set b (.map fs)) d → Live m d := by
    intro d hd
    by_cases e : d = b
    · subst e; exact hlv
    · unfold Live at hd ⊢; rwa [hget d e] at hd
  have hlt : L.blk < w.heap.size := (Array.getElem?_eq_some_iff.1 hw).1
  have hother : ∀ k, k ≠ L.blk → (w.heap.setIfInBounds L.blk (.map gs c'))[k]? = w.heap[k]? := fun k hk => by rw [Array.getElem?_setIfInBounds_ne (by omega)]
  refine ⟨⟨hR.lt, fun d M hM => ?_, fun d f M M' h1 h2 h3 h4 => hR.inj d f M M' h1 h2 (hlive d h3) (hlive f h4), by simpa using hR.base, fun d hd => by rw [hget d (fun e => by subst e; have := hR.lt _ _ hL; rw [Mem.next_set] at hd; omega)]; exact hR.clean d hd⟩,
    ⟨.refl ρ, fun _ h h' => absurd h h', Nat.le_refl _, fun d hd hn => hget d (fun e => by subst e; rw [hL] at hn; cases hn), fun d _ hd => by rw [hget d (fun e => by subst e; rw [hm] at hd; cases hd)]; exact hd, by simp, fun i hi => ?_, fun i hi hr => hother i (fun e => hr ⟨b, L, hL, hlv, hro, e.symm⟩), rfl, rfl, rfl⟩⟩
  · by_cases e : d = b
    · subst e
      rw [hL] at hM; cases hM
      rw [Mem.get_set, if_pos rfl]
      refine ⟨gs, c', by simp [hlt], by simpa using he.1, fun i x y hx hy => he.2 i x y hx (by simpa using hy), hbase, hro⟩
    · rw [hget d e]
      by_cases hl : m.get d = .dead
      · rw [hl]; trivial
      · have hne : M.blk ≠ L.blk := fun heq => e (hR.inj b d L M hL hM hlv hl hro heq.symm).symm
        exact (hR.blk d M hM).of_heap (.refl ρ) (hother _ hne)
  · rintro ⟨d, M, hM, h1, h2, h3⟩
    exact ⟨d, M, hM, hlive d h1, h2, h3⟩
theorem run_getObj_map {r : Nat} {ds : Array MapEntry} {c : Nat} (h : w.heap[r]? = some (.map ds c)) : (getObj r).run P w = .ok (.map ds c) w := by
  simp only [getObj, Sem.run, h]
theorem run_setObj_map {r : Nat} {ds : Array MapEntry} {c : Nat} (h : w.heap[r]? = some (.map ds c)) (o : Obj) : (setObj r o).run P w = .ok () { w with heap := w.heap.setIfInBounds r o } := by
  simp only [setObj, Sem.run, h]

theorem lookup_sound (hR : R base ρ m w) {t kt e : TypeId} {c : Nat} (ht : P.underlying t = some (.map kt e)) (hc : cKey P kt = some c) {z : EV} (hz : cZero P e = some z) {mp k : EV} {mp' k' : Value} (hmp : VR ρ mp mp') (hk : VR ρ k k') {ok : Bool} {fr : Opd → EV} {om okk : Opd} (e1 : fr om = mp) (e2 : fr okk = k) {v : EV} {m' : Mem}
    (h : evOp fr (.lookup c z ok om okk) m = some (.val v m')) : Runs P (Instr.lookup t mp' k' ok) base ρ m w v m' := by
  obtain ⟨zv, z1, z2⟩ := zero_sound (ρ := ρ) hz
  have hkt := cKey_sound hc
  have hkt' := hkt
  obtain ⟨d, hu, hd⟩ := hkt'
  simp only [evOp, e1, e2] at h
  cases hmp <;> simp only [reduceCtorEq] at h
  case nilmap =>
    cases hki : keyIs c k <;> simp only [hki, cond_true, cond_false, reduceCtorEq, Option.some.injEq, R1.val.injEq] at h
    obtain ⟨rfl, rfl⟩ := h
    refine ⟨ρ, w, if ok then .tuple #[zv, .bool false] else zv, ?_, ?_, hR, .refl _ _ _⟩
    · simp only [Instr.lookup, Sem.run_bind, run_underlying ht, Result.andThen_ok, Sem.run_pure, checkKey_run hkt, Instr.findKey, run_underlying hu, Instr.findNow, z1]
    · cases ok
      · exact z2
      · exact .tuple (.cons z2 (.cons (.bool _) .nil))
  case map b L hL =>
    cases hm : m.get b with
    | dead => simp [hm] at h
    | cells => simp [hm] at h
    | map es =>
    simp only [hm] at h
    cases hks : keysOk c k es <;> simp only [hks, cond_true, cond_false, reduceCtorEq] at h
    obtain ⟨hki, hso⟩ := keysOk_parts hks
    obtain ⟨ds, cl, hw, hes, _, _⟩ := map_at hR hL hm
    rcases find_sound hu hd hk hki es ds.toList 0 hes hso with ⟨a1, a2, _, _⟩ | ⟨j, x, x', old, a1, a2, a3, a4, a5, _⟩
    · simp only [a2, Option.some.injEq, R1.val.injEq] at h
      obtain ⟨rfl, rfl⟩ := h
      refine ⟨ρ, w, if ok then .tuple #[zv, .bool false] else zv, ?_, ?_, hR, .refl _ _ _⟩
      · simp only [Instr.lookup, Sem.run_bind, run_underlying ht, Result.andThen_ok, Sem.run_pure, run_getObj_map hw, checkKey_run hkt, Instr.findKey, run_underlying hu, a1, z1]
      · cases ok
        · exact z2
        · exact .tuple (.cons z2 (.cons (.bool _) .nil))
    · simp only [a2, Option.some.injEq, R1.val.injEq] at h
      obtain ⟨rfl, rfl⟩ := h
      refine ⟨ρ, w, if ok then .tuple #[x', .bool true] else x', ?_, ?_, hR, .refl _ _ _⟩
      · simp only [Instr.lookup, Sem.run_bind, run_underlying ht, Result.andThen_ok, Sem.run_pure, run_getObj_map hw, checkKey_run hkt, Instr.findKey, run_underlying hu, a1]
      · cases ok
        · exact a3
        · exact .tuple (.cons a3 (.cons (.bool _) .nil))
theorem mapupd_sound (hR : R base ρ m w) {t kt e : TypeId} {c : Nat} (ht : P.underlying t = some (.map kt e)) (hc : cKey P kt = some c) {mp k x : EV} {mp' k' x' : Value} (hmp : VR ρ mp mp') (hk : VR ρ k k') (hx : VR ρ x x') {fr : Opd → EV} {om okk ox : Opd} (e1 : fr om = mp) (e2 : fr okk = k) (e3 : fr ox = x) {v : EV} {m' : Mem}
    (h : evOp fr (.mapupd c om okk ox) m = some (.val v m')) : ∃ w', (Instr.mapUpdate t mp' k' x').run P w = .ok () w' ∧ v = .undef ∧ R base ρ m' w' ∧ Step ρ m w ρ m' w' := by
  have hkt := cKey_sound hc
  have hkt' := hkt
  obtain ⟨d, hu, hd⟩ := hkt'
  simp only [evOp, e1, e2, e3] at h
  cases hmp <;> simp only [reduceCtorEq] at h
  case map b L hL =>
    cases hm : m.get b with
    | dead => simp [hm] at h
    | cells => simp [hm] at h
    | map es =>
    simp only [hm] at h
    cases hks : keysOk c k es <;> simp only [hks, cond_true, cond_false, reduceCtorEq, Option.some.injEq, R1.val.injEq] at h
    obtain ⟨hki, hso⟩ := keysOk_parts hks
    obtain ⟨rfl, rfl⟩ := h
    obtain ⟨ds, cl, hw, hes, hb, hro⟩ := map_at hR hL hm
    rcases find_sound hu hd hk hki es ds.toList 0 hes hso with ⟨a1, _, a3, _⟩ | ⟨j, y, y', old, a1, _, _, a4, a5, a6, _, a8, a9⟩
    · obtain ⟨q1, q2⟩ := map_write (c' := cl + 1) hR hL hm hw (fs := update k x es) (gs := ds.push { key := k', val := x', born := cl }) (by
        rw [a3]
        refine ⟨by simp [hes.1], fun i p q hp hq => ?_⟩
        simp only [Array.toList_push] at hq
        by_cases hi : i < es.length
        · rw [List.getElem?_append_left hi] at hp
          rw [List.getElem?_append_left (by rw [← hes.1]; exact hi)] at hq
          exact hes.2 i p q hp hq
        · rw [List.getElem?_append_right (by omega)] at hp
          rw [List.getElem?_append_right (by rw [← hes.1]; omega), ← hes.1] at hq
          have h0 : i - es.length = 0 := by
            have := (List.getElem?_eq_some_iff.1 hp).1
            simp at this; omega
          rw [h0] at hp hq
          simp at hp hq
          subst hp hq
          exact ⟨hk, hx⟩) hb hro
      refine ⟨_, ?_, rfl, q1, q2⟩
      simp only [Instr.mapUpdate, Sem.run_bind, run_underlying ht, Result.andThen_ok, Sem.run_pure, run_getObj_map hw, checkKey_run hkt, Instr.findKey, run_underlying hu, a1, run_setObj_map hw]
    · have hjd : j < ds.size := by have := hes.1; simp at this; omega
      have hds : ds[j]? = some old := by simpa using a4
      obtain ⟨q1, q2⟩ := map_write (c' := cl) hR hL hm hw (fs := update k x es) (gs := ds.modify j fun e => { e with key := k', val := x' }) (by
        rw [a6]
        refine ⟨by simp; simpa using hes.1, fun i p q hp hq => ?_⟩
        rw [Array.getElem?_toList, Array.getElem?_modify] at hq
        rw [List.getElem?_set] at hp
        by_cases hij : j = i
        · subst hij
          rw [if_pos rfl, if_pos a8] at hp
          rw [if_pos rfl, hds] at hq
          cases hp; cases hq
          exact ⟨hk, hx⟩
        · rw [if_neg hij] at hp
          rw [if_neg hij] at hq
          exact hes.2 i p q hp (by simpa using hq)) hb hro
      refine ⟨_, ?_, rfl, q1, q2⟩
      simp only [Instr.mapUpdate, Sem.run_bind, run_underlying ht, Result.andThen_ok, Sem.run_pure, run_getObj_map hw, checkKey_run hkt, Instr.findKey, run_underlying hu, a1, Nat.zero_add, hds, Option.map_some, Option.getD_some, Instr.keyThatStays, a9, if_true, run_setObj_map hw]
theorem delete_sound (hR : R base ρ m w) {t u kt e : TypeId} {c : Nat} (ht : P.underlying t = some (.map kt e)) (hc : cKey P kt = some c) {mp k : EV} {mp' k' : Value} (hmp : VR ρ mp mp') (hk : VR ρ k k') {fr : Opd → EV} {om okk : Opd} (e1 : fr om = mp) (e2 : fr okk = k) {v : EV} {m' : Mem} (ty : TypeId)
    (h : evOp fr (.delete c om okk) m = some (.val v m')) : Runs P (Builtin.delete_ #[t, u] ty #[mp', k']) base ρ m w v m' := by
  have hkt := cKey_sound hc
  have hkt' := hkt
  obtain ⟨d, hu, hd⟩ := hkt'
  simp only [evOp, e1, e2] at h
  cases hmp <;> simp only [reduceCtorEq] at h
  case nilmap =>
    cases hki : keyIs c k <;> simp only [hki, cond_true, cond_false, reduceCtorEq, Option.some.injEq, R1.val.injEq] at h
    obtain ⟨rfl, rfl⟩ := h
    refine ⟨ρ, w, .tuple #[], ?_, .tuple .nil, hR, .refl _ _ _⟩
    simp only [Builtin.delete_, List.getElem?_toArray, List.getElem?_cons_zero, List.getElem?_cons_succ, Sem.run_bind, run_underlying ht, Result.andThen_ok, checkKey_run hkt, Sem.run_pure]
  case map b L hL =>
    cases hm : m.get b with
    | dead => simp [hm] at h
    | cells => simp [hm] at h
    | map es =>
    simp only [hm] at h
    cases hks : keysOk c k es <;> simp only [hks, cond_true, cond_false, reduceCtorEq, Option.some.injEq, R1.val.injEq] at h
    obtain ⟨hki, hso⟩ := keysOk_parts hks
    obtain ⟨rfl, rfl⟩ := h
    obtain ⟨ds, cl, hw, hes, hb, hro⟩ := map_at hR hL hm
    rcases find_sound hu hd hk hki es ds.toList 0 hes hso with ⟨a1, _, _, a4⟩ | ⟨j, y, y', old, a1, _, _, a4, _, _, a7, a8, _⟩
    · obtain ⟨q1, q2⟩ := map_write (c' := cl) hR hL hm hw (fs := erase k es) (gs := ds) (by rw [a4]; exact hes) hb hro
      refine ⟨ρ, _, .tuple #[], ?_, .tuple .nil, q1, q2⟩
      simp only [Builtin.delete_, List.getElem?_toArray, List.getElem?_cons_zero, List.getElem?_cons_succ, Sem.run_bind, run_underlying ht, Result.andThen_ok, run_getObj_map hw, checkKey_run hkt, Instr.findKey, run_underlying hu, a1, Sem.run_pure, run_setObj_map hw]
    · obtain ⟨q1, q2⟩ := map_write (c' := cl) hR hL hm hw (fs := erase k es) (gs := ds.eraseIdxIfInBounds j) (by
        rw [a7]
        have hjd : j < ds.size := by have := hes.1; simp at this; omega
        have hl : (ds.eraseIdxIfInBounds j).toList = ds.toList.eraseIdx j := by
          simp [Array.eraseIdxIfInBounds, hjd]
        rw [hl]
        refine ⟨by rw [List.length_eraseIdx, List.length_eraseIdx, hes.1], fun i p q hp hq => ?_⟩
        rw [List.getElem?_eraseIdx] at hp hq
        by_cases hij : i < j
        · rw [if_pos hij] at hp hq; exact hes.2 i p q hp hq
        · rw [if_neg hij] at hp hq; exact hes.2 (i + 1) p q hp hq) hb hro
      refine ⟨ρ, _, .tuple #[], ?_, .tuple .nil, q1, q2⟩
      simp only [Builtin.delete_, List.getElem?_toArray, List.getElem?_cons_zero, List.getElem?_cons_succ, Sem.run_bind, run_underlying ht, Result.andThen_ok, run_getObj_map hw, checkKey_run hkt, Instr.findKey, run_underlying hu, a1, Sem.run_pure, Nat.zero_add, run_setObj_map hw]
/-! ### The greatest and the least -/
theorem max_fold : ∀ (l : List EV) (l' : List Value) (k : IntKind) (x : Int) (v : EV), VRs ρ l l' → maxFrom k x l = some v → ∃ v', VR ρ v v' ∧ (l'.foldlM Builtin.max2 (.int k x)).run P w = .ok v' w := by
  intro l
  induction l with
  | nil => intro l' k x v hl h; cases hl; simp [maxFrom] at h; subst h; exact ⟨_, .int _ _, rfl⟩
  | cons y l ih =>
    intro l' k x v hl h
    cases hl with
    | cons hy hs =>
    cases hy with
    | int k2 n =>
      simp only [maxFrom] at h
      cases hk : (kindNo k).beq (kindNo k2) <;> simp only [hk, cond_true, cond_false, reduceCtorEq] at h
      obtain rfl := kindNo_inj hk
      obtain ⟨v', h1, h2⟩ := ih _ k _ v hs h
      exact ⟨v', h1, by simp only [List.foldlM_cons, Builtin.max2, Sem.run_bind, Sem.run_pure, Result.andThen_ok, h2]⟩
    | _ => simp [maxFrom] at h
theorem min_fold : ∀ (l : List EV) (l' : List Value) (k : IntKind) (x : Int) (v : EV), VRs ρ l l' → minFrom k x l = some v → ∃ v', VR ρ v v' ∧ (l'.foldlM Builtin.min2 (.int k x)).run P w = .ok v' w := by
  intro l
  induction l with
  | nil => intro l' k x v hl h; cases hl; simp [minFrom] at h; subst h; exact ⟨_, .int _ _, rfl⟩
  | cons y l ih =>
    intro l' k x v hl h
    cases hl with
    | cons hy hs =>
    cases hy with
    | int k2 n =>
      simp only [minFrom] at h
      cases hk : (kindNo k).beq (kindNo k2) <;> simp only [hk, cond_true, cond_false, reduceCtorEq] at h
      obtain rfl := kindNo_inj hk
      obtain ⟨v', h1, h2⟩ := ih _ k _ v hs h
      exact ⟨v', h1, by simp only [List.foldlM_cons, Builtin.min2, Sem.run_bind, Sem.run_pure, Result.andThen_ok, h2]⟩
    | _ => simp [minFrom] at h
theorem max_sound {l : List EV} {l' : List Value} (hl : VRs ρ l l') {v : EV} (h : evMax l = some v) (a : Array TypeId) (t : TypeId) : ∃ v', VR ρ v v' ∧ (Builtin.max_ a t ⟨l'⟩).run P w = .ok v' w := by
  cases hl with
  | nil => simp [evMax] at h
  | cons hx hs =>
    cases hx with
    | int k n => exact max_fold _ _ k n v hs h
    | _ => simp [evMax] at h
theorem min_sound {l : List EV} {l' : List Value} (hl : VRs ρ l l') {v : EV} (h : evMin l = some v) (a : Array TypeId) (t : TypeId) : ∃ v', VR ρ v v' ∧ (Builtin.min_ a t ⟨l'⟩).run P w = .ok v' w := by
  cases hl with
  | nil => simp [evMin] at h
  | cons hx hs =>
    cases hx with
    | int k n => exact min_fold _ _ k n v hs h
    | _ => simp [evMin] at h
end
end Go.Proofs.Ythlbifjgnhdonaa.Ev
