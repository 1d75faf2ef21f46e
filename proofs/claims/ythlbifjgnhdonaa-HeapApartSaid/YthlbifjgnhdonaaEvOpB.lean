/- Comparing, bounds, parts, indexes, conversions: what the evaluator tells, the model tells. -/
import Derived.Test.YthlbifjgnhdonaaEvOpA
namespace Go.Proofs.Ythlbifjgnhdonaa.Ev
open Go
set_option maxHeartbeats 1000000
section
variable {base : Nat} {ρ : Ren} {m : Mem} {w : World} {P : Program}

/-! ### Parts of a row of cells -/
theorem part_sound {t : TypeId} {g : Option Nat} (hg : cAgg P t = some g) {cs : List EV} {cs' : List Value} (hv : VRs ρ cs cs') (hf : ∀ c ∈ cs', c.oneCell' = true) {off : Nat} {v : EV} (h : partOf g cs off = some v) :
    ∃ v', VR ρ v v' ∧ (part t (⟨cs'⟩ : Array Value) off).run P w = .ok v' w := by
  obtain ⟨hag, hsz⟩ := isAgg_run (P := P) hg w
  cases g with
  | none =>
    obtain ⟨v', h1, h2⟩ := hv.get off v h
    exact ⟨v', h2, by simp [part, hag, h1]⟩
  | some n =>
    simp only [partOf] at h
    cases hl : (off + n).ble cs.length <;> simp only [hl, cond_true, cond_false, reduceCtorEq, Option.some.injEq] at h
    subst h
    refine ⟨.agg ⟨(cs'.drop off).take n⟩, .agg ((hv.drop off).take n) (fun c hc => hf c (List.mem_of_mem_drop (List.mem_of_mem_take hc))), ?_⟩
    simp only [part, Sem.run_bind, hag, Result.andThen_ok, Option.isSome_some, if_true, hsz n rfl, Sem.run_pure]
    congr 2
    apply Array.ext'
    simp [List.extract_eq_take_drop]

/-! ### Comparing -/
theorem kind_ne {k l : IntKind} (h : (kindNo k).beq (kindNo l) = true) : k = l := kindNo_inj h
def EqPrimAt (t : Nat) (d : TypeDesc) : Prop :=
  match t with
  | 0 => d = .bool
  | 1 => ∃ k, d = .int k
  | 2 => d = .string
  | 3 => ∃ e, d = .pointer e
  | 4 => ∃ e, d = .slice e
  | 5 => ∃ k e, d = .map k e
  | 6 => ∃ p r v, d = .func p r v
  | 7 => ∃ ms, d = .interface ms
  | _ => False
theorem bytes_beq (a b : ByteArray) : (a == b) = decide (a.data.toList = b.data.toList) := by
  cases a; cases b
  rename_i x y
  show (x == y) = decide (x.toList = y.toList)
  rw [Bool.eq_iff_iff]
  simp [Array.toList_inj]
theorem eqPrim_sound {k : Nat} {t : TypeId} {d : TypeDesc} (hu : P.underlying t = some d) (hk : EqPrimAt k d) {x y : EV} {x' y' : Value} (hx : VR ρ x x') (hy : VR ρ y y') {b : Bool} (h : evEqPrim k x y = some b) (n : Nat) :
    (Op.equalIn (n + 1) t x' y').run P w = .ok b w := by
  cases hx <;> cases hy <;> simp only [evEqPrim, reduceCtorEq] at h
  case bool.bool a c =>
    cases hb : k.beq 0 <;> simp only [hb, cond_true, cond_false, reduceCtorEq, Option.some.injEq] at h
    rw [of_beq hb] at hk; subst hk; subst h
    simp [Op.equalIn, run_underlying hu]
  case int.int k1 a l c =>
    cases hb : k.beq 1 <;> simp only [hb, cond_true, cond_false, reduceCtorEq] at h
    cases hkl : (kindNo k1).beq (kindNo l) <;> simp only [hkl, cond_true, cond_false, reduceCtorEq, Option.some.injEq] at h
    obtain rfl := kindNo_inj hkl
    rw [of_beq hb] at hk; obtain ⟨kk, rfl⟩ := hk; subst h
    simp [Op.equalIn, run_underlying hu]; rfl
  case str.str a c =>
    cases hb : k.beq 2 <;> simp only [hb, cond_true, cond_false, reduceCtorEq, Option.some.injEq] at h
    rw [of_beq hb] at hk; subst hk; subst h
    simp [Op.equalIn, run_underlying hu, sameBytes_eq, bytes_beq]
  case nilptr.nilptr =>
    cases hb : k.beq 3 <;> simp only [hb, cond_true, cond_false, reduceCtorEq, Option.some.injEq] at h
    rw [of_beq hb] at hk; obtain ⟨e, rfl⟩ := hk; subst h
    simp [Op.equalIn, run_underlying hu]
  case nilptr.ptr =>
    cases hb : k.beq 3 <;> simp only [hb, cond_true, cond_false, reduceCtorEq, Option.some.injEq] at h
    rw [of_beq hb] at hk; obtain ⟨e, rfl⟩ := hk; subst h
    simp [Op.equalIn, run_underlying hu]
  case ptr.nilptr =>
    cases hb : k.beq 3 <;> simp only [hb, cond_true, cond_false, reduceCtorEq, Option.some.injEq] at h
    rw [of_beq hb] at hk; obtain ⟨e, rfl⟩ := hk; subst h
    simp [Op.equalIn, run_underlying hu]
  case nilslice.nilslice =>
    cases hb : k.beq 4 <;> simp only [hb, cond_true, cond_false, reduceCtorEq, Option.some.injEq] at h
    rw [of_beq hb] at hk; obtain ⟨e, rfl⟩ := hk; subst h
    simp [Op.equalIn, run_underlying hu]
  case nilslice.slice =>
    cases hb : k.beq 4 <;> simp only [hb, cond_true, cond_false, reduceCtorEq, Option.some.injEq] at h
    rw [of_beq hb] at hk; obtain ⟨e, rfl⟩ := hk; subst h
    simp [Op.equalIn, run_underlying hu]
  case nilslice.sliceE =>
    cases hb : k.beq 4 <;> simp only [hb, cond_true, cond_false, reduceCtorEq, Option.some.injEq] at h
    rw [of_beq hb] at hk; obtain ⟨e, rfl⟩ := hk; subst h
    simp [Op.equalIn, run_underlying hu]
  case nilslice.sliceC =>
    cases hb : k.beq 4 <;> simp only [hb, cond_true, cond_false, reduceCtorEq, Option.some.injEq] at h
    rw [of_beq hb] at hk; obtain ⟨e, rfl⟩ := hk; subst h
    simp [Op.equalIn, run_underlying hu]
  case slice.nilslice =>
    cases hb : k.beq 4 <;> simp only [hb, cond_true, cond_false, reduceCtorEq, Option.some.injEq] at h
    rw [of_beq hb] at hk; obtain ⟨e, rfl⟩ := hk; subst h
    simp [Op.equalIn, run_underlying hu]
  case sliceE.nilslice =>
    cases hb : k.beq 4 <;> simp only [hb, cond_true, cond_false, reduceCtorEq, Option.some.injEq] at h
    rw [of_beq hb] at hk; obtain ⟨e, rfl⟩ := hk; subst h
    simp [Op.equalIn, run_underlying hu]
  case sliceC.nilslice =>
    cases hb : k.beq 4 <;> simp only [hb, cond_true, cond_false, reduceCtorEq, Option.some.injEq] at h
    rw [of_beq hb] at hk; obtain ⟨e, rfl⟩ := hk; subst h
    simp [Op.equalIn, run_underlying hu]
  case nilmap.nilmap =>
    cases hb : k.beq 5 <;> simp only [hb, cond_true, cond_false, reduceCtorEq, Option.some.injEq] at h
    rw [of_beq hb] at hk; obtain ⟨e, f, rfl⟩ := hk; subst h
    simp [Op.equalIn, run_underlying hu]
  case nilmap.map =>
    cases hb : k.beq 5 <;> simp only [hb, cond_true, cond_false, reduceCtorEq, Option.some.injEq] at h
    rw [of_beq hb] at hk; obtain ⟨e, f, rfl⟩ := hk; subst h
    simp [Op.equalIn, run_underlying hu]
  case map.nilmap =>
    cases hb : k.beq 5 <;> simp only [hb, cond_true, cond_false, reduceCtorEq, Option.some.injEq] at h
    rw [of_beq hb] at hk; obtain ⟨e, f, rfl⟩ := hk; subst h
    simp [Op.equalIn, run_underlying hu]
  case nilfunc.nilfunc =>
    cases hb : k.beq 6 <;> simp only [hb, cond_true, cond_false, reduceCtorEq, Option.some.injEq] at h
    rw [of_beq hb] at hk; obtain ⟨p, r, v, rfl⟩ := hk; subst h
    simp [Op.equalIn, run_underlying hu]
  case nilfunc.func =>
    cases hb : k.beq 6 <;> simp only [hb, cond_true, cond_false, reduceCtorEq, Option.some.injEq] at h
    rw [of_beq hb] at hk; obtain ⟨p, r, v, rfl⟩ := hk; subst h
    simp [Op.equalIn, run_underlying hu]
  case func.nilfunc =>
    cases hb : k.beq 6 <;> simp only [hb, cond_true, cond_false, reduceCtorEq, Option.some.injEq] at h
    rw [of_beq hb] at hk; obtain ⟨p, r, v, rfl⟩ := hk; subst h
    simp [Op.equalIn, run_underlying hu]
  case niliface.iface =>
    cases hb : k.beq 7 <;> simp only [hb, cond_true, cond_false, reduceCtorEq, Option.some.injEq] at h
    rw [of_beq hb] at hk; obtain ⟨ms, rfl⟩ := hk; subst h
    simp [Op.equalIn, run_underlying hu]
  case iface.niliface =>
    cases hb : k.beq 7 <;> simp only [hb, cond_true, cond_false, reduceCtorEq, Option.some.injEq] at h
    rw [of_beq hb] at hk; obtain ⟨ms, rfl⟩ := hk; subst h
    simp [Op.equalIn, run_underlying hu]

theorem cEqTy_prim {n : Nat} {t : TypeId} {k : Nat} (h : cEqTy P (n + 1) t = some (.prim k)) : ∃ d, P.underlying t = some d ∧ EqPrimAt k d := by
  unfold cEqTy at h
  cases hu : P.underlying t with
  | none => simp [hu] at h
  | some d =>
    rw [hu] at h
    refine ⟨d, rfl, ?_⟩
    cases d <;> simp at h <;> (try (subst h; simp [EqPrimAt]; done))
    · cases hs : P.stoodInHeld t <;> simp [hs] at h

/-- A struct's fields, one behind the other. -/
def eqBody (n : Nat) (xs ys : Array Value) : Field → Option Bool × Unit → Sem (ForInStep (Option Bool × Unit)) := fun f _ =>
  if f.name ≠ "_" then do
    let a ← part f.type xs f.offset
    let b ← part f.type ys f.offset
    let r ← Op.equalIn n f.type a b
    if (!r) = true then pure (ForInStep.done (some false, ())) else pure (ForInStep.yield (none, ()))
  else pure (ForInStep.yield (none, ()))
theorem cEqTy_struct {n : Nat} {t : TypeId} {es : List (Option Nat × Nat × EqTy)} (h : cEqTy P (n + 1) t = some (.agg es)) :
    ∃ fs, P.underlying t = some (.struct fs) ∧ P.stoodInHeld t = false ∧ fs.toList.mapM (fun (f : Field) => match cAgg P f.type, cEqTy P n f.type with
        | some g, some e => bif f.name != "_" then some (g, f.offset, e) else none
        | _, _ => none) = some es := by
  unfold cEqTy at h
  cases hu : P.underlying t with
  | none => simp [hu] at h
  | some d =>
    rw [hu] at h
    cases d <;> simp only [reduceCtorEq, Option.some.injEq] at h
    rename_i fs
    cases hs : P.stoodInHeld t <;> simp only [hs, cond_true, cond_false, reduceCtorEq] at h
    obtain ⟨es', he, h2⟩ := Option.map_eq_some_iff.1 h
    cases h2
    exact ⟨fs, rfl, rfl, he⟩
theorem eqs_loop (n : Nat) {a b : List EV} {a' b' : List Value} (ha : VRs ρ a a') (hb : VRs ρ b b') (fa : ∀ c ∈ a', c.oneCell' = true) (fb : ∀ c ∈ b', c.oneCell' = true) (k : Nat)
    (ih : ∀ (t : TypeId) (e : EqTy), cEqTy P n t = some e → ∀ (x y : EV) (x' y' : Value), VR ρ x x' → VR ρ y y' → ∀ r, evEq e x y = some r → (Op.equalIn k t x' y').run P w = .ok r w) :
    ∀ (fs : List Field) (es : List (Option Nat × Nat × EqTy)), fs.mapM (fun (f : Field) => match cAgg P f.type, cEqTy P n f.type with
        | some g, some e => bif f.name != "_" then some (g, f.offset, e) else none
        | _, _ => none) = some es → ∀ r, evEqs es a b = some r → (forIn fs (none, ()) (eqBody k ⟨a'⟩ ⟨b'⟩)).run P w = .ok (if r then (none, ()) else (some false, ())) w := by
  intro fs
  induction fs with
  | nil =>
    intro es h r hr
    simp at h
    subst h
    simp [evEqs] at hr
    subst hr
    rfl
  | cons f fs ihf =>
    intro es h r hr
    rw [List.mapM_cons] at h
    cases hg : cAgg P f.type with
    | none => simp [hg] at h
    | some g =>
    cases he : cEqTy P n f.type with
    | none => simp [hg, he] at h
    | some e =>
    cases hn : f.name != "_" with
    | false => simp [hg, he, hn] at h
    | true =>
    cases hm : fs.mapM (fun (f : Field) => match cAgg P f.type, cEqTy P n f.type with
        | some g, some e => bif f.name != "_" then some (g, f.offset, e) else none
        | _, _ => none) with
    | none => simp [hg, he, hn, hm] at h
    | some es' =>
      simp [hg, he, hn, hm] at h
      subst h
      simp only [evEqs] at hr
      cases hx : partOf g a f.offset with
      | none => simp [hx] at hr
      | some x =>
      cases hy : partOf g b f.offset with
      | none => simp [hx, hy] at hr
      | some y =>
      simp only [hx, hy] at hr
      obtain ⟨x', vx, rx⟩ := part_sound (P := P) (w := w) hg ha fa hx
      obtain ⟨y', vy, ry⟩ := part_sound (P := P) (w := w) hg hb fb hy
      have hne : f.name ≠ "_" := by simpa using hn
      cases hq : evEq e x y with
      | none => simp [hq] at hr
      | some q =>
        have hrun := ih _ _ he x y x' y' vx vy q hq
        rw [hq] at hr
        cases q with
        | true =>
          simp only [] at hr
          have := ihf es' hm r hr
          simp only [List.forIn_cons, eqBody, if_pos hne, Sem.run_bind, rx, ry, hrun, Result.andThen_ok]
          simpa using this
        | false =>
          simp at hr
          subst hr
          simp only [List.forIn_cons, eqBody, if_pos hne, Sem.run_bind, rx, ry, hrun, Result.andThen_ok]
          rfl
theorem evEq_sound : ∀ (n : Nat) (t : TypeId) (e : EqTy), cEqTy P n t = some e → ∀ k, n ≤ k → ∀ (x y : EV) (x' y' : Value), VR ρ x x' → VR ρ y y' → ∀ r, evEq e x y = some r → (Op.equalIn k t x' y').run P w = .ok r w := by
  intro n
  induction n with
  | zero => intro t e h; simp [cEqTy] at h
  | succ n ih =>
    intro t e h k hk x y x' y' hx hy r hr
    obtain ⟨k, rfl⟩ : ∃ j, k = j + 1 := ⟨k - 1, by omega⟩
    cases e with
    | prim q =>
      obtain ⟨d, hu, hd⟩ := cEqTy_prim h
      exact eqPrim_sound hu hd hx hy (by simpa [evEq] using hr) k
    | agg es =>
      obtain ⟨fs, hu, hs, hm⟩ := cEqTy_struct h
      cases x <;> (try (simp [evEq] at hr; done))
      cases y <;> (try (simp [evEq] at hr; done))
      cases hx with
      | agg ha fa =>
      cases hy with
      | agg hb fb =>
      simp only [evEq] at hr
      have hl := eqs_loop n ha hb fa fb k (fun t e he x y x' y' vx vy r hr => ih t e he k (by omega) x y x' y' vx vy r hr) fs.toList es hm r hr
      unfold Op.equalIn
      simp only [Sem.run_bind, run_underlying hu, Result.andThen_ok, run_program, hs, Bool.false_eq_true, if_false]
      rw [Array.forIn_toList] at hl
      unfold eqBody at hl
      rw [hl]
      cases r <;> rfl
/-! ### Bounds -/
theorem bound_sound {x : Option EV} {x' : Option Value} (hx : OptR ρ x x') {dflt most r : Nat} (h : bound x dflt most = some r) :
    (x' = none ∧ r = dflt) ∨ (∃ v', x' = some v' ∧ r ≤ most ∧ ∀ code, (Instr.sliceBound v' most code).run P w = .ok r w) := by
  cases hx with
  | none => simp [bound] at h; exact .inl ⟨rfl, h.symm⟩
  | some hv =>
    right
    cases hv <;> simp only [bound, reduceCtorEq] at h
    rename_i k n
    cases n with
    | negSucc n => simp at h
    | ofNat i =>
      simp only [] at h
      cases hl : i.ble most <;> simp only [hl, cond_true, cond_false, reduceCtorEq, Option.some.injEq] at h
      subst h
      have hle := Nat.le_of_ble_eq_true hl
      refine ⟨_, rfl, hle, fun code => ?_⟩
      simp only [Instr.sliceBound, asIntOf, Sem.run_bind, Sem.run_pure, Result.andThen_ok]
      rw [if_pos ⟨Int.natCast_nonneg _, Int.ofNat_le.2 hle⟩]
      rfl
/-- The three bounds of a slice expression. -/
theorem bounds_sound {lo hi mx : Option EV} {lo' hi' mx' : Option Value} (hlo : OptR ρ lo lo') (hhi : OptR ρ hi hi') (hmx : OptR ρ mx mx') (hmh : mx'.isSome = true → hi'.isSome = true) (s : Bool) {n len t h l c : Nat} (hn : len = n)
    (h1 : (mx = none ∧ t = c) ∨ (∃ k, bound mx k c = some t ∧ mx ≠ none)) (h2 : bound hi len t = some h) (h3 : bound lo 0 h = some l) :
    (Instr.sliceBounds s n c lo' hi' mx').run P w = .ok (l, h, t) w ∧ l ≤ h ∧ (hi ≠ none → h ≤ t) ∧ (mx ≠ none → t ≤ c) := by
  subst hn
  have e1 : (mx' = none ∧ t = c ∧ mx = none) ∨ (∃ v', mx' = some v' ∧ (∀ code, (Instr.sliceBound v' c code).run P w = .ok t w) ∧ t ≤ c) := by
    rcases h1 with ⟨rfl, rfl⟩ | ⟨k, hb, hne⟩
    · cases hmx; exact .inl ⟨rfl, rfl, rfl⟩
    · rcases bound_sound (P := P) (w := w) hmx hb with ⟨rfl, _⟩ | ⟨v', rfl, hle, hr⟩
      · cases hmx; exact absurd rfl hne
      · exact .inr ⟨v', rfl, hr, hle⟩
  have e2 : l ≤ h ∧ (hi ≠ none → h ≤ t) ∧ (mx ≠ none → t ≤ c) := by
    refine ⟨?_, fun hne => ?_, fun hne => ?_⟩
    · rcases bound_sound (P := P) (w := w) hlo h3 with ⟨_, rfl⟩ | ⟨vl, _, hll, _⟩ <;> omega
    · rcases bound_sound (P := P) (w := w) hhi h2 with ⟨rfl, _⟩ | ⟨vl, _, hll, _⟩
      · cases hhi; exact absurd rfl hne
      · exact hll
    · rcases e1 with ⟨_, _, rfl⟩ | ⟨_, _, _, h⟩
      · exact absurd rfl hne
      · exact h
  refine ⟨?_, e2⟩
  unfold Instr.sliceBounds
  rcases e1 with ⟨rfl, rfl, _⟩ | ⟨vm, rfl, hrm, _⟩ <;> rcases bound_sound (P := P) (w := w) hhi h2 with ⟨rfl, rfl⟩ | ⟨vh, rfl, hlh, hrh⟩
  · rcases bound_sound (P := P) (w := w) hlo h3 with ⟨rfl, rfl⟩ | ⟨vl, rfl, hll, hrl⟩
    · simp only [Sem.run_bind, Result.andThen_ok, Sem.run_pure]
    · simp only [Sem.run_bind, Result.andThen_ok, Sem.run_pure, hrl]
  · rcases bound_sound (P := P) (w := w) hlo h3 with ⟨rfl, rfl⟩ | ⟨vl, rfl, hll, hrl⟩
    · simp only [Sem.run_bind, Result.andThen_ok, Sem.run_pure, hrh]
    · simp only [Sem.run_bind, Result.andThen_ok, Sem.run_pure, hrl, hrh]
  · simp at hmh
  · rcases bound_sound (P := P) (w := w) hlo h3 with ⟨rfl, rfl⟩ | ⟨vl, rfl, hll, hrl⟩
    · simp only [Sem.run_bind, Result.andThen_ok, Sem.run_pure, hrm, hrh]
    · simp only [Sem.run_bind, Result.andThen_ok, Sem.run_pure, hrm, hrl, hrh]
end
end Go.Proofs.Ythlbifjgnhdonaa.Ev
