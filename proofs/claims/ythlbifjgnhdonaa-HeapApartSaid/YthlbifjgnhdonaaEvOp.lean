/- Each operation: what the evaluator does, the model does. -/
import Derived.Test.YthlbifjgnhdonaaEvOpG
namespace Go.Proofs.Ythlbifjgnhdonaa.Ev
open Go
section
variable {G : List Nat} {base : Nat} {ρ : Ren} {m : Mem} {w : World} {P : Program} {n : Nat} {fr : Fr} {a : Act}

theorem opt2 {α β γ : Type} {x : Option α} {y : Option β} {f : α → β → Option γ} {r : γ} (h : (match x, y with | some a, some b => f a b | _, _ => none) = some r) : ∃ a b, x = some a ∧ y = some b ∧ f a b = some r := by
  cases x <;> cases y <;> simp at h
  exact ⟨_, _, rfl, rfl, h⟩
theorem ofEV_val {v : EV} {m m' : Mem} {x : Option EV} (h : ofEV m x = some (.val v m')) : x = some v ∧ m' = m := by
  unfold ofEV at h
  obtain ⟨y, hy, h2⟩ := Option.map_eq_some_iff.1 h
  cases h2
  exact ⟨hy, rfl⟩
theorem ofEM_val {v : EV} {m' : Mem} {x : Option (EV × Mem)} (h : ofEM x = some (.val v m')) : x = some (v, m') := by
  unfold ofEM at h
  obtain ⟨y, hy, h2⟩ := Option.map_eq_some_iff.1 h
  cases h2
  exact hy
theorem ofM_val {v : EV} {m' : Mem} {x : Option Mem} (h : ofM x = some (.val v m')) : x = some m' ∧ v = .undef := by
  unfold ofM at h
  obtain ⟨y, hy, h2⟩ := Option.map_eq_some_iff.1 h
  cases h2
  exact ⟨hy, rfl⟩
theorem map_some' {α β : Type} {x : Option α} {f : α → β} {y : β} (h : x.map f = some y) : ∃ a, x = some a ∧ f a = y := Option.map_eq_some_iff.1 h

theorem eq_sound {op : BinOp} {neg : Bool} (hop : (op = .eql ∧ neg = false) ∨ (op = .neq ∧ neg = true)) {t : TypeId} {e : EqTy} (he : cEqTy P 20 t = some e) (hgd : P.eqGuardType P.depth t = false ∨ ∃ ms, P.underlying t = some (.interface ms)) {ox oy : Operand} {x y : EV} {x' y' : Value} (hx : VR ρ x x') (hy : VR ρ y y') {b : Bool} (h : evEq e x y = some b) :
    ((do eqGuard op t ox oy x' y'; binOp op t x' y') : Sem Value).run P w = .ok (.bool (neg ^^ b)) w := by
  have hr := evEq_sound (P := P) (w := w) 20 t e he Op.maxDepth (by decide) x y x' y' hx hy b h
  have hguard : (eqGuard op t ox oy x' y').run P w = .ok () w := by
    cases hx with
    | agg hv hf =>
      cases hy with
      | agg hv' hf' =>
        rcases hgd with hgd | ⟨ms, hms⟩
        · rcases hop with ⟨rfl, rfl⟩ | ⟨rfl, rfl⟩ <;> simp [eqGuard, hgd]
        · simp [cEqTy, hms] at he
          subst he
          simp [evEq, evEqPrim] at h
      | undef => cases e <;> simp [evEq, evEqPrim] at h
      | _ => rcases hop with ⟨rfl, rfl⟩ | ⟨rfl, rfl⟩ <;> rfl
    | undef => cases e <;> simp [evEq, evEqPrim] at h
    | niliface =>
      cases hy with
      | niliface =>
        exfalso
        cases e with
        | prim k => simp [evEq, evEqPrim] at h
        | agg es => simp [evEq] at h
      | undef => cases e <;> simp [evEq, evEqPrim] at h
      | _ => rcases hop with ⟨rfl, rfl⟩ | ⟨rfl, rfl⟩ <;> rfl
    | _ => rcases hop with ⟨rfl, rfl⟩ | ⟨rfl, rfl⟩ <;> rfl
  simp only [Sem.run_bind, hguard, Result.andThen_ok]
  -- whole numbers and strings are compared by other ways
  cases hx with
  | int k z =>
    cases hy with
    | int l u =>
      cases e with
      | agg es => simp [evEq] at h
      | prim q =>
        simp only [evEq, evEqPrim] at h
        cases hq : q.beq 1 <;> simp only [hq, cond_true, cond_false, reduceCtorEq] at h
        cases hk : (kindNo k).beq (kindNo l) <;> simp only [hk, cond_true, cond_false, reduceCtorEq, Option.some.injEq] at h
        obtain rfl := kindNo_inj hk
        subst h
        rcases hop with ⟨rfl, rfl⟩ | ⟨rfl, rfl⟩
        · simp [binOp, Op.intCmp]; rfl
        · simp [binOp, Op.intCmp]; rfl
    | _ => cases e <;> simp [evEq, evEqPrim] at h
  | str s =>
    cases hy with
    | str s2 =>
      cases e with
      | agg es => simp [evEq] at h
      | prim q =>
        simp only [evEq, evEqPrim] at h
        cases hq : q.beq 2 <;> simp only [hq, cond_true, cond_false, reduceCtorEq, Option.some.injEq] at h
        subst h
        rcases hop with ⟨rfl, rfl⟩ | ⟨rfl, rfl⟩ <;> simp only [binOp, Op.stringOp, bytes_list, sameBytes_eq, list_beq] <;> simp
    | _ => cases e <;> simp [evEq, evEqPrim] at h
  | _ =>
    cases hy <;> (first
      | (cases e <;> simp [evEq, evEqPrim] at h; done)
      | (rcases hop with ⟨rfl, rfl⟩ | ⟨rfl, rfl⟩
         · simp only [binOp, Op.equal, Sem.run_bind, hr, Result.andThen_ok, Sem.run_pure]; simp
         · simp only [binOp, Op.equal, Sem.run_bind, hr, Result.andThen_ok, Sem.run_pure]; simp))

theorem builtin_run {o : Oper} {c : Go.Call} (ho : o.op = .call c) {b : Builtin} (hb : c.callee = .builtin b) :
    execOp a.eval o = builtin b c.argTypes o.type (c.args.map fun | .const _ => true | _ => false) (c.args.map a.eval) := by
  simp only [execOp, ho, resolve, hb]
  rfl
theorem len_sound (hR : R base ρ m w) {t ty : TypeId} {e : TypeId} (hu : P.underlying t = some (.slice e)) {x : EV} {x' : Value} (hx : VR ρ x x') {v : EV} {fr : Opd → EV} {ox : Opd} (e1 : fr ox = x) {m' : Mem} (h : evOp fr (.len ox) m = some (.val v m')) :
    Runs P (Builtin.len_ #[t] ty #[x']) base ρ m w v m' := by
  simp only [evOp, e1] at h
  cases hx <;> simp only [reduceCtorEq, Option.some.injEq, R1.val.injEq] at h
  all_goals
    obtain ⟨rfl, rfl⟩ := h
    exact ⟨ρ, w, _, by simp only [Builtin.len_, List.getElem?_toArray, List.getElem?_cons_zero, Sem.run_bind, run_underlying hu, Result.andThen_ok, Sem.run_pure, goInt] <;> rfl, .int _ _, hR, .refl _ _ _⟩
theorem lenstr_sound (hR : R base ρ m w) {t ty : TypeId} (hu : P.underlying t = some .string) {x : EV} {x' : Value} (hx : VR ρ x x') {v : EV} {fr : Opd → EV} {ox : Opd} (e1 : fr ox = x) {m' : Mem} (h : evOp fr (.lenstr ox) m = some (.val v m')) :
    Runs P (Builtin.len_ #[t] ty #[x']) base ρ m w v m' := by
  simp only [evOp, e1] at h
  cases hx <;> simp only [reduceCtorEq, Option.some.injEq, R1.val.injEq] at h
  case str s =>
    obtain ⟨rfl, rfl⟩ := h
    exact ⟨ρ, w, .int .i64 (s.size : Int), by simp [Builtin.len_, run_underlying hu, goInt], .int _ _, hR, .refl _ _ _⟩
theorem lenmap_sound (hR : R base ρ m w) {t ty k e : TypeId} (hu : P.underlying t = some (.map k e)) {x : EV} {x' : Value} (hx : VR ρ x x') {v : EV} {fr : Opd → EV} {ox : Opd} (e1 : fr ox = x) {m' : Mem} (h : evOp fr (.lenmap ox) m = some (.val v m')) :
    Runs P (Builtin.len_ #[t] ty #[x']) base ρ m w v m' := by
  simp only [evOp, e1] at h
  cases hx <;> simp only [reduceCtorEq, Option.some.injEq, R1.val.injEq] at h
  case nilmap =>
    obtain ⟨rfl, rfl⟩ := h
    exact ⟨ρ, w, _, by simp only [Builtin.len_, List.getElem?_toArray, List.getElem?_cons_zero, Sem.run_bind, run_underlying hu, Result.andThen_ok, Sem.run_pure, goInt] <;> rfl, .int _ _, hR, .refl _ _ _⟩
  case map b L hL =>
    cases hm : m.get b with
    | dead => simp [hm] at h
    | cells => simp [hm] at h
    | map es =>
      simp only [hm, Option.some.injEq, R1.val.injEq] at h
      obtain ⟨rfl, rfl⟩ := h
      obtain ⟨ds, c, hw, he, _⟩ := map_at hR hL hm
      refine ⟨ρ, w, .int .i64 (ds.size : Int), ?_, ?_, hR, .refl _ _ _⟩
      · simp [Builtin.len_, run_underlying hu, goInt, run_getObj_map hw]
      · have := he.1
        simp at this
        rw [this]; exact .int _ _

/-- A builtin's call. -/
theorem builtin_sound (hR : R base ρ m w) {b : Builtin} {ts : List TypeId} {xs' : List Value} {ys : List Opd} (hv : VRs ρ (ys.map fr.eval) xs') {io : IOp} (hc : cBuiltin P b ts ys = some io) (ty : TypeId) (cs : Array Bool) {v : EV} {m' : Mem} (h : evOp fr.eval io m = some (.val v m')) :
    Good base ρ m w v m' ((builtin b ⟨ts⟩ ty cs ⟨xs'⟩).run P w) := by
  unfold cBuiltin at hc
  split at hc
  · -- len
    rename_i t x
    cases hv with
    | cons hx hn =>
    cases hn
    cases hu : P.underlying t with
    | none => simp [hu] at hc
    | some d =>
      rw [hu] at hc
      cases d <;> simp only [reduceCtorEq, Option.some.injEq] at hc <;> subst hc
      case string => exact (lenstr_sound hR hu hx rfl h).good
      case slice e => exact (len_sound hR hu hx rfl h).good
      case map k e => exact (lenmap_sound hR hu hx rfl h).good
      case array k e =>
        simp only [evOp, Option.some.injEq, R1.val.injEq] at h
        obtain ⟨rfl, rfl⟩ := h
        exact Good.still (s := Builtin.len_ #[t] ty #[_]) hR (by simp [Builtin.len_, run_underlying hu, goInt]) (.int _ _)
  · -- cap
    rename_i t x
    cases hv with
    | cons hx hn =>
    cases hn
    cases hu : P.underlying t with
    | none => simp [hu] at hc
    | some d =>
      rw [hu] at hc
      cases d <;> simp only [reduceCtorEq, Option.some.injEq] at hc
      subst hc
      simp only [evOp] at h
      generalize hev : fr.eval x = e at hx h
      cases hx <;> simp only [reduceCtorEq, Option.some.injEq, R1.val.injEq] at h
      all_goals
        obtain ⟨rfl, rfl⟩ := h
        exact Good.still (s := Builtin.cap_ #[t] ty #[_]) hR (by simp [Builtin.cap_, run_underlying hu, goInt]) (.int _ _)
  · -- max
    cases hc
    simp only [evOp] at h
    obtain ⟨h1, rfl⟩ := ofEV_val h
    obtain ⟨v', r1, r2⟩ := max_sound (P := P) (w := w) hv h1 ⟨ts⟩ ty
    exact Good.still (s := Builtin.max_ ⟨ts⟩ ty ⟨xs'⟩) hR r2 r1
  · cases hc
    simp only [evOp] at h
    obtain ⟨h1, rfl⟩ := ofEV_val h
    obtain ⟨v', r1, r2⟩ := min_sound (P := P) (w := w) hv h1 ⟨ts⟩ ty
    exact Good.still (s := Builtin.min_ ⟨ts⟩ ty ⟨xs'⟩) hR r2 r1
  · -- append
    rename_i t u s x
    cases hv with
    | cons hs hn =>
    cases hn with
    | cons hx hn =>
    cases hn
    obtain ⟨e, he, hc⟩ := Option.bind_eq_some_iff.1 hc
    obtain ⟨_, hsrc, hc⟩ := Option.bind_eq_some_iff.1 hc
    obtain ⟨i, hi, hc⟩ := Option.bind_eq_some_iff.1 hc
    obtain ⟨z, hz, hc⟩ := Option.bind_eq_some_iff.1 hc
    obtain ⟨_, hq, hc⟩ := Option.bind_eq_some_iff.1 hc
    cases hq' : z.length.beq i.size <;> simp only [hq', cond_true, cond_false, reduceCtorEq] at hq
    cases hb : i.bytes.ble 65536 <;> simp only [hb, cond_true, cond_false, reduceCtorEq, Option.some.injEq] at hc
    subst hc
    have ht : P.underlying t = some (.slice e) := by
      unfold uSlice0 at he
      split at he
      · cases he; assumption
      · cases he
    have hdu : ∃ du, P.underlying u = some du ∧ ((∃ v, du = .slice v) ∨ du = .string) := by
      unfold srcOk at hsrc
      split at hsrc
      · exact ⟨_, by assumption, .inl ⟨_, rfl⟩⟩
      · exact ⟨_, by assumption, .inr rfl⟩
      · cases hsrc
    obtain ⟨du, hu, hdu⟩ := hdu
    simp only [evOp] at h
    have happ := append_sound (P := P) hR ht hu hdu hi hz (of_beq hq') (Nat.le_of_ble_eq_true hb) hs hx (ofEM_val h)
    obtain ⟨ρ', w', v', r1, r2⟩ := happ
    exact (show Runs P (Builtin.append_ #[t, u] ty #[_, _]) base ρ m w v m' from ⟨ρ', w', v', r1, r2⟩).good
  · -- copy
    rename_i t u s x
    cases hv with
    | cons hs hn =>
    cases hn with
    | cons hx hn =>
    cases hn
    cases ht : P.underlying t with
    | none => simp [ht] at hc
    | some dt =>
      rw [ht] at hc
      cases dt <;> simp only [reduceCtorEq] at hc
      rename_i e
      cases hz : cSize P e with
      | none => simp [hz] at hc
      | some k =>
        simp only [hz, Option.some.injEq] at hc
        subst hc
        simp only [evOp] at h
        obtain ⟨ρ', w', v', r1, r2⟩ := copy_sound (P := P) (u := u) hR ht hz hs hx (ofEM_val h)
        exact (show Runs P (Builtin.copy_ #[t, u] ty #[_, _]) base ρ m w v m' from ⟨ρ', w', v', r1, r2⟩).good
  · -- delete
    rename_i t u s x
    cases hv with
    | cons hs hn =>
    cases hn with
    | cons hx hn =>
    cases hn
    cases ht : P.underlying t with
    | none => simp [ht] at hc
    | some dt =>
      rw [ht] at hc
      cases dt <;> simp only [reduceCtorEq] at hc
      rename_i kt e
      obtain ⟨c, hk, rfl⟩ := map_some' hc
      exact (delete_sound (P := P) (u := u) hR ht hk hs hx rfl rfl ty h).good
  · cases hc

theorem run_op {s : Sem Value} : ((do let r ← s; pure (Next.value r)) : Sem Next).run P w = (s.run P w).andThen fun v w' => .ok (.value v) w' := by simp
theorem Good.of_run {v : EV} {s : Sem Value} (hR : R base ρ m w) (h : ∃ v', VR ρ v v' ∧ s.run P w = .ok v' w) : Good base ρ m w v m ((do pure (Next.value (← s)) : Sem Next).run P w) :=
  let ⟨_, h1, h2⟩ := h; Good.still hR h2 h1

theorem uSlice_of {t e : TypeId} (h : uSlice P t = some e) : P.underlying t = some (.slice e) := by
  unfold uSlice at h; split at h <;> cases h; assumption
theorem uArray_of {t : TypeId} {q : Nat × TypeId} (h : uArray P t = some q) : P.underlying t = some (.array q.1 q.2) := by
  unfold uArray at h; split at h <;> cases h; assumption
theorem uStruct_of {t : TypeId} {fs : Array Field} (h : uStruct P t = some fs) : P.underlying t = some (.struct fs) := by
  unfold uStruct at h; split at h <;> cases h; assumption
theorem uMap_of {t : TypeId} {q : TypeId × TypeId} (h : uMap P t = some q) : P.underlying t = some (.map q.1 q.2) := by
  unfold uMap at h; split at h <;> cases h; assumption
theorem uString_of {t : TypeId} {u : Unit} (h : uString P t = some u) : P.underlying t = some .string := by
  unfold uString at h; split at h <;> cases h; assumption
theorem uInt_of {t : TypeId} {k : IntKind} (h : uInt P t = some k) : P.underlying t = some (.int k) := by
  unfold uInt at h; split at h <;> cases h; assumption
theorem uIface_of {t : TypeId} {u : Unit} (h : uIface P t = some u) : ∃ ms, P.underlying t = some (.interface ms) := by
  unfold uIface at h; split at h <;> cases h; exact ⟨_, by assumption⟩
theorem uOther_of {t : TypeId} {u : Unit} (h : uOther P t = some u) : ∃ d, P.underlying t = some d ∧ ∀ ms, d ≠ .interface ms := by
  unfold uOther at h
  cases hu : P.underlying t with
  | none => rw [hu] at h; cases h
  | some d => rw [hu] at h; refine ⟨d, rfl, fun ms e => ?_⟩; subst e; cases h
theorem must_of {b : Bool} {u : Unit} (h : must b = some u) : b = true := by
  unfold must at h; cases b <;> simp at h; rfl
theorem or1_of {x y : Option IOp} {r : IOp} (h : or1 x y = some r) : x = some r ∨ y = some r := by
  unfold or1 at h
  cases x with
  | none => exact .inr h
  | some z => exact .inl h
theorem bind_of {α β : Type} {x : Option α} {f : α → Option β} {y : β} (h : x.bind f = some y) : ∃ a, x = some a ∧ f a = some y := Option.bind_eq_some_iff.1 h

/-- Each operation that tells a value. -/
theorem op_sound {o : Oper} {io : IOp} (hc : cOp P G o = some io) (hG : Globs G ρ) (hR : R base ρ m w) (hF : FR ρ n fr a) {v : EV} {m' : Mem} (h : evOp fr.eval io m = some (.val v m')) :
    Good base ρ m w v m' ((execOp a.eval o).run P w) := by
  have E : ∀ {x : Operand} {y : Opd}, cOpd G x = some y → VR ρ (fr.eval y) (a.eval x) := fun h => cOpd_sound hG hF h
  have EO : ∀ {x : Option Operand} {y : Option Opd}, cOpt G x = some y → OptR ρ (y.map fr.eval) (x.map a.eval) := fun h => cOpt_sound hG hF h
  unfold cOp at hc
  split at hc
  case h_1 x ho =>
    obtain ⟨y, hy, rfl⟩ := map_some' hc
    simp only [evOp, Option.some.injEq, R1.val.injEq] at h
    obtain ⟨rfl, rfl⟩ := h
    exact ⟨ρ, w, a.eval x, .inl (by simp only [execOp, ho]; rfl), E hy, hR, .refl _ _ _⟩
  case h_2 x ho =>
    obtain ⟨y, hy, rfl⟩ := map_some' hc
    simp only [evOp, Option.some.injEq, R1.val.injEq] at h
    obtain ⟨rfl, rfl⟩ := h
    exact ⟨ρ, w, a.eval x, .inl (by simp only [execOp, ho]; rfl), E hy, hR, .refl _ _ _⟩
  case h_3 c x y ho =>
    obtain ⟨c', h1, hc⟩ := bind_of hc
    obtain ⟨x', h2, hc⟩ := bind_of hc
    obtain ⟨y', h3, rfl⟩ := map_some' hc
    have hcv := E h1
    simp only [evOp] at h
    generalize fr.eval c' = cv at hcv h
    generalize hcc : a.eval c = cc at hcv
    cases hcv <;> simp only [reduceCtorEq, Option.some.injEq, R1.val.injEq] at h
    rename_i b
    obtain ⟨rfl, rfl⟩ := h
    refine ⟨ρ, w, if b then a.eval x else a.eval y, .inl (by simp only [execOp, ho, hcc, asBool, Sem.run_bind, Sem.run_pure, Result.andThen_ok]), ?_, hR, .refl _ _ _⟩
    cases b
    · exact E h3
    · exact E h2
  case h_4 e ho =>
    obtain ⟨z, hz, rfl⟩ := map_some' hc
    simp only [evOp, Option.some.injEq, R1.val.injEq] at h
    obtain ⟨rfl, rfl⟩ := h
    simp only [execOp, ho]
    exact ((alloc_made hR.n hz).runs hR).good
  case h_5 e x ho =>
    obtain ⟨y, hy, rfl⟩ := map_some' hc
    simp only [evOp] at h
    cases hcs : (fr.eval y).cells with
    | none => simp [hcs] at h
    | some cs =>
      simp only [hcs, Option.some.injEq, R1.val.injEq] at h
      obtain ⟨rfl, rfl⟩ := h
      simp only [execOp, ho]
      exact ((box_made hR.n (E hy) hcs).runs hR).good
  case h_6 t parts ho =>
    obtain ⟨z, hz, hc⟩ := bind_of hc
    obtain ⟨zv, z1, z2, z3⟩ := zeros_sound (ρ := ρ) hz
    rcases or1_of hc with hc | hc
    · obtain ⟨fs, hu, hc⟩ := bind_of hc
      obtain ⟨_, hall, hc⟩ := bind_of hc
      obtain ⟨ps, hp, rfl⟩ := map_some' hc
      have hu := uStruct_of hu
      have hall := must_of hall
      simp only [evOp] at h
      have hE := ofEV_val (x := (fillIn z (ps.map fun p => (p.1, p.2.1, fr.eval p.2.2))).map .agg) h
      obtain ⟨hE1, hE2⟩ := hE
      subst hE2
      obtain ⟨ds, hf, hE3⟩ := Option.map_eq_some_iff.1 hE1
      subst hE3
      obtain ⟨p1, p2⟩ := parts_sound hG hF hp
      have hplaces : ∀ (l : List Field) (w : World), (∀ f ∈ l, ∃ s, cSize P f.type = some s) → (l.mapM fun (f : Field) => (do pure (f.offset, ← sizeOf f.type) : Sem (Nat × Nat))).run P w = .ok (l.map fun f => (f.offset, (cSize P f.type).getD 0)) w := by
        intro l w hl
        induction l with
        | nil => rfl
        | cons f l ih =>
          obtain ⟨s, hs⟩ := hl f (by simp)
          simp only [List.mapM_cons, Sem.run_bind, run_sizeOf' hs, Result.andThen_ok, Sem.run_pure, ih (fun g hg => hl g (by simp [hg])), List.map_cons, hs, Option.getD_some]
      have hpl := hplaces fs.toList w (fun f hf => Option.isSome_iff_exists.1 (List.all_eq_true.1 hall f hf))
      obtain ⟨ds', f1, f2, f3, _⟩ := fill_sound (ρ := ρ) (place := fun i => (fs.toList.map fun f => (f.offset, (cSize P f.type).getD 0)).toArray[i]?) _ (parts.toList.map fun p => (p.1, a.eval p.2)) z zv.cells z2 z3 p1 (fun i p q hp' hq' => by
        obtain ⟨g1, g2⟩ := p2 i p q hp' hq'
        refine ⟨?_, g2⟩
        obtain ⟨f, hf1, hf2⟩ := bind_of g1
        obtain ⟨s, hs1, hs2⟩ := map_some' hf2
        rw [← hs2]
        have : fs.toList[q.1]? = some f := by simpa using hf1
        simp [hf1, hs1]) ds hf
      have hrun : (Instr.build t (parts.map fun (i, x) => (i, a.eval x))).run P w = .ok (.agg ds') w := by
        simp only [Instr.build, Sem.run_bind, z1, Result.andThen_ok, run_underlying hu, Array.toList_map]
        rw [show (fs.mapM fun f => (do pure (f.offset, ← sizeOf f.type) : Sem (Nat × Nat))).run P w = .ok (fs.toList.map fun f => (f.offset, (cSize P f.type).getD 0)).toArray w by
          rw [Array.mapM_eq_mapM_toList, Sem.run_map, hpl]; rfl]
        simp only [Result.andThen_ok, f1, Sem.run_pure]
      simp only [execOp, ho]
      exact Good.still hR hrun (.agg f2 f3)
    · obtain ⟨q, hu, hc⟩ := bind_of hc
      obtain ⟨s, hs, hc⟩ := bind_of hc
      obtain ⟨ps, hp, rfl⟩ := map_some' hc
      have hu := uArray_of hu
      simp only [evOp] at h
      have hE := ofEV_val (x := (fillIn z (ps.map fun p => (p.1, p.2.1, fr.eval p.2.2))).map .agg) h
      obtain ⟨hE1, hE2⟩ := hE
      subst hE2
      obtain ⟨ds, hf, hE3⟩ := Option.map_eq_some_iff.1 hE1
      subst hE3
      obtain ⟨p1, p2⟩ := parts_sound hG hF hp
      obtain ⟨ds', f1, f2, f3, _⟩ := fill_sound (ρ := ρ) (place := fun i => some (i * s, s)) _ (parts.toList.map fun p => (p.1, a.eval p.2)) z zv.cells z2 z3 p1 (fun i p q hp' hq' => p2 i p q hp' hq') ds hf
      have hrun : (Instr.build t (parts.map fun (i, x) => (i, a.eval x))).run P w = .ok (.agg ds') w := by
        simp only [Instr.build, Sem.run_bind, z1, Result.andThen_ok, run_underlying hu, Array.toList_map, run_sizeOf' hs, f1, Sem.run_pure]
      simp only [execOp, ho]
      exact Good.still hR hrun (.agg f2 f3)
  case h_7 t len parts ho =>
    obtain ⟨e, hu, hc⟩ := bind_of hc
    obtain ⟨s, hs, hc⟩ := bind_of hc
    obtain ⟨z, hz, hc⟩ := bind_of hc
    obtain ⟨ps, hp, hc⟩ := bind_of hc
    obtain ⟨_, hzs, hc⟩ := bind_of hc
    obtain ⟨_, hl, rfl⟩ := map_some' hc
    have hu := uSlice_of hu
    simp only [evOp] at h
    cases hcs : fillIn (copies len z) (ps.map fun p => (p.1 * s, s, fr.eval p.2)) with
    | none => simp [hcs] at h
    | some cs =>
      simp only [hcs, Option.some.injEq, R1.val.injEq] at h
      obtain ⟨rfl, rfl⟩ := h
      obtain ⟨p1, p2⟩ := mapM_some _ hp
      have hb := bslice_made (P := P) hR.n hu hs hz (of_beq (must_of hzs)) (Nat.le_of_ble_eq_true (must_of hl)) (qs := parts.toList.map fun p => (p.1, a.eval p.2)) (by simpa using p1.symm) (fun i p q hp' hq' => by
        rw [List.getElem?_map] at hp' hq'
        obtain ⟨p0, hp0, rfl⟩ := Option.map_eq_some_iff.1 hp'
        obtain ⟨q0, hq0, rfl⟩ := Option.map_eq_some_iff.1 hq'
        obtain ⟨x, hx, hxp⟩ := map_some' (p2 i q0 p0 hq0 hp0)
        subst hxp
        exact ⟨⟨rfl, rfl⟩, E hx⟩) hcs
      simp only [execOp, ho]
      have : (parts.map fun (i, x) => (i, a.eval x)) = (⟨parts.toList.map fun p => (p.1, a.eval p.2)⟩ : Array (Nat × Value)) := by apply Array.ext'; simp
      rw [this]
      exact (hb.runs hR).good
  case h_8 t x ho =>
    obtain ⟨g, hg, hc⟩ := bind_of hc
    obtain ⟨y, hy, rfl⟩ := map_some' hc
    simp only [evOp] at h
    obtain ⟨h1, h2⟩ := ofEV_val h
    subst h2
    obtain ⟨ad, v', e1, e2, e3⟩ := loadVar_sound (P := P) hR hg (E hy) h1
    simp only [execOp, ho]
    refine Good.still (s := Instr.loadAt t (a.eval x)) hR (v' := v') ?_ e3
    rw [e1]
    simp only [Instr.loadAt, Instr.sureAddr, Sem.run_bind, Sem.run_pure, Result.andThen_ok, e2]
  case h_9 t x y ho =>
    obtain ⟨s, hs, hc⟩ := bind_of hc
    obtain ⟨x', hx, hc⟩ := bind_of hc
    obtain ⟨y', hy, rfl⟩ := map_some' hc
    simp only [evOp] at h
    obtain ⟨h1, rfl⟩ := ofM_val h
    have hxv := E hx
    have hyv := E hy
    unfold Mem.store at h1
    cases hx0 : fr.eval x' <;> simp only [hx0, reduceCtorEq] at h1
    rename_i b off
    cases hcs : (fr.eval y').cells with
    | none => simp [hcs] at h1
    | some vs =>
      simp only [hcs] at h1
      cases hl : vs.length.beq s <;> simp only [hl, cond_true, cond_false, reduceCtorEq] at h1
      rw [hx0] at hxv
      generalize hav : a.eval x = av at hxv
      cases hxv with
      | @ptr _ _ L hL =>
      obtain ⟨c1, c2⟩ := hyv.cells hcs
      obtain ⟨w', r1, r2, r3⟩ := write_sound (P := P) hR hL c1 c2 h1
      refine ⟨ρ, w', undef, .inr ⟨?_, rfl⟩, .undef, r2, r3⟩
      have hsz : (a.eval y).cells.size = s := by rw [← of_beq hl, c1.length]; simp
      simp only [execOp, ho, hav, Instr.storeAt, Instr.sureAddr, storeVar, Sem.run_bind, Sem.run_pure, Result.andThen_ok, run_sizeOf' hs]
      rw [if_neg (by simp [hsz])]
      simp only [r1, Result.andThen_ok]
  case h_10 x ho =>
    obtain ⟨y, hy, rfl⟩ := map_some' hc
    have hyv := E hy
    simp only [evOp] at h
    generalize fr.eval y = e at hyv h
    generalize hav : a.eval x = av at hyv
    cases hyv <;> simp only [reduceCtorEq, Option.some.injEq, R1.val.injEq] at h
    case ptr b off L hL =>
      obtain ⟨rfl, rfl⟩ := h
      exact ⟨ρ, w, _, .inl (by simp only [execOp, ho, hav]; rfl), .ptr hL, hR, .refl _ _ _⟩
    case func f p q p' q' h1 h2 =>
      obtain ⟨rfl, rfl⟩ := h
      exact ⟨ρ, w, _, .inl (by simp only [execOp, ho, hav]; rfl), .func h1 h2, hR, .refl _ _ _⟩
    case iface t p p' h1 =>
      obtain ⟨rfl, rfl⟩ := h
      exact ⟨ρ, w, _, .inl (by simp only [execOp, ho, hav]; rfl), .iface h1, hR, .refl _ _ _⟩
  case h_11 op t x y yt ho =>
    obtain ⟨x', hx, hc⟩ := bind_of hc
    obtain ⟨y', hy, hc⟩ := bind_of hc
    have plain : op ≠ .eql → op ≠ .neq → some (IOp.bin op x' y') = some io → Good base ρ m w v m' ((execOp a.eval o).run P w) := by
      intro n1 n2 hc
      cases hc
      simp only [evOp] at h
      obtain ⟨h1, h2⟩ := ofEV_val h
      subst h2
      obtain ⟨v', r1, r2⟩ := evBin_sound (P := P) (w := w) (t := t) (E hx) (E hy) h1
      simp only [execOp, ho]
      refine Good.still hR (v' := v') ?_ r1
      rw [eqGuard_other n1 n2]
      simpa using r2
    have eqs : ∀ neg, ((op = .eql ∧ neg = false) ∨ (op = .neq ∧ neg = true)) → cEq P neg t x' y' = some io → Good base ρ m w v m' ((execOp a.eval o).run P w) := by
      intro neg hop hc
      unfold cEq at hc
      have : ∃ e, cEqTy P 20 t = some e ∧ io = .eq neg e x' y' ∧ (P.eqGuardType P.depth t = false ∨ ∃ ms, P.underlying t = some (.interface ms)) := by
        cases hg : P.eqGuardType P.depth t <;> simp only [hg, cond_true, cond_false] at hc
        · obtain ⟨e, he, rfl⟩ := map_some' hc
          exact ⟨e, he, rfl, .inl rfl⟩
        · obtain ⟨_, hi, rfl⟩ := map_some' hc
          obtain ⟨ms, hms⟩ := uIface_of hi
          exact ⟨.prim 7, by simp [cEqTy, hms], rfl, .inr ⟨ms, hms⟩⟩
      obtain ⟨e, he, rfl, hgd⟩ := this
      simp only [evOp] at h
      have hE := ofEV_val (x := (evEq e (fr.eval x') (fr.eval y')).map fun b => .bool (neg ^^ b)) h
      obtain ⟨hE1, hE2⟩ := hE
      subst hE2
      obtain ⟨b, hb, hE3⟩ := Option.map_eq_some_iff.1 hE1
      subst hE3
      have hr := eq_sound (P := P) (w := w) (ox := x) (oy := y) hop he hgd (E hx) (E hy) hb
      simp only [execOp, ho]
      exact Good.still hR hr (.bool _)
    cases op <;> first
      | exact eqs false (.inl ⟨rfl, rfl⟩) hc
      | exact eqs true (.inr ⟨rfl, rfl⟩) hc
      | exact plain (by simp) (by simp) hc
  case h_12 op t x ho =>
    obtain ⟨y, hy, rfl⟩ := map_some' hc
    simp only [evOp] at h
    obtain ⟨h1, h2⟩ := ofEV_val h
    subst h2
    obtain ⟨v', r1, r2⟩ := evUn_sound (P := P) (w := w) (E hy) h1
    simp only [execOp, ho]
    exact Good.still hR r2 r1
  case h_13 s d x ho =>
    obtain ⟨y, hy, hc⟩ := bind_of hc
    have hyv := E hy
    simp only [execOp, ho]
    rcases or1_of hc with hc | hc
    · obtain ⟨_, hs, hc⟩ := bind_of hc
      obtain ⟨k, hd, rfl⟩ := map_some' hc
      obtain ⟨ds, hs, _⟩ := uOther_of hs
      have hd := uInt_of hd
      simp only [evOp] at h
      have h1 := ofEM_val h
      generalize fr.eval y = e at hyv h1
      generalize a.eval x = av at hyv
      cases hyv <;> simp only [evConv, reduceCtorEq, Option.some.injEq, Prod.mk.injEq] at h1
      obtain ⟨rfl, rfl⟩ := h1
      exact Good.still hR (conv_int hs hd _ _) (.int _ _)
    rcases or1_of hc with hc | hc
    · obtain ⟨_, hs, hc⟩ := bind_of hc
      obtain ⟨_, hd, rfl⟩ := map_some' hc
      simp only [evOp] at h
      have h1 := ofEM_val h
      generalize fr.eval y = e at hyv h1
      generalize a.eval x = av at hyv
      cases hyv <;> simp only [evConv, reduceCtorEq, Option.some.injEq, Prod.mk.injEq] at h1
      obtain ⟨rfl, rfl⟩ := h1
      exact Good.still hR (conv_same (uString_of hs) (uString_of hd) _) (.str _)
    rcases or1_of hc with hc | hc
    · obtain ⟨_, hs, hc⟩ := bind_of hc
      obtain ⟨e, hd, hc⟩ := bind_of hc
      obtain ⟨k, he, hc⟩ := bind_of hc
      obtain ⟨_, hk, rfl⟩ := map_some' hc
      have hk : k = .u8 := by have := of_beq (must_of hk); cases k <;> simp [kindNo] at this; rfl
      subst hk
      simp only [evOp] at h
      obtain ⟨B, rfl, hB⟩ := bytes_made (P := P) hR.n (uString_of hs) (uSlice_of hd) (uInt_of he) hyv (ofEM_val h)
      exact (hB.runs hR).good
    · obtain ⟨e, hs, hc⟩ := bind_of hc
      obtain ⟨_, hd, hc⟩ := bind_of hc
      obtain ⟨k, he, hc⟩ := bind_of hc
      obtain ⟨_, hk, rfl⟩ := map_some' hc
      have hk : k = .u8 := by have := of_beq (must_of hk); cases k <;> simp [kindNo] at this; rfl
      subst hk
      simp only [evOp] at h
      exact (text_sound hR (uSlice_of hs) (uInt_of he) (uString_of hd) hyv (ofEM_val h)).good
  case h_14 t x ho =>
    obtain ⟨_, hu, hc⟩ := bind_of hc
    obtain ⟨y, hy, rfl⟩ := map_some' hc
    obtain ⟨d, hu, hd⟩ := uOther_of hu
    simp only [evOp, Option.some.injEq, R1.val.injEq] at h
    obtain ⟨rfl, rfl⟩ := h
    simp only [execOp, ho]
    refine Good.still (v' := .iface t (a.eval x)) hR ?_ (.iface (E hy))
    simp only [Instr.makeInterface, Sem.run_bind, run_underlying hu, Result.andThen_ok]
    cases d <;> first | rfl | exact absurd rfl (hd _)
  case h_15 f p c ho =>
    obtain ⟨p', hp, hc⟩ := bind_of hc
    obtain ⟨c', hcc, rfl⟩ := map_some' hc
    simp only [evOp, Option.some.injEq, R1.val.injEq] at h
    obtain ⟨rfl, rfl⟩ := h
    have h1 := cOpds_sound hG hF hp
    have h2 := cOpds_sound hG hF hcc
    simp only [execOp, ho]
    refine Good.still (v' := .func (.func f) (p.map a.eval) (c.map a.eval)) hR rfl ?_
    have e1 : p.map a.eval = ⟨p.toList.map a.eval⟩ := by apply Array.ext'; simp
    have e2 : c.map a.eval = ⟨c.toList.map a.eval⟩ := by apply Array.ext'; simp
    rw [e1, e2]
    exact .func h1 h2
  case h_16 t ho =>
    obtain ⟨_, _, rfl⟩ := map_some' hc
    simp only [evOp, Option.some.injEq, R1.val.injEq] at h
    obtain ⟨rfl, rfl⟩ := h
    simp only [execOp, ho]
    have := ((mkmap_made (P := P) hR.n).runs hR).good
    simpa [Instr.makeMap] using this
  case h_17 t k z ho =>
    obtain ⟨q, hu, rfl⟩ := map_some' hc
    have hu := uMap_of hu
    simp only [evOp, Option.some.injEq, R1.val.injEq] at h
    obtain ⟨rfl, rfl⟩ := h
    simp only [execOp, ho]
    have := ((mkmap_made (P := P) hR.n).runs hR).good
    simpa [Instr.makeMap, run_underlying hu, Act.eval, asInt, asIntOf] using this
  case h_18 t l c ho =>
    obtain ⟨e, hu, hc⟩ := bind_of hc
    obtain ⟨i, hi, hc⟩ := bind_of hc
    obtain ⟨z, hz, hc⟩ := bind_of hc
    obtain ⟨l', hl, hc⟩ := bind_of hc
    obtain ⟨c', hcc, hc⟩ := bind_of hc
    obtain ⟨_, hzs, hc⟩ := bind_of hc
    obtain ⟨_, hb, rfl⟩ := map_some' hc
    have hlv := E hl
    have hcv := E hcc
    simp only [evOp] at h
    simp only [execOp, ho]
    generalize fr.eval l' = el at hlv h
    generalize fr.eval c' = ec at hcv h
    generalize a.eval l = al at hlv
    generalize a.eval c = ac at hcv
    cases hlv <;> (try simp only [reduceCtorEq] at h)
    rename_i k1 n1
    cases k1 <;> (try simp only [reduceCtorEq] at h)
    cases n1 <;> (try simp only [reduceCtorEq] at h)
    rename_i ln
    cases hcv <;> (try simp only [reduceCtorEq] at h)
    rename_i k2 n2
    cases k2 <;> (try simp only [reduceCtorEq] at h)
    cases n2 <;> (try simp only [reduceCtorEq] at h)
    rename_i cn
    cases h1 : ln.ble cn <;> simp only [h1, cond_true, cond_false, reduceCtorEq] at h
    cases h2 : cn.ble room <;> simp only [h2, cond_true, cond_false, reduceCtorEq, Option.some.injEq, R1.val.injEq] at h
    obtain ⟨rfl, rfl⟩ := h
    exact ((mkslice_made hR.n (uSlice_of hu) hi hz (of_beq (must_of hzs)) (Nat.le_of_ble_eq_true (must_of hb)) (Nat.le_of_ble_eq_true h1) (Nat.le_of_ble_eq_true h2)).runs hR).good
  case h_19 t x lo hi mx ho =>
    obtain ⟨_, hmh, hc⟩ := bind_of hc
    obtain ⟨x', hx, hc⟩ := bind_of hc
    obtain ⟨lo', hlo, hc⟩ := bind_of hc
    obtain ⟨hi', hhi, hc⟩ := bind_of hc
    obtain ⟨mx', hmx, hc⟩ := bind_of hc
    have hxv := E hx
    have hlv := EO hlo
    have hhv := EO hhi
    have hmv := EO hmx
    have hmh2 : (mx.map a.eval).isSome = true → (hi.map a.eval).isSome = true := by
      have := must_of hmh
      cases mx <;> cases hi <;> simp at this ⊢
    simp only [execOp, ho]
    rcases or1_of hc with hc | hc
    · obtain ⟨q, hu, hc⟩ := bind_of hc
      obtain ⟨s, hs, rfl⟩ := map_some' hc
      have hu := uArray_of hu
      simp only [evOp] at h
      generalize fr.eval x' = e at hxv h
      generalize a.eval x = av at hxv
      cases hxv <;> simp only [reduceCtorEq] at h
      rename_i b off L hL
      obtain ⟨h1, h2⟩ := ofEV_val h
      subst h2
      obtain ⟨l, hh, t', r1, r2⟩ := slice_known (P := P) (w := w) hlv hhv hmv hmh2 hL (Nat.le_refl q.1) (o := L.off + off) (fun _ => rfl) false h1
      refine Good.still hR ?_ r2
      simp only [Instr.sliceAt, Sem.run_bind, run_underlying hu, Result.andThen_ok, Instr.sureAddr, Sem.run_pure, r1, run_sizeOf' hs, cutV, Option.map_some]
      split <;> rfl
    rcases or1_of hc with hc | hc
    · obtain ⟨el, hu, hc⟩ := bind_of hc
      obtain ⟨s, hs, rfl⟩ := map_some' hc
      have hu := uSlice_of hu
      simp only [evOp] at h
      generalize fr.eval x' = e at hxv h
      generalize a.eval x = av at hxv
      cases hxv <;> simp only [reduceCtorEq] at h
      case nilslice =>
        cases h1 : bound (mx'.map fr.eval) 0 0 with
        | none => simp [h1] at h
        | some t1 =>
        cases h2 : bound (hi'.map fr.eval) 0 0 with
        | none => simp [h1, h2] at h
        | some t2 =>
        cases h3 : bound (lo'.map fr.eval) 0 0 with
        | none => simp [h1, h2, h3] at h
        | some t3 =>
        simp only [h1, h2, h3, Option.some.injEq, R1.val.injEq] at h
        obtain ⟨rfl, rfl⟩ := h
        have z : ∀ {y : Option EV} {r : Nat}, bound y 0 0 = some r → r = 0 := by
          intro y r hb
          unfold bound at hb
          split at hb
          · cases hb; rfl
          · rename_i i
            cases hq : i.ble 0 <;> simp only [hq, cond_true, cond_false, reduceCtorEq, Option.some.injEq] at hb
            have := Nat.le_of_ble_eq_true hq
            omega
          · cases hb
        have e1 := z h1; have e2 := z h2; have e3 := z h3
        subst e1 e2 e3
        obtain ⟨r, _⟩ := bounds_sound (P := P) (w := w) hlv hhv hmv hmh2 true (n := 0) rfl (t := 0) (h := 0) (l := 0) (c := 0) (by
          cases hm : mx'.map fr.eval with
          | none => exact .inl ⟨rfl, rfl⟩
          | some y => rw [hm] at h1; exact .inr ⟨0, h1, by simp⟩) h2 h3
        refine Good.still (v' := .slice none 0 0) hR ?_ .nilslice
        simp only [Instr.sliceAt, Instr.slice, Sem.run_bind, run_underlying hu, Result.andThen_ok, r, run_sizeOf' hs, Sem.run_pure, if_true]
      case slice b off len c o L hL hcl hoo hrr =>
        cases hm : m.get b with
        | dead => simp [hm] at h
        | map => simp [hm] at h
        | cells cs e1 el1 ro1 =>
        simp only [hm] at h
        cases hq : e1.beq s <;> simp only [hq, cond_true, cond_false, reduceCtorEq] at h
        obtain ⟨h1, h2⟩ := ofEV_val h
        subst h2
        obtain ⟨l, hh, t', r1, r2⟩ := slice_open (P := P) (w := w) hlv hhv hmv hmh2 hL hcl hoo hrr (by rw [esz_of hR hL hm, of_beq hq]) true h1
        refine Good.still hR ?_ r2
        simp only [Instr.sliceAt, Instr.slice, Sem.run_bind, run_underlying hu, Result.andThen_ok, r1, run_sizeOf' hs, Sem.run_pure, cutV]
      case sliceE b off a0 =>
        obtain ⟨h1, h2⟩ := ofEV_val h
        subst h2
        obtain ⟨l, hh, t', r1, r2⟩ := slice_empty (P := P) (w := w) (a := a0) hlv hhv hmv hmh2 true h1
        refine Good.still hR ?_ r2
        simp only [Instr.sliceAt, Instr.slice, Sem.run_bind, run_underlying hu, Result.andThen_ok, r1, run_sizeOf' hs, Sem.run_pure, cutV]
      case sliceC b off len c o L hL hcl hoo =>
        obtain ⟨h1, h2⟩ := ofEV_val h
        subst h2
        obtain ⟨l, hh, t', r1, r2⟩ := slice_known (P := P) (w := w) hlv hhv hmv hmh2 hL hcl hoo true h1
        refine Good.still hR ?_ r2
        simp only [Instr.sliceAt, Instr.slice, Sem.run_bind, run_underlying hu, Result.andThen_ok, r1, run_sizeOf' hs, Sem.run_pure, cutV]
    · obtain ⟨_, hu, hc⟩ := bind_of hc
      obtain ⟨_, hmn, rfl⟩ := map_some' hc
      have hu := uString_of hu
      have hmn := must_of hmn
      have : mx = none := by
        cases mx with
        | none => rfl
        | some y =>
          simp [cOpt] at hmx
          obtain ⟨z, hz, rfl⟩ := hmx
          simp at hmn
      subst this
      simp only [evOp] at h
      generalize fr.eval x' = e at hxv h
      generalize a.eval x = av at hxv
      cases hxv <;> simp only [reduceCtorEq] at h
      rename_i s'
      cases h1 : bound (hi'.map fr.eval) s'.data.toList.length s'.data.toList.length with
      | none => simp only [h1, reduceCtorEq] at h
      | some hh =>
      cases h2 : bound (lo'.map fr.eval) 0 hh with
      | none => simp only [h1, h2, reduceCtorEq] at h
      | some l =>
        simp only [h1, h2, Option.some.injEq, R1.val.injEq] at h
        obtain ⟨rfl, rfl⟩ := h
        obtain ⟨v', r1, r2⟩ := slstr_sound (P := P) (w := w) hu hlv hhv h1 h2
        exact Good.still hR r2 r1
  case h_20 s x f ho =>
    obtain ⟨fs, hu, hc⟩ := bind_of hc
    obtain ⟨x', hx, hc⟩ := bind_of hc
    obtain ⟨fl, hf, hc⟩ := bind_of hc
    obtain ⟨sz, hs, hc⟩ := bind_of hc
    obtain ⟨_, h1, rfl⟩ := map_some' hc
    have h1 := Nat.le_of_ble_eq_true (must_of h1)
    obtain ⟨k, rfl⟩ : ∃ k, sz = k + 1 := ⟨sz - 1, by omega⟩
    have hxv := E hx
    simp only [evOp] at h
    simp only [execOp, ho]
    generalize fr.eval x' = e at hxv h
    generalize a.eval x = av at hxv
    cases hxv <;> simp only [reduceCtorEq, Option.some.injEq, R1.val.injEq] at h
    rename_i hL
    obtain ⟨rfl, rfl⟩ := h
    exact Good.of_run hR (faddr_sound (uStruct_of hu) hf hs (.ptr hL))
  case h_21 t x f ho =>
    obtain ⟨fs, hu, hc⟩ := bind_of hc
    obtain ⟨x', hx, hc⟩ := bind_of hc
    obtain ⟨fl, hf, hc⟩ := bind_of hc
    obtain ⟨g, hg, rfl⟩ := map_some' hc
    have hxv := E hx
    simp only [evOp] at h
    simp only [execOp, ho]
    cases he : fr.eval x' <;> simp only [he, reduceCtorEq] at h
    rename_i cs
    rw [he] at hxv
    obtain ⟨h1, h2⟩ := ofEV_val h
    subst h2
    exact Good.of_run hR (field_sound (uStruct_of hu) hf hg hxv h1)
  case h_22 t x i ho =>
    obtain ⟨x', hx, hc⟩ := bind_of hc
    obtain ⟨i', hi, hc⟩ := bind_of hc
    have hxv := E hx
    have hiv := E hi
    simp only [execOp, ho]
    rcases or1_of hc with hc | hc
    · obtain ⟨e, hu, hc⟩ := bind_of hc
      obtain ⟨s, hs, rfl⟩ := map_some' hc
      simp only [evOp] at h
      cases he : fr.eval x' <;> simp only [he, reduceCtorEq] at h
      rename_i b off len cap
      rw [he] at hxv
      cases hj : idx len (fr.eval i') with
      | none => simp [hj] at h
      | some j =>
        simp only [hj, Option.some.injEq, R1.val.injEq] at h
        obtain ⟨rfl, rfl⟩ := h
        exact Good.of_run hR (iaddr_sound (uSlice_of hu) hs hxv hiv hj)
    · obtain ⟨q, hu, hc⟩ := bind_of hc
      obtain ⟨s, hs, rfl⟩ := map_some' hc
      simp only [evOp] at h
      cases he : fr.eval x' <;> simp only [he, reduceCtorEq] at h
      rename_i b off
      rw [he] at hxv
      cases hj : idx q.1 (fr.eval i') with
      | none => simp [hj] at h
      | some j =>
        simp only [hj, Option.some.injEq, R1.val.injEq] at h
        obtain ⟨rfl, rfl⟩ := h
        exact Good.of_run hR (iaddrArr_sound (uArray_of hu) hs hxv hiv hj)
  case h_23 t x i ho =>
    obtain ⟨x', hx, hc⟩ := bind_of hc
    obtain ⟨i', hi, hc⟩ := bind_of hc
    have hxv := E hx
    have hiv := E hi
    simp only [execOp, ho]
    rcases or1_of hc with hc | hc
    · obtain ⟨_, hu, rfl⟩ := map_some' hc
      simp only [evOp] at h
      generalize fr.eval x' = e at hxv h
      generalize a.eval x = av at hxv
      cases hxv <;> simp only [reduceCtorEq] at h
      rename_i s'
      cases hj : idx s'.data.toList.length (fr.eval i') with
      | none => simp only [hj, reduceCtorEq] at h
      | some j =>
        simp only [hj] at h
        cases hcj : s'.data.toList[j]? with
        | none => simp only [hcj, reduceCtorEq] at h
        | some c =>
          simp only [hcj, Option.some.injEq, R1.val.injEq] at h
          obtain ⟨rfl, rfl⟩ := h
          exact Good.still hR (idxstr_sound (uString_of hu) hiv hj hcj) (.int _ _)
    · obtain ⟨q, hu, hc⟩ := bind_of hc
      obtain ⟨s, hs, hc⟩ := bind_of hc
      obtain ⟨g, hg, rfl⟩ := map_some' hc
      simp only [evOp] at h
      cases he : fr.eval x' <;> simp only [he, reduceCtorEq] at h
      rename_i cs
      rw [he] at hxv
      cases hj : idx q.1 (fr.eval i') with
      | none => simp [hj] at h
      | some j =>
        simp only [hj] at h
        obtain ⟨h1, h2⟩ := ofEV_val h
        subst h2
        exact Good.of_run hR (idxagg_sound (uArray_of hu) hs hg hxv hiv hj h1)
  case h_24 t mp k ok ho =>
    obtain ⟨q, hu, hc⟩ := bind_of hc
    obtain ⟨c, hk, hc⟩ := bind_of hc
    obtain ⟨z, hz, hc⟩ := bind_of hc
    obtain ⟨m1, hm, hc⟩ := bind_of hc
    obtain ⟨k1, hkk, rfl⟩ := map_some' hc
    simp only [execOp, ho]
    exact (lookup_sound hR (uMap_of hu) hk hz (E hm) (E hkk) rfl rfl h).good
  case h_25 t mp k x ho =>
    obtain ⟨q, hu, hc⟩ := bind_of hc
    obtain ⟨c, hk, hc⟩ := bind_of hc
    obtain ⟨m1, hm, hc⟩ := bind_of hc
    obtain ⟨k1, hkk, hc⟩ := bind_of hc
    obtain ⟨x1, hx, rfl⟩ := map_some' hc
    obtain ⟨w', r1, rfl, r2, r3⟩ := mapupd_sound (P := P) hR (uMap_of hu) hk (E hm) (E hkk) (E hx) rfl rfl rfl h
    exact ⟨ρ, w', undef, .inr ⟨by simp only [execOp, ho, Sem.run_bind, r1, Result.andThen_ok, Sem.run_pure], rfl⟩, .undef, r2, r3⟩
  case h_26 t mp k x ho =>
    obtain ⟨q, hu, hc⟩ := bind_of hc
    obtain ⟨c, hk, hc⟩ := bind_of hc
    obtain ⟨m1, hm, hc⟩ := bind_of hc
    obtain ⟨k1, hkk, hc⟩ := bind_of hc
    obtain ⟨x1, hx, rfl⟩ := map_some' hc
    obtain ⟨w', r1, rfl, r2, r3⟩ := mapupd_sound (P := P) hR (uMap_of hu) hk (E hm) (E hkk) (E hx) rfl rfl rfl h
    exact ⟨ρ, w', undef, .inr ⟨by simp only [execOp, ho, Sem.run_bind, r1, Result.andThen_ok, Sem.run_pure], rfl⟩, .undef, r2, r3⟩
  case h_27 x xt t ho =>
    obtain ⟨_, hu, hc⟩ := bind_of hc
    obtain ⟨y, hy, rfl⟩ := map_some' hc
    obtain ⟨d, hu, hd⟩ := uOther_of hu
    have hyv := E hy
    simp only [evOp] at h
    simp only [execOp, ho]
    generalize fr.eval y = e at hyv h
    generalize a.eval x = av at hyv
    cases hyv <;> simp only [reduceCtorEq] at h
    rename_i u v0 v1 hv
    cases hq : t.beq u <;> simp only [hq, cond_true, cond_false, reduceCtorEq, Option.some.injEq, R1.val.injEq] at h
    obtain ⟨rfl, rfl⟩ := h
    obtain rfl := of_beq hq
    refine Good.still hR ?_ hv
    simp only [Instr.typeAssert, Sem.run_bind, run_underlying hu, Result.andThen_ok]
    cases d <;> first | (exact absurd rfl (hd _)) | simp
  case h_28 x i ho =>
    obtain ⟨y, hy, rfl⟩ := map_some' hc
    have hyv := E hy
    simp only [evOp] at h
    simp only [execOp, ho]
    generalize fr.eval y = e at hyv h
    generalize a.eval x = av at hyv
    cases hyv <;> simp only [reduceCtorEq] at h
    rename_i vs vs' hvs
    obtain ⟨h1, h2⟩ := ofEV_val h
    subst h2
    obtain ⟨v', g1, g2⟩ := hvs.get i v h1
    refine Good.still hR ?_ g2
    simp [Instr.extract, g1]
  case h_29 c ho =>
    obtain ⟨ys, hys, hc⟩ := bind_of hc
    split at hc
    · rename_i b hb
      rw [builtin_run ho hb]
      have hv := cOpds_sound hG hF hys
      have e1 : c.args.map a.eval = ⟨c.args.toList.map a.eval⟩ := by apply Array.ext'; simp
      rw [e1]
      exact builtin_sound (ts := c.argTypes.toList) hR hv hc _ _ h
    · cases hc
  case h_30 => cases hc

/-- A call of a function value. -/
theorem op_call {o : Oper} {f : Operand} {xs : Array Operand} {ts : Array TypeId} (ho : o.op = .call ⟨.value f, xs, ts⟩) {f' : Opd} {ys : List Opd} (hf : cOpd G f = some f') (hys : cOpds G xs.toList = some ys) (hG : Globs G ρ) (hF : FR ρ n fr a) {g : Nat} {x y : List EV} (he : fr.eval f' = .func g x y) :
    ∃ args' : Array Value, (execOp a.eval o).run P w = (callFunc g args').run P w ∧ VRs ρ (x ++ ys.map fr.eval ++ y) args'.toList := by
  have hgv := cOpd_sound hG hF hf
  have hv := cOpds_sound hG hF hys
  rw [he] at hgv
  generalize hav : a.eval f = av at hgv
  cases hgv with
  | @func _ _ _ x' y' hx hy =>
  refine ⟨⟨x' ++ xs.toList.map a.eval ++ y'⟩, ?_, (hx.append hv).append hy⟩
  simp only [execOp, ho, resolve, hav, Deferred.ofValue, Sem.run_bind, Sem.run_pure, Result.andThen_ok, invoke]
  congr 2
  apply Array.ext'
  simp
theorem op_panic {o : Oper} {x : Operand} (ho : o.op = .panic x) {x' : Opd} (hx : cOpd G x = some x') (hG : Globs G ρ) (hF : FR ρ n fr a) {t : Nat} {v : EV} (he : fr.eval x' = .iface t v) :
    ∃ v', (execOp a.eval o).run P w = .halt (.panic v') w ∧ VR ρ (.iface t v) v' := by
  have hv := cOpd_sound hG hF hx
  rw [he] at hv
  generalize hav : a.eval x = av at hv
  cases hv with
  | iface h => exact ⟨_, by simp [execOp, ho, hav, Instr.panic], .iface h⟩
end
end Go.Proofs.Ythlbifjgnhdonaa.Ev
