/- Code and functions: what the evaluator does, the machine does. -/
import Derived.Test.YthlbifjgnhdonaaEvDrawEnd
import Derived.Scope
namespace Go.Proofs.Ythlbifjgnhdonaa.Ev
open Go
section
variable {P : Program} {G : List Nat} {n : Nat} {call : Call}

theorem DefsR.nil_of {ρ : Ren} {ds : List Deferred} (h : DefsR ρ [] ds) : ds = [] := by cases h; rfl
theorem wp_loop_fuel {Q : Exit → Act → World → Prop} {a : Act} {w : World} {c : Code} (I : Nat → Act → World → Prop) (j : Nat) (h₀ : I j a w)
    (round : ∀ j a w, I j a w → c.wp P (Exit.then (fun a' w' => ∃ i, i < j ∧ I i a' w') Q) a w) : (Code.loop c).wp P Q a w := by
  intro b k cs
  have key : ∀ j a w, I j a w → ∃ e a' w', Q e a' w' ∧ Arrives P (lone (b.at a (.code c :: .inLoop c :: k)) cs w) b k cs e a' w' := by
    intro j
    induction j using Nat.strongRecOn with
    | _ j ih =>
      intro a w hI
      obtain ⟨e, a₁, w₁, hq, harr⟩ := round j a w hI b (.inLoop c :: k) cs
      cases e with
      | normal =>
        obtain ⟨i, hlt, hI₁⟩ := hq
        obtain ⟨e₂, a₂, w₂, hq₂, harr₂⟩ := ih i hlt a₁ w₁ hI₁
        exact ⟨e₂, a₂, w₂, hq₂, .of_steps (Steps.trans harr (.one step_inLoop)) harr₂⟩
      | exit id => exact ⟨_, a₁, w₁, hq, .pass (x := .inLoop c) rfl (fun _ _ => .inl (by simp)) harr⟩
      | goto l => exact ⟨_, a₁, w₁, hq, .pass (x := .inLoop c) rfl (fun _ _ => .inl (by simp)) harr⟩
      | ret => exact ⟨_, a₁, w₁, hq, .pass (x := .inLoop c) rfl (fun _ _ => .inl (by simp)) harr⟩
      | panic ch => exact ⟨_, a₁, w₁, hq, .pass (x := .inLoop c) rfl (fun _ _ => .inl (by simp)) harr⟩
      | outgrown => exact ⟨_, a₁, w₁, hq, .pass (x := .inLoop c) rfl (fun _ _ => .inl (by simp)) harr⟩
  obtain ⟨e, a', w', hq, harr⟩ := key j a w h₀
  exact ⟨e, a', w', hq, .of_steps (.one step_loop) harr⟩

theorem code_sound (hmix : P.follows .mixedOrders = true) (hcall : CallOk P G call) (k : Nat) {base : Nat} : ∀ (c : Code) (ic : ICode), cCode P G n c = some ic →
    ∀ (ρ : Ren) (m : Mem) (w : World) (fr : Fr) (a : Act) (out : Out), R base ρ m w → Globs G ρ → FrR ρ n fr a → evCode call k ic fr m = some out → c.wp P (Reach base n ρ m w out) a w
  | .skip, ic, hc, ρ, m, w, fr, a, out, hR, hG, hF, h => by
    simp only [cCode, Option.some.injEq] at hc; subst hc
    simp only [evCode, Option.some.injEq] at h; subst h
    exact wp_skip ⟨rfl, ρ, hR, .refl _ _ _, hF⟩
  | .label l, ic, hc, ρ, m, w, fr, a, out, hR, hG, hF, h => by
    simp only [cCode, Option.some.injEq] at hc; subst hc
    simp only [evCode, Option.some.injEq] at h; subst h
    exact wp_label ⟨rfl, ρ, hR, .refl _ _ _, hF⟩
  | .exit id, ic, hc, ρ, m, w, fr, a, out, hR, hG, hF, h => by
    simp only [cCode, Option.some.injEq] at hc; subst hc
    simp only [evCode, Option.some.injEq] at h; subst h
    exact wp_exit ⟨rfl, ρ, hR, .refl _ _ _, hF⟩
  | .ret, ic, hc, ρ, m, w, fr, a, out, hR, hG, hF, h => by
    simp only [cCode, Option.some.injEq] at hc; subst hc
    simp only [evCode, Option.some.injEq] at h; subst h
    exact wp_ret ⟨rfl, ρ, hR, .refl _ _ _, hF⟩
  | .region id ops false, ic, hc, ρ, m, w, fr, a, out, hR, hG, hF, h => by
    simp only [cCode] at hc
    obtain ⟨is, his, rfl⟩ := map_some' hc
    simp only [evCode] at h
    refine wp_region ?_
    obtain ⟨h1, h2⟩ := mapM_some _ his
    refine ops_sound hcall is (List.range ops.size) (by simpa using h1.symm) (fun j i io hj hio => ?_) ρ m w fr a out hR hG hF h
    have hlt : j < ops.size := by
      have := (List.getElem?_eq_some_iff.1 hj).1
      simpa using this
    rw [List.getElem?_range hlt] at hj
    cases hj
    exact ⟨ops[j], Array.getElem?_eq_getElem hlt, h2 j ops[j] io (by simp [hlt]) hio⟩
  | .region id ops true, ic, hc, ρ, m, w, fr, a, out, hR, hG, hF, h => by
    simp only [cCode] at hc
    cases his : ops.toList.mapM (cOper P G n ops) with
    | none => simp [his] at hc
    | some is =>
      simp only [his] at hc
      obtain ⟨chk, hchk, rfl⟩ := map_some' hc
      simp only [evCode] at h
      exact draw_sound hmix hcall his hchk hR hG hF h
  | .seq x y, ic, hc, ρ, m, w, fr, a, out, hR, hG, hF, h => by
    simp only [cCode] at hc
    cases hx : cCode P G n x with
    | none => simp [hx] at hc
    | some ix =>
    cases hy : cCode P G n y with
    | none => simp [hx, hy] at hc
    | some iy =>
    simp only [hx, hy, Option.some.injEq] at hc
    subst hc
    simp only [evCode] at h
    cases h1 : evCode call k ix fr m with
    | none => simp [h1] at h
    | some o1 =>
      simp only [h1] at h
      have hw := code_sound hmix hcall k x ix hx ρ m w fr a o1 hR hG hF h1
      refine wp_seq (wp_mono hw fun e a1 w1 hq => ?_)
      cases o1 with
      | norm fr1 m1 =>
        obtain ⟨rfl, ρ1, hR1, hs, hF1⟩ := hq
        simp only [Exit.then]
        have := code_sound hmix hcall k y iy hy ρ1 m1 w1 fr1 a1 out hR1 (hG.ext hs.ext) hF1 h
        exact wp_mono this fun e a w hq => hq.after hs
      | exit id fr1 m1 =>
        simp only [Option.some.injEq] at h; subst h
        have := hq; obtain ⟨rfl, _⟩ := this; exact hq
      | ret fr1 m1 =>
        simp only [Option.some.injEq] at h; subst h
        have := hq; obtain ⟨rfl, _⟩ := this; exact hq
      | pan v fr1 m1 =>
        simp only [Option.some.injEq] at h; subst h
        have := hq; obtain ⟨_, _, rfl, _⟩ := this; exact hq
  | .cond c x y, ic, hc, ρ, m, w, fr, a, out, hR, hG, hF, h => by
    simp only [cCode] at hc
    cases hcc : cOpd G c with
    | none => simp [hcc] at hc
    | some c' =>
    cases hx : cCode P G n x with
    | none => simp [hcc, hx] at hc
    | some ix =>
    cases hy : cCode P G n y with
    | none => simp [hcc, hx, hy] at hc
    | some iy =>
    simp only [hcc, hx, hy, Option.some.injEq] at hc
    subst hc
    simp only [evCode] at h
    have hcv := cOpd_sound hG hF.tm hcc
    cases hev : fr.eval c' <;> simp only [hev, reduceCtorEq] at h
    rename_i t
    rw [hev] at hcv
    generalize hav : a.eval c = av at hcv
    cases hcv
    refine wp_cond hav ?_
    cases t with
    | true => exact code_sound hmix hcall k x ix hx ρ m w fr a out hR hG hF h
    | false => exact code_sound hmix hcall k y iy hy ρ m w fr a out hR hG hF h
  | .block id x, ic, hc, ρ, m, w, fr, a, out, hR, hG, hF, h => by
    simp only [cCode] at hc
    obtain ⟨ix, hx, rfl⟩ := map_some' hc
    simp only [evCode] at h
    cases h1 : evCode call k ix fr m with
    | none => simp [h1] at h
    | some o1 =>
      simp only [h1] at h
      have hw := code_sound hmix hcall k x ix hx ρ m w fr a o1 hR hG hF h1
      refine wp_block (wp_mono hw fun e a1 w1 hq => ?_)
      cases o1 with
      | norm fr1 m1 =>
        simp only [Option.some.injEq] at h; subst h
        have := hq; obtain ⟨rfl, _⟩ := this; exact hq
      | exit j fr1 m1 =>
        obtain ⟨rfl, hq⟩ := hq
        simp only [Exit.inBlock]
        cases hj : j.beq id <;> simp only [hj, cond_true, cond_false, Option.some.injEq] at h <;> subst h
        · rw [if_neg (of_beq_ff hj)]; exact ⟨rfl, hq⟩
        · rw [if_pos (of_beq hj)]; exact ⟨rfl, hq⟩
      | ret fr1 m1 =>
        simp only [Option.some.injEq] at h; subst h
        have := hq; obtain ⟨rfl, _⟩ := this; exact hq
      | pan v fr1 m1 =>
        simp only [Option.some.injEq] at h; subst h
        have := hq; obtain ⟨_, _, rfl, _⟩ := this; exact hq
  | .loop x, ic, hc, ρ, m, w, fr, a, out, hR, hG, hF, h => by
    simp only [cCode] at hc
    obtain ⟨ix, hx, rfl⟩ := map_some' hc
    simp only [evCode] at h
    refine wp_loop_fuel (fun j a1 w1 => ∃ ρ1 m1 fr1, R base ρ1 m1 w1 ∧ Step ρ m w ρ1 m1 w1 ∧ FrR ρ1 n fr1 a1 ∧ iter (evCode call k ix) j fr1 m1 = some out) k ⟨ρ, m, fr, hR, .refl _ _ _, hF, h⟩ ?_
    rintro j a1 w1 ⟨ρ1, m1, fr1, hR1, hs, hF1, hit⟩
    cases j with
    | zero => simp [iter] at hit
    | succ j =>
      simp only [iter] at hit
      cases h1 : evCode call k ix fr1 m1 with
      | none => simp [h1] at hit
      | some o1 =>
        simp only [h1] at hit
        have hw := code_sound hmix hcall k x ix hx ρ1 m1 w1 fr1 a1 o1 hR1 (hG.ext hs.ext) hF1 h1
        refine wp_mono hw fun e a2 w2 hq => ?_
        cases o1 with
        | norm fr2 m2 =>
          obtain ⟨rfl, ρ2, hR2, hs2, hF2⟩ := hq
          exact ⟨j, Nat.lt_succ_self j, ρ2, m2, fr2, hR2, hs.trans hs2, hF2, hit⟩
        | exit id fr2 m2 =>
          simp only [Option.some.injEq] at hit; subst hit
          have := hq; obtain ⟨rfl, _⟩ := this; exact hq.after hs
        | ret fr2 m2 =>
          simp only [Option.some.injEq] at hit; subst hit
          have := hq; obtain ⟨rfl, _⟩ := this; exact hq.after hs
        | pan v fr2 m2 =>
          simp only [Option.some.injEq] at hit; subst hit
          have := hq; obtain ⟨_, _, rfl, _⟩ := this; exact hq.after hs
  | .scope x, ic, hc, ρ, m, w, fr, a, out, hR, hG, hF, h => by
    simp only [cCode] at hc
    refine wp_scope_straight (wp_mono (code_sound hmix hcall k x ic hc ρ m w fr a out hR hG hF h) fun e a1 w1 hq => ?_)
    cases out with
    | norm fr1 m1 => have := hq; obtain ⟨rfl, _⟩ := this; exact hq
    | exit id fr1 m1 => have := hq; obtain ⟨rfl, _⟩ := this; exact hq
    | ret fr1 m1 => have := hq; obtain ⟨rfl, _⟩ := this; exact hq
    | pan v fr1 m1 => have := hq; obtain ⟨_, _, rfl, _⟩ := this; exact hq
  | .goto l, ic, hc, ρ, m, w, fr, a, out, hR, hG, hF, h => by simp [cCode] at hc
  | .refuse l, ic, hc, ρ, m, w, fr, a, out, hR, hG, hF, h => by simp [cCode] at hc
  | .rangeFunc f ps s b, ic, hc, ρ, m, w, fr, a, out, hR, hG, hF, h => by simp [cCode] at hc

/-! ### Functions -/
theorem args0_get : ∀ (l : List EV) (i : Nat) (t : Tr EV) (k : Nat), (args0 l i t).get k = if i ≤ k ∧ k < i + l.length then l[k - i]? else t.get k
  | [], i, t, k => by rw [if_neg (fun h => by have := h.2; simp at this; omega)]; rfl
  | v :: l, i, t, k => by
    simp only [args0]
    rw [args0_get l (i + 1) (t.set i v) k, Tr.get_set]
    by_cases h : k = i
    · subst h
      rw [if_neg (by omega), if_pos rfl, if_pos (by simp)]
      simp
    · by_cases h2 : i + 1 ≤ k ∧ k < i + 1 + l.length
      · rw [if_pos h2, if_pos (by simp; omega), show k - i = (k - (i + 1)) + 1 by omega]
        simp
      · rw [if_neg h2, if_neg h, if_neg (by simp; omega)]
theorem frame_start {ρ : Ren} {args : List EV} {args' : Array Value} (hv : VRs ρ args args'.toList) (hn : args'.size ≤ n) : FrR ρ n ⟨args0 args 0 .leaf, []⟩ { tmps := args' ++ Array.replicate (n - args'.size) undef, defers := [] } := by
  have hl := hv.length
  simp at hl
  refine ⟨⟨by simp; omega, fun t => ?_⟩, .nil⟩
  unfold Fr.get
  simp only
  rw [args0_get, Tr.get_leaf]
  by_cases h : 0 ≤ t ∧ t < 0 + args.length
  · rw [if_pos h]
    have hlt : t < args.length := by omega
    obtain ⟨v', g1, g2⟩ := hv.get t args[t] (List.getElem?_eq_getElem hlt)
    rw [show t - 0 = t by omega, List.getElem?_eq_getElem hlt]
    rw [Array.getD_eq_getD_getElem?, Array.getElem?_append_left (by omega)]
    rw [Array.getElem?_toList] at g1
    rw [g1]
    exact g2
  · rw [if_neg h]
    have hlt : args'.size ≤ t := by omega
    have e : (args' ++ Array.replicate (n - args'.size) undef).getD t undef = undef := by
      rw [Array.getD_eq_getD_getElem?, Array.getElem?_append_right hlt, Array.getElem?_replicate]
      split <;> rfl
    rw [e]
    exact .undef
theorem results_sound {base : Nat} {ρ : Ren} {m : Mem} {w : World} {fr : Fr} {a : Act} (hR : R base ρ m w) (hF : FR ρ n fr a) : ∀ (rs : List ResultVar) (irs : List IRes) (vs : List EV), rs.mapM (cRes P) = some irs → evResults fr m irs = some vs →
    ∃ vs', (rs.mapM fun r => (match r with | .tmp t => pure (a.tmps.getD t undef) | .cell ad t => do loadVar t (← asAddr (a.tmps.getD ad undef)) : Sem Value)).run P w = .ok vs' w ∧ VRs ρ vs vs'
  | [], irs, vs, hc, h => by
    simp at hc; subst hc
    simp [evResults] at h; subst h
    exact ⟨[], rfl, .nil⟩
  | r :: rs, irs, vs, hc, h => by
    rw [List.mapM_cons] at hc
    cases hr : cRes P r with
    | none => simp [hr] at hc
    | some ir =>
    cases hrs : rs.mapM (cRes P) with
    | none => simp [hr, hrs] at hc
    | some irs' =>
    simp [hr, hrs] at hc
    subst hc
    simp only [evResults] at h
    cases hv : evRes fr m ir with
    | none => simp [hv] at h
    | some v =>
    simp only [hv] at h
    obtain ⟨vs0, h0, rfl⟩ := map_some' h
    obtain ⟨vs', r1, r2⟩ := results_sound hR hF rs irs' vs0 hrs h0
    cases r with
    | tmp t =>
      simp only [cRes, Option.some.injEq] at hr; subst hr
      simp only [evRes, Option.some.injEq] at hv; subst hv
      exact ⟨a.tmps.getD t undef :: vs', by simp only [List.mapM_cons, Sem.run_bind, Sem.run_pure, Result.andThen_ok, r1], .cons (hF.tmp t) r2⟩
    | cell ad t =>
      simp only [cRes] at hr
      obtain ⟨g, hg, rfl⟩ := map_some' hr
      simp only [evRes] at hv
      obtain ⟨ad', v', e1, e2, e3⟩ := loadVar_sound (P := P) hR hg (hF.tmp ad) hv
      have ea : (asAddr (a.tmps.getD ad undef)).run P w = .ok ad' w := by rw [e1]; rfl
      exact ⟨v' :: vs', by simp only [List.mapM_cons, Sem.run_bind, ea, Sem.run_pure, Result.andThen_ok, e2, r1], .cons e3 r2⟩
theorem one_sound {ρ : Ren} {vs : List EV} {vs' : List Value} (h : VRs ρ vs vs') : VR ρ (one vs) (if hh : (⟨vs'⟩ : Array Value).size = 1 then (⟨vs'⟩ : Array Value)[0] else .tuple ⟨vs'⟩) := by
  cases h with
  | nil => exact .tuple .nil
  | cons hx hs =>
    cases hs with
    | nil => simpa [one] using hx
    | cons hy hs =>
      simp only [one]
      rw [dif_neg (by simp)]
      exact .tuple (.cons hx (.cons hy hs))
/-- A table that fits the program. -/
def EntOk (P : Program) (G : List Nat) (f : Nat) : Ent → Prop
  | .go F => ∃ fn, P.funcs[f]? = some fn ∧ cFun P G fn = some F
  | .ext g => ∀ base ρ m w args (args' : Array Value) v, R base ρ m w → VRs ρ args args'.toList → g args = some v → ∃ v', (callFunc f args').run P w = .ok (.value v') w ∧ VR ρ v v'
  | .pure g => ∀ base ρ m w args (args' : Array Value) v, R base ρ m w → VRs ρ args args'.toList → g args = some v → (callFunc f args').run P w = .ok (.enter f args') w ∧ Calls P f args' w (CallPost base ρ m w (.ret v m))
  | .spec g => ∀ base ρ m w args (args' : Array Value) fin, R base ρ m w → Globs G ρ → VRs ρ args args'.toList → g args m = some fin → (callFunc f args').run P w = .ok (.enter f args') w ∧ Calls P f args' w (CallPost base ρ m w fin)
theorem body_sound (hmix : P.follows .mixedOrders = true) (hcall : CallOk P G call) (k : Nat) {base : Nat} {f : Nat} {fn : Func} (hf : P.funcs[f]? = some fn) {F : IFun} (hc : cFun P G fn = some F) {args : List EV} {m : Mem} {fin : Fin} (h : evBody call k F args m = some fin)
    {ρ : Ren} {w : World} {args' : Array Value} (hR : R base ρ m w) (hG : Globs G ρ) (hv : VRs ρ args args'.toList) :
    (callFunc f args').run P w = .ok (.enter f args') w ∧ Calls P f args' w (CallPost base ρ m w fin) := by
  unfold cFun at hc
  cases hb : fn.body with
  | none => simp [hb] at hc
  | some c =>
  simp only [hb] at hc
  cases hnm : fn.name == "runtime.NumGoroutine" <;> simp only [hnm, cond_true, cond_false, reduceCtorEq] at hc
  cases hcc : cCode P G fn.ntmps c with
  | none => simp [hcc] at hc
  | some b =>
  cases hrr : fn.results.toList.mapM (cRes P) with
  | none => simp [hcc, hrr] at hc
  | some r =>
  simp only [hcc, hrr, Option.some.injEq] at hc
  subst hc
  refine ⟨?_, ?_⟩
  · simp [callFunc, hf, hb]
    simpa using hnm
  · have hl := hv.length
    simp at hl
    unfold evBody at h
    cases hargs : args.length.ble fn.ntmps with
    | false => simp [hargs] at h
    | true =>
    simp only [hargs, cond_true] at h
    have hn : args'.size ≤ fn.ntmps := by have := Nat.le_of_ble_eq_true hargs; omega
    refine calls_of_wp hf hb ?_
    cases h1 : evCode call k b ⟨args0 args 0 .leaf, []⟩ m with
    | none => simp [h1] at h
    | some o1 =>
      simp only [h1] at h
      have hw := code_sound hmix hcall k c b hcc ρ m w _ _ o1 hR hG (frame_start hv hn) h1
      refine wp_mono hw fun e a1 w1 hq => ?_
      have done : ∀ {fr1 : Fr} {m1 : Mem} {ρ1 : Ren}, R base ρ1 m1 w1 → Step ρ m w ρ1 m1 w1 → FrR ρ1 fn.ntmps fr1 a1 → (match fr1.defers with | [] => (evResults fr1 m1 r).map fun vs => Fin.ret (one vs) m1 | _ => none) = some fin →
          a1.defers = [] ∧ ∃ v, (results fn a1.tmps).run P w1 = .ok v w1 ∧ CallPost base ρ m w fin (.returned v) w1 := by
        intro fr1 m1 ρ1 hR1 hs hF1 hfin
        have hd := hF1.defs
        cases hdf : fr1.defers with
        | cons x l => simp [hdf] at hfin
        | nil =>
          rw [hdf] at hd
          simp only [hdf] at hfin
          obtain ⟨vs, hvs, rfl⟩ := map_some' hfin
          obtain ⟨vs', r1, r2⟩ := results_sound (P := P) hR1 hF1.tm fn.results.toList r vs hrr hvs
          refine ⟨hd.nil_of, _, ?_, ρ1, _, rfl, one_sound r2, hR1, hs⟩
          simp only [results, Sem.run_bind]
          rw [Array.mapM_eq_mapM_toList, Sem.run_map]
          erw [r1]
          rfl
      cases o1 with
      | norm fr1 m1 =>
        obtain ⟨rfl, ρ1, hR1, hs, hF1⟩ := hq
        exact done hR1 hs hF1 h
      | ret fr1 m1 =>
        obtain ⟨rfl, ρ1, hR1, hs, hF1⟩ := hq
        exact done hR1 hs hF1 h
      | exit id fr1 m1 => simp at h
      | pan v fr1 m1 =>
        obtain ⟨ρ1, v', rfl, hvv, hR1, hs, hF1⟩ := hq
        simp only at h
        have hd := hF1.defs
        cases hdf : fr1.defers with
        | cons x l => simp [hdf] at h
        | nil =>
          rw [hdf] at hd
          simp only [hdf, Option.some.injEq] at h
          subst h
          exact ⟨hd.nil_of, ρ1, v', rfl, hvv, hR1, hs⟩
/-- The evaluator is sound, at whatever fuel. -/
theorem evFun_ok (hmix : P.follows .mixedOrders = true) {T : Nat → Option Ent} (hT : ∀ f e, T f = some e → EntOk P G f e) : ∀ k, CallOk P G (evFun T k)
  | 0 => fun f args m fin h => by simp [evFun] at h
  | k + 1 => fun f args m fin h base ρ w args' hR hG hv => by
    simp only [evFun] at h
    cases he : T f with
    | none => simp [he] at h
    | some e =>
      simp only [he] at h
      have hok := hT f e he
      cases e with
      | go F =>
        obtain ⟨fn, hf, hc⟩ := hok
        exact .inl (body_sound hmix (evFun_ok hmix hT k) k hf hc h hR hG hv)
      | ext g =>
        simp only [evEnt] at h
        obtain ⟨v, hg, rfl⟩ := map_some' h
        obtain ⟨v', h1, h2⟩ := hok base ρ m w args args' v hR hv hg
        exact .inr ⟨v, v', rfl, h1, h2⟩
      | pure g =>
        simp only [evEnt] at h
        obtain ⟨v, hg, rfl⟩ := map_some' h
        exact .inl (hok base ρ m w args args' v hR hv hg)
      | spec g =>
        simp only [evEnt] at h
        exact .inl (hok base ρ m w args args' fin hR hG hv h)
end
end Go.Proofs.Ythlbifjgnhdonaa.Ev
