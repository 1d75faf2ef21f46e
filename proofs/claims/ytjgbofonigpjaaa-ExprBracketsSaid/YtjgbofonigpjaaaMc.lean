/- EvCode, EvF0, EvF1, EvF2. -/
import Derived.Scope
import Derived.KernelRfl
import Derived.Test.YtjgbofonigpjaaaChecked
import Derived.Test.YtjgbofonigpjaaaMb
section
namespace Go.Proofs.Ytjgbofonigpjaaa.Ev
open Go
section
variable {P : Program} {G : List Nat} {n : Nat} {call : Call}

theorem DefsR.nil_of {ρ : Ren} {ds : List Deferred} (h : DefsR ρ [] ds) : ds = [] := by cases h; rfl
theorem wp_loop_fuel {Q : Exit → Act → World → Prop} {a : Act} {w : World} {c : Code} (I : Nat → Act → World → Prop) (j : Nat) (h₀ : I j a w)
    (round : ∀ j a w, I j a w → c.wp P (Exit.then (fun a' w' => ∃ i, i < j ∧ I i a' w') Q) a w) : (Code.loop c).wp P Q a w := by
  intro b k cs
  have key : ∀ j a w, I j a w → ∃ e a' w', Q e a' w' ∧ Arrives P (lone (b.at a (.code c :: .inLoop c :: k)) cs w) b k cs e a' w' := by
    intro j
    induction j using Nat.strongRecOn with
    | _ j ih =>
      intro a w hI
      obtain ⟨e, a₁, w₁, hq, harr⟩ := round j a w hI b (.inLoop c :: k) cs
      cases e with
      | normal =>
        obtain ⟨i, hlt, hI₁⟩ := hq
        obtain ⟨e₂, a₂, w₂, hq₂, harr₂⟩ := ih i hlt a₁ w₁ hI₁
        exact ⟨e₂, a₂, w₂, hq₂, .of_steps (Steps.trans harr (.one step_inLoop)) harr₂⟩
      | exit id => exact ⟨_, a₁, w₁, hq, .pass (x := .inLoop c) rfl (fun _ _ => .inl (by simp)) harr⟩
      | goto l => exact ⟨_, a₁, w₁, hq, .pass (x := .inLoop c) rfl (fun _ _ => .inl (by simp)) harr⟩
      | ret => exact ⟨_, a₁, w₁, hq, .pass (x := .inLoop c) rfl (fun _ _ => .inl (by simp)) harr⟩
      | panic ch => exact ⟨_, a₁, w₁, hq, .pass (x := .inLoop c) rfl (fun _ _ => .inl (by simp)) harr⟩
      | outgrown => exact ⟨_, a₁, w₁, hq, .pass (x := .inLoop c) rfl (fun _ _ => .inl (by simp)) harr⟩
  obtain ⟨e, a', w', hq, harr⟩ := key j a w h₀
  exact ⟨e, a', w', hq, .of_steps (.one step_loop) harr⟩

theorem code_sound (hmix : P.follows .mixedOrders = true) (hcall : CallOk P G call) (k : Nat) {base : Nat} : ∀ (c : Code) (ic : ICode), cCode P G n c = some ic →
    ∀ (ρ : Ren) (m : Mem) (w : World) (fr : Fr) (a : Act) (out : Out), R base ρ m w → Globs G ρ → FrR ρ n fr a → evCode call k ic fr m = some out → c.wp P (Reach base n ρ m w out) a w
  | .skip, ic, hc, ρ, m, w, fr, a, out, hR, hG, hF, h => by
    simp only [cCode, Option.some.injEq] at hc; subst hc
    simp only [evCode, Option.some.injEq] at h; subst h
    exact wp_skip ⟨rfl, ρ, hR, .refl _ _ _, hF⟩
  | .label l, ic, hc, ρ, m, w, fr, a, out, hR, hG, hF, h => by
    simp only [cCode, Option.some.injEq] at hc; subst hc
    simp only [evCode, Option.some.injEq] at h; subst h
    exact wp_label ⟨rfl, ρ, hR, .refl _ _ _, hF⟩
  | .exit id, ic, hc, ρ, m, w, fr, a, out, hR, hG, hF, h => by
    simp only [cCode, Option.some.injEq] at hc; subst hc
    simp only [evCode, Option.some.injEq] at h; subst h
    exact wp_exit ⟨rfl, ρ, hR, .refl _ _ _, hF⟩
  | .ret, ic, hc, ρ, m, w, fr, a, out, hR, hG, hF, h => by
    simp only [cCode, Option.some.injEq] at hc; subst hc
    simp only [evCode, Option.some.injEq] at h; subst h
    exact wp_ret ⟨rfl, ρ, hR, .refl _ _ _, hF⟩
  | .region id ops false, ic, hc, ρ, m, w, fr, a, out, hR, hG, hF, h => by
    simp only [cCode] at hc
    obtain ⟨is, his, rfl⟩ := map_some' hc
    simp only [evCode] at h
    refine wp_region ?_
    obtain ⟨h1, h2⟩ := mapM_some _ his
    refine ops_sound hcall is (List.range ops.size) (by simpa using h1.symm) (fun j i io hj hio => ?_) ρ m w fr a out hR hG hF h
    have hlt : j < ops.size := by
      have := (List.getElem?_eq_some_iff.1 hj).1
      simpa using this
    rw [List.getElem?_range hlt] at hj
    cases hj
    exact ⟨ops[j], Array.getElem?_eq_getElem hlt, h2 j ops[j] io (by simp [hlt]) hio⟩
  | .region id ops true, ic, hc, ρ, m, w, fr, a, out, hR, hG, hF, h => by
    simp only [cCode] at hc
    cases his : ops.toList.mapM (cOper P G n ops) with
    | none => simp [his] at hc
    | some is =>
      simp only [his] at hc
      obtain ⟨chk, hchk, rfl⟩ := map_some' hc
      simp only [evCode] at h
      exact draw_sound hmix hcall his hchk hR hG hF h
  | .seq x y, ic, hc, ρ, m, w, fr, a, out, hR, hG, hF, h => by
    simp only [cCode] at hc
    cases hx : cCode P G n x with
    | none => simp [hx] at hc
    | some ix =>
    cases hy : cCode P G n y with
    | none => simp [hx, hy] at hc
    | some iy =>
    simp only [hx, hy, Option.some.injEq] at hc
    subst hc
    simp only [evCode] at h
    cases h1 : evCode call k ix fr m with
    | none => simp [h1] at h
    | some o1 =>
      simp only [h1] at h
      have hw := code_sound hmix hcall k x ix hx ρ m w fr a o1 hR hG hF h1
      refine wp_seq (wp_mono hw fun e a1 w1 hq => ?_)
      cases o1 with
      | norm fr1 m1 =>
        obtain ⟨rfl, ρ1, hR1, hs, hF1⟩ := hq
        simp only [Exit.then]
        have := code_sound hmix hcall k y iy hy ρ1 m1 w1 fr1 a1 out hR1 (hG.ext hs.ext) hF1 h
        exact wp_mono this fun e a w hq => hq.after hs
      | exit id fr1 m1 =>
        simp only [Option.some.injEq] at h; subst h
        have := hq; obtain ⟨rfl, _⟩ := this; exact hq
      | ret fr1 m1 =>
        simp only [Option.some.injEq] at h; subst h
        have := hq; obtain ⟨rfl, _⟩ := this; exact hq
      | pan v fr1 m1 =>
        simp only [Option.some.injEq] at h; subst h
        have := hq; obtain ⟨_, _, rfl, _⟩ := this; exact hq
  | .cond c x y, ic, hc, ρ, m, w, fr, a, out, hR, hG, hF, h => by
    simp only [cCode] at hc
    cases hcc : cOpd G c with
    | none => simp [hcc] at hc
    | some c' =>
    cases hx : cCode P G n x with
    | none => simp [hcc, hx] at hc
    | some ix =>
    cases hy : cCode P G n y with
    | none => simp [hcc, hx, hy] at hc
    | some iy =>
    simp only [hcc, hx, hy, Option.some.injEq] at hc
    subst hc
    simp only [evCode] at h
    have hcv := cOpd_sound hG hF.tm hcc
    cases hev : fr.eval c' <;> simp only [hev, reduceCtorEq] at h
    rename_i t
    rw [hev] at hcv
    generalize hav : a.eval c = av at hcv
    cases hcv
    refine wp_cond hav ?_
    cases t with
    | true => exact code_sound hmix hcall k x ix hx ρ m w fr a out hR hG hF h
    | false => exact code_sound hmix hcall k y iy hy ρ m w fr a out hR hG hF h
  | .block id x, ic, hc, ρ, m, w, fr, a, out, hR, hG, hF, h => by
    simp only [cCode] at hc
    obtain ⟨ix, hx, rfl⟩ := map_some' hc
    simp only [evCode] at h
    cases h1 : evCode call k ix fr m with
    | none => simp [h1] at h
    | some o1 =>
      simp only [h1] at h
      have hw := code_sound hmix hcall k x ix hx ρ m w fr a o1 hR hG hF h1
      refine wp_block (wp_mono hw fun e a1 w1 hq => ?_)
      cases o1 with
      | norm fr1 m1 =>
        simp only [Option.some.injEq] at h; subst h
        have := hq; obtain ⟨rfl, _⟩ := this; exact hq
      | exit j fr1 m1 =>
        obtain ⟨rfl, hq⟩ := hq
        simp only [Exit.inBlock]
        cases hj : j.beq id <;> simp only [hj, cond_true, cond_false, Option.some.injEq] at h <;> subst h
        · rw [if_neg (of_beq_ff hj)]; exact ⟨rfl, hq⟩
        · rw [if_pos (of_beq hj)]; exact ⟨rfl, hq⟩
      | ret fr1 m1 =>
        simp only [Option.some.injEq] at h; subst h
        have := hq; obtain ⟨rfl, _⟩ := this; exact hq
      | pan v fr1 m1 =>
        simp only [Option.some.injEq] at h; subst h
        have := hq; obtain ⟨_, _, rfl, _⟩ := this; exact hq
  | .loop x, ic, hc, ρ, m, w, fr, a, out, hR, hG, hF, h => by
    simp only [cCode] at hc
    obtain ⟨ix, hx, rfl⟩ := map_some' hc
    simp only [evCode] at h
    refine wp_loop_fuel (fun j a1 w1 => ∃ ρ1 m1 fr1, R base ρ1 m1 w1 ∧ Step ρ m w ρ1 m1 w1 ∧ FrR ρ1 n fr1 a1 ∧ iter (evCode call k ix) j fr1 m1 = some out) k ⟨ρ, m, fr, hR, .refl _ _ _, hF, h⟩ ?_
    rintro j a1 w1 ⟨ρ1, m1, fr1, hR1, hs, hF1, hit⟩
    cases j with
    | zero => simp [iter] at hit
    | succ j =>
      simp only [iter] at hit
      cases h1 : evCode call k ix fr1 m1 with
      | none => simp [h1] at hit
      | some o1 =>
        simp only [h1] at hit
        have hw := code_sound hmix hcall k x ix hx ρ1 m1 w1 fr1 a1 o1 hR1 (hG.ext hs.ext) hF1 h1
        refine wp_mono hw fun e a2 w2 hq => ?_
        cases o1 with
        | norm fr2 m2 =>
          obtain ⟨rfl, ρ2, hR2, hs2, hF2⟩ := hq
          exact ⟨j, Nat.lt_succ_self j, ρ2, m2, fr2, hR2, hs.trans hs2, hF2, hit⟩
        | exit id fr2 m2 =>
          simp only [Option.some.injEq] at hit; subst hit
          have := hq; obtain ⟨rfl, _⟩ := this; exact hq.after hs
        | ret fr2 m2 =>
          simp only [Option.some.injEq] at hit; subst hit
          have := hq; obtain ⟨rfl, _⟩ := this; exact hq.after hs
        | pan v fr2 m2 =>
          simp only [Option.some.injEq] at hit; subst hit
          have := hq; obtain ⟨_, _, rfl, _⟩ := this; exact hq.after hs
  | .scope x, ic, hc, ρ, m, w, fr, a, out, hR, hG, hF, h => by
    simp only [cCode] at hc
    refine wp_scope_straight (wp_mono (code_sound hmix hcall k x ic hc ρ m w fr a out hR hG hF h) fun e a1 w1 hq => ?_)
    cases out with
    | norm fr1 m1 => have := hq; obtain ⟨rfl, _⟩ := this; exact hq
    | exit id fr1 m1 => have := hq; obtain ⟨rfl, _⟩ := this; exact hq
    | ret fr1 m1 => have := hq; obtain ⟨rfl, _⟩ := this; exact hq
    | pan v fr1 m1 => have := hq; obtain ⟨_, _, rfl, _⟩ := this; exact hq
  | .goto l, ic, hc, ρ, m, w, fr, a, out, hR, hG, hF, h => by simp [cCode] at hc
  | .refuse l, ic, hc, ρ, m, w, fr, a, out, hR, hG, hF, h => by simp [cCode] at hc
  | .rangeFunc f ps s b, ic, hc, ρ, m, w, fr, a, out, hR, hG, hF, h => by simp [cCode] at hc

/-! ### Functions -/
theorem args0_get : ∀ (l : List EV) (i : Nat) (t : Tr EV) (k : Nat), (args0 l i t).get k = if i ≤ k ∧ k < i + l.length then l[k - i]? else t.get k
  | [], i, t, k => by rw [if_neg (fun h => by have := h.2; simp at this; omega)]; rfl
  | v :: l, i, t, k => by
    simp only [args0]
    rw [args0_get l (i + 1) (t.set i v) k, Tr.get_set]
    by_cases h : k = i
    · subst h
      rw [if_neg (by omega), if_pos rfl, if_pos (by simp)]
      simp
    · by_cases h2 : i + 1 ≤ k ∧ k < i + 1 + l.length
      · rw [if_pos h2, if_pos (by simp; omega), show k - i = (k - (i + 1)) + 1 by omega]
        simp
      · rw [if_neg h2, if_neg h, if_neg (by simp; omega)]
theorem frame_start {ρ : Ren} {args : List EV} {args' : Array Value} (hv : VRs ρ args args'.toList) (hn : args'.size ≤ n) : FrR ρ n ⟨args0 args 0 .leaf, []⟩ { tmps := args' ++ Array.replicate (n - args'.size) undef, defers := [] } := by
  have hl := hv.length
  simp at hl
  refine ⟨⟨by simp; omega, fun t => ?_⟩, .nil⟩
  unfold Fr.get
  simp only
  rw [args0_get, Tr.get_leaf]
  by_cases h : 0 ≤ t ∧ t < 0 + args.length
  · rw [if_pos h]
    have hlt : t < args.length := by omega
    obtain ⟨v', g1, g2⟩ := hv.get t args[t] (List.getElem?_eq_getElem hlt)
    rw [show t - 0 = t by omega, List.getElem?_eq_getElem hlt]
    rw [Array.getD_eq_getD_getElem?, Array.getElem?_append_left (by omega)]
    rw [Array.getElem?_toList] at g1
    rw [g1]
    exact g2
  · rw [if_neg h]
    have hlt : args'.size ≤ t := by omega
    have e : (args' ++ Array.replicate (n - args'.size) undef).getD t undef = undef := by
      rw [Array.getD_eq_getD_getElem?, Array.getElem?_append_right hlt, Array.getElem?_replicate]
      split <;> rfl
    rw [e]
    exact .undef
theorem results_sound {base : Nat} {ρ : Ren} {m : Mem} {w : World} {fr : Fr} {a : Act} (hR : R base ρ m w) (hF : FR ρ n fr a) : ∀ (rs : List ResultVar) (irs : List IRes) (vs : List EV), rs.mapM (cRes P) = some irs → evResults fr m irs = some vs →
    ∃ vs', (rs.mapM fun r => (match r with | .tmp t => pure (a.tmps.getD t undef) | .cell ad t => do loadVar t (← asAddr (a.tmps.getD ad undef)) : Sem Value)).run P w = .ok vs' w ∧ VRs ρ vs vs'
  | [], irs, vs, hc, h => by
    simp at hc; subst hc
    simp [evResults] at h; subst h
    exact ⟨[], rfl, .nil⟩
  | r :: rs, irs, vs, hc, h => by
    rw [List.mapM_cons] at hc
    cases hr : cRes P r with
    | none => simp [hr] at hc
    | some ir =>
    cases hrs : rs.mapM (cRes P) with
    | none => simp [hr, hrs] at hc
    | some irs' =>
    simp [hr, hrs] at hc
    subst hc
    simp only [evResults] at h
    cases hv : evRes fr m ir with
    | none => simp [hv] at h
    | some v =>
    simp only [hv] at h
    obtain ⟨vs0, h0, rfl⟩ := map_some' h
    obtain ⟨vs', r1, r2⟩ := results_sound hR hF rs irs' vs0 hrs h0
    cases r with
    | tmp t =>
      simp only [cRes, Option.some.injEq] at hr; subst hr
      simp only [evRes, Option.some.injEq] at hv; subst hv
      exact ⟨a.tmps.getD t undef :: vs', by simp only [List.mapM_cons, Sem.run_bind, Sem.run_pure, Result.andThen_ok, r1], .cons (hF.tmp t) r2⟩
    | cell ad t =>
      simp only [cRes] at hr
      obtain ⟨g, hg, rfl⟩ := map_some' hr
      simp only [evRes] at hv
      obtain ⟨ad', v', e1, e2, e3⟩ := loadVar_sound (P := P) hR hg (hF.tmp ad) hv
      have ea : (asAddr (a.tmps.getD ad undef)).run P w = .ok ad' w := by rw [e1]; rfl
      exact ⟨v' :: vs', by simp only [List.mapM_cons, Sem.run_bind, ea, Sem.run_pure, Result.andThen_ok, e2, r1], .cons e3 r2⟩
theorem one_sound {ρ : Ren} {vs : List EV} {vs' : List Value} (h : VRs ρ vs vs') : VR ρ (one vs) (if hh : (⟨vs'⟩ : Array Value).size = 1 then (⟨vs'⟩ : Array Value)[0] else .tuple ⟨vs'⟩) := by
  cases h with
  | nil => exact .tuple .nil
  | cons hx hs =>
    cases hs with
    | nil => simpa [one] using hx
    | cons hy hs =>
      simp only [one]
      rw [dif_neg (by simp)]
      exact .tuple (.cons hx (.cons hy hs))
/-- A table that fits the program. -/
def EntOk (P : Program) (G : List Nat) (f : Nat) : Ent → Prop
  | .go F => ∃ fn, P.funcs[f]? = some fn ∧ cFun P G fn = some F
  | .ext g => ∀ base ρ m w args (args' : Array Value) v, R base ρ m w → VRs ρ args args'.toList → g args = some v → ∃ v', (callFunc f args').run P w = .ok (.value v') w ∧ VR ρ v v'
  | .pure g => ∀ base ρ m w args (args' : Array Value) v, R base ρ m w → VRs ρ args args'.toList → g args = some v → (callFunc f args').run P w = .ok (.enter f args') w ∧ Calls P f args' w (CallPost base ρ m w (.ret v m))
  | .spec g => ∀ base ρ m w args (args' : Array Value) fin, R base ρ m w → Globs G ρ → VRs ρ args args'.toList → g args m = some fin → (callFunc f args').run P w = .ok (.enter f args') w ∧ Calls P f args' w (CallPost base ρ m w fin)
theorem body_sound (hmix : P.follows .mixedOrders = true) (hcall : CallOk P G call) (k : Nat) {base : Nat} {f : Nat} {fn : Func} (hf : P.funcs[f]? = some fn) {F : IFun} (hc : cFun P G fn = some F) {args : List EV} {m : Mem} {fin : Fin} (h : evBody call k F args m = some fin)
    {ρ : Ren} {w : World} {args' : Array Value} (hR : R base ρ m w) (hG : Globs G ρ) (hv : VRs ρ args args'.toList) :
    (callFunc f args').run P w = .ok (.enter f args') w ∧ Calls P f args' w (CallPost base ρ m w fin) := by
  unfold cFun at hc
  cases hb : fn.body with
  | none => simp [hb] at hc
  | some c =>
  simp only [hb] at hc
  cases hnm : fn.name == "runtime.NumGoroutine" <;> simp only [hnm, cond_true, cond_false, reduceCtorEq] at hc
  cases hcc : cCode P G fn.ntmps c with
  | none => simp [hcc] at hc
  | some b =>
  cases hrr : fn.results.toList.mapM (cRes P) with
  | none => simp [hcc, hrr] at hc
  | some r =>
  simp only [hcc, hrr, Option.some.injEq] at hc
  subst hc
  refine ⟨?_, ?_⟩
  · simp [callFunc, hf, hb]
    simpa using hnm
  · have hl := hv.length
    simp at hl
    unfold evBody at h
    cases hargs : args.length.ble fn.ntmps with
    | false => simp [hargs] at h
    | true =>
    simp only [hargs, cond_true] at h
    have hn : args'.size ≤ fn.ntmps := by have := Nat.le_of_ble_eq_true hargs; omega
    refine calls_of_wp hf hb ?_
    cases h1 : evCode call k b ⟨args0 args 0 .leaf, []⟩ m with
    | none => simp [h1] at h
    | some o1 =>
      simp only [h1] at h
      have hw := code_sound hmix hcall k c b hcc ρ m w _ _ o1 hR hG (frame_start hv hn) h1
      refine wp_mono hw fun e a1 w1 hq => ?_
      have done : ∀ {fr1 : Fr} {m1 : Mem} {ρ1 : Ren}, R base ρ1 m1 w1 → Step ρ m w ρ1 m1 w1 → FrR ρ1 fn.ntmps fr1 a1 → (match fr1.defers with | [] => (evResults fr1 m1 r).map fun vs => Fin.ret (one vs) m1 | _ => none) = some fin →
          a1.defers = [] ∧ ∃ v, (results fn a1.tmps).run P w1 = .ok v w1 ∧ CallPost base ρ m w fin (.returned v) w1 := by
        intro fr1 m1 ρ1 hR1 hs hF1 hfin
        have hd := hF1.defs
        cases hdf : fr1.defers with
        | cons x l => simp [hdf] at hfin
        | nil =>
          rw [hdf] at hd
          simp only [hdf] at hfin
          obtain ⟨vs, hvs, rfl⟩ := map_some' hfin
          obtain ⟨vs', r1, r2⟩ := results_sound (P := P) hR1 hF1.tm fn.results.toList r vs hrr hvs
          refine ⟨hd.nil_of, _, ?_, ρ1, _, rfl, one_sound r2, hR1, hs⟩
          simp only [results, Sem.run_bind]
          rw [Array.mapM_eq_mapM_toList, Sem.run_map]
          erw [r1]
          rfl
      cases o1 with
      | norm fr1 m1 =>
        obtain ⟨rfl, ρ1, hR1, hs, hF1⟩ := hq
        exact done hR1 hs hF1 h
      | ret fr1 m1 =>
        obtain ⟨rfl, ρ1, hR1, hs, hF1⟩ := hq
        exact done hR1 hs hF1 h
      | exit id fr1 m1 => simp at h
      | pan v fr1 m1 =>
        obtain ⟨ρ1, v', rfl, hvv, hR1, hs, hF1⟩ := hq
        simp only at h
        have hd := hF1.defs
        cases hdf : fr1.defers with
        | cons x l => simp [hdf] at h
        | nil =>
          rw [hdf] at hd
          simp only [hdf, Option.some.injEq] at h
          subst h
          exact ⟨hd.nil_of, ρ1, v', rfl, hvv, hR1, hs⟩
/-- The evaluator is sound, at whatever fuel. -/
theorem evFun_ok (hmix : P.follows .mixedOrders = true) {T : Nat → Option Ent} (hT : ∀ f e, T f = some e → EntOk P G f e) : ∀ k, CallOk P G (evFun T k)
  | 0 => fun f args m fin h => by simp [evFun] at h
  | k + 1 => fun f args m fin h base ρ w args' hR hG hv => by
    simp only [evFun] at h
    cases he : T f with
    | none => simp [he] at h
    | some e =>
      simp only [he] at h
      have hok := hT f e he
      cases e with
      | go F =>
        obtain ⟨fn, hf, hc⟩ := hok
        exact .inl (body_sound hmix (evFun_ok hmix hT k) k hf hc h hR hG hv)
      | ext g =>
        simp only [evEnt] at h
        obtain ⟨v, hg, rfl⟩ := map_some' h
        obtain ⟨v', h1, h2⟩ := hok base ρ m w args args' v hR hv hg
        exact .inr ⟨v, v', rfl, h1, h2⟩
      | pure g =>
        simp only [evEnt] at h
        obtain ⟨v, hg, rfl⟩ := map_some' h
        exact .inl (hok base ρ m w args args' v hR hv hg)
      | spec g =>
        simp only [evEnt] at h
        exact .inl (hok base ρ m w args args' fin hR hG hv h)
end
end Go.Proofs.Ytjgbofonigpjaaa.Ev
end
section
namespace Go.Proofs.Ytjgbofonigpjaaa.Ev
open Go
def G : List Nat := []
abbrev t_int64 : Nat := 2
abbrev t_int : Nat := 3
abbrev t_bool : Nat := 4
abbrev t_uint8 : Nat := 5
abbrev t_abi_BoundsErrorCode : Nat := 6
abbrev t_runtime_boundsError : Nat := 8
abbrev t_string : Nat := 9
abbrev t_runtime_errorString : Nat := 10
abbrev t_runtime_plainError : Nat := 11
abbrev t_uintptr : Nat := 12
abbrev t_runtime_errorAddressString : Nat := 14
abbrev t_P_runtime_TypeAssertionError : Nat := 15
abbrev t_P_runtime_PanicNilError : Nat := 16
abbrev t_P_abi_Type : Nat := 17
abbrev t_maps_unhashableTypeError : Nat := 19
abbrev t_int32 : Nat := 21
abbrev t_S_api_Token : Nat := 23
abbrev t_api_Errno : Nat := 24
abbrev t_api_Fault : Nat := 26
abbrev t_S_api_Node : Nat := 29
abbrev t_S_int : Nat := 36
abbrev t_api_Token : Nat := 38
abbrev t_api_Node : Nat := 41
abbrev t_P_expr_Reader : Nat := 48
abbrev t_expr_Reader : Nat := 54
abbrev t_S_uint8 : Nat := 69
abbrev t_S_string : Nat := 70
abbrev t_expr_op : Nat := 73
abbrev t_runtime_TypeAssertionError : Nat := 81
abbrev t_runtime_PanicNilError : Nat := 84
abbrev t_uint32 : Nat := 85
abbrev t_abi_TFlag : Nat := 86
abbrev t_abi_Kind : Nat := 87
abbrev t_P_uint8 : Nat := 89
abbrev t_abi_NameOff : Nat := 90
abbrev t_abi_TypeOff : Nat := 91
abbrev t_abi_Type : Nat := 93
abbrev t_unsafe_Pointer : Nat := 94

/- balustrade/balustradelaw07.ExprBrackets -/
abbrev n_l07_ExprBrackets : Nat := 3
def F_l07_ExprBrackets_l0 : ICode :=
 (.seq
  (.seq
   (.region [⟨(some 35), (.val (.mov (.tmp 10))), none⟩,
     ⟨(some 36), (.val (.mov (.tmp 1))), none⟩,
     ⟨(some 37), (.val (.conv (.int .i64) (.tmp 36))), none⟩,
     ⟨(some 38), (.val (.bin .rem (.tmp 37) (.const (.int .i64 5)))), none⟩,
     ⟨(some 39), (.val (.bin .lss (.tmp 35) (.tmp 38))), none⟩])
   (.cond (.tmp 39)
    .skip
    (.exit 0)))
  (.seq
   (.block 1
    (.region [⟨(some 42), (.val (.mov (.tmp 9))), none⟩,
      ⟨(some 43), (.val (.bin .add (.const (.str [40])) (.tmp 42))), none⟩,
      ⟨(some 44), (.val (.bin .add (.tmp 43) (.const (.str [41])))), none⟩,
      ⟨(some 9), (.val (.mov (.tmp 44))), none⟩]))
   (.region [⟨(some 40), (.val (.mov (.tmp 10))), none⟩,
     ⟨(some 41), (.val (.bin .add (.tmp 40) (.const (.int .i64 1)))), none⟩,
     ⟨(some 10), (.val (.mov (.tmp 41))), none⟩])))
def F_l07_ExprBrackets : IFun :=
 ⟨81,
 (.seq
  (.region [⟨(some 4), (.val (.mov (.const (.bool false)))), none⟩])
  (.seq
   (.seq
    (.region [⟨(some 15), (.val (.mov (.tmp 0))), none⟩,
      ⟨(some 16), (.val (.lenstr (.tmp 15))), none⟩,
      ⟨(some 17), (.val (.bin .gtr (.tmp 16) (.const (.int .i64 150)))), none⟩])
    (.cond (.tmp 17)
     (.seq
      (.region [⟨(some 18), (.call (.const (.func 6 [] [])) []), none⟩,
        ⟨(some 4), (.val (.mov (.tmp 18))), none⟩])
      .ret)
     .skip))
   (.seq
    (.region [⟨(some 20), (.val (.mov (.tmp 0))), none⟩,
      ⟨(some 21), (.call (.const (.func 7 [] [])) [(.tmp 20)]), none⟩,
      ⟨(some 19), (.val (.mov (.tmp 21))), none⟩,
      ⟨(some 22), (.val (.extract (.tmp 19) 0)), none⟩,
      ⟨(some 23), (.val (.extract (.tmp 19) 1)), none⟩,
      ⟨(some 6), (.val (.alloc 26 [(.int .i64 0), (.int .i64 0)])), none⟩,
      ⟨(some 5), (.val (.mov (.tmp 22))), none⟩,
      ⟨none, (.val (.store 2 (.tmp 6) (.tmp 23))), none⟩])
    (.seq
     (.seq
      (.region [⟨(some 24), (.val (.faddr 0 (.tmp 6))), none⟩,
        ⟨(some 25), (.val (.load none (.tmp 24))), none⟩,
        ⟨(some 26), (.val (.eq true (.prim 1) (.tmp 25) (.const (.int .i64 0)))), none⟩])
      (.cond (.tmp 26)
       (.seq
        (.region [⟨(some 27), (.call (.const (.func 6 [] [])) []), none⟩,
          ⟨(some 4), (.val (.mov (.tmp 27))), none⟩])
        .ret)
       .skip))
     (.seq
      (.region [⟨(some 29), (.val (.mov (.tmp 5))), none⟩,
        ⟨(some 30), (.call (.const (.func 8 [] [])) [(.tmp 29)]), none⟩,
        ⟨(some 28), (.val (.mov (.tmp 30))), none⟩,
        ⟨(some 31), (.val (.extract (.tmp 28) 0)), none⟩,
        ⟨(some 32), (.val (.extract (.tmp 28) 1)), none⟩,
        ⟨(some 8), (.val (.alloc 26 [(.int .i64 0), (.int .i64 0)])), none⟩,
        ⟨(some 7), (.val (.mov (.tmp 31))), none⟩,
        ⟨none, (.val (.store 2 (.tmp 8) (.tmp 32))), none⟩])
      (.seq
       (.region [⟨(some 33), (.val (.mov (.tmp 0))), none⟩,
         ⟨(some 34), (.val (.bin .add (.tmp 33) (.const (.str [10])))), none⟩,
         ⟨(some 9), (.val (.mov (.tmp 34))), none⟩])
       (.seq
        (.seq
         (.region [⟨(some 10), (.val (.mov (.const (.int .i64 0)))), none⟩])
         (.block 0
          (.loop F_l07_ExprBrackets_l0)))
        (.seq
         (.region [⟨(some 46), (.val (.mov (.tmp 9))), none⟩,
           ⟨(some 47), (.call (.const (.func 7 [] [])) [(.tmp 46)]), none⟩,
           ⟨(some 45), (.val (.mov (.tmp 47))), none⟩,
           ⟨(some 48), (.val (.extract (.tmp 45) 0)), none⟩,
           ⟨(some 49), (.val (.extract (.tmp 45) 1)), none⟩,
           ⟨(some 12), (.val (.alloc 26 [(.int .i64 0), (.int .i64 0)])), none⟩,
           ⟨(some 11), (.val (.mov (.tmp 48))), none⟩,
           ⟨none, (.val (.store 2 (.tmp 12) (.tmp 49))), none⟩])
         (.seq
          (.region [⟨(some 51), (.val (.mov (.tmp 11))), none⟩,
            ⟨(some 52), (.call (.const (.func 8 [] [])) [(.tmp 51)]), none⟩,
            ⟨(some 50), (.val (.mov (.tmp 52))), none⟩,
            ⟨(some 53), (.val (.extract (.tmp 50) 0)), none⟩,
            ⟨(some 54), (.val (.extract (.tmp 50) 1)), none⟩,
            ⟨(some 14), (.val (.alloc 26 [(.int .i64 0), (.int .i64 0)])), none⟩,
            ⟨(some 13), (.val (.mov (.tmp 53))), none⟩,
            ⟨none, (.val (.store 2 (.tmp 14) (.tmp 54))), none⟩])
          (.seq
           (.seq
            (.region [⟨(some 55), (.val (.faddr 0 (.tmp 8))), none⟩,
              ⟨(some 56), (.val (.load none (.tmp 55))), none⟩,
              ⟨(some 57), (.val (.eq false (.prim 1) (.tmp 56) (.const (.int .i64 0)))), none⟩])
            (.cond (.tmp 57)
             (.seq
              (.region [⟨(some 58), (.val (.load (some 2) (.tmp 14))), none⟩,
                ⟨(some 59), (.val (.build [(.int .i64 0), (.int .i64 0)] [])), none⟩,
                ⟨(some 60), (.val (.eq false (.agg [(none, 0, (.prim 1)), (none, 1, (.prim 1))]) (.tmp 58) (.tmp 59))), none⟩,
                ⟨(some 61), (.val (.mov (.tmp 60))), none⟩,
                ⟨(some 62), (.val (.mov (.tmp 7))), (some (61, true))⟩,
                ⟨(some 63), (.val (.mov (.tmp 13))), (some (61, true))⟩,
                ⟨(some 64), (.call (.const (.func 9 [] [])) [(.tmp 62), (.tmp 63)]), (some (61, true))⟩,
                ⟨(some 65), (.val (.pick (.tmp 61) (.tmp 64) (.const (.bool false)))), none⟩,
                ⟨(some 66), (.val (.mov (.tmp 65))), none⟩,
                ⟨(some 67), (.call (.const (.func 6 [] [])) []), (some (66, true))⟩,
                ⟨(some 68), (.val (.pick (.tmp 66) (.tmp 67) (.const (.bool false)))), none⟩,
                ⟨(some 4), (.val (.mov (.tmp 68))), none⟩])
              .ret)
             .skip))
           (.seq
            (.region [⟨(some 69), (.val (.faddr 0 (.tmp 14))), none⟩,
              ⟨(some 70), (.val (.load none (.tmp 69))), none⟩,
              ⟨(some 71), (.val (.eq true (.prim 1) (.tmp 70) (.const (.int .i64 0)))), none⟩,
              ⟨(some 72), (.val (.mov (.tmp 71))), none⟩,
              ⟨(some 73), (.val (.mov (.tmp 1))), (some (72, false))⟩,
              ⟨(some 74), (.val (.conv (.int .i64) (.tmp 73))), (some (72, false))⟩,
              ⟨(some 75), (.val (.bin .rem (.tmp 74) (.const (.int .i64 5)))), (some (72, false))⟩,
              ⟨(some 76), (.val (.bin .gtr (.tmp 75) (.const (.int .i64 0)))), (some (72, false))⟩,
              ⟨(some 77), (.val (.pick (.tmp 72) (.const (.bool true)) (.tmp 76))), none⟩,
              ⟨(some 78), (.val (.mov (.tmp 77))), none⟩,
              ⟨(some 79), (.call (.const (.func 6 [] [])) []), (some (78, true))⟩,
              ⟨(some 80), (.val (.pick (.tmp 78) (.tmp 79) (.const (.bool false)))), none⟩,
              ⟨(some 4), (.val (.mov (.tmp 80))), none⟩])
            .ret))))))))))),
 [.tmp 4]⟩
theorem ok3 : cFun Try.prog G Try.f3 = some F_l07_ExprBrackets := by kernel_rfl

/- balustrade/balustradelaw07.ExprDeep -/
abbrev n_l07_ExprDeep : Nat := 4
def F_l07_ExprDeep_l0 : ICode :=
 (.seq
  (.seq
   (.region [⟨(some 18), (.val (.mov (.tmp 9))), none⟩,
     ⟨(some 19), (.val (.mov (.tmp 5))), none⟩,
     ⟨(some 20), (.val (.bin .lss (.tmp 18) (.tmp 19))), none⟩])
   (.cond (.tmp 20)
    .skip
    (.exit 0)))
  (.seq
   (.block 1
    (.seq
     (.region [⟨(some 23), (.val (.mov (.tmp 0))), none⟩,
       ⟨(some 24), (.val (.bin .rem (.tmp 23) (.const (.int .u8 4)))), none⟩])
     (.block 2
      (.seq
       (.region [⟨(some 30), (.val (.eq false (.prim 1) (.tmp 24) (.const (.int .u8 0)))), none⟩,
         ⟨(some 29), (.val (.mov (.tmp 30))), none⟩])
       (.cond (.tmp 29)
        (.seq
         (.region [⟨(some 31), (.val (.mov (.tmp 6))), none⟩,
           ⟨(some 32), (.val (.bin .add (.tmp 31) (.const (.str [40])))), none⟩,
           ⟨(some 6), (.val (.mov (.tmp 32))), none⟩])
         (.region [⟨(some 33), (.val (.mov (.tmp 8))), none⟩,
           ⟨(some 34), (.val (.bin .add (.tmp 33) (.const (.str [41])))), none⟩,
           ⟨(some 8), (.val (.mov (.tmp 34))), none⟩]))
        (.seq
         (.region [⟨(some 36), (.val (.eq false (.prim 1) (.tmp 24) (.const (.int .u8 1)))), none⟩,
           ⟨(some 35), (.val (.mov (.tmp 36))), none⟩])
         (.cond (.tmp 35)
          (.seq
           (.region [⟨(some 37), (.val (.mov (.tmp 6))), none⟩,
             ⟨(some 38), (.val (.bin .add (.tmp 37) (.const (.str [45])))), none⟩,
             ⟨(some 6), (.val (.mov (.tmp 38))), none⟩])
           (.region [⟨(some 7), (.val (.mov (.const (.int .i64 199)))), none⟩]))
          (.seq
           (.region [⟨(some 40), (.val (.eq false (.prim 1) (.tmp 24) (.const (.int .u8 2)))), none⟩,
             ⟨(some 39), (.val (.mov (.tmp 40))), none⟩])
           (.cond (.tmp 39)
            (.seq
             (.region [⟨(some 41), (.val (.mov (.tmp 6))), none⟩,
               ⟨(some 42), (.val (.bin .add (.tmp 41) (.const (.str [120, 43])))), none⟩,
               ⟨(some 6), (.val (.mov (.tmp 42))), none⟩])
             (.region [⟨(some 7), (.val (.mov (.const (.int .i64 199)))), none⟩]))
            (.seq
             (.region [⟨(some 25), (.val (.mov (.tmp 6))), none⟩,
               ⟨(some 26), (.val (.bin .add (.tmp 25) (.const (.str [120, 91])))), none⟩,
               ⟨(some 6), (.val (.mov (.tmp 26))), none⟩])
             (.seq
              (.region [⟨(some 27), (.val (.mov (.tmp 8))), none⟩,
                ⟨(some 28), (.val (.bin .add (.tmp 27) (.const (.str [93])))), none⟩,
                ⟨(some 8), (.val (.mov (.tmp 28))), none⟩])
              (.region [⟨(some 7), (.val (.mov (.const (.int .i64 199)))), none⟩]))))))))))))
   (.region [⟨(some 21), (.val (.mov (.tmp 9))), none⟩,
     ⟨(some 22), (.val (.bin .add (.tmp 21) (.const (.int .i64 1)))), none⟩,
     ⟨(some 9), (.val (.mov (.tmp 22))), none⟩])))
def F_l07_ExprDeep : IFun :=
 ⟨79,
 (.seq
  (.region [⟨(some 4), (.val (.mov (.const (.bool false)))), none⟩])
  (.seq
   (.region [⟨(some 14), (.val (.mov (.tmp 1))), none⟩,
     ⟨(some 15), (.val (.conv (.int .i64) (.tmp 14))), none⟩,
     ⟨(some 16), (.val (.bin .rem (.tmp 15) (.const (.int .i64 5)))), none⟩,
     ⟨(some 17), (.val (.bin .add (.const (.int .i64 198)) (.tmp 16))), none⟩,
     ⟨(some 5), (.val (.mov (.tmp 17))), none⟩])
   (.seq
    (.region [⟨(some 6), (.val (.mov (.const (.str [])))), none⟩,
      ⟨(some 7), (.val (.mov (.const (.int .i64 200)))), none⟩,
      ⟨(some 8), (.val (.mov (.const (.str [120])))), none⟩])
    (.seq
     (.seq
      (.region [⟨(some 9), (.val (.mov (.const (.int .i64 0)))), none⟩])
      (.block 0
       (.loop F_l07_ExprDeep_l0)))
     (.seq
      (.region [⟨(some 44), (.val (.mov (.tmp 6))), none⟩,
        ⟨(some 45), (.val (.mov (.tmp 8))), none⟩,
        ⟨(some 46), (.val (.bin .add (.tmp 44) (.tmp 45))), none⟩,
        ⟨(some 47), (.call (.const (.func 7 [] [])) [(.tmp 46)]), none⟩,
        ⟨(some 43), (.val (.mov (.tmp 47))), none⟩,
        ⟨(some 48), (.val (.extract (.tmp 43) 0)), none⟩,
        ⟨(some 49), (.val (.extract (.tmp 43) 1)), none⟩,
        ⟨(some 11), (.val (.alloc 26 [(.int .i64 0), (.int .i64 0)])), none⟩,
        ⟨(some 10), (.val (.mov (.tmp 48))), none⟩,
        ⟨none, (.val (.store 2 (.tmp 11) (.tmp 49))), none⟩])
      (.seq
       (.region [⟨(some 51), (.val (.mov (.tmp 10))), none⟩,
         ⟨(some 52), (.call (.const (.func 8 [] [])) [(.tmp 51)]), none⟩,
         ⟨(some 50), (.val (.mov (.tmp 52))), none⟩,
         ⟨(some 53), (.val (.extract (.tmp 50) 0)), none⟩,
         ⟨(some 54), (.val (.extract (.tmp 50) 1)), none⟩,
         ⟨(some 13), (.val (.alloc 26 [(.int .i64 0), (.int .i64 0)])), none⟩,
         ⟨(some 12), (.val (.mov (.tmp 53))), none⟩,
         ⟨none, (.val (.store 2 (.tmp 13) (.tmp 54))), none⟩])
       (.seq
        (.seq
         (.region [⟨(some 55), (.val (.mov (.tmp 5))), none⟩,
           ⟨(some 56), (.val (.mov (.tmp 7))), none⟩,
           ⟨(some 57), (.val (.bin .leq (.tmp 55) (.tmp 56))), none⟩])
         (.cond (.tmp 57)
          (.seq
           (.region [⟨(some 58), (.val (.load (some 2) (.tmp 13))), none⟩,
             ⟨(some 59), (.val (.build [(.int .i64 0), (.int .i64 0)] [])), none⟩,
             ⟨(some 60), (.val (.eq false (.agg [(none, 0, (.prim 1)), (none, 1, (.prim 1))]) (.tmp 58) (.tmp 59))), none⟩,
             ⟨(some 61), (.val (.mov (.tmp 60))), none⟩,
             ⟨(some 62), (.val (.mov (.tmp 12))), (some (61, true))⟩,
             ⟨(some 63), (.call (.const (.func 10 [] [])) [(.tmp 62)]), (some (61, true))⟩,
             ⟨(some 64), (.val (.pick (.tmp 61) (.tmp 63) (.const (.bool false)))), none⟩,
             ⟨(some 65), (.val (.mov (.tmp 64))), none⟩,
             ⟨(some 66), (.call (.const (.func 6 [] [])) []), (some (65, true))⟩,
             ⟨(some 67), (.val (.pick (.tmp 65) (.tmp 66) (.const (.bool false)))), none⟩,
             ⟨(some 4), (.val (.mov (.tmp 67))), none⟩])
           .ret)
          .skip))
        (.seq
         (.region [⟨(some 68), (.val (.mov (.tmp 12))), none⟩,
           ⟨(some 69), (.val (.len (.tmp 68))), none⟩,
           ⟨(some 70), (.val (.eq false (.prim 1) (.tmp 69) (.const (.int .i64 0)))), none⟩,
           ⟨(some 71), (.val (.mov (.tmp 70))), none⟩,
           ⟨(some 72), (.val (.faddr 0 (.tmp 13))), (some (71, true))⟩,
           ⟨(some 73), (.val (.load none (.tmp 72))), (some (71, true))⟩,
           ⟨(some 74), (.val (.eq false (.prim 1) (.tmp 73) (.const (.int .i64 4)))), (some (71, true))⟩,
           ⟨(some 75), (.val (.pick (.tmp 71) (.tmp 74) (.const (.bool false)))), none⟩,
           ⟨(some 76), (.val (.mov (.tmp 75))), none⟩,
           ⟨(some 77), (.call (.const (.func 6 [] [])) []), (some (76, true))⟩,
           ⟨(some 78), (.val (.pick (.tmp 76) (.tmp 77) (.const (.bool false)))), none⟩,
           ⟨(some 4), (.val (.mov (.tmp 78))), none⟩])
         .ret)))))))),
 [.tmp 4]⟩
theorem ok4 : cFun Try.prog G Try.f4 = some F_l07_ExprDeep := by kernel_rfl

/- balustrade/balustradelaw07.ExprStands -/
abbrev n_l07_ExprStands : Nat := 5
def F_l07_ExprStands_l0 : ICode :=
 (.seq
  (.seq
   (.region [⟨(some 24), (.val (.mov (.tmp 6))), none⟩,
     ⟨(some 25), (.val (.mov (.tmp 3))), none⟩,
     ⟨(some 26), (.val (.len (.tmp 25))), none⟩,
     ⟨(some 27), (.val (.bin .lss (.tmp 24) (.tmp 26))), none⟩])
   (.cond (.tmp 27)
    .skip
    (.exit 0)))
  (.seq
   (.block 1
    (.region [⟨(some 30), (.val (.mov (.tmp 5))), none⟩,
      ⟨(some 31), (.val (.mov (.tmp 3))), none⟩,
      ⟨(some 32), (.val (.mov (.tmp 6))), none⟩,
      ⟨(some 33), (.val (.iaddr 4 (.tmp 31) (.tmp 32))), none⟩,
      ⟨(some 34), (.val (.faddr 3 (.tmp 33))), none⟩,
      ⟨(some 35), (.val (.load none (.tmp 34))), none⟩,
      ⟨(some 36), (.val (.bslice 3 1 1 [(.int .i64 0)] [(0, (.tmp 35))])), none⟩,
      ⟨(some 37), (.val (.append 3 1 8 (.tmp 30) (.tmp 36))), none⟩,
      ⟨(some 5), (.val (.mov (.tmp 37))), none⟩]))
   (.region [⟨(some 28), (.val (.mov (.tmp 6))), none⟩,
     ⟨(some 29), (.val (.bin .add (.tmp 28) (.const (.int .i64 1)))), none⟩,
     ⟨(some 6), (.val (.mov (.tmp 29))), none⟩])))
def F_l07_ExprStands_l1 : ICode :=
 (.seq
  (.seq
   (.region [⟨(some 58), (.val (.mov (.tmp 9))), none⟩,
     ⟨(some 59), (.val (.mov (.tmp 7))), none⟩,
     ⟨(some 60), (.val (.len (.tmp 59))), none⟩,
     ⟨(some 61), (.val (.bin .lss (.tmp 58) (.tmp 60))), none⟩])
   (.cond (.tmp 61)
    .skip
    (.exit 2)))
  (.seq
   (.block 3
    (.seq
     (.region [⟨(some 64), (.val (.mov (.tmp 5))), none⟩,
       ⟨(some 65), (.val (.mov (.tmp 7))), none⟩,
       ⟨(some 66), (.val (.mov (.tmp 9))), none⟩,
       ⟨(some 67), (.val (.iaddr 5 (.tmp 65) (.tmp 66))), none⟩,
       ⟨(some 68), (.val (.faddr 4 (.tmp 67))), none⟩,
       ⟨(some 69), (.val (.load none (.tmp 68))), none⟩,
       ⟨(some 70), (.call (.const (.func 11 [] [])) [(.tmp 64), (.tmp 69)]), none⟩,
       ⟨(some 71), (.val (.un .not (.tmp 70))), none⟩])
     (.cond (.tmp 71)
      (.seq
       (.region [⟨(some 2), (.val (.mov (.const (.bool false)))), none⟩])
       .ret)
      .skip)))
   (.region [⟨(some 62), (.val (.mov (.tmp 9))), none⟩,
     ⟨(some 63), (.val (.bin .add (.tmp 62) (.const (.int .i64 1)))), none⟩,
     ⟨(some 9), (.val (.mov (.tmp 63))), none⟩])))
def F_l07_ExprStands : IFun :=
 ⟨87,
 (.seq
  (.region [⟨(some 2), (.val (.mov (.const (.bool false)))), none⟩])
  (.seq
   (.seq
    (.region [⟨(some 10), (.val (.mov (.tmp 0))), none⟩,
      ⟨(some 11), (.val (.lenstr (.tmp 10))), none⟩,
      ⟨(some 12), (.val (.bin .gtr (.tmp 11) (.const (.int .i64 600)))), none⟩])
    (.cond (.tmp 12)
     (.seq
      (.region [⟨(some 13), (.call (.const (.func 6 [] [])) []), none⟩,
        ⟨(some 2), (.val (.mov (.tmp 13))), none⟩])
      .ret)
     .skip))
   (.seq
    (.region [⟨(some 15), (.val (.mov (.tmp 0))), none⟩,
      ⟨(some 16), (.call (.const (.func 7 [] [])) [(.tmp 15)]), none⟩,
      ⟨(some 14), (.val (.mov (.tmp 16))), none⟩,
      ⟨(some 17), (.val (.extract (.tmp 14) 0)), none⟩,
      ⟨(some 18), (.val (.extract (.tmp 14) 1)), none⟩,
      ⟨(some 4), (.val (.alloc 26 [(.int .i64 0), (.int .i64 0)])), none⟩,
      ⟨(some 3), (.val (.mov (.tmp 17))), none⟩,
      ⟨none, (.val (.store 2 (.tmp 4) (.tmp 18))), none⟩])
    (.seq
     (.seq
      (.region [⟨(some 19), (.val (.faddr 0 (.tmp 4))), none⟩,
        ⟨(some 20), (.val (.load none (.tmp 19))), none⟩,
        ⟨(some 21), (.val (.eq true (.prim 1) (.tmp 20) (.const (.int .i64 0)))), none⟩])
      (.cond (.tmp 21)
       (.seq
        (.region [⟨(some 22), (.call (.const (.func 6 [] [])) []), none⟩,
          ⟨(some 2), (.val (.mov (.tmp 22))), none⟩])
        .ret)
       .skip))
     (.seq
      (.region [⟨(some 23), (.val (.bslice 3 1 0 [(.int .i64 0)] [])), none⟩,
        ⟨(some 5), (.val (.mov (.tmp 23))), none⟩])
      (.seq
       (.seq
        (.region [⟨(some 6), (.val (.mov (.const (.int .i64 0)))), none⟩])
        (.block 0
         (.loop F_l07_ExprStands_l0)))
       (.seq
        (.region [⟨(some 39), (.val (.mov (.tmp 3))), none⟩,
          ⟨(some 40), (.call (.const (.func 8 [] [])) [(.tmp 39)]), none⟩,
          ⟨(some 38), (.val (.mov (.tmp 40))), none⟩,
          ⟨(some 41), (.val (.extract (.tmp 38) 0)), none⟩,
          ⟨(some 42), (.val (.extract (.tmp 38) 1)), none⟩,
          ⟨(some 8), (.val (.alloc 26 [(.int .i64 0), (.int .i64 0)])), none⟩,
          ⟨(some 7), (.val (.mov (.tmp 41))), none⟩,
          ⟨none, (.val (.store 2 (.tmp 8) (.tmp 42))), none⟩])
        (.seq
         (.seq
          (.region [⟨(some 43), (.val (.faddr 0 (.tmp 8))), none⟩,
            ⟨(some 44), (.val (.load none (.tmp 43))), none⟩,
            ⟨(some 45), (.val (.eq true (.prim 1) (.tmp 44) (.const (.int .i64 0)))), none⟩])
          (.cond (.tmp 45)
           (.seq
            (.region [⟨(some 46), (.val (.mov (.tmp 7))), none⟩,
              ⟨(some 47), (.val (.len (.tmp 46))), none⟩,
              ⟨(some 48), (.val (.eq false (.prim 1) (.tmp 47) (.const (.int .i64 0)))), none⟩,
              ⟨(some 49), (.val (.mov (.tmp 48))), none⟩,
              ⟨(some 50), (.val (.mov (.tmp 5))), (some (49, true))⟩,
              ⟨(some 51), (.val (.faddr 1 (.tmp 8))), (some (49, true))⟩,
              ⟨(some 52), (.val (.load none (.tmp 51))), (some (49, true))⟩,
              ⟨(some 53), (.call (.const (.func 11 [] [])) [(.tmp 50), (.tmp 52)]), (some (49, true))⟩,
              ⟨(some 54), (.val (.pick (.tmp 49) (.tmp 53) (.const (.bool false)))), none⟩,
              ⟨(some 55), (.val (.mov (.tmp 54))), none⟩,
              ⟨(some 56), (.call (.const (.func 6 [] [])) []), (some (55, true))⟩,
              ⟨(some 57), (.val (.pick (.tmp 55) (.tmp 56) (.const (.bool false)))), none⟩,
              ⟨(some 2), (.val (.mov (.tmp 57))), none⟩])
            .ret)
           .skip))
         (.seq
          (.seq
           (.region [⟨(some 9), (.val (.mov (.const (.int .i64 0)))), none⟩])
           (.block 2
            (.loop F_l07_ExprStands_l1)))
          (.seq
           (.region [⟨(some 72), (.val (.mov (.tmp 7))), none⟩,
             ⟨(some 73), (.call (.const (.func 10 [] [])) [(.tmp 72)]), none⟩,
             ⟨(some 74), (.val (.mov (.tmp 73))), none⟩,
             ⟨(some 75), (.val (.mov (.tmp 7))), (some (74, true))⟩,
             ⟨(some 76), (.val (.mov (.tmp 7))), (some (74, true))⟩,
             ⟨(some 77), (.val (.len (.tmp 76))), (some (74, true))⟩,
             ⟨(some 78), (.val (.bin .sub (.tmp 77) (.const (.int .i64 1)))), (some (74, true))⟩,
             ⟨(some 79), (.val (.iaddr 5 (.tmp 75) (.tmp 78))), (some (74, true))⟩,
             ⟨(some 80), (.val (.faddr 0 (.tmp 79))), (some (74, true))⟩,
             ⟨(some 81), (.val (.load none (.tmp 80))), (some (74, true))⟩,
             ⟨(some 82), (.call (.const (.func 12 [] [])) [(.tmp 81)]), (some (74, true))⟩,
             ⟨(some 83), (.val (.pick (.tmp 74) (.tmp 82) (.const (.bool false)))), none⟩,
             ⟨(some 84), (.val (.mov (.tmp 83))), none⟩,
             ⟨(some 85), (.call (.const (.func 6 [] [])) []), (some (84, true))⟩,
             ⟨(some 86), (.val (.pick (.tmp 84) (.tmp 85) (.const (.bool false)))), none⟩,
             ⟨(some 2), (.val (.mov (.tmp 86))), none⟩])
           .ret)))))))))),
 [.tmp 2]⟩
theorem ok5 : cFun Try.prog G Try.f5 = some F_l07_ExprStands := by kernel_rfl

/- balustrade/balustradelaw07.works -/
abbrev n_l07_works : Nat := 6
def F_l07_works : IFun :=
 ⟨52,
 (.seq
  (.region [⟨(some 0), (.val (.mov (.const (.bool false)))), none⟩])
  (.seq
   (.region [⟨(some 10), (.call (.const (.func 7 [] [])) [(.const (.str [97, 45, 98, 42, 45, 99, 91, 49, 93]))]), none⟩,
     ⟨(some 9), (.val (.mov (.tmp 10))), none⟩,
     ⟨(some 11), (.val (.extract (.tmp 9) 0)), none⟩,
     ⟨(some 12), (.val (.extract (.tmp 9) 1)), none⟩,
     ⟨(some 2), (.val (.alloc 26 [(.int .i64 0), (.int .i64 0)])), none⟩,
     ⟨(some 1), (.val (.mov (.tmp 11))), none⟩,
     ⟨none, (.val (.store 2 (.tmp 2) (.tmp 12))), none⟩])
   (.seq
    (.region [⟨(some 14), (.val (.mov (.tmp 1))), none⟩,
      ⟨(some 15), (.call (.const (.func 8 [] [])) [(.tmp 14)]), none⟩,
      ⟨(some 13), (.val (.mov (.tmp 15))), none⟩,
      ⟨(some 16), (.val (.extract (.tmp 13) 0)), none⟩,
      ⟨(some 17), (.val (.extract (.tmp 13) 1)), none⟩,
      ⟨(some 4), (.val (.alloc 26 [(.int .i64 0), (.int .i64 0)])), none⟩,
      ⟨(some 3), (.val (.mov (.tmp 16))), none⟩,
      ⟨none, (.val (.store 2 (.tmp 4) (.tmp 17))), none⟩])
    (.seq
     (.region [⟨(some 19), (.call (.const (.func 7 [] [])) [(.const (.str [97, 60, 98, 60, 99]))]), none⟩,
       ⟨(some 18), (.val (.mov (.tmp 19))), none⟩,
       ⟨(some 20), (.val (.extract (.tmp 18) 0)), none⟩,
       ⟨(some 21), (.val (.extract (.tmp 18) 1)), none⟩,
       ⟨(some 6), (.val (.alloc 26 [(.int .i64 0), (.int .i64 0)])), none⟩,
       ⟨(some 5), (.val (.mov (.tmp 20))), none⟩,
       ⟨none, (.val (.store 2 (.tmp 6) (.tmp 21))), none⟩])
     (.seq
      (.region [⟨(some 23), (.val (.mov (.tmp 5))), none⟩,
        ⟨(some 24), (.call (.const (.func 8 [] [])) [(.tmp 23)]), none⟩,
        ⟨(some 22), (.val (.mov (.tmp 24))), none⟩,
        ⟨(some 25), (.val (.extract (.tmp 22) 0)), none⟩,
        ⟨(some 26), (.val (.extract (.tmp 22) 1)), none⟩,
        ⟨(some 8), (.val (.alloc 26 [(.int .i64 0), (.int .i64 0)])), none⟩,
        ⟨(some 7), (.val (.mov (.tmp 25))), none⟩,
        ⟨none, (.val (.store 2 (.tmp 8) (.tmp 26))), none⟩])
      (.seq
       (.region [⟨(some 27), (.val (.load (some 2) (.tmp 4))), none⟩,
         ⟨(some 28), (.val (.build [(.int .i64 0), (.int .i64 0)] [])), none⟩,
         ⟨(some 29), (.val (.eq false (.agg [(none, 0, (.prim 1)), (none, 1, (.prim 1))]) (.tmp 27) (.tmp 28))), none⟩,
         ⟨(some 30), (.val (.mov (.tmp 29))), none⟩,
         ⟨(some 31), (.val (.mov (.tmp 3))), (some (30, true))⟩,
         ⟨(some 32), (.call (.const (.func 10 [] [])) [(.tmp 31)]), (some (30, true))⟩,
         ⟨(some 33), (.val (.pick (.tmp 30) (.tmp 32) (.const (.bool false)))), none⟩,
         ⟨(some 34), (.val (.mov (.tmp 33))), none⟩,
         ⟨(some 35), (.val (.mov (.tmp 3))), (some (34, true))⟩,
         ⟨(some 36), (.val (.mov (.tmp 3))), (some (34, true))⟩,
         ⟨(some 37), (.val (.len (.tmp 36))), (some (34, true))⟩,
         ⟨(some 38), (.val (.bin .sub (.tmp 37) (.const (.int .i64 1)))), (some (34, true))⟩,
         ⟨(some 39), (.call (.const (.func 13 [] [])) [(.tmp 35), (.tmp 38)]), (some (34, true))⟩,
         ⟨(some 40), (.val (.eq false (.prim 2) (.tmp 39) (.const (.str [40, 45, 32, 97, 32, 40, 42, 32, 98, 32, 40, 110, 101, 103, 32, 40, 97, 116, 32, 99, 32, 49, 41, 41, 41, 41])))), (some (34, true))⟩,
         ⟨(some 41), (.val (.pick (.tmp 34) (.tmp 40) (.const (.bool false)))), none⟩,
         ⟨(some 42), (.val (.mov (.tmp 41))), none⟩,
         ⟨(some 43), (.val (.mov (.tmp 7))), (some (42, true))⟩,
         ⟨(some 44), (.val (.len (.tmp 43))), (some (42, true))⟩,
         ⟨(some 45), (.val (.eq false (.prim 1) (.tmp 44) (.const (.int .i64 0)))), (some (42, true))⟩,
         ⟨(some 46), (.val (.pick (.tmp 42) (.tmp 45) (.const (.bool false)))), none⟩,
         ⟨(some 47), (.val (.mov (.tmp 46))), none⟩,
         ⟨(some 48), (.val (.load (some 2) (.tmp 8))), (some (47, true))⟩,
         ⟨(some 49), (.val (.build [(.int .i64 0), (.int .i64 0)] [(0, 1, (.const (.int .i64 8))), (1, 1, (.const (.int .i64 3)))])), (some (47, true))⟩,
         ⟨(some 50), (.val (.eq false (.agg [(none, 0, (.prim 1)), (none, 1, (.prim 1))]) (.tmp 48) (.tmp 49))), (some (47, true))⟩,
         ⟨(some 51), (.val (.pick (.tmp 47) (.tmp 50) (.const (.bool false)))), none⟩,
         ⟨(some 0), (.val (.mov (.tmp 51))), none⟩])
       .ret)))))),
 [.tmp 0]⟩
theorem ok6 : cFun Try.prog G Try.f6 = some F_l07_works := by kernel_rfl

/- balustrade/balustraderef05.Tokens -/
abbrev n_r05_Tokens : Nat := 7
def F_r05_Tokens_l0 : ICode :=
 (.seq
  (.seq
   (.region [⟨(some 14), (.val (.mov (.tmp 5))), none⟩,
     ⟨(some 15), (.val (.mov (.tmp 0))), none⟩,
     ⟨(some 16), (.val (.lenstr (.tmp 15))), none⟩,
     ⟨(some 17), (.val (.bin .lss (.tmp 14) (.tmp 16))), none⟩])
   (.cond (.tmp 17)
    .skip
    (.exit 0)))
  (.block 1
   (.seq
    (.region [⟨(some 19), (.val (.mov (.tmp 0))), none⟩,
      ⟨(some 20), (.val (.mov (.tmp 5))), none⟩,
      ⟨(some 21), (.val (.slstr (.tmp 19) (some (.tmp 20)) none)), none⟩,
      ⟨(some 22), (.val (.mov (.tmp 5))), none⟩,
      ⟨(some 23), (.call (.const (.func 15 [] [])) [(.tmp 21), (.tmp 22)]), none⟩,
      ⟨(some 18), (.val (.mov (.tmp 23))), none⟩,
      ⟨(some 24), (.val (.extract (.tmp 18) 0)), none⟩,
      ⟨(some 25), (.val (.extract (.tmp 18) 1)), none⟩,
      ⟨(some 6), (.val (.alloc 38 [(.int .i64 0), (.str []), (.int .i64 0), (.int .i64 0)])), none⟩,
      ⟨none, (.val (.store 4 (.tmp 6) (.tmp 24))), none⟩,
      ⟨(some 7), (.val (.mov (.tmp 25))), none⟩])
    (.seq
     (.seq
      (.region [⟨(some 26), (.val (.mov (.tmp 7))), none⟩,
        ⟨(some 27), (.val (.eq true (.prim 1) (.tmp 26) (.const (.int .i64 0)))), none⟩])
      (.cond (.tmp 27)
       (.seq
        (.region [⟨(some 28), (.val (.mov (.tmp 7))), none⟩,
          ⟨(some 29), (.val (.mov (.tmp 5))), none⟩,
          ⟨(some 30), (.val (.build [(.int .i64 0), (.int .i64 0)] [(0, 1, (.tmp 28)), (1, 1, (.tmp 29))])), none⟩,
          ⟨(some 2), (.val (.mov (.const .nilslice))), none⟩,
          ⟨none, (.val (.store 2 (.tmp 3) (.tmp 30))), none⟩])
        .ret)
       .skip))
     (.seq
      (.region [⟨(some 31), (.val (.mov (.tmp 4))), none⟩,
        ⟨(some 32), (.val (.load (some 4) (.tmp 6))), none⟩,
        ⟨(some 33), (.val (.bslice 38 4 1 [(.int .i64 0), (.str []), (.int .i64 0), (.int .i64 0)] [(0, (.tmp 32))])), none⟩,
        ⟨(some 34), (.val (.append 38 4 40 (.tmp 31) (.tmp 33))), none⟩,
        ⟨(some 4), (.val (.mov (.tmp 34))), none⟩])
      (.seq
       (.region [⟨(some 35), (.val (.mov (.tmp 5))), none⟩,
         ⟨(some 36), (.val (.faddr 1 (.tmp 6))), none⟩,
         ⟨(some 37), (.val (.load none (.tmp 36))), none⟩,
         ⟨(some 38), (.val (.lenstr (.tmp 37))), none⟩,
         ⟨(some 39), (.val (.bin .add (.tmp 35) (.tmp 38))), none⟩,
         ⟨(some 5), (.val (.mov (.tmp 39))), none⟩])
       (.region [⟨(some 40), (.val (.mov (.tmp 5))), none⟩,
         ⟨(some 41), (.val (.mov (.tmp 0))), none⟩,
         ⟨(some 42), (.val (.mov (.tmp 5))), none⟩,
         ⟨(some 43), (.val (.slstr (.tmp 41) (some (.tmp 42)) none)), none⟩,
         ⟨(some 44), (.call (.const (.func 14 [] [])) [(.tmp 43)]), none⟩,
         ⟨(some 45), (.val (.bin .add (.tmp 40) (.tmp 44))), none⟩,
         ⟨(some 5), (.val (.mov (.tmp 45))), none⟩])))))))
def F_r05_Tokens : IFun :=
 ⟨53,
 (.seq
  (.region [⟨(some 2), (.val (.mov (.const .nilslice))), none⟩,
    ⟨(some 3), (.val (.alloc 26 [(.int .i64 0), (.int .i64 0)])), none⟩])
  (.seq
   (.seq
    (.region [⟨(some 8), (.val (.mov (.tmp 0))), none⟩,
      ⟨(some 9), (.val (.lenstr (.tmp 8))), none⟩,
      ⟨(some 10), (.val (.bin .gtr (.tmp 9) (.const (.int .i64 65536)))), none⟩])
    (.cond (.tmp 10)
     (.seq
      (.region [⟨(some 11), (.val (.build [(.int .i64 0), (.int .i64 0)] [(0, 1, (.const (.int .i64 3)))])), none⟩,
        ⟨(some 2), (.val (.mov (.const .nilslice))), none⟩,
        ⟨none, (.val (.store 2 (.tmp 3) (.tmp 11))), none⟩])
      .ret)
     .skip))
   (.seq
    (.region [⟨(some 4), (.val (.mov (.const .nilslice))), none⟩])
    (.seq
     (.region [⟨(some 12), (.val (.mov (.tmp 0))), none⟩,
       ⟨(some 13), (.call (.const (.func 14 [] [])) [(.tmp 12)]), none⟩,
       ⟨(some 5), (.val (.mov (.tmp 13))), none⟩])
     (.seq
      (.block 0
       (.loop F_r05_Tokens_l0))
      (.seq
       (.region [⟨(some 46), (.val (.mov (.tmp 4))), none⟩,
         ⟨(some 47), (.val (.mov (.tmp 0))), none⟩,
         ⟨(some 48), (.val (.lenstr (.tmp 47))), none⟩,
         ⟨(some 49), (.val (.build [(.int .i64 0), (.str []), (.int .i64 0), (.int .i64 0)] [(3, 1, (.tmp 48))])), none⟩,
         ⟨(some 50), (.val (.bslice 38 4 1 [(.int .i64 0), (.str []), (.int .i64 0), (.int .i64 0)] [(0, (.tmp 49))])), none⟩,
         ⟨(some 51), (.val (.append 38 4 40 (.tmp 46) (.tmp 50))), none⟩,
         ⟨(some 52), (.val (.build [(.int .i64 0), (.int .i64 0)] [])), none⟩,
         ⟨(some 2), (.val (.mov (.tmp 51))), none⟩,
         ⟨none, (.val (.store 2 (.tmp 3) (.tmp 52))), none⟩])
       .ret)))))),
 [.tmp 2, .cell 3 (some 2)]⟩
theorem ok7 : cFun Try.prog G Try.f7 = some F_r05_Tokens := by kernel_rfl

/- balustrade/expr.Parse -/
abbrev n_expr_Parse : Nat := 8
def F_expr_Parse : IFun :=
 ⟨29,
 (.seq
  (.region [⟨(some 2), (.val (.mov (.const .nilslice))), none⟩,
    ⟨(some 3), (.val (.alloc 26 [(.int .i64 0), (.int .i64 0)])), none⟩])
  (.seq
   (.region [⟨(some 6), (.val (.mov (.tmp 0))), none⟩,
     ⟨(some 7), (.call (.const (.func 16 [] [])) [(.tmp 6)]), none⟩,
     ⟨(some 4), (.val (.mov (.tmp 7))), none⟩])
   (.seq
    (.region [⟨(some 8), (.val (.mov (.tmp 4))), none⟩,
      ⟨(some 9), (.call (.const (.func 17 [] [])) [(.tmp 8)]), none⟩])
    (.seq
     (.seq
      (.region [⟨(some 10), (.val (.mov (.tmp 4))), none⟩,
        ⟨(some 11), (.call (.const (.func 18 [] [])) [(.tmp 10)]), none⟩,
        ⟨(some 5), (.val (.alloc 38 [(.int .i64 0), (.str []), (.int .i64 0), (.int .i64 0)])), none⟩,
        ⟨none, (.val (.store 4 (.tmp 5) (.tmp 11))), none⟩])
      (.seq
       (.region [⟨(some 12), (.val (.faddr 0 (.tmp 5))), none⟩,
         ⟨(some 13), (.val (.load none (.tmp 12))), none⟩,
         ⟨(some 14), (.val (.eq true (.prim 1) (.tmp 13) (.const (.int .i64 0)))), none⟩])
       (.cond (.tmp 14)
        (.region [⟨(some 15), (.val (.mov (.tmp 4))), none⟩,
          ⟨(some 16), (.val (.faddr 3 (.tmp 5))), none⟩,
          ⟨(some 17), (.val (.load none (.tmp 16))), none⟩,
          ⟨(some 18), (.call (.const (.func 19 [] [])) [(.tmp 15), (.const (.int .i64 8)), (.tmp 17)]), none⟩])
        .skip)))
     (.seq
      (.seq
       (.region [⟨(some 19), (.val (.mov (.tmp 4))), none⟩,
         ⟨(some 20), (.call (.const (.func 20 [] [])) [(.tmp 19)]), none⟩,
         ⟨(some 21), (.val (.un .not (.tmp 20))), none⟩])
       (.cond (.tmp 21)
        (.seq
         (.draw [⟨(some 22), (.val (.mov (.tmp 4))), none⟩,
           ⟨(some 23), (.val (.nilck (.tmp 22))), none⟩,
           ⟨(some 24), (.val (.faddr 5 (.tmp 23))), none⟩,
           ⟨(some 25), (.val (.load (some 2) (.tmp 24))), none⟩,
           ⟨(some 2), (.val (.mov (.const .nilslice))), none⟩,
           ⟨none, (.val (.store 2 (.tmp 3) (.tmp 25))), none⟩] [])
         .ret)
        .skip))
      (.seq
       (.region [⟨(some 26), (.val (.mov (.tmp 4))), none⟩,
         ⟨(some 27), (.call (.const (.func 21 [] [])) [(.tmp 26)]), none⟩,
         ⟨(some 28), (.val (.build [(.int .i64 0), (.int .i64 0)] [])), none⟩,
         ⟨(some 2), (.val (.mov (.tmp 27))), none⟩,
         ⟨none, (.val (.store 2 (.tmp 3) (.tmp 28))), none⟩])
       .ret)))))),
 [.tmp 2, .cell 3 (some 2)]⟩
theorem ok8 : cFun Try.prog G Try.f8 = some F_expr_Parse := by kernel_rfl

/- balustrade/balustradebase.SameNodes -/
abbrev n_base_SameNodes : Nat := 9
def F_base_SameNodes_l0 : ICode :=
 (.seq
  (.seq
   (.region [⟨(some 11), (.val (.mov (.tmp 5))), none⟩,
     ⟨(some 12), (.val (.mov (.tmp 0))), none⟩,
     ⟨(some 13), (.val (.len (.tmp 12))), none⟩,
     ⟨(some 14), (.val (.bin .lss (.tmp 11) (.tmp 13))), none⟩])
   (.cond (.tmp 14)
    .skip
    (.exit 0)))
  (.seq
   (.block 1
    (.seq
     (.draw [⟨(some 17), (.val (.mov (.tmp 0))), none⟩,
       ⟨(some 18), (.val (.mov (.tmp 5))), none⟩,
       ⟨(some 19), (.val (.iaddr 5 (.tmp 17) (.tmp 18))), none⟩,
       ⟨(some 20), (.val (.faddr 0 (.tmp 19))), none⟩,
       ⟨(some 21), (.val (.load none (.tmp 20))), none⟩,
       ⟨(some 22), (.val (.mov (.tmp 1))), none⟩,
       ⟨(some 23), (.val (.mov (.tmp 5))), none⟩,
       ⟨(some 24), (.val (.iaddr 5 (.tmp 22) (.tmp 23))), none⟩,
       ⟨(some 25), (.val (.faddr 0 (.tmp 24))), none⟩,
       ⟨(some 26), (.val (.load none (.tmp 25))), none⟩,
       ⟨(some 27), (.val (.eq true (.prim 1) (.tmp 21) (.tmp 26))), none⟩,
       ⟨(some 28), (.val (.mov (.tmp 27))), none⟩,
       ⟨(some 29), (.val (.mov (.tmp 0))), (some (28, false))⟩,
       ⟨(some 30), (.val (.mov (.tmp 5))), (some (28, false))⟩,
       ⟨(some 31), (.val (.iaddr 5 (.tmp 29) (.tmp 30))), (some (28, false))⟩,
       ⟨(some 32), (.val (.faddr 2 (.tmp 31))), (some (28, false))⟩,
       ⟨(some 33), (.val (.load none (.tmp 32))), (some (28, false))⟩,
       ⟨(some 34), (.val (.mov (.tmp 1))), (some (28, false))⟩,
       ⟨(some 35), (.val (.mov (.tmp 5))), (some (28, false))⟩,
       ⟨(some 36), (.val (.iaddr 5 (.tmp 34) (.tmp 35))), (some (28, false))⟩,
       ⟨(some 37), (.val (.faddr 2 (.tmp 36))), (some (28, false))⟩,
       ⟨(some 38), (.val (.load none (.tmp 37))), (some (28, false))⟩,
       ⟨(some 39), (.val (.eq true (.prim 1) (.tmp 33) (.tmp 38))), (some (28, false))⟩,
       ⟨(some 40), (.val (.pick (.tmp 28) (.const (.bool true)) (.tmp 39))), none⟩,
       ⟨(some 41), (.val (.mov (.tmp 40))), none⟩,
       ⟨(some 42), (.val (.mov (.tmp 0))), (some (41, false))⟩,
       ⟨(some 43), (.val (.mov (.tmp 5))), (some (41, false))⟩,
       ⟨(some 44), (.val (.iaddr 5 (.tmp 42) (.tmp 43))), (some (41, false))⟩,
       ⟨(some 45), (.val (.faddr 3 (.tmp 44))), (some (41, false))⟩,
       ⟨(some 46), (.val (.load none (.tmp 45))), (some (41, false))⟩,
       ⟨(some 47), (.val (.mov (.tmp 1))), (some (41, false))⟩,
       ⟨(some 48), (.val (.mov (.tmp 5))), (some (41, false))⟩,
       ⟨(some 49), (.val (.iaddr 5 (.tmp 47) (.tmp 48))), (some (41, false))⟩,
       ⟨(some 50), (.val (.faddr 3 (.tmp 49))), (some (41, false))⟩,
       ⟨(some 51), (.val (.load none (.tmp 50))), (some (41, false))⟩,
       ⟨(some 52), (.val (.eq true (.prim 2) (.tmp 46) (.tmp 51))), (some (41, false))⟩,
       ⟨(some 53), (.val (.pick (.tmp 41) (.const (.bool true)) (.tmp 52))), none⟩,
       ⟨(some 54), (.val (.mov (.tmp 53))), none⟩,
       ⟨(some 55), (.val (.mov (.tmp 0))), (some (54, false))⟩,
       ⟨(some 56), (.val (.mov (.tmp 5))), (some (54, false))⟩,
       ⟨(some 57), (.val (.iaddr 5 (.tmp 55) (.tmp 56))), (some (54, false))⟩,
       ⟨(some 58), (.val (.faddr 1 (.tmp 57))), (some (54, false))⟩,
       ⟨(some 59), (.val (.load none (.tmp 58))), (some (54, false))⟩,
       ⟨(some 60), (.val (.mov (.tmp 1))), (some (54, false))⟩,
       ⟨(some 61), (.val (.mov (.tmp 5))), (some (54, false))⟩,
       ⟨(some 62), (.val (.iaddr 5 (.tmp 60) (.tmp 61))), (some (54, false))⟩,
       ⟨(some 63), (.val (.faddr 1 (.tmp 62))), (some (54, false))⟩,
       ⟨(some 64), (.val (.load none (.tmp 63))), (some (54, false))⟩,
       ⟨(some 65), (.call (.const (.func 22 [] [])) [(.tmp 59), (.tmp 64)]), (some (54, false))⟩,
       ⟨(some 66), (.val (.un .not (.tmp 65))), (some (54, false))⟩,
       ⟨(some 67), (.val (.pick (.tmp 54) (.const (.bool true)) (.tmp 66))), none⟩] [])
     (.cond (.tmp 67)
      (.seq
       (.region [⟨(some 4), (.val (.mov (.const (.bool false)))), none⟩])
       .ret)
      .skip)))
   (.region [⟨(some 15), (.val (.mov (.tmp 5))), none⟩,
     ⟨(some 16), (.val (.bin .add (.tmp 15) (.const (.int .i64 1)))), none⟩,
     ⟨(some 5), (.val (.mov (.tmp 16))), none⟩])))
def F_base_SameNodes : IFun :=
 ⟨68,
 (.seq
  (.region [⟨(some 4), (.val (.mov (.const (.bool false)))), none⟩])
  (.seq
   (.seq
    (.region [⟨(some 6), (.val (.mov (.tmp 0))), none⟩,
      ⟨(some 7), (.val (.len (.tmp 6))), none⟩,
      ⟨(some 8), (.val (.mov (.tmp 1))), none⟩,
      ⟨(some 9), (.val (.len (.tmp 8))), none⟩,
      ⟨(some 10), (.val (.eq true (.prim 1) (.tmp 7) (.tmp 9))), none⟩])
    (.cond (.tmp 10)
     (.seq
      (.region [⟨(some 4), (.val (.mov (.const (.bool false)))), none⟩])
      .ret)
     .skip))
   (.seq
    (.seq
     (.region [⟨(some 5), (.val (.mov (.const (.int .i64 0)))), none⟩])
     (.block 0
      (.loop F_base_SameNodes_l0)))
    (.seq
     (.region [⟨(some 4), (.val (.mov (.const (.bool true)))), none⟩])
     .ret)))),
 [.tmp 4]⟩
theorem ok9 : cFun Try.prog G Try.f9 = some F_base_SameNodes := by kernel_rfl

/- balustrade/balustraderef06.Right -/
abbrev n_r06_Right : Nat := 10
def F_r06_Right_l0 : ICode :=
 (.seq
  (.seq
   (.region [⟨(some 14), (.val (.mov (.tmp 5))), none⟩,
     ⟨(some 15), (.val (.mov (.tmp 0))), none⟩,
     ⟨(some 16), (.val (.mov (.tmp 4))), none⟩,
     ⟨(some 17), (.val (.iaddr 5 (.tmp 15) (.tmp 16))), none⟩,
     ⟨(some 18), (.val (.faddr 1 (.tmp 17))), none⟩,
     ⟨(some 19), (.val (.load none (.tmp 18))), none⟩,
     ⟨(some 20), (.val (.len (.tmp 19))), none⟩,
     ⟨(some 21), (.val (.bin .lss (.tmp 14) (.tmp 20))), none⟩])
   (.cond (.tmp 21)
    .skip
    (.exit 2)))
  (.seq
   (.block 3
    (.seq
     (.region [⟨(some 24), (.val (.mov (.tmp 0))), none⟩,
       ⟨(some 25), (.val (.mov (.tmp 4))), none⟩,
       ⟨(some 26), (.val (.iaddr 5 (.tmp 24) (.tmp 25))), none⟩,
       ⟨(some 27), (.val (.faddr 1 (.tmp 26))), none⟩,
       ⟨(some 28), (.val (.load none (.tmp 27))), none⟩,
       ⟨(some 29), (.val (.mov (.tmp 5))), none⟩,
       ⟨(some 30), (.val (.iaddr 1 (.tmp 28) (.tmp 29))), none⟩,
       ⟨(some 31), (.val (.load none (.tmp 30))), none⟩,
       ⟨(some 6), (.val (.mov (.tmp 31))), none⟩])
     (.seq
      (.seq
       (.region [⟨(some 32), (.val (.mov (.tmp 6))), none⟩,
         ⟨(some 33), (.val (.bin .lss (.tmp 32) (.const (.int .i64 0)))), none⟩,
         ⟨(some 34), (.val (.mov (.tmp 33))), none⟩,
         ⟨(some 35), (.val (.mov (.tmp 6))), (some (34, false))⟩,
         ⟨(some 36), (.val (.mov (.tmp 4))), (some (34, false))⟩,
         ⟨(some 37), (.val (.bin .geq (.tmp 35) (.tmp 36))), (some (34, false))⟩,
         ⟨(some 38), (.val (.pick (.tmp 34) (.const (.bool true)) (.tmp 37))), none⟩,
         ⟨(some 39), (.val (.mov (.tmp 38))), none⟩,
         ⟨(some 40), (.val (.mov (.tmp 3))), (some (39, false))⟩,
         ⟨(some 41), (.val (.mov (.tmp 6))), (some (39, false))⟩,
         ⟨(some 42), (.call (.const (.func 11 [] [])) [(.tmp 40), (.tmp 41)]), (some (39, false))⟩,
         ⟨(some 43), (.val (.pick (.tmp 39) (.const (.bool true)) (.tmp 42))), none⟩])
       (.cond (.tmp 43)
        (.seq
         (.region [⟨(some 2), (.val (.mov (.const (.bool false)))), none⟩])
         .ret)
        .skip))
      (.region [⟨(some 44), (.val (.mov (.tmp 3))), none⟩,
        ⟨(some 45), (.val (.mov (.tmp 6))), none⟩,
        ⟨(some 46), (.val (.bslice 3 1 1 [(.int .i64 0)] [(0, (.tmp 45))])), none⟩,
        ⟨(some 47), (.val (.append 3 1 8 (.tmp 44) (.tmp 46))), none⟩,
        ⟨(some 3), (.val (.mov (.tmp 47))), none⟩]))))
   (.region [⟨(some 22), (.val (.mov (.tmp 5))), none⟩,
     ⟨(some 23), (.val (.bin .add (.tmp 22) (.const (.int .i64 1)))), none⟩,
     ⟨(some 5), (.val (.mov (.tmp 23))), none⟩])))
def F_r06_Right_l1 : ICode :=
 (.seq
  (.seq
   (.region [⟨(some 8), (.val (.mov (.tmp 4))), none⟩,
     ⟨(some 9), (.val (.mov (.tmp 0))), none⟩,
     ⟨(some 10), (.val (.len (.tmp 9))), none⟩,
     ⟨(some 11), (.val (.bin .lss (.tmp 8) (.tmp 10))), none⟩])
   (.cond (.tmp 11)
    .skip
    (.exit 0)))
  (.seq
   (.block 1
    (.seq
     (.seq
      (.region [⟨(some 5), (.val (.mov (.const (.int .i64 0)))), none⟩])
      (.block 2
       (.loop F_r06_Right_l0)))
     (.seq
      (.region [⟨(some 48), (.val (.mov (.tmp 0))), none⟩,
        ⟨(some 49), (.val (.mov (.tmp 4))), none⟩,
        ⟨(some 50), (.val (.iaddr 5 (.tmp 48) (.tmp 49))), none⟩,
        ⟨(some 51), (.val (.load (some 5) (.tmp 50))), none⟩,
        ⟨(some 52), (.call (.const (.func 23 [] [])) [(.tmp 51)]), none⟩,
        ⟨(some 53), (.val (.un .not (.tmp 52))), none⟩,
        ⟨(some 54), (.val (.mov (.tmp 53))), none⟩,
        ⟨(some 55), (.val (.mov (.tmp 0))), (some (54, false))⟩,
        ⟨(some 56), (.val (.mov (.tmp 0))), (some (54, false))⟩,
        ⟨(some 57), (.val (.mov (.tmp 4))), (some (54, false))⟩,
        ⟨(some 58), (.val (.iaddr 5 (.tmp 56) (.tmp 57))), (some (54, false))⟩,
        ⟨(some 59), (.val (.load (some 5) (.tmp 58))), (some (54, false))⟩,
        ⟨(some 60), (.call (.const (.func 24 [] [])) [(.tmp 55), (.tmp 59)]), (some (54, false))⟩,
        ⟨(some 61), (.val (.un .not (.tmp 60))), (some (54, false))⟩,
        ⟨(some 62), (.val (.pick (.tmp 54) (.const (.bool true)) (.tmp 61))), none⟩])
      (.cond (.tmp 62)
       (.seq
        (.region [⟨(some 2), (.val (.mov (.const (.bool false)))), none⟩])
        .ret)
       .skip))))
   (.region [⟨(some 12), (.val (.mov (.tmp 4))), none⟩,
     ⟨(some 13), (.val (.bin .add (.tmp 12) (.const (.int .i64 1)))), none⟩,
     ⟨(some 4), (.val (.mov (.tmp 13))), none⟩])))
def F_r06_Right : IFun :=
 ⟨82,
 (.seq
  (.region [⟨(some 2), (.val (.mov (.const (.bool false)))), none⟩])
  (.seq
   (.region [⟨(some 7), (.val (.bslice 3 1 0 [(.int .i64 0)] [])), none⟩,
     ⟨(some 3), (.val (.mov (.tmp 7))), none⟩])
   (.seq
    (.seq
     (.region [⟨(some 4), (.val (.mov (.const (.int .i64 0)))), none⟩])
     (.block 0
      (.loop F_r06_Right_l1)))
    (.seq
     (.region [⟨(some 63), (.val (.mov (.tmp 0))), none⟩,
       ⟨(some 64), (.val (.len (.tmp 63))), none⟩,
       ⟨(some 65), (.val (.bin .gtr (.tmp 64) (.const (.int .i64 0)))), none⟩,
       ⟨(some 66), (.val (.mov (.tmp 65))), none⟩,
       ⟨(some 67), (.val (.mov (.tmp 3))), (some (66, true))⟩,
       ⟨(some 68), (.val (.len (.tmp 67))), (some (66, true))⟩,
       ⟨(some 69), (.val (.mov (.tmp 0))), (some (66, true))⟩,
       ⟨(some 70), (.val (.len (.tmp 69))), (some (66, true))⟩,
       ⟨(some 71), (.val (.bin .sub (.tmp 70) (.const (.int .i64 1)))), (some (66, true))⟩,
       ⟨(some 72), (.val (.eq false (.prim 1) (.tmp 68) (.tmp 71))), (some (66, true))⟩,
       ⟨(some 73), (.val (.pick (.tmp 66) (.tmp 72) (.const (.bool false)))), none⟩,
       ⟨(some 74), (.val (.mov (.tmp 73))), none⟩,
       ⟨(some 75), (.val (.mov (.tmp 0))), (some (74, true))⟩,
       ⟨(some 76), (.val (.mov (.tmp 0))), (some (74, true))⟩,
       ⟨(some 77), (.val (.len (.tmp 76))), (some (74, true))⟩,
       ⟨(some 78), (.val (.bin .sub (.tmp 77) (.const (.int .i64 1)))), (some (74, true))⟩,
       ⟨(some 79), (.call (.const (.func 25 [] [])) [(.tmp 75), (.tmp 78)]), (some (74, true))⟩,
       ⟨(some 80), (.val (.bin .leq (.tmp 79) (.const (.int .i64 200)))), (some (74, true))⟩,
       ⟨(some 81), (.val (.pick (.tmp 74) (.tmp 80) (.const (.bool false)))), none⟩,
       ⟨(some 2), (.val (.mov (.tmp 81))), none⟩])
     .ret)))),
 [.tmp 2]⟩
theorem ok10 : cFun Try.prog G Try.f10 = some F_r06_Right := by kernel_rfl

/- balustrade/balustradebase.HasInt -/
abbrev n_base_HasInt : Nat := 11
def F_base_HasInt_l0 : ICode :=
 (.seq
  (.seq
   (.region [⟨(some 6), (.val (.mov (.tmp 5))), none⟩,
     ⟨(some 7), (.val (.mov (.tmp 0))), none⟩,
     ⟨(some 8), (.val (.len (.tmp 7))), none⟩,
     ⟨(some 9), (.val (.bin .lss (.tmp 6) (.tmp 8))), none⟩])
   (.cond (.tmp 9)
    .skip
    (.exit 0)))
  (.seq
   (.block 1
    (.seq
     (.region [⟨(some 12), (.val (.mov (.tmp 0))), none⟩,
       ⟨(some 13), (.val (.mov (.tmp 5))), none⟩,
       ⟨(some 14), (.val (.iaddr 1 (.tmp 12) (.tmp 13))), none⟩,
       ⟨(some 15), (.val (.load none (.tmp 14))), none⟩,
       ⟨(some 16), (.val (.mov (.tmp 1))), none⟩,
       ⟨(some 17), (.val (.eq false (.prim 1) (.tmp 15) (.tmp 16))), none⟩])
     (.cond (.tmp 17)
      (.seq
       (.region [⟨(some 4), (.val (.mov (.const (.bool true)))), none⟩])
       .ret)
      .skip)))
   (.region [⟨(some 10), (.val (.mov (.tmp 5))), none⟩,
     ⟨(some 11), (.val (.bin .add (.tmp 10) (.const (.int .i64 1)))), none⟩,
     ⟨(some 5), (.val (.mov (.tmp 11))), none⟩])))
def F_base_HasInt : IFun :=
 ⟨18,
 (.seq
  (.region [⟨(some 4), (.val (.mov (.const (.bool false)))), none⟩])
  (.seq
   (.seq
    (.region [⟨(some 5), (.val (.mov (.const (.int .i64 0)))), none⟩])
    (.block 0
     (.loop F_base_HasInt_l0)))
   (.seq
    (.region [⟨(some 4), (.val (.mov (.const (.bool false)))), none⟩])
    .ret))),
 [.tmp 4]⟩
theorem ok11 : cFun Try.prog G Try.f11 = some F_base_HasInt := by kernel_rfl

/- balustrade/balustraderef06.Expr -/
abbrev n_r06_Expr : Nat := 12
def F_r06_Expr : IFun :=
 ⟨9,
 (.seq
  (.region [⟨(some 2), (.val (.mov (.const (.bool false)))), none⟩])
  (.seq
   (.region [⟨(some 3), (.val (.mov (.tmp 0))), none⟩,
     ⟨(some 4), (.val (.bin .geq (.tmp 3) (.const (.int .i64 1)))), none⟩,
     ⟨(some 5), (.val (.mov (.tmp 4))), none⟩,
     ⟨(some 6), (.val (.mov (.tmp 0))), (some (5, true))⟩,
     ⟨(some 7), (.val (.bin .leq (.tmp 6) (.const (.int .i64 11)))), (some (5, true))⟩,
     ⟨(some 8), (.val (.pick (.tmp 5) (.tmp 7) (.const (.bool false)))), none⟩,
     ⟨(some 2), (.val (.mov (.tmp 8))), none⟩])
   .ret)),
 [.tmp 2]⟩
theorem ok12 : cFun Try.prog G Try.f12 = some F_r06_Expr := by kernel_rfl

/- balustrade/balustraderef06.Tell -/
abbrev n_r06_Tell : Nat := 13
def F_r06_Tell_l0 : ICode :=
 (.seq
  (.seq
   (.region [⟨(some 66), (.val (.mov (.tmp 7))), none⟩,
     ⟨(some 67), (.val (.faddr 1 (.tmp 5))), none⟩,
     ⟨(some 68), (.val (.load none (.tmp 67))), none⟩,
     ⟨(some 69), (.val (.len (.tmp 68))), none⟩,
     ⟨(some 70), (.val (.bin .lss (.tmp 66) (.tmp 69))), none⟩])
   (.cond (.tmp 70)
    .skip
    (.exit 0)))
  (.seq
   (.block 1
    (.region [⟨(some 73), (.val (.mov (.tmp 6))), none⟩,
      ⟨(some 74), (.val (.bin .add (.tmp 73) (.const (.str [32])))), none⟩,
      ⟨(some 75), (.val (.mov (.tmp 0))), none⟩,
      ⟨(some 76), (.val (.faddr 1 (.tmp 5))), none⟩,
      ⟨(some 77), (.val (.load none (.tmp 76))), none⟩,
      ⟨(some 78), (.val (.mov (.tmp 7))), none⟩,
      ⟨(some 79), (.val (.iaddr 1 (.tmp 77) (.tmp 78))), none⟩,
      ⟨(some 80), (.val (.load none (.tmp 79))), none⟩,
      ⟨(some 81), (.call (.const (.func 13 [] [])) [(.tmp 75), (.tmp 80)]), none⟩,
      ⟨(some 82), (.val (.bin .add (.tmp 74) (.tmp 81))), none⟩,
      ⟨(some 6), (.val (.mov (.tmp 82))), none⟩]))
   (.region [⟨(some 71), (.val (.mov (.tmp 7))), none⟩,
     ⟨(some 72), (.val (.bin .add (.tmp 71) (.const (.int .i64 1)))), none⟩,
     ⟨(some 7), (.val (.mov (.tmp 72))), none⟩])))
def F_r06_Tell : IFun :=
 ⟨86,
 (.seq
  (.region [⟨(some 4), (.val (.mov (.const (.str [])))), none⟩])
  (.seq
   (.region [⟨(some 8), (.val (.mov (.tmp 0))), none⟩,
     ⟨(some 9), (.val (.mov (.tmp 1))), none⟩,
     ⟨(some 10), (.val (.iaddr 5 (.tmp 8) (.tmp 9))), none⟩,
     ⟨(some 11), (.val (.load (some 5) (.tmp 10))), none⟩,
     ⟨(some 5), (.val (.alloc 41 [(.int .i64 0), .nilslice, (.int .i64 0), (.str []), (.int .i64 0)])), none⟩,
     ⟨none, (.val (.store 5 (.tmp 5) (.tmp 11))), none⟩])
   (.seq
    (.seq
     (.region [⟨(some 12), (.val (.faddr 0 (.tmp 5))), none⟩,
       ⟨(some 13), (.val (.load none (.tmp 12))), none⟩,
       ⟨(some 14), (.val (.eq false (.prim 1) (.tmp 13) (.const (.int .i64 1)))), none⟩])
     (.cond (.tmp 14)
      (.seq
       (.region [⟨(some 15), (.val (.faddr 2 (.tmp 5))), none⟩,
         ⟨(some 16), (.val (.load none (.tmp 15))), none⟩,
         ⟨(some 17), (.call (.const (.func 26 [] [])) [(.tmp 16)]), none⟩,
         ⟨(some 4), (.val (.mov (.tmp 17))), none⟩])
       .ret)
      .skip))
    (.seq
     (.seq
      (.region [⟨(some 18), (.val (.faddr 0 (.tmp 5))), none⟩,
        ⟨(some 19), (.val (.load none (.tmp 18))), none⟩,
        ⟨(some 20), (.val (.eq false (.prim 1) (.tmp 19) (.const (.int .i64 2)))), none⟩,
        ⟨(some 21), (.val (.mov (.tmp 20))), none⟩,
        ⟨(some 22), (.val (.faddr 2 (.tmp 5))), (some (21, true))⟩,
        ⟨(some 23), (.val (.load none (.tmp 22))), (some (21, true))⟩,
        ⟨(some 24), (.val (.eq false (.prim 1) (.tmp 23) (.const (.int .i64 1)))), (some (21, true))⟩,
        ⟨(some 25), (.val (.pick (.tmp 21) (.tmp 24) (.const (.bool false)))), none⟩])
      (.cond (.tmp 25)
       (.seq
        (.region [⟨(some 4), (.val (.mov (.const (.str [116, 114, 117, 101])))), none⟩])
        .ret)
       .skip))
     (.seq
      (.seq
       (.region [⟨(some 26), (.val (.faddr 0 (.tmp 5))), none⟩,
         ⟨(some 27), (.val (.load none (.tmp 26))), none⟩,
         ⟨(some 28), (.val (.eq false (.prim 1) (.tmp 27) (.const (.int .i64 2)))), none⟩])
       (.cond (.tmp 28)
        (.seq
         (.region [⟨(some 4), (.val (.mov (.const (.str [102, 97, 108, 115, 101])))), none⟩])
         .ret)
        .skip))
      (.seq
       (.seq
        (.region [⟨(some 29), (.val (.faddr 0 (.tmp 5))), none⟩,
          ⟨(some 30), (.val (.load none (.tmp 29))), none⟩,
          ⟨(some 31), (.val (.bin .leq (.tmp 30) (.const (.int .i64 4)))), none⟩])
        (.cond (.tmp 31)
         (.seq
          (.draw [⟨(some 32), (.val (.load (some 5) (.tmp 5))), none⟩,
            ⟨(some 33), (.call (.const (.func 27 [] [])) [(.tmp 32)]), none⟩,
            ⟨(some 34), (.val (.faddr 3 (.tmp 5))), none⟩,
            ⟨(some 35), (.val (.load none (.tmp 34))), none⟩,
            ⟨(some 36), (.val (.bin .add (.tmp 33) (.tmp 35))), none⟩,
            ⟨(some 4), (.val (.mov (.tmp 36))), none⟩] [(3, 1)])
          .ret)
         .skip))
       (.seq
        (.region [⟨(some 37), (.val (.load (some 5) (.tmp 5))), none⟩,
          ⟨(some 38), (.call (.const (.func 27 [] [])) [(.tmp 37)]), none⟩,
          ⟨(some 6), (.val (.mov (.tmp 38))), none⟩])
        (.seq
         (.seq
          (.region [⟨(some 39), (.val (.faddr 3 (.tmp 5))), none⟩,
            ⟨(some 40), (.val (.load none (.tmp 39))), none⟩,
            ⟨(some 41), (.val (.eq true (.prim 2) (.tmp 40) (.const (.str [])))), none⟩,
            ⟨(some 42), (.val (.mov (.tmp 41))), none⟩,
            ⟨(some 43), (.val (.mov (.tmp 6))), (some (42, true))⟩,
            ⟨(some 44), (.val (.eq true (.prim 2) (.tmp 43) (.const (.str [])))), (some (42, true))⟩,
            ⟨(some 45), (.val (.pick (.tmp 42) (.tmp 44) (.const (.bool false)))), none⟩])
          (.cond (.tmp 45)
           (.region [⟨(some 46), (.val (.mov (.tmp 6))), none⟩,
             ⟨(some 47), (.val (.bin .add (.tmp 46) (.const (.str [32])))), none⟩,
             ⟨(some 6), (.val (.mov (.tmp 47))), none⟩])
           .skip))
         (.seq
          (.region [⟨(some 48), (.val (.mov (.tmp 6))), none⟩,
            ⟨(some 49), (.val (.faddr 3 (.tmp 5))), none⟩,
            ⟨(some 50), (.val (.load none (.tmp 49))), none⟩,
            ⟨(some 51), (.val (.bin .add (.tmp 48) (.tmp 50))), none⟩,
            ⟨(some 6), (.val (.mov (.tmp 51))), none⟩])
          (.seq
           (.seq
            (.region [⟨(some 52), (.val (.faddr 0 (.tmp 5))), none⟩,
              ⟨(some 53), (.val (.load none (.tmp 52))), none⟩,
              ⟨(some 54), (.val (.eq false (.prim 1) (.tmp 53) (.const (.int .i64 24)))), none⟩,
              ⟨(some 55), (.val (.mov (.tmp 54))), none⟩,
              ⟨(some 56), (.val (.faddr 0 (.tmp 5))), (some (55, false))⟩,
              ⟨(some 57), (.val (.load none (.tmp 56))), (some (55, false))⟩,
              ⟨(some 58), (.val (.eq false (.prim 1) (.tmp 57) (.const (.int .i64 25)))), (some (55, false))⟩,
              ⟨(some 59), (.val (.pick (.tmp 55) (.const (.bool true)) (.tmp 58))), none⟩])
            (.cond (.tmp 59)
             (.region [⟨(some 60), (.val (.mov (.tmp 6))), none⟩,
               ⟨(some 61), (.val (.bin .add (.tmp 60) (.const (.str [32])))), none⟩,
               ⟨(some 62), (.val (.faddr 2 (.tmp 5))), none⟩,
               ⟨(some 63), (.val (.load none (.tmp 62))), none⟩,
               ⟨(some 64), (.call (.const (.func 28 [] [])) [(.tmp 63)]), none⟩,
               ⟨(some 65), (.val (.bin .add (.tmp 61) (.tmp 64))), none⟩,
               ⟨(some 6), (.val (.mov (.tmp 65))), none⟩])
             .skip))
           (.seq
            (.seq
             (.region [⟨(some 7), (.val (.mov (.const (.int .i64 0)))), none⟩])
             (.block 0
              (.loop F_r06_Tell_l0)))
            (.seq
             (.region [⟨(some 83), (.val (.mov (.tmp 6))), none⟩,
               ⟨(some 84), (.val (.bin .add (.const (.str [40])) (.tmp 83))), none⟩,
               ⟨(some 85), (.val (.bin .add (.tmp 84) (.const (.str [41])))), none⟩,
               ⟨(some 4), (.val (.mov (.tmp 85))), none⟩])
             .ret)))))))))))),
 [.tmp 4]⟩
theorem ok13 : cFun Try.prog G Try.f13 = some F_r06_Tell := by kernel_rfl

/- balustrade/balustraderef05.Skip -/
abbrev n_r05_Skip : Nat := 14
def F_r05_Skip_l0 : ICode :=
 (.seq
  (.seq
   (.region [⟨(some 5), (.val (.mov (.tmp 4))), none⟩,
     ⟨(some 6), (.val (.mov (.tmp 0))), none⟩,
     ⟨(some 7), (.val (.lenstr (.tmp 6))), none⟩,
     ⟨(some 8), (.val (.bin .lss (.tmp 5) (.tmp 7))), none⟩])
   (.cond (.tmp 8)
    .skip
    (.exit 0)))
  (.seq
   (.block 1
    (.seq
     (.seq
      (.region [⟨(some 11), (.val (.mov (.tmp 0))), none⟩,
        ⟨(some 12), (.val (.mov (.tmp 4))), none⟩,
        ⟨(some 13), (.val (.idxstr (.tmp 11) (.tmp 12))), none⟩,
        ⟨(some 14), (.val (.eq false (.prim 1) (.tmp 13) (.const (.int .u8 35)))), none⟩])
      (.cond (.tmp 14)
       (.region [⟨(some 3), (.val (.mov (.const (.bool true)))), none⟩])
       .skip))
     (.seq
      (.seq
       (.region [⟨(some 15), (.val (.mov (.tmp 0))), none⟩,
         ⟨(some 16), (.val (.mov (.tmp 4))), none⟩,
         ⟨(some 17), (.val (.idxstr (.tmp 15) (.tmp 16))), none⟩,
         ⟨(some 18), (.val (.eq false (.prim 1) (.tmp 17) (.const (.int .u8 10)))), none⟩])
       (.cond (.tmp 18)
        (.region [⟨(some 3), (.val (.mov (.const (.bool false)))), none⟩])
        .skip))
      (.seq
       (.region [⟨(some 19), (.val (.mov (.tmp 3))), none⟩,
         ⟨(some 20), (.val (.un .not (.tmp 19))), none⟩,
         ⟨(some 21), (.val (.mov (.tmp 20))), none⟩,
         ⟨(some 22), (.val (.mov (.tmp 0))), (some (21, true))⟩,
         ⟨(some 23), (.val (.mov (.tmp 4))), (some (21, true))⟩,
         ⟨(some 24), (.val (.idxstr (.tmp 22) (.tmp 23))), (some (21, true))⟩,
         ⟨(some 25), (.call (.const (.func 29 [] [])) [(.tmp 24)]), (some (21, true))⟩,
         ⟨(some 26), (.val (.un .not (.tmp 25))), (some (21, true))⟩,
         ⟨(some 27), (.val (.pick (.tmp 21) (.tmp 26) (.const (.bool false)))), none⟩])
       (.cond (.tmp 27)
        (.seq
         (.region [⟨(some 28), (.val (.mov (.tmp 4))), none⟩,
           ⟨(some 2), (.val (.mov (.tmp 28))), none⟩])
         .ret)
        .skip)))))
   (.region [⟨(some 9), (.val (.mov (.tmp 4))), none⟩,
     ⟨(some 10), (.val (.bin .add (.tmp 9) (.const (.int .i64 1)))), none⟩,
     ⟨(some 4), (.val (.mov (.tmp 10))), none⟩])))
def F_r05_Skip : IFun :=
 ⟨31,
 (.seq
  (.region [⟨(some 2), (.val (.mov (.const (.int .i64 0)))), none⟩])
  (.seq
   (.region [⟨(some 3), (.val (.mov (.const (.bool false)))), none⟩])
   (.seq
    (.seq
     (.region [⟨(some 4), (.val (.mov (.const (.int .i64 0)))), none⟩])
     (.block 0
      (.loop F_r05_Skip_l0)))
    (.seq
     (.region [⟨(some 29), (.val (.mov (.tmp 0))), none⟩,
       ⟨(some 30), (.val (.lenstr (.tmp 29))), none⟩,
       ⟨(some 2), (.val (.mov (.tmp 30))), none⟩])
     .ret)))),
 [.tmp 2]⟩
theorem ok14 : cFun Try.prog G Try.f14 = some F_r05_Skip := by kernel_rfl

end Go.Proofs.Ytjgbofonigpjaaa.Ev
end
section
namespace Go.Proofs.Ytjgbofonigpjaaa.Ev
open Go

/- balustrade/balustraderef05.one -/
abbrev n_r05_one : Nat := 15
def F_r05_one_l0 : ICode :=
 (.seq
  (.seq
   (.region [⟨(some 12), (.val (.mov (.tmp 6))), none⟩,
     ⟨(some 13), (.val (.mov (.tmp 0))), none⟩,
     ⟨(some 14), (.val (.lenstr (.tmp 13))), none⟩,
     ⟨(some 15), (.val (.bin .lss (.tmp 12) (.tmp 14))), none⟩,
     ⟨(some 16), (.val (.mov (.tmp 15))), none⟩,
     ⟨(some 17), (.val (.mov (.tmp 0))), (some (16, true))⟩,
     ⟨(some 18), (.val (.mov (.tmp 6))), (some (16, true))⟩,
     ⟨(some 19), (.val (.idxstr (.tmp 17) (.tmp 18))), (some (16, true))⟩,
     ⟨(some 20), (.call (.const (.func 30 [] [])) [(.tmp 19)]), (some (16, true))⟩,
     ⟨(some 21), (.val (.pick (.tmp 16) (.tmp 20) (.const (.bool false)))), none⟩])
   (.cond (.tmp 21)
    .skip
    (.exit 0)))
  (.block 1
   (.region [⟨(some 22), (.val (.mov (.tmp 6))), none⟩,
     ⟨(some 23), (.val (.bin .add (.tmp 22) (.const (.int .i64 1)))), none⟩,
     ⟨(some 6), (.val (.mov (.tmp 23))), none⟩])))
def F_r05_one_l1 : ICode :=
 (.seq
  (.seq
   (.region [⟨(some 40), (.val (.mov (.tmp 6))), none⟩,
     ⟨(some 41), (.val (.mov (.tmp 0))), none⟩,
     ⟨(some 42), (.val (.lenstr (.tmp 41))), none⟩,
     ⟨(some 43), (.val (.bin .lss (.tmp 40) (.tmp 42))), none⟩,
     ⟨(some 44), (.val (.mov (.tmp 43))), none⟩,
     ⟨(some 45), (.val (.mov (.tmp 0))), (some (44, true))⟩,
     ⟨(some 46), (.val (.mov (.tmp 6))), (some (44, true))⟩,
     ⟨(some 47), (.val (.idxstr (.tmp 45) (.tmp 46))), (some (44, true))⟩,
     ⟨(some 48), (.call (.const (.func 32 [] [])) [(.tmp 47)]), (some (44, true))⟩,
     ⟨(some 49), (.val (.mov (.tmp 48))), (some (44, true))⟩,
     ⟨(some 50), (.val (.mov (.tmp 6))), (some (49, false))⟩,
     ⟨(some 51), (.val (.bin .gtr (.tmp 50) (.const (.int .i64 0)))), (some (49, false))⟩,
     ⟨(some 52), (.val (.mov (.tmp 51))), (some (49, false))⟩,
     ⟨(some 53), (.val (.mov (.tmp 0))), (some (52, true))⟩,
     ⟨(some 54), (.val (.mov (.tmp 6))), (some (52, true))⟩,
     ⟨(some 55), (.val (.idxstr (.tmp 53) (.tmp 54))), (some (52, true))⟩,
     ⟨(some 56), (.call (.const (.func 30 [] [])) [(.tmp 55)]), (some (52, true))⟩,
     ⟨(some 57), (.val (.pick (.tmp 52) (.tmp 56) (.const (.bool false)))), (some (49, false))⟩,
     ⟨(some 58), (.val (.pick (.tmp 49) (.const (.bool true)) (.tmp 57))), (some (44, true))⟩,
     ⟨(some 59), (.val (.pick (.tmp 44) (.tmp 58) (.const (.bool false)))), none⟩])
   (.cond (.tmp 59)
    .skip
    (.exit 2)))
  (.block 3
   (.region [⟨(some 60), (.val (.mov (.tmp 6))), none⟩,
     ⟨(some 61), (.val (.bin .add (.tmp 60) (.const (.int .i64 1)))), none⟩,
     ⟨(some 6), (.val (.mov (.tmp 61))), none⟩])))
def F_r05_one : IFun :=
 ⟨95,
 (.seq
  (.region [⟨(some 4), (.val (.alloc 38 [(.int .i64 0), (.str []), (.int .i64 0), (.int .i64 0)])), none⟩,
    ⟨(some 5), (.val (.mov (.const (.int .i64 0)))), none⟩])
  (.seq
   (.region [⟨(some 6), (.val (.mov (.const (.int .i64 0)))), none⟩])
   (.seq
    (.seq
     (.region [⟨(some 9), (.val (.mov (.tmp 0))), none⟩,
       ⟨(some 10), (.val (.idxstr (.tmp 9) (.const (.int .i64 0)))), none⟩,
       ⟨(some 11), (.call (.const (.func 30 [] [])) [(.tmp 10)]), none⟩])
     (.cond (.tmp 11)
      (.seq
       (.block 0
        (.loop F_r05_one_l0))
       (.seq
        (.region [⟨(some 25), (.val (.mov (.tmp 0))), none⟩,
          ⟨(some 26), (.val (.mov (.tmp 6))), none⟩,
          ⟨(some 27), (.val (.slstr (.tmp 25) none (some (.tmp 26)))), none⟩,
          ⟨(some 28), (.call (.const (.func 31 [] [])) [(.tmp 27)]), none⟩,
          ⟨(some 24), (.val (.mov (.tmp 28))), none⟩,
          ⟨(some 29), (.val (.extract (.tmp 24) 0)), none⟩,
          ⟨(some 30), (.val (.extract (.tmp 24) 1)), none⟩,
          ⟨(some 7), (.val (.mov (.tmp 29))), none⟩,
          ⟨(some 8), (.val (.mov (.tmp 30))), none⟩])
        (.seq
         (.seq
          (.region [⟨(some 31), (.val (.mov (.tmp 8))), none⟩,
            ⟨(some 32), (.val (.un .not (.tmp 31))), none⟩])
          (.cond (.tmp 32)
           (.seq
            (.region [⟨(some 33), (.val (.build [(.int .i64 0), (.str []), (.int .i64 0), (.int .i64 0)] [])), none⟩,
              ⟨none, (.val (.store 4 (.tmp 4) (.tmp 33))), none⟩,
              ⟨(some 5), (.val (.mov (.const (.int .i64 7)))), none⟩])
            .ret)
           .skip))
         (.seq
          (.region [⟨(some 34), (.val (.mov (.tmp 0))), none⟩,
            ⟨(some 35), (.val (.mov (.tmp 6))), none⟩,
            ⟨(some 36), (.val (.slstr (.tmp 34) none (some (.tmp 35)))), none⟩,
            ⟨(some 37), (.val (.mov (.tmp 7))), none⟩,
            ⟨(some 38), (.val (.mov (.tmp 1))), none⟩,
            ⟨(some 39), (.val (.build [(.int .i64 0), (.str []), (.int .i64 0), (.int .i64 0)] [(0, 1, (.const (.int .i64 2))), (1, 1, (.tmp 36)), (2, 1, (.tmp 37)), (3, 1, (.tmp 38))])), none⟩,
            ⟨none, (.val (.store 4 (.tmp 4) (.tmp 39))), none⟩,
            ⟨(some 5), (.val (.mov (.const (.int .i64 0)))), none⟩])
          .ret))))
      .skip))
    (.seq
     (.block 2
      (.loop F_r05_one_l1))
     (.seq
      (.seq
       (.region [⟨(some 62), (.val (.mov (.tmp 6))), none⟩,
         ⟨(some 63), (.val (.bin .gtr (.tmp 62) (.const (.int .i64 0)))), none⟩,
         ⟨(some 64), (.val (.mov (.tmp 63))), none⟩,
         ⟨(some 65), (.val (.mov (.tmp 0))), (some (64, true))⟩,
         ⟨(some 66), (.val (.mov (.tmp 6))), (some (64, true))⟩,
         ⟨(some 67), (.val (.slstr (.tmp 65) none (some (.tmp 66)))), (some (64, true))⟩,
         ⟨(some 68), (.call (.const (.func 33 [] [])) [(.tmp 67)]), (some (64, true))⟩,
         ⟨(some 69), (.val (.pick (.tmp 64) (.tmp 68) (.const (.bool false)))), none⟩])
       (.cond (.tmp 69)
        (.seq
         (.region [⟨(some 70), (.val (.mov (.tmp 0))), none⟩,
           ⟨(some 71), (.val (.mov (.tmp 6))), none⟩,
           ⟨(some 72), (.val (.slstr (.tmp 70) none (some (.tmp 71)))), none⟩,
           ⟨(some 73), (.val (.mov (.tmp 1))), none⟩,
           ⟨(some 74), (.val (.build [(.int .i64 0), (.str []), (.int .i64 0), (.int .i64 0)] [(0, 1, (.const (.int .i64 3))), (1, 1, (.tmp 72)), (3, 1, (.tmp 73))])), none⟩,
           ⟨none, (.val (.store 4 (.tmp 4) (.tmp 74))), none⟩,
           ⟨(some 5), (.val (.mov (.const (.int .i64 0)))), none⟩])
         .ret)
        .skip))
      (.seq
       (.seq
        (.region [⟨(some 75), (.val (.mov (.tmp 6))), none⟩,
          ⟨(some 76), (.val (.bin .gtr (.tmp 75) (.const (.int .i64 32)))), none⟩])
        (.cond (.tmp 76)
         (.seq
          (.region [⟨(some 77), (.val (.build [(.int .i64 0), (.str []), (.int .i64 0), (.int .i64 0)] [])), none⟩,
            ⟨none, (.val (.store 4 (.tmp 4) (.tmp 77))), none⟩,
            ⟨(some 5), (.val (.mov (.const (.int .i64 3)))), none⟩])
          .ret)
         .skip))
       (.seq
        (.seq
         (.region [⟨(some 78), (.val (.mov (.tmp 6))), none⟩,
           ⟨(some 79), (.val (.bin .gtr (.tmp 78) (.const (.int .i64 0)))), none⟩])
         (.cond (.tmp 79)
          (.seq
           (.region [⟨(some 80), (.val (.mov (.tmp 0))), none⟩,
             ⟨(some 81), (.val (.mov (.tmp 6))), none⟩,
             ⟨(some 82), (.val (.slstr (.tmp 80) none (some (.tmp 81)))), none⟩,
             ⟨(some 83), (.val (.mov (.tmp 1))), none⟩,
             ⟨(some 84), (.val (.build [(.int .i64 0), (.str []), (.int .i64 0), (.int .i64 0)] [(0, 1, (.const (.int .i64 1))), (1, 1, (.tmp 82)), (3, 1, (.tmp 83))])), none⟩,
             ⟨none, (.val (.store 4 (.tmp 4) (.tmp 84))), none⟩,
             ⟨(some 5), (.val (.mov (.const (.int .i64 0)))), none⟩])
           .ret)
          .skip))
        (.seq
         (.region [⟨(some 85), (.val (.mov (.tmp 0))), none⟩,
           ⟨(some 86), (.call (.const (.func 34 [] [])) [(.tmp 85)]), none⟩,
           ⟨(some 6), (.val (.mov (.tmp 86))), none⟩])
         (.seq
          (.seq
           (.region [⟨(some 87), (.val (.mov (.tmp 6))), none⟩,
             ⟨(some 88), (.val (.eq false (.prim 1) (.tmp 87) (.const (.int .i64 0)))), none⟩])
           (.cond (.tmp 88)
            (.seq
             (.region [⟨(some 89), (.val (.build [(.int .i64 0), (.str []), (.int .i64 0), (.int .i64 0)] [])), none⟩,
               ⟨none, (.val (.store 4 (.tmp 4) (.tmp 89))), none⟩,
               ⟨(some 5), (.val (.mov (.const (.int .i64 6)))), none⟩])
             .ret)
            .skip))
          (.seq
           (.region [⟨(some 90), (.val (.mov (.tmp 0))), none⟩,
             ⟨(some 91), (.val (.mov (.tmp 6))), none⟩,
             ⟨(some 92), (.val (.slstr (.tmp 90) none (some (.tmp 91)))), none⟩,
             ⟨(some 93), (.val (.mov (.tmp 1))), none⟩,
             ⟨(some 94), (.val (.build [(.int .i64 0), (.str []), (.int .i64 0), (.int .i64 0)] [(0, 1, (.const (.int .i64 4))), (1, 1, (.tmp 92)), (3, 1, (.tmp 93))])), none⟩,
             ⟨none, (.val (.store 4 (.tmp 4) (.tmp 94))), none⟩,
             ⟨(some 5), (.val (.mov (.const (.int .i64 0)))), none⟩])
           .ret)))))))))),
 [.cell 4 (some 4), .tmp 5]⟩
theorem ok15 : cFun Try.prog G Try.f15 = some F_r05_one := by kernel_rfl

/- balustrade/expr.New -/
abbrev n_expr_New : Nat := 16
def F_expr_New : IFun :=
 ⟨6,
 (.seq
  (.region [⟨(some 2), (.val (.mov (.const .nilptr))), none⟩])
  (.seq
   (.region [⟨(some 3), (.val (.mov (.tmp 0))), none⟩,
     ⟨(some 4), (.val (.build [.nilslice, (.int .i64 0), (.int .i64 0), .nilslice, .nilslice, (.int .i64 0), (.int .i64 0)] [(0, 1, (.tmp 3))])), none⟩,
     ⟨(some 5), (.val (.box 54 (.tmp 4))), none⟩,
     ⟨(some 2), (.val (.mov (.tmp 5))), none⟩])
   .ret)),
 [.tmp 2]⟩
theorem ok16 : cFun Try.prog G Try.f16 = some F_expr_New := by kernel_rfl

/- (*balustrade/expr.Reader).Expr -/
abbrev n_expr_Reader_Expr : Nat := 17
def F_expr_Reader_Expr : IFun :=
 ⟨10,
 (.seq
  (.region [⟨(some 2), (.val (.mov (.const (.int .i64 0)))), none⟩])
  (.seq
   (.region [⟨(some 4), (.val (.mov (.tmp 0))), none⟩,
     ⟨(some 5), (.call (.const (.func 35 [] [])) [(.tmp 4), (.const (.int .i64 1))]), none⟩,
     ⟨(some 3), (.val (.mov (.tmp 5))), none⟩])
   (.seq
    (.seq
     (.region [⟨(some 6), (.val (.mov (.tmp 0))), none⟩,
       ⟨(some 7), (.call (.const (.func 20 [] [])) [(.tmp 6)]), none⟩,
       ⟨(some 8), (.val (.un .not (.tmp 7))), none⟩])
     (.cond (.tmp 8)
      (.seq
       (.region [⟨(some 2), (.val (.mov (.const (.int .i64 (-1))))), none⟩])
       .ret)
      .skip))
    (.seq
     (.region [⟨(some 9), (.val (.mov (.tmp 3))), none⟩,
       ⟨(some 2), (.val (.mov (.tmp 9))), none⟩])
     .ret)))),
 [.tmp 2]⟩
theorem ok17 : cFun Try.prog G Try.f17 = some F_expr_Reader_Expr := by kernel_rfl

/- (*balustrade/expr.Reader).Token -/
abbrev n_expr_Reader_Token : Nat := 18
def F_expr_Reader_Token : IFun :=
 ⟨27,
 (.seq
  (.region [⟨(some 2), (.val (.alloc 38 [(.int .i64 0), (.str []), (.int .i64 0), (.int .i64 0)])), none⟩])
  (.seq
   (.seq
    (.region [⟨(some 3), (.val (.mov (.tmp 0))), none⟩,
      ⟨(some 4), (.val (.nilck (.tmp 3))), none⟩,
      ⟨(some 5), (.val (.faddr 0 (.tmp 4))), none⟩,
      ⟨(some 6), (.val (.load none (.tmp 5))), none⟩,
      ⟨(some 7), (.val (.len (.tmp 6))), none⟩,
      ⟨(some 8), (.val (.eq false (.prim 1) (.tmp 7) (.const (.int .i64 0)))), none⟩])
    (.cond (.tmp 8)
     (.seq
      (.region [⟨(some 9), (.val (.build [(.int .i64 0), (.str []), (.int .i64 0), (.int .i64 0)] [])), none⟩,
        ⟨none, (.val (.store 4 (.tmp 2) (.tmp 9))), none⟩])
      .ret)
     .skip))
   (.seq
    (.draw [⟨(some 10), (.val (.mov (.tmp 0))), none⟩,
      ⟨(some 11), (.val (.nilck (.tmp 10))), none⟩,
      ⟨(some 12), (.val (.faddr 0 (.tmp 11))), none⟩,
      ⟨(some 13), (.val (.load none (.tmp 12))), none⟩,
      ⟨(some 14), (.val (.mov (.tmp 0))), none⟩,
      ⟨(some 15), (.val (.nilck (.tmp 14))), none⟩,
      ⟨(some 16), (.val (.faddr 1 (.tmp 15))), none⟩,
      ⟨(some 17), (.val (.load none (.tmp 16))), none⟩,
      ⟨(some 18), (.val (.mov (.tmp 0))), none⟩,
      ⟨(some 19), (.val (.nilck (.tmp 18))), none⟩,
      ⟨(some 20), (.val (.faddr 0 (.tmp 19))), none⟩,
      ⟨(some 21), (.val (.load none (.tmp 20))), none⟩,
      ⟨(some 22), (.val (.len (.tmp 21))), none⟩,
      ⟨(some 23), (.val (.bin .sub (.tmp 22) (.const (.int .i64 1)))), none⟩,
      ⟨(some 24), (.val (.min [(.tmp 17), (.tmp 23)])), none⟩,
      ⟨(some 25), (.val (.iaddr 4 (.tmp 13) (.tmp 24))), none⟩,
      ⟨(some 26), (.val (.load (some 4) (.tmp 25))), none⟩,
      ⟨none, (.val (.store 4 (.tmp 2) (.tmp 26))), none⟩] [])
    .ret))),
 [.cell 2 (some 4)]⟩
theorem ok18 : cFun Try.prog G Try.f18 = some F_expr_Reader_Token := by kernel_rfl

/- (*balustrade/expr.Reader).Fail -/
abbrev n_expr_Reader_Fail : Nat := 19
def F_expr_Reader_Fail : IFun :=
 ⟨14,
 (.seq
  (.region [⟨(some 6), (.val (.mov (.tmp 0))), none⟩,
    ⟨(some 7), (.call (.const (.func 20 [] [])) [(.tmp 6)]), none⟩])
  (.cond (.tmp 7)
   (.region [⟨(some 8), (.val (.mov (.tmp 0))), none⟩,
     ⟨(some 9), (.val (.mov (.tmp 1))), none⟩,
     ⟨(some 10), (.val (.mov (.tmp 2))), none⟩,
     ⟨(some 11), (.val (.build [(.int .i64 0), (.int .i64 0)] [(0, 1, (.tmp 9)), (1, 1, (.tmp 10))])), none⟩,
     ⟨(some 12), (.val (.nilck (.tmp 8))), none⟩,
     ⟨(some 13), (.val (.faddr 5 (.tmp 12))), none⟩,
     ⟨none, (.val (.store 2 (.tmp 13) (.tmp 11))), none⟩])
   .skip)),
 []⟩
theorem ok19 : cFun Try.prog G Try.f19 = some F_expr_Reader_Fail := by kernel_rfl

/- (*balustrade/expr.Reader).fine -/
abbrev n_expr_Reader_fine : Nat := 20
def F_expr_Reader_fine : IFun :=
 ⟨9,
 (.seq
  (.region [⟨(some 2), (.val (.mov (.const (.bool false)))), none⟩])
  (.seq
   (.region [⟨(some 3), (.val (.mov (.tmp 0))), none⟩,
     ⟨(some 4), (.val (.nilck (.tmp 3))), none⟩,
     ⟨(some 5), (.val (.faddr 5 (.tmp 4))), none⟩,
     ⟨(some 6), (.val (.faddr 0 (.tmp 5))), none⟩,
     ⟨(some 7), (.val (.load none (.tmp 6))), none⟩,
     ⟨(some 8), (.val (.eq false (.prim 1) (.tmp 7) (.const (.int .i64 0)))), none⟩,
     ⟨(some 2), (.val (.mov (.tmp 8))), none⟩])
   .ret)),
 [.tmp 2]⟩
theorem ok20 : cFun Try.prog G Try.f20 = some F_expr_Reader_fine := by kernel_rfl

/- (*balustrade/expr.Reader).Tree -/
abbrev n_expr_Reader_Tree : Nat := 21
def F_expr_Reader_Tree : IFun :=
 ⟨8,
 (.seq
  (.region [⟨(some 2), (.val (.mov (.const .nilslice))), none⟩])
  (.seq
   (.region [⟨(some 3), (.val (.mov (.tmp 0))), none⟩,
     ⟨(some 4), (.val (.nilck (.tmp 3))), none⟩,
     ⟨(some 5), (.val (.faddr 3 (.tmp 4))), none⟩,
     ⟨(some 6), (.val (.load none (.tmp 5))), none⟩,
     ⟨(some 7), (.call (.const (.func 36 [] [])) [(.tmp 6)]), none⟩,
     ⟨(some 2), (.val (.mov (.tmp 7))), none⟩])
   .ret)),
 [.tmp 2]⟩
theorem ok21 : cFun Try.prog G Try.f21 = some F_expr_Reader_Tree := by kernel_rfl

/- balustrade/balustradebase.SameInts -/
abbrev n_base_SameInts : Nat := 22
def F_base_SameInts_l0 : ICode :=
 (.seq
  (.seq
   (.region [⟨(some 11), (.val (.mov (.tmp 5))), none⟩,
     ⟨(some 12), (.val (.mov (.tmp 0))), none⟩,
     ⟨(some 13), (.val (.len (.tmp 12))), none⟩,
     ⟨(some 14), (.val (.bin .lss (.tmp 11) (.tmp 13))), none⟩])
   (.cond (.tmp 14)
    .skip
    (.exit 0)))
  (.seq
   (.block 1
    (.seq
     (.draw [⟨(some 17), (.val (.mov (.tmp 0))), none⟩,
       ⟨(some 18), (.val (.mov (.tmp 5))), none⟩,
       ⟨(some 19), (.val (.iaddr 1 (.tmp 17) (.tmp 18))), none⟩,
       ⟨(some 20), (.val (.load none (.tmp 19))), none⟩,
       ⟨(some 21), (.val (.mov (.tmp 1))), none⟩,
       ⟨(some 22), (.val (.mov (.tmp 5))), none⟩,
       ⟨(some 23), (.val (.iaddr 1 (.tmp 21) (.tmp 22))), none⟩,
       ⟨(some 24), (.val (.load none (.tmp 23))), none⟩,
       ⟨(some 25), (.val (.eq true (.prim 1) (.tmp 20) (.tmp 24))), none⟩] [])
     (.cond (.tmp 25)
      (.seq
       (.region [⟨(some 4), (.val (.mov (.const (.bool false)))), none⟩])
       .ret)
      .skip)))
   (.region [⟨(some 15), (.val (.mov (.tmp 5))), none⟩,
     ⟨(some 16), (.val (.bin .add (.tmp 15) (.const (.int .i64 1)))), none⟩,
     ⟨(some 5), (.val (.mov (.tmp 16))), none⟩])))
def F_base_SameInts : IFun :=
 ⟨26,
 (.seq
  (.region [⟨(some 4), (.val (.mov (.const (.bool false)))), none⟩])
  (.seq
   (.seq
    (.region [⟨(some 6), (.val (.mov (.tmp 0))), none⟩,
      ⟨(some 7), (.val (.len (.tmp 6))), none⟩,
      ⟨(some 8), (.val (.mov (.tmp 1))), none⟩,
      ⟨(some 9), (.val (.len (.tmp 8))), none⟩,
      ⟨(some 10), (.val (.eq true (.prim 1) (.tmp 7) (.tmp 9))), none⟩])
    (.cond (.tmp 10)
     (.seq
      (.region [⟨(some 4), (.val (.mov (.const (.bool false)))), none⟩])
      .ret)
     .skip))
   (.seq
    (.seq
     (.region [⟨(some 5), (.val (.mov (.const (.int .i64 0)))), none⟩])
     (.block 0
      (.loop F_base_SameInts_l0)))
    (.seq
     (.region [⟨(some 4), (.val (.mov (.const (.bool true)))), none⟩])
     .ret)))),
 [.tmp 4]⟩
theorem ok22 : cFun Try.prog G Try.f22 = some F_base_SameInts := by kernel_rfl

/- balustrade/balustraderef06.own -/
abbrev n_r06_own : Nat := 23
def F_r06_own : IFun :=
 ⟨83,
 (.seq
  (.region [⟨(some 1), (.val (.box 41 (.tmp 0))), none⟩,
    ⟨(some 2), (.val (.mov (.const (.bool false)))), none⟩])
  (.seq
   (.seq
    (.draw [⟨(some 3), (.val (.faddr 0 (.tmp 1))), none⟩,
      ⟨(some 4), (.val (.load none (.tmp 3))), none⟩,
      ⟨(some 5), (.val (.bin .lss (.tmp 4) (.const (.int .i64 1)))), none⟩,
      ⟨(some 6), (.val (.mov (.tmp 5))), none⟩,
      ⟨(some 7), (.val (.faddr 0 (.tmp 1))), (some (6, false))⟩,
      ⟨(some 8), (.val (.load none (.tmp 7))), (some (6, false))⟩,
      ⟨(some 9), (.val (.bin .gtr (.tmp 8) (.const (.int .i64 26)))), (some (6, false))⟩,
      ⟨(some 10), (.val (.pick (.tmp 6) (.const (.bool true)) (.tmp 9))), none⟩,
      ⟨(some 11), (.val (.mov (.tmp 10))), none⟩,
      ⟨(some 12), (.val (.faddr 4 (.tmp 1))), (some (11, false))⟩,
      ⟨(some 13), (.val (.load none (.tmp 12))), (some (11, false))⟩,
      ⟨(some 14), (.val (.bin .lss (.tmp 13) (.const (.int .i64 0)))), (some (11, false))⟩,
      ⟨(some 15), (.val (.pick (.tmp 11) (.const (.bool true)) (.tmp 14))), none⟩,
      ⟨(some 16), (.val (.mov (.tmp 15))), none⟩,
      ⟨(some 17), (.val (.faddr 0 (.tmp 1))), (some (16, false))⟩,
      ⟨(some 18), (.val (.load none (.tmp 17))), (some (16, false))⟩,
      ⟨(some 19), (.call (.const (.func 37 [] [])) [(.tmp 18)]), (some (16, false))⟩,
      ⟨(some 20), (.val (.faddr 3 (.tmp 1))), (some (16, false))⟩,
      ⟨(some 21), (.val (.load none (.tmp 20))), (some (16, false))⟩,
      ⟨(some 22), (.val (.eq true (.prim 2) (.tmp 21) (.const (.str [])))), (some (16, false))⟩,
      ⟨(some 23), (.val (.eq true (.prim 0) (.tmp 19) (.tmp 22))), (some (16, false))⟩,
      ⟨(some 24), (.val (.pick (.tmp 16) (.const (.bool true)) (.tmp 23))), none⟩,
      ⟨(some 25), (.val (.mov (.tmp 24))), none⟩,
      ⟨(some 26), (.val (.faddr 3 (.tmp 1))), (some (25, false))⟩,
      ⟨(some 27), (.val (.load none (.tmp 26))), (some (25, false))⟩,
      ⟨(some 28), (.val (.eq true (.prim 2) (.tmp 27) (.const (.str [])))), (some (25, false))⟩,
      ⟨(some 29), (.val (.mov (.tmp 28))), (some (25, false))⟩,
      ⟨(some 30), (.val (.faddr 3 (.tmp 1))), (some (29, true))⟩,
      ⟨(some 31), (.val (.load none (.tmp 30))), (some (29, true))⟩,
      ⟨(some 32), (.call (.const (.func 38 [] [])) [(.tmp 31)]), (some (29, true))⟩,
      ⟨(some 33), (.val (.un .not (.tmp 32))), (some (29, true))⟩,
      ⟨(some 34), (.val (.pick (.tmp 29) (.tmp 33) (.const (.bool false)))), (some (25, false))⟩,
      ⟨(some 35), (.val (.pick (.tmp 25) (.const (.bool true)) (.tmp 34))), none⟩] [(18, 16)])
    (.cond (.tmp 35)
     (.seq
      (.region [⟨(some 2), (.val (.mov (.const (.bool false)))), none⟩])
      .ret)
     .skip))
   (.seq
    (.seq
     (.region [⟨(some 36), (.val (.faddr 0 (.tmp 1))), none⟩,
       ⟨(some 37), (.val (.load none (.tmp 36))), none⟩,
       ⟨(some 38), (.val (.eq false (.prim 1) (.tmp 37) (.const (.int .i64 1)))), none⟩])
     (.cond (.tmp 38)
      (.seq
       (.region [⟨(some 39), (.val (.faddr 2 (.tmp 1))), none⟩,
         ⟨(some 40), (.val (.load none (.tmp 39))), none⟩,
         ⟨(some 41), (.val (.bin .geq (.tmp 40) (.const (.int .i64 0)))), none⟩,
         ⟨(some 2), (.val (.mov (.tmp 41))), none⟩])
       .ret)
      .skip))
    (.seq
     (.seq
      (.region [⟨(some 42), (.val (.faddr 0 (.tmp 1))), none⟩,
        ⟨(some 43), (.val (.load none (.tmp 42))), none⟩,
        ⟨(some 44), (.val (.eq false (.prim 1) (.tmp 43) (.const (.int .i64 2)))), none⟩])
      (.cond (.tmp 44)
       (.seq
        (.region [⟨(some 45), (.val (.faddr 2 (.tmp 1))), none⟩,
          ⟨(some 46), (.val (.load none (.tmp 45))), none⟩,
          ⟨(some 47), (.val (.eq false (.prim 1) (.tmp 46) (.const (.int .i64 0)))), none⟩,
          ⟨(some 48), (.val (.mov (.tmp 47))), none⟩,
          ⟨(some 49), (.val (.faddr 2 (.tmp 1))), (some (48, false))⟩,
          ⟨(some 50), (.val (.load none (.tmp 49))), (some (48, false))⟩,
          ⟨(some 51), (.val (.eq false (.prim 1) (.tmp 50) (.const (.int .i64 1)))), (some (48, false))⟩,
          ⟨(some 52), (.val (.pick (.tmp 48) (.const (.bool true)) (.tmp 51))), none⟩,
          ⟨(some 2), (.val (.mov (.tmp 52))), none⟩])
        .ret)
       .skip))
     (.seq
      (.seq
       (.region [⟨(some 53), (.val (.faddr 0 (.tmp 1))), none⟩,
         ⟨(some 54), (.val (.load none (.tmp 53))), none⟩,
         ⟨(some 55), (.val (.eq false (.prim 1) (.tmp 54) (.const (.int .i64 5)))), none⟩])
       (.cond (.tmp 55)
        (.seq
         (.region [⟨(some 56), (.val (.faddr 2 (.tmp 1))), none⟩,
           ⟨(some 57), (.val (.load none (.tmp 56))), none⟩,
           ⟨(some 58), (.val (.bin .geq (.tmp 57) (.const (.int .i64 1)))), none⟩,
           ⟨(some 59), (.val (.mov (.tmp 58))), none⟩,
           ⟨(some 60), (.val (.faddr 2 (.tmp 1))), (some (59, true))⟩,
           ⟨(some 61), (.val (.load none (.tmp 60))), (some (59, true))⟩,
           ⟨(some 62), (.val (.bin .leq (.tmp 61) (.const (.int .i64 16)))), (some (59, true))⟩,
           ⟨(some 63), (.val (.pick (.tmp 59) (.tmp 62) (.const (.bool false)))), none⟩,
           ⟨(some 2), (.val (.mov (.tmp 63))), none⟩])
         .ret)
        .skip))
      (.seq
       (.seq
        (.region [⟨(some 64), (.val (.faddr 0 (.tmp 1))), none⟩,
          ⟨(some 65), (.val (.load none (.tmp 64))), none⟩,
          ⟨(some 66), (.val (.eq false (.prim 1) (.tmp 65) (.const (.int .i64 24)))), none⟩,
          ⟨(some 67), (.val (.mov (.tmp 66))), none⟩,
          ⟨(some 68), (.val (.faddr 0 (.tmp 1))), (some (67, false))⟩,
          ⟨(some 69), (.val (.load none (.tmp 68))), (some (67, false))⟩,
          ⟨(some 70), (.val (.eq false (.prim 1) (.tmp 69) (.const (.int .i64 25)))), (some (67, false))⟩,
          ⟨(some 71), (.val (.pick (.tmp 67) (.const (.bool true)) (.tmp 70))), none⟩])
        (.cond (.tmp 71)
         (.seq
          (.region [⟨(some 72), (.val (.faddr 2 (.tmp 1))), none⟩,
            ⟨(some 73), (.val (.load none (.tmp 72))), none⟩,
            ⟨(some 74), (.val (.bin .geq (.tmp 73) (.const (.int .i64 1)))), none⟩,
            ⟨(some 75), (.val (.mov (.tmp 74))), none⟩,
            ⟨(some 76), (.val (.faddr 2 (.tmp 1))), (some (75, true))⟩,
            ⟨(some 77), (.val (.load none (.tmp 76))), (some (75, true))⟩,
            ⟨(some 78), (.val (.bin .leq (.tmp 77) (.const (.int .i64 3)))), (some (75, true))⟩,
            ⟨(some 79), (.val (.pick (.tmp 75) (.tmp 78) (.const (.bool false)))), none⟩,
            ⟨(some 2), (.val (.mov (.tmp 79))), none⟩])
          .ret)
         .skip))
       (.seq
        (.region [⟨(some 80), (.val (.faddr 2 (.tmp 1))), none⟩,
          ⟨(some 81), (.val (.load none (.tmp 80))), none⟩,
          ⟨(some 82), (.val (.eq false (.prim 1) (.tmp 81) (.const (.int .i64 0)))), none⟩,
          ⟨(some 2), (.val (.mov (.tmp 82))), none⟩])
        .ret))))))),
 [.tmp 2]⟩
theorem ok23 : cFun Try.prog G Try.f23 = some F_r06_own := by kernel_rfl

/- balustrade/balustraderef06.kids -/
abbrev n_r06_kids : Nat := 24
def F_r06_kids_l0 : ICode :=
 (.seq
  (.seq
   (.region [⟨(some 117), (.val (.mov (.tmp 6))), none⟩,
     ⟨(some 118), (.val (.mov (.tmp 5))), none⟩,
     ⟨(some 119), (.val (.len (.tmp 118))), none⟩,
     ⟨(some 120), (.val (.bin .lss (.tmp 117) (.tmp 119))), none⟩])
   (.cond (.tmp 120)
    .skip
    (.exit 1)))
  (.seq
   (.block 2
    (.seq
     (.region [⟨(some 123), (.val (.mov (.tmp 0))), none⟩,
       ⟨(some 124), (.val (.mov (.tmp 5))), none⟩,
       ⟨(some 125), (.val (.mov (.tmp 6))), none⟩,
       ⟨(some 126), (.val (.iaddr 1 (.tmp 124) (.tmp 125))), none⟩,
       ⟨(some 127), (.val (.load none (.tmp 126))), none⟩,
       ⟨(some 128), (.val (.iaddr 5 (.tmp 123) (.tmp 127))), none⟩,
       ⟨(some 129), (.val (.faddr 0 (.tmp 128))), none⟩,
       ⟨(some 130), (.val (.load none (.tmp 129))), none⟩,
       ⟨(some 131), (.call (.const (.func 41 [] [])) [(.tmp 130)]), none⟩,
       ⟨(some 132), (.val (.un .not (.tmp 131))), none⟩])
     (.cond (.tmp 132)
      (.seq
       (.region [⟨(some 4), (.val (.mov (.const (.bool false)))), none⟩])
       .ret)
      .skip)))
   (.region [⟨(some 121), (.val (.mov (.tmp 6))), none⟩,
     ⟨(some 122), (.val (.bin .add (.tmp 121) (.const (.int .i64 1)))), none⟩,
     ⟨(some 6), (.val (.mov (.tmp 122))), none⟩])))
def F_r06_kids : IFun :=
 ⟨168,
 (.seq
  (.region [⟨(some 3), (.val (.box 41 (.tmp 1))), none⟩,
    ⟨(some 4), (.val (.mov (.const (.bool false)))), none⟩])
  (.seq
   (.region [⟨(some 7), (.val (.faddr 1 (.tmp 3))), none⟩,
     ⟨(some 8), (.val (.load none (.tmp 7))), none⟩,
     ⟨(some 5), (.val (.mov (.tmp 8))), none⟩])
   (.seq
    (.seq
     (.region [⟨(some 9), (.val (.faddr 0 (.tmp 3))), none⟩,
       ⟨(some 10), (.val (.load none (.tmp 9))), none⟩])
     (.block 0
      (.seq
       (.seq
        (.region [⟨(some 12), (.val (.eq false (.prim 1) (.tmp 10) (.const (.int .i64 5)))), none⟩,
          ⟨(some 11), (.val (.mov (.tmp 12))), none⟩])
        (.cond (.tmp 11)
         .skip
         (.seq
          (.region [⟨(some 13), (.val (.eq false (.prim 1) (.tmp 10) (.const (.int .i64 8)))), none⟩,
            ⟨(some 11), (.val (.mov (.tmp 13))), none⟩])
          (.cond (.tmp 11)
           .skip
           (.region [⟨(some 14), (.val (.eq false (.prim 1) (.tmp 10) (.const (.int .i64 14)))), none⟩,
             ⟨(some 11), (.val (.mov (.tmp 14))), none⟩])))))
       (.cond (.tmp 11)
        (.seq
         (.region [⟨(some 15), (.val (.mov (.tmp 5))), none⟩,
           ⟨(some 16), (.val (.len (.tmp 15))), none⟩,
           ⟨(some 17), (.val (.eq false (.prim 1) (.tmp 16) (.const (.int .i64 2)))), none⟩,
           ⟨(some 18), (.val (.mov (.tmp 17))), none⟩,
           ⟨(some 19), (.val (.mov (.tmp 0))), (some (18, true))⟩,
           ⟨(some 20), (.val (.mov (.tmp 5))), (some (18, true))⟩,
           ⟨(some 21), (.call (.const (.func 39 [] [])) [(.tmp 19), (.tmp 20), (.const (.int .i64 2))]), (some (18, true))⟩,
           ⟨(some 22), (.val (.pick (.tmp 18) (.tmp 21) (.const (.bool false)))), none⟩,
           ⟨(some 4), (.val (.mov (.tmp 22))), none⟩])
         .ret)
        (.seq
         (.seq
          (.region [⟨(some 24), (.val (.eq false (.prim 1) (.tmp 10) (.const (.int .i64 6)))), none⟩,
            ⟨(some 23), (.val (.mov (.tmp 24))), none⟩])
          (.cond (.tmp 23)
           .skip
           (.seq
            (.region [⟨(some 25), (.val (.eq false (.prim 1) (.tmp 10) (.const (.int .i64 7)))), none⟩,
              ⟨(some 23), (.val (.mov (.tmp 25))), none⟩])
            (.cond (.tmp 23)
             .skip
             (.seq
              (.region [⟨(some 26), (.val (.eq false (.prim 1) (.tmp 10) (.const (.int .i64 9)))), none⟩,
                ⟨(some 23), (.val (.mov (.tmp 26))), none⟩])
              (.cond (.tmp 23)
               .skip
               (.seq
                (.region [⟨(some 27), (.val (.eq false (.prim 1) (.tmp 10) (.const (.int .i64 10)))), none⟩,
                  ⟨(some 23), (.val (.mov (.tmp 27))), none⟩])
                (.cond (.tmp 23)
                 .skip
                 (.seq
                  (.region [⟨(some 28), (.val (.eq false (.prim 1) (.tmp 10) (.const (.int .i64 12)))), none⟩,
                    ⟨(some 23), (.val (.mov (.tmp 28))), none⟩])
                  (.cond (.tmp 23)
                   .skip
                   (.seq
                    (.region [⟨(some 29), (.val (.eq false (.prim 1) (.tmp 10) (.const (.int .i64 13)))), none⟩,
                      ⟨(some 23), (.val (.mov (.tmp 29))), none⟩])
                    (.cond (.tmp 23)
                     .skip
                     (.seq
                      (.region [⟨(some 30), (.val (.eq false (.prim 1) (.tmp 10) (.const (.int .i64 20)))), none⟩,
                        ⟨(some 23), (.val (.mov (.tmp 30))), none⟩])
                      (.cond (.tmp 23)
                       .skip
                       (.region [⟨(some 31), (.val (.eq false (.prim 1) (.tmp 10) (.const (.int .i64 21)))), none⟩,
                         ⟨(some 23), (.val (.mov (.tmp 31))), none⟩])))))))))))))))
         (.cond (.tmp 23)
          (.seq
           (.region [⟨(some 32), (.val (.mov (.tmp 5))), none⟩,
             ⟨(some 33), (.val (.len (.tmp 32))), none⟩,
             ⟨(some 34), (.val (.eq false (.prim 1) (.tmp 33) (.const (.int .i64 1)))), none⟩,
             ⟨(some 35), (.val (.mov (.tmp 34))), none⟩,
             ⟨(some 36), (.val (.mov (.tmp 0))), (some (35, true))⟩,
             ⟨(some 37), (.val (.mov (.tmp 5))), (some (35, true))⟩,
             ⟨(some 38), (.call (.const (.func 39 [] [])) [(.tmp 36), (.tmp 37), (.const (.int .i64 1))]), (some (35, true))⟩,
             ⟨(some 39), (.val (.pick (.tmp 35) (.tmp 38) (.const (.bool false)))), none⟩,
             ⟨(some 4), (.val (.mov (.tmp 39))), none⟩])
           .ret)
          (.seq
           (.region [⟨(some 41), (.val (.eq false (.prim 1) (.tmp 10) (.const (.int .i64 11)))), none⟩,
             ⟨(some 40), (.val (.mov (.tmp 41))), none⟩])
           (.cond (.tmp 40)
            (.seq
             (.region [⟨(some 42), (.val (.mov (.tmp 5))), none⟩,
               ⟨(some 43), (.val (.len (.tmp 42))), none⟩,
               ⟨(some 44), (.val (.bin .leq (.tmp 43) (.const (.int .i64 8)))), none⟩,
               ⟨(some 45), (.val (.mov (.tmp 44))), none⟩,
               ⟨(some 46), (.val (.mov (.tmp 0))), (some (45, true))⟩,
               ⟨(some 47), (.val (.mov (.tmp 5))), (some (45, true))⟩,
               ⟨(some 48), (.val (.mov (.tmp 5))), (some (45, true))⟩,
               ⟨(some 49), (.val (.len (.tmp 48))), (some (45, true))⟩,
               ⟨(some 50), (.call (.const (.func 39 [] [])) [(.tmp 46), (.tmp 47), (.tmp 49)]), (some (45, true))⟩,
               ⟨(some 51), (.val (.pick (.tmp 45) (.tmp 50) (.const (.bool false)))), none⟩,
               ⟨(some 4), (.val (.mov (.tmp 51))), none⟩])
             .ret)
            (.seq
             (.region [⟨(some 53), (.val (.eq false (.prim 1) (.tmp 10) (.const (.int .i64 15)))), none⟩,
               ⟨(some 52), (.val (.mov (.tmp 53))), none⟩])
             (.cond (.tmp 52)
              (.seq
               (.region [⟨(some 54), (.val (.mov (.tmp 0))), none⟩,
                 ⟨(some 55), (.val (.mov (.tmp 5))), none⟩,
                 ⟨(some 56), (.call (.const (.func 39 [] [])) [(.tmp 54), (.tmp 55), (.const (.int .i64 1))]), none⟩,
                 ⟨(some 57), (.val (.mov (.tmp 56))), none⟩,
                 ⟨(some 58), (.val (.mov (.tmp 5))), (some (57, true))⟩,
                 ⟨(some 59), (.val (.len (.tmp 58))), (some (57, true))⟩,
                 ⟨(some 60), (.val (.bin .geq (.tmp 59) (.const (.int .i64 2)))), (some (57, true))⟩,
                 ⟨(some 61), (.val (.pick (.tmp 57) (.tmp 60) (.const (.bool false)))), none⟩,
                 ⟨(some 62), (.val (.mov (.tmp 61))), none⟩,
                 ⟨(some 63), (.val (.mov (.tmp 0))), (some (62, true))⟩,
                 ⟨(some 64), (.val (.mov (.tmp 5))), (some (62, true))⟩,
                 ⟨(some 65), (.val (.slsl 1 (.tmp 64) (some (.const (.int .i64 1))) none none)), (some (62, true))⟩,
                 ⟨(some 66), (.call (.const (.func 40 [] [])) [(.tmp 63), (.tmp 65), (.const (.int .i64 23)), (.const (.int .i64 2))]), (some (62, true))⟩,
                 ⟨(some 67), (.val (.pick (.tmp 62) (.tmp 66) (.const (.bool false)))), none⟩,
                 ⟨(some 4), (.val (.mov (.tmp 67))), none⟩])
               .ret)
              (.seq
               (.region [⟨(some 69), (.val (.eq false (.prim 1) (.tmp 10) (.const (.int .i64 16)))), none⟩,
                 ⟨(some 68), (.val (.mov (.tmp 69))), none⟩])
               (.cond (.tmp 68)
                (.seq
                 (.region [⟨(some 70), (.val (.mov (.tmp 0))), none⟩,
                   ⟨(some 71), (.val (.mov (.tmp 5))), none⟩,
                   ⟨(some 72), (.call (.const (.func 39 [] [])) [(.tmp 70), (.tmp 71), (.const (.int .i64 1))]), none⟩,
                   ⟨(some 73), (.val (.mov (.tmp 72))), none⟩,
                   ⟨(some 74), (.val (.mov (.tmp 5))), (some (73, true))⟩,
                   ⟨(some 75), (.val (.len (.tmp 74))), (some (73, true))⟩,
                   ⟨(some 76), (.val (.eq false (.prim 1) (.tmp 75) (.const (.int .i64 2)))), (some (73, true))⟩,
                   ⟨(some 77), (.val (.pick (.tmp 73) (.tmp 76) (.const (.bool false)))), none⟩,
                   ⟨(some 78), (.val (.mov (.tmp 77))), none⟩,
                   ⟨(some 79), (.val (.mov (.tmp 0))), (some (78, true))⟩,
                   ⟨(some 80), (.val (.mov (.tmp 5))), (some (78, true))⟩,
                   ⟨(some 81), (.val (.slsl 1 (.tmp 80) (some (.const (.int .i64 1))) none none)), (some (78, true))⟩,
                   ⟨(some 82), (.call (.const (.func 40 [] [])) [(.tmp 79), (.tmp 81), (.const (.int .i64 23)), (.const (.int .i64 1))]), (some (78, true))⟩,
                   ⟨(some 83), (.val (.pick (.tmp 78) (.tmp 82) (.const (.bool false)))), none⟩,
                   ⟨(some 4), (.val (.mov (.tmp 83))), none⟩])
                 .ret)
                (.seq
                 (.region [⟨(some 85), (.val (.eq false (.prim 1) (.tmp 10) (.const (.int .i64 17)))), none⟩,
                   ⟨(some 84), (.val (.mov (.tmp 85))), none⟩])
                 (.cond (.tmp 84)
                  (.seq
                   (.region [⟨(some 86), (.val (.mov (.tmp 0))), none⟩,
                     ⟨(some 87), (.val (.mov (.tmp 5))), none⟩,
                     ⟨(some 88), (.call (.const (.func 39 [] [])) [(.tmp 86), (.tmp 87), (.const (.int .i64 2))]), none⟩,
                     ⟨(some 89), (.val (.mov (.tmp 88))), none⟩,
                     ⟨(some 90), (.val (.mov (.tmp 5))), (some (89, true))⟩,
                     ⟨(some 91), (.val (.len (.tmp 90))), (some (89, true))⟩,
                     ⟨(some 92), (.val (.eq false (.prim 1) (.tmp 91) (.const (.int .i64 3)))), (some (89, true))⟩,
                     ⟨(some 93), (.val (.pick (.tmp 89) (.tmp 92) (.const (.bool false)))), none⟩,
                     ⟨(some 94), (.val (.mov (.tmp 93))), none⟩,
                     ⟨(some 95), (.val (.mov (.tmp 0))), (some (94, true))⟩,
                     ⟨(some 96), (.val (.mov (.tmp 5))), (some (94, true))⟩,
                     ⟨(some 97), (.val (.slsl 1 (.tmp 96) (some (.const (.int .i64 2))) none none)), (some (94, true))⟩,
                     ⟨(some 98), (.call (.const (.func 40 [] [])) [(.tmp 95), (.tmp 97), (.const (.int .i64 23)), (.const (.int .i64 1))]), (some (94, true))⟩,
                     ⟨(some 99), (.val (.pick (.tmp 94) (.tmp 98) (.const (.bool false)))), none⟩,
                     ⟨(some 4), (.val (.mov (.tmp 99))), none⟩])
                   .ret)
                  (.seq
                   (.region [⟨(some 101), (.val (.eq false (.prim 1) (.tmp 10) (.const (.int .i64 22)))), none⟩,
                     ⟨(some 100), (.val (.mov (.tmp 101))), none⟩])
                   (.cond (.tmp 100)
                    (.seq
                     (.region [⟨(some 102), (.val (.mov (.tmp 5))), none⟩,
                       ⟨(some 103), (.val (.len (.tmp 102))), none⟩,
                       ⟨(some 104), (.val (.eq false (.prim 1) (.tmp 103) (.const (.int .i64 1)))), none⟩,
                       ⟨(some 105), (.val (.mov (.tmp 104))), none⟩,
                       ⟨(some 106), (.val (.mov (.tmp 0))), (some (105, true))⟩,
                       ⟨(some 107), (.val (.mov (.tmp 5))), (some (105, true))⟩,
                       ⟨(some 108), (.val (.iaddr 1 (.tmp 107) (.const (.int .i64 0)))), (some (105, true))⟩,
                       ⟨(some 109), (.val (.load none (.tmp 108))), (some (105, true))⟩,
                       ⟨(some 110), (.val (.iaddr 5 (.tmp 106) (.tmp 109))), (some (105, true))⟩,
                       ⟨(some 111), (.val (.faddr 0 (.tmp 110))), (some (105, true))⟩,
                       ⟨(some 112), (.val (.load none (.tmp 111))), (some (105, true))⟩,
                       ⟨(some 113), (.val (.eq false (.prim 1) (.tmp 112) (.const (.int .i64 11)))), (some (105, true))⟩,
                       ⟨(some 114), (.val (.pick (.tmp 105) (.tmp 113) (.const (.bool false)))), none⟩,
                       ⟨(some 4), (.val (.mov (.tmp 114))), none⟩])
                     .ret)
                    (.seq
                     (.region [⟨(some 116), (.val (.eq false (.prim 1) (.tmp 10) (.const (.int .i64 23)))), none⟩,
                       ⟨(some 115), (.val (.mov (.tmp 116))), none⟩])
                     (.cond (.tmp 115)
                      (.seq
                       (.seq
                        (.region [⟨(some 6), (.val (.mov (.const (.int .i64 0)))), none⟩])
                        (.block 1
                         (.loop F_r06_kids_l0)))
                       (.seq
                        (.region [⟨(some 4), (.val (.mov (.const (.bool true)))), none⟩])
                        .ret))
                      (.seq
                       (.region [⟨(some 134), (.val (.eq false (.prim 1) (.tmp 10) (.const (.int .i64 25)))), none⟩,
                         ⟨(some 133), (.val (.mov (.tmp 134))), none⟩])
                       (.cond (.tmp 133)
                        (.seq
                         (.region [⟨(some 135), (.val (.mov (.tmp 5))), none⟩,
                           ⟨(some 136), (.val (.len (.tmp 135))), none⟩,
                           ⟨(some 137), (.val (.bin .geq (.tmp 136) (.const (.int .i64 1)))), none⟩,
                           ⟨(some 138), (.val (.mov (.tmp 137))), none⟩,
                           ⟨(some 139), (.val (.mov (.tmp 0))), (some (138, true))⟩,
                           ⟨(some 140), (.val (.mov (.tmp 5))), (some (138, true))⟩,
                           ⟨(some 141), (.val (.mov (.tmp 5))), (some (138, true))⟩,
                           ⟨(some 142), (.val (.len (.tmp 141))), (some (138, true))⟩,
                           ⟨(some 143), (.val (.bin .sub (.tmp 142) (.const (.int .i64 1)))), (some (138, true))⟩,
                           ⟨(some 144), (.val (.slsl 1 (.tmp 140) none (some (.tmp 143)) none)), (some (138, true))⟩,
                           ⟨(some 145), (.call (.const (.func 40 [] [])) [(.tmp 139), (.tmp 144), (.const (.int .i64 24)), (.const (.int .i64 8))]), (some (138, true))⟩,
                           ⟨(some 146), (.val (.pick (.tmp 138) (.tmp 145) (.const (.bool false)))), none⟩,
                           ⟨(some 147), (.val (.mov (.tmp 146))), none⟩,
                           ⟨(some 148), (.val (.mov (.tmp 0))), (some (147, true))⟩,
                           ⟨(some 149), (.val (.mov (.tmp 5))), (some (147, true))⟩,
                           ⟨(some 150), (.val (.mov (.tmp 5))), (some (147, true))⟩,
                           ⟨(some 151), (.val (.len (.tmp 150))), (some (147, true))⟩,
                           ⟨(some 152), (.val (.bin .sub (.tmp 151) (.const (.int .i64 1)))), (some (147, true))⟩,
                           ⟨(some 153), (.val (.iaddr 1 (.tmp 149) (.tmp 152))), (some (147, true))⟩,
                           ⟨(some 154), (.val (.load none (.tmp 153))), (some (147, true))⟩,
                           ⟨(some 155), (.val (.iaddr 5 (.tmp 148) (.tmp 154))), (some (147, true))⟩,
                           ⟨(some 156), (.val (.faddr 0 (.tmp 155))), (some (147, true))⟩,
                           ⟨(some 157), (.val (.load none (.tmp 156))), (some (147, true))⟩,
                           ⟨(some 158), (.val (.eq false (.prim 1) (.tmp 157) (.const (.int .i64 23)))), (some (147, true))⟩,
                           ⟨(some 159), (.val (.pick (.tmp 147) (.tmp 158) (.const (.bool false)))), none⟩,
                           ⟨(some 4), (.val (.mov (.tmp 159))), none⟩])
                         .ret)
                        (.seq
                         (.region [⟨(some 161), (.val (.eq false (.prim 1) (.tmp 10) (.const (.int .i64 26)))), none⟩,
                           ⟨(some 160), (.val (.mov (.tmp 161))), none⟩])
                         (.cond (.tmp 160)
                          (.seq
                           (.region [⟨(some 162), (.val (.mov (.tmp 0))), none⟩,
                             ⟨(some 163), (.val (.mov (.tmp 5))), none⟩,
                             ⟨(some 164), (.call (.const (.func 40 [] [])) [(.tmp 162), (.tmp 163), (.const (.int .i64 25)), (.const (.int .i64 200))]), none⟩,
                             ⟨(some 4), (.val (.mov (.tmp 164))), none⟩])
                           .ret)
                          .skip))))))))))))))))))))))
    (.seq
     (.region [⟨(some 165), (.val (.mov (.tmp 5))), none⟩,
       ⟨(some 166), (.val (.len (.tmp 165))), none⟩,
       ⟨(some 167), (.val (.eq false (.prim 1) (.tmp 166) (.const (.int .i64 0)))), none⟩,
       ⟨(some 4), (.val (.mov (.tmp 167))), none⟩])
     .ret)))),
 [.tmp 4]⟩
theorem ok24 : cFun Try.prog G Try.f24 = some F_r06_kids := by kernel_rfl

/- balustrade/balustraderef06.Height -/
abbrev n_r06_Height : Nat := 25
def F_r06_Height_l0 : ICode :=
 (.seq
  (.seq
   (.region [⟨(some 7), (.val (.mov (.tmp 6))), none⟩,
     ⟨(some 8), (.val (.mov (.tmp 0))), none⟩,
     ⟨(some 9), (.val (.mov (.tmp 1))), none⟩,
     ⟨(some 10), (.val (.iaddr 5 (.tmp 8) (.tmp 9))), none⟩,
     ⟨(some 11), (.val (.faddr 1 (.tmp 10))), none⟩,
     ⟨(some 12), (.val (.load none (.tmp 11))), none⟩,
     ⟨(some 13), (.val (.len (.tmp 12))), none⟩,
     ⟨(some 14), (.val (.bin .lss (.tmp 7) (.tmp 13))), none⟩])
   (.cond (.tmp 14)
    .skip
    (.exit 0)))
  (.seq
   (.block 1
    (.region [⟨(some 17), (.val (.mov (.tmp 5))), none⟩,
      ⟨(some 18), (.val (.mov (.tmp 0))), none⟩,
      ⟨(some 19), (.val (.mov (.tmp 0))), none⟩,
      ⟨(some 20), (.val (.mov (.tmp 1))), none⟩,
      ⟨(some 21), (.val (.iaddr 5 (.tmp 19) (.tmp 20))), none⟩,
      ⟨(some 22), (.val (.faddr 1 (.tmp 21))), none⟩,
      ⟨(some 23), (.val (.load none (.tmp 22))), none⟩,
      ⟨(some 24), (.val (.mov (.tmp 6))), none⟩,
      ⟨(some 25), (.val (.iaddr 1 (.tmp 23) (.tmp 24))), none⟩,
      ⟨(some 26), (.val (.load none (.tmp 25))), none⟩,
      ⟨(some 27), (.call (.const (.func 25 [] [])) [(.tmp 18), (.tmp 26)]), none⟩,
      ⟨(some 28), (.val (.bin .add (.const (.int .i64 1)) (.tmp 27))), none⟩,
      ⟨(some 29), (.val (.max [(.tmp 17), (.tmp 28)])), none⟩,
      ⟨(some 5), (.val (.mov (.tmp 29))), none⟩]))
   (.region [⟨(some 15), (.val (.mov (.tmp 6))), none⟩,
     ⟨(some 16), (.val (.bin .add (.tmp 15) (.const (.int .i64 1)))), none⟩,
     ⟨(some 6), (.val (.mov (.tmp 16))), none⟩])))
def F_r06_Height : IFun :=
 ⟨31,
 (.seq
  (.region [⟨(some 4), (.val (.mov (.const (.int .i64 0)))), none⟩])
  (.seq
   (.region [⟨(some 5), (.val (.mov (.const (.int .i64 1)))), none⟩])
   (.seq
    (.seq
     (.region [⟨(some 6), (.val (.mov (.const (.int .i64 0)))), none⟩])
     (.block 0
      (.loop F_r06_Height_l0)))
    (.seq
     (.region [⟨(some 30), (.val (.mov (.tmp 5))), none⟩,
       ⟨(some 4), (.val (.mov (.tmp 30))), none⟩])
     .ret)))),
 [.tmp 4]⟩
theorem ok25 : cFun Try.prog G Try.f25 = some F_r06_Height := by kernel_rfl

/- balustrade/balustradebase.Itoa -/
abbrev n_base_Itoa : Nat := 26
def F_base_Itoa_l0 : ICode :=
 (.seq
  (.seq
   (.region [⟨(some 9), (.val (.mov (.tmp 4))), none⟩,
     ⟨(some 10), (.val (.eq true (.prim 1) (.tmp 9) (.const (.int .i64 0)))), none⟩])
   (.cond (.tmp 10)
    .skip
    (.exit 0)))
  (.block 1
   (.seq
    (.region [⟨(some 11), (.val (.mov (.tmp 4))), none⟩,
      ⟨(some 12), (.val (.bin .rem (.tmp 11) (.const (.int .i64 10)))), none⟩,
      ⟨(some 5), (.val (.mov (.tmp 12))), none⟩])
    (.seq
     (.seq
      (.region [⟨(some 13), (.val (.mov (.tmp 5))), none⟩,
        ⟨(some 14), (.val (.bin .lss (.tmp 13) (.const (.int .i64 0)))), none⟩])
      (.cond (.tmp 14)
       (.region [⟨(some 15), (.val (.mov (.tmp 5))), none⟩,
         ⟨(some 16), (.val (.un .neg (.tmp 15))), none⟩,
         ⟨(some 5), (.val (.mov (.tmp 16))), none⟩])
       .skip))
     (.seq
      (.region [⟨(some 17), (.val (.mov (.tmp 5))), none⟩,
        ⟨(some 18), (.val (.bin .add (.const (.int .i64 48)) (.tmp 17))), none⟩,
        ⟨(some 19), (.val (.conv (.int .u8) (.tmp 18))), none⟩,
        ⟨(some 20), (.val (.bslice 5 1 1 [(.int .u8 0)] [(0, (.tmp 19))])), none⟩,
        ⟨(some 21), (.val (.conv .text (.tmp 20))), none⟩,
        ⟨(some 22), (.val (.mov (.tmp 3))), none⟩,
        ⟨(some 23), (.val (.bin .add (.tmp 21) (.tmp 22))), none⟩,
        ⟨(some 3), (.val (.mov (.tmp 23))), none⟩])
      (.region [⟨(some 24), (.val (.mov (.tmp 4))), none⟩,
        ⟨(some 25), (.val (.bin .quo (.tmp 24) (.const (.int .i64 10)))), none⟩,
        ⟨(some 4), (.val (.mov (.tmp 25))), none⟩]))))))
def F_base_Itoa : IFun :=
 ⟨31,
 (.seq
  (.region [⟨(some 2), (.val (.mov (.const (.str [])))), none⟩])
  (.seq
   (.seq
    (.region [⟨(some 6), (.val (.mov (.tmp 0))), none⟩,
      ⟨(some 7), (.val (.eq false (.prim 1) (.tmp 6) (.const (.int .i64 0)))), none⟩])
    (.cond (.tmp 7)
     (.seq
      (.region [⟨(some 2), (.val (.mov (.const (.str [48])))), none⟩])
      .ret)
     .skip))
   (.seq
    (.region [⟨(some 8), (.val (.mov (.tmp 0))), none⟩,
      ⟨(some 3), (.val (.mov (.const (.str [])))), none⟩,
      ⟨(some 4), (.val (.mov (.tmp 8))), none⟩])
    (.seq
     (.block 0
      (.loop F_base_Itoa_l0))
     (.seq
      (.seq
       (.region [⟨(some 26), (.val (.mov (.tmp 0))), none⟩,
         ⟨(some 27), (.val (.bin .lss (.tmp 26) (.const (.int .i64 0)))), none⟩])
       (.cond (.tmp 27)
        (.region [⟨(some 28), (.val (.mov (.tmp 3))), none⟩,
          ⟨(some 29), (.val (.bin .add (.const (.str [45])) (.tmp 28))), none⟩,
          ⟨(some 3), (.val (.mov (.tmp 29))), none⟩])
        .skip))
      (.seq
       (.region [⟨(some 30), (.val (.mov (.tmp 3))), none⟩,
         ⟨(some 2), (.val (.mov (.tmp 30))), none⟩])
       .ret)))))),
 [.tmp 2]⟩
theorem ok26 : cFun Try.prog G Try.f26 = some F_base_Itoa := by kernel_rfl

/- balustrade/balustraderef06.word -/
abbrev n_r06_word : Nat := 27
def F_r06_word : IFun :=
 ⟨20,
 (.seq
  (.region [⟨(some 1), (.val (.box 41 (.tmp 0))), none⟩,
    ⟨(some 2), (.val (.mov (.const (.str [])))), none⟩])
  (.seq
   (.region [⟨(some 4), (.val (.bslice 9 1 26 [(.str [])] [(0, (.const (.str []))), (1, (.const (.str []))), (2, (.const (.str [110, 105, 108]))), (3, (.const (.str []))), (4, (.const (.str []))), (5, (.const (.str [110, 101, 103]))), (6, (.const (.str [110, 111, 116]))), (7, (.const (.str [97, 116]))), (8, (.const (.str [108, 101, 110]))), (9, (.const (.str [110, 101, 119]))), (10, (.const (.str [99, 97, 108, 108]))), (11, (.const (.str [118, 97, 114]))), (12, (.const (.str [115, 101, 116]))), (13, (.const (.str [112, 117, 116]))), (14, (.const (.str [105, 102]))), (15, (.const (.str [119, 104, 105, 108, 101]))), (16, (.const (.str [102, 111, 114]))), (17, (.const (.str [98, 114, 101, 97, 107]))), (18, (.const (.str [99, 111, 110, 116, 105, 110, 117, 101]))), (19, (.const (.str [114, 101, 116, 117, 114, 110]))), (20, (.const (.str [112, 114, 105, 110, 116]))), (21, (.const (.str [100, 111]))), (22, (.const (.str [98, 108, 111, 99, 107]))), (23, (.const (.str []))), (24, (.const (.str [102, 110]))), (25, (.const (.str [112, 114, 111, 103])))])), none⟩,
     ⟨(some 3), (.val (.mov (.tmp 4))), none⟩])
   (.seq
    (.seq
     (.region [⟨(some 5), (.val (.faddr 0 (.tmp 1))), none⟩,
       ⟨(some 6), (.val (.load none (.tmp 5))), none⟩,
       ⟨(some 7), (.val (.eq false (.prim 1) (.tmp 6) (.const (.int .i64 5)))), none⟩])
     (.cond (.tmp 7)
      (.seq
       (.draw [⟨(some 8), (.call (.const (.func 42 [] [])) []), none⟩,
         ⟨(some 9), (.val (.faddr 2 (.tmp 1))), none⟩,
         ⟨(some 10), (.val (.load none (.tmp 9))), none⟩,
         ⟨(some 11), (.val (.bin .sub (.tmp 10) (.const (.int .i64 1)))), none⟩,
         ⟨(some 12), (.val (.iaddr 1 (.tmp 8) (.tmp 11))), none⟩,
         ⟨(some 13), (.val (.load none (.tmp 12))), none⟩,
         ⟨(some 2), (.val (.mov (.tmp 13))), none⟩] [(2, 0)])
       .ret)
      .skip))
    (.seq
     (.region [⟨(some 14), (.val (.mov (.tmp 3))), none⟩,
       ⟨(some 15), (.val (.faddr 0 (.tmp 1))), none⟩,
       ⟨(some 16), (.val (.load none (.tmp 15))), none⟩,
       ⟨(some 17), (.val (.bin .sub (.tmp 16) (.const (.int .i64 1)))), none⟩,
       ⟨(some 18), (.val (.iaddr 1 (.tmp 14) (.tmp 17))), none⟩,
       ⟨(some 19), (.val (.load none (.tmp 18))), none⟩,
       ⟨(some 2), (.val (.mov (.tmp 19))), none⟩])
     .ret)))),
 [.tmp 2]⟩
theorem ok27 : cFun Try.prog G Try.f27 = some F_r06_word := by kernel_rfl

/- balustrade/balustraderef06.Kind -/
abbrev n_r06_Kind : Nat := 28
def F_r06_Kind : IFun :=
 ⟨16,
 (.seq
  (.region [⟨(some 2), (.val (.mov (.const (.str [])))), none⟩])
  (.seq
   (.region [⟨(some 4), (.val (.bslice 9 1 3 [(.str [])] [(0, (.const (.str [105, 110, 116]))), (1, (.const (.str [98, 111, 111, 108]))), (2, (.const (.str [97, 114, 114])))])), none⟩,
     ⟨(some 3), (.val (.mov (.tmp 4))), none⟩])
   (.seq
    (.seq
     (.region [⟨(some 5), (.val (.mov (.tmp 0))), none⟩,
       ⟨(some 6), (.val (.bin .lss (.tmp 5) (.const (.int .i64 1)))), none⟩,
       ⟨(some 7), (.val (.mov (.tmp 6))), none⟩,
       ⟨(some 8), (.val (.mov (.tmp 0))), (some (7, false))⟩,
       ⟨(some 9), (.val (.bin .gtr (.tmp 8) (.const (.int .i64 3)))), (some (7, false))⟩,
       ⟨(some 10), (.val (.pick (.tmp 7) (.const (.bool true)) (.tmp 9))), none⟩])
     (.cond (.tmp 10)
      (.seq
       (.region [⟨(some 2), (.val (.mov (.const (.str [])))), none⟩])
       .ret)
      .skip))
    (.seq
     (.region [⟨(some 11), (.val (.mov (.tmp 3))), none⟩,
       ⟨(some 12), (.val (.mov (.tmp 0))), none⟩,
       ⟨(some 13), (.val (.bin .sub (.tmp 12) (.const (.int .i64 1)))), none⟩,
       ⟨(some 14), (.val (.iaddr 1 (.tmp 11) (.tmp 13))), none⟩,
       ⟨(some 15), (.val (.load none (.tmp 14))), none⟩,
       ⟨(some 2), (.val (.mov (.tmp 15))), none⟩])
     .ret)))),
 [.tmp 2]⟩
theorem ok28 : cFun Try.prog G Try.f28 = some F_r06_Kind := by kernel_rfl

/- balustrade/balustraderef05.Blank -/
abbrev n_r05_Blank : Nat := 29
def F_r05_Blank : IFun :=
 ⟨17,
 (.seq
  (.region [⟨(some 2), (.val (.mov (.const (.bool false)))), none⟩])
  (.seq
   (.region [⟨(some 3), (.val (.mov (.tmp 0))), none⟩,
     ⟨(some 4), (.val (.eq false (.prim 1) (.tmp 3) (.const (.int .u8 32)))), none⟩,
     ⟨(some 5), (.val (.mov (.tmp 4))), none⟩,
     ⟨(some 6), (.val (.mov (.tmp 0))), (some (5, false))⟩,
     ⟨(some 7), (.val (.eq false (.prim 1) (.tmp 6) (.const (.int .u8 9)))), (some (5, false))⟩,
     ⟨(some 8), (.val (.pick (.tmp 5) (.const (.bool true)) (.tmp 7))), none⟩,
     ⟨(some 9), (.val (.mov (.tmp 8))), none⟩,
     ⟨(some 10), (.val (.mov (.tmp 0))), (some (9, false))⟩,
     ⟨(some 11), (.val (.eq false (.prim 1) (.tmp 10) (.const (.int .u8 10)))), (some (9, false))⟩,
     ⟨(some 12), (.val (.pick (.tmp 9) (.const (.bool true)) (.tmp 11))), none⟩,
     ⟨(some 13), (.val (.mov (.tmp 12))), none⟩,
     ⟨(some 14), (.val (.mov (.tmp 0))), (some (13, false))⟩,
     ⟨(some 15), (.val (.eq false (.prim 1) (.tmp 14) (.const (.int .u8 13)))), (some (13, false))⟩,
     ⟨(some 16), (.val (.pick (.tmp 13) (.const (.bool true)) (.tmp 15))), none⟩,
     ⟨(some 2), (.val (.mov (.tmp 16))), none⟩])
   .ret)),
 [.tmp 2]⟩
theorem ok29 : cFun Try.prog G Try.f29 = some F_r05_Blank := by kernel_rfl

/- balustrade/balustraderef05.Digit -/
abbrev n_r05_Digit : Nat := 30
def F_r05_Digit : IFun :=
 ⟨9,
 (.seq
  (.region [⟨(some 2), (.val (.mov (.const (.bool false)))), none⟩])
  (.seq
   (.region [⟨(some 3), (.val (.mov (.tmp 0))), none⟩,
     ⟨(some 4), (.val (.bin .geq (.tmp 3) (.const (.int .u8 48)))), none⟩,
     ⟨(some 5), (.val (.mov (.tmp 4))), none⟩,
     ⟨(some 6), (.val (.mov (.tmp 0))), (some (5, true))⟩,
     ⟨(some 7), (.val (.bin .leq (.tmp 6) (.const (.int .u8 57)))), (some (5, true))⟩,
     ⟨(some 8), (.val (.pick (.tmp 5) (.tmp 7) (.const (.bool false)))), none⟩,
     ⟨(some 2), (.val (.mov (.tmp 8))), none⟩])
   .ret)),
 [.tmp 2]⟩
theorem ok30 : cFun Try.prog G Try.f30 = some F_r05_Digit := by kernel_rfl

/- balustrade/balustraderef05.number -/
abbrev n_r05_number : Nat := 31
def F_r05_number_l0 : ICode :=
 (.seq
  (.seq
   (.region [⟨(some 7), (.val (.mov (.tmp 5))), none⟩,
     ⟨(some 8), (.val (.mov (.tmp 0))), none⟩,
     ⟨(some 9), (.val (.lenstr (.tmp 8))), none⟩,
     ⟨(some 10), (.val (.bin .lss (.tmp 7) (.tmp 9))), none⟩])
   (.cond (.tmp 10)
    .skip
    (.exit 0)))
  (.seq
   (.block 1
    (.seq
     (.region [⟨(some 13), (.val (.mov (.tmp 0))), none⟩,
       ⟨(some 14), (.val (.mov (.tmp 5))), none⟩,
       ⟨(some 15), (.val (.idxstr (.tmp 13) (.tmp 14))), none⟩,
       ⟨(some 16), (.val (.bin .sub (.tmp 15) (.const (.int .u8 48)))), none⟩,
       ⟨(some 17), (.val (.conv (.int .i64) (.tmp 16))), none⟩,
       ⟨(some 6), (.val (.mov (.tmp 17))), none⟩])
     (.seq
      (.seq
       (.region [⟨(some 18), (.val (.mov (.tmp 4))), none⟩,
         ⟨(some 19), (.val (.bin .gtr (.tmp 18) (.const (.int .i64 922337203685477580)))), none⟩,
         ⟨(some 20), (.val (.mov (.tmp 19))), none⟩,
         ⟨(some 21), (.val (.mov (.tmp 4))), (some (20, false))⟩,
         ⟨(some 22), (.val (.eq false (.prim 1) (.tmp 21) (.const (.int .i64 922337203685477580)))), (some (20, false))⟩,
         ⟨(some 23), (.val (.mov (.tmp 22))), (some (20, false))⟩,
         ⟨(some 24), (.val (.mov (.tmp 6))), (some (23, true))⟩,
         ⟨(some 25), (.val (.bin .gtr (.tmp 24) (.const (.int .i64 7)))), (some (23, true))⟩,
         ⟨(some 26), (.val (.pick (.tmp 23) (.tmp 25) (.const (.bool false)))), (some (20, false))⟩,
         ⟨(some 27), (.val (.pick (.tmp 20) (.const (.bool true)) (.tmp 26))), none⟩])
       (.cond (.tmp 27)
        (.seq
         (.region [⟨(some 2), (.val (.mov (.const (.int .i64 0)))), none⟩,
           ⟨(some 3), (.val (.mov (.const (.bool false)))), none⟩])
         .ret)
        .skip))
      (.region [⟨(some 28), (.val (.mov (.tmp 4))), none⟩,
        ⟨(some 29), (.val (.bin .mul (.const (.int .i64 10)) (.tmp 28))), none⟩,
        ⟨(some 30), (.val (.mov (.tmp 6))), none⟩,
        ⟨(some 31), (.val (.bin .add (.tmp 29) (.tmp 30))), none⟩,
        ⟨(some 4), (.val (.mov (.tmp 31))), none⟩]))))
   (.region [⟨(some 11), (.val (.mov (.tmp 5))), none⟩,
     ⟨(some 12), (.val (.bin .add (.tmp 11) (.const (.int .i64 1)))), none⟩,
     ⟨(some 5), (.val (.mov (.tmp 12))), none⟩])))
def F_r05_number : IFun :=
 ⟨33,
 (.seq
  (.region [⟨(some 2), (.val (.mov (.const (.int .i64 0)))), none⟩,
    ⟨(some 3), (.val (.mov (.const (.bool false)))), none⟩])
  (.seq
   (.region [⟨(some 4), (.val (.mov (.const (.int .i64 0)))), none⟩])
   (.seq
    (.seq
     (.region [⟨(some 5), (.val (.mov (.const (.int .i64 0)))), none⟩])
     (.block 0
      (.loop F_r05_number_l0)))
    (.seq
     (.region [⟨(some 32), (.val (.mov (.tmp 4))), none⟩,
       ⟨(some 2), (.val (.mov (.tmp 32))), none⟩,
       ⟨(some 3), (.val (.mov (.const (.bool true)))), none⟩])
     .ret)))),
 [.tmp 2, .tmp 3]⟩
theorem ok31 : cFun Try.prog G Try.f31 = some F_r05_number := by kernel_rfl

end Go.Proofs.Ytjgbofonigpjaaa.Ev
end
section
namespace Go.Proofs.Ytjgbofonigpjaaa.Ev
open Go

/- balustrade/balustraderef05.Letter -/
abbrev n_r05_Letter : Nat := 32
def F_r05_Letter : IFun :=
 ⟨21,
 (.seq
  (.region [⟨(some 2), (.val (.mov (.const (.bool false)))), none⟩])
  (.seq
   (.region [⟨(some 3), (.val (.mov (.tmp 0))), none⟩,
     ⟨(some 4), (.val (.bin .geq (.tmp 3) (.const (.int .u8 97)))), none⟩,
     ⟨(some 5), (.val (.mov (.tmp 4))), none⟩,
     ⟨(some 6), (.val (.mov (.tmp 0))), (some (5, true))⟩,
     ⟨(some 7), (.val (.bin .leq (.tmp 6) (.const (.int .u8 122)))), (some (5, true))⟩,
     ⟨(some 8), (.val (.pick (.tmp 5) (.tmp 7) (.const (.bool false)))), none⟩,
     ⟨(some 9), (.val (.mov (.tmp 8))), none⟩,
     ⟨(some 10), (.val (.mov (.tmp 0))), (some (9, false))⟩,
     ⟨(some 11), (.val (.bin .geq (.tmp 10) (.const (.int .u8 65)))), (some (9, false))⟩,
     ⟨(some 12), (.val (.mov (.tmp 11))), (some (9, false))⟩,
     ⟨(some 13), (.val (.mov (.tmp 0))), (some (12, true))⟩,
     ⟨(some 14), (.val (.bin .leq (.tmp 13) (.const (.int .u8 90)))), (some (12, true))⟩,
     ⟨(some 15), (.val (.pick (.tmp 12) (.tmp 14) (.const (.bool false)))), (some (9, false))⟩,
     ⟨(some 16), (.val (.pick (.tmp 9) (.const (.bool true)) (.tmp 15))), none⟩,
     ⟨(some 17), (.val (.mov (.tmp 16))), none⟩,
     ⟨(some 18), (.val (.mov (.tmp 0))), (some (17, false))⟩,
     ⟨(some 19), (.val (.eq false (.prim 1) (.tmp 18) (.const (.int .u8 95)))), (some (17, false))⟩,
     ⟨(some 20), (.val (.pick (.tmp 17) (.const (.bool true)) (.tmp 19))), none⟩,
     ⟨(some 2), (.val (.mov (.tmp 20))), none⟩])
   .ret)),
 [.tmp 2]⟩
theorem ok32 : cFun Try.prog G Try.f32 = some F_r05_Letter := by kernel_rfl

/- balustrade/balustraderef05.Word -/
abbrev n_r05_Word : Nat := 33
def F_r05_Word_l0 : ICode :=
 (.seq
  (.seq
   (.region [⟨(some 6), (.val (.mov (.tmp 4))), none⟩,
     ⟨(some 7), (.val (.mov (.tmp 3))), none⟩,
     ⟨(some 8), (.val (.len (.tmp 7))), none⟩,
     ⟨(some 9), (.val (.bin .lss (.tmp 6) (.tmp 8))), none⟩])
   (.cond (.tmp 9)
    .skip
    (.exit 0)))
  (.seq
   (.block 1
    (.seq
     (.region [⟨(some 12), (.val (.mov (.tmp 3))), none⟩,
       ⟨(some 13), (.val (.mov (.tmp 4))), none⟩,
       ⟨(some 14), (.val (.iaddr 1 (.tmp 12) (.tmp 13))), none⟩,
       ⟨(some 15), (.val (.load none (.tmp 14))), none⟩,
       ⟨(some 16), (.val (.mov (.tmp 0))), none⟩,
       ⟨(some 17), (.val (.eq false (.prim 2) (.tmp 15) (.tmp 16))), none⟩])
     (.cond (.tmp 17)
      (.seq
       (.region [⟨(some 2), (.val (.mov (.const (.bool true)))), none⟩])
       .ret)
      .skip)))
   (.region [⟨(some 10), (.val (.mov (.tmp 4))), none⟩,
     ⟨(some 11), (.val (.bin .add (.tmp 10) (.const (.int .i64 1)))), none⟩,
     ⟨(some 4), (.val (.mov (.tmp 11))), none⟩])))
def F_r05_Word : IFun :=
 ⟨18,
 (.seq
  (.region [⟨(some 2), (.val (.mov (.const (.bool false)))), none⟩])
  (.seq
   (.region [⟨(some 5), (.call (.const (.func 43 [] [])) []), none⟩,
     ⟨(some 3), (.val (.mov (.tmp 5))), none⟩])
   (.seq
    (.seq
     (.region [⟨(some 4), (.val (.mov (.const (.int .i64 0)))), none⟩])
     (.block 0
      (.loop F_r05_Word_l0)))
    (.seq
     (.region [⟨(some 2), (.val (.mov (.const (.bool false)))), none⟩])
     .ret)))),
 [.tmp 2]⟩
theorem ok33 : cFun Try.prog G Try.f33 = some F_r05_Word := by kernel_rfl

/- balustrade/balustraderef05.sign -/
abbrev n_r05_sign : Nat := 34
def F_r05_sign_l0 : ICode :=
 (.seq
  (.seq
   (.region [⟨(some 8), (.val (.mov (.tmp 5))), none⟩,
     ⟨(some 9), (.val (.mov (.tmp 3))), none⟩,
     ⟨(some 10), (.val (.len (.tmp 9))), none⟩,
     ⟨(some 11), (.val (.bin .lss (.tmp 8) (.tmp 10))), none⟩,
     ⟨(some 12), (.val (.mov (.tmp 11))), none⟩,
     ⟨(some 13), (.val (.mov (.tmp 0))), (some (12, true))⟩,
     ⟨(some 14), (.val (.lenstr (.tmp 13))), (some (12, true))⟩,
     ⟨(some 15), (.val (.bin .geq (.tmp 14) (.const (.int .i64 2)))), (some (12, true))⟩,
     ⟨(some 16), (.val (.pick (.tmp 12) (.tmp 15) (.const (.bool false)))), none⟩])
   (.cond (.tmp 16)
    .skip
    (.exit 0)))
  (.seq
   (.block 1
    (.seq
     (.draw [⟨(some 19), (.val (.mov (.tmp 0))), none⟩,
       ⟨(some 20), (.val (.slstr (.tmp 19) none (some (.const (.int .i64 2))))), none⟩,
       ⟨(some 21), (.val (.mov (.tmp 3))), none⟩,
       ⟨(some 22), (.val (.mov (.tmp 5))), none⟩,
       ⟨(some 23), (.val (.iaddr 1 (.tmp 21) (.tmp 22))), none⟩,
       ⟨(some 24), (.val (.load none (.tmp 23))), none⟩,
       ⟨(some 25), (.val (.eq false (.prim 2) (.tmp 20) (.tmp 24))), none⟩] [])
     (.cond (.tmp 25)
      (.seq
       (.region [⟨(some 2), (.val (.mov (.const (.int .i64 2)))), none⟩])
       .ret)
      .skip)))
   (.region [⟨(some 17), (.val (.mov (.tmp 5))), none⟩,
     ⟨(some 18), (.val (.bin .add (.tmp 17) (.const (.int .i64 1)))), none⟩,
     ⟨(some 5), (.val (.mov (.tmp 18))), none⟩])))
def F_r05_sign_l1 : ICode :=
 (.seq
  (.seq
   (.region [⟨(some 26), (.val (.mov (.tmp 6))), none⟩,
     ⟨(some 27), (.val (.mov (.tmp 4))), none⟩,
     ⟨(some 28), (.val (.lenstr (.tmp 27))), none⟩,
     ⟨(some 29), (.val (.bin .lss (.tmp 26) (.tmp 28))), none⟩])
   (.cond (.tmp 29)
    .skip
    (.exit 2)))
  (.seq
   (.block 3
    (.seq
     (.draw [⟨(some 32), (.val (.mov (.tmp 0))), none⟩,
       ⟨(some 33), (.val (.idxstr (.tmp 32) (.const (.int .i64 0)))), none⟩,
       ⟨(some 34), (.val (.mov (.tmp 4))), none⟩,
       ⟨(some 35), (.val (.mov (.tmp 6))), none⟩,
       ⟨(some 36), (.val (.idxstr (.tmp 34) (.tmp 35))), none⟩,
       ⟨(some 37), (.val (.eq false (.prim 1) (.tmp 33) (.tmp 36))), none⟩] [])
     (.cond (.tmp 37)
      (.seq
       (.region [⟨(some 2), (.val (.mov (.const (.int .i64 1)))), none⟩])
       .ret)
      .skip)))
   (.region [⟨(some 30), (.val (.mov (.tmp 6))), none⟩,
     ⟨(some 31), (.val (.bin .add (.tmp 30) (.const (.int .i64 1)))), none⟩,
     ⟨(some 6), (.val (.mov (.tmp 31))), none⟩])))
def F_r05_sign : IFun :=
 ⟨38,
 (.seq
  (.region [⟨(some 2), (.val (.mov (.const (.int .i64 0)))), none⟩])
  (.seq
   (.region [⟨(some 7), (.val (.bslice 9 1 9 [(.str [])] [(0, (.const (.str [124, 124]))), (1, (.const (.str [38, 38]))), (2, (.const (.str [61, 61]))), (3, (.const (.str [33, 61]))), (4, (.const (.str [60, 61]))), (5, (.const (.str [62, 61]))), (6, (.const (.str [43, 37]))), (7, (.const (.str [45, 37]))), (8, (.const (.str [42, 37])))])), none⟩,
     ⟨(some 3), (.val (.mov (.tmp 7))), none⟩])
   (.seq
    (.region [⟨(some 4), (.val (.mov (.const (.str [60, 62, 43, 45, 42, 47, 37, 33, 61, 40, 41, 123, 125, 91, 93, 44, 59])))), none⟩])
    (.seq
     (.seq
      (.region [⟨(some 5), (.val (.mov (.const (.int .i64 0)))), none⟩])
      (.block 0
       (.loop F_r05_sign_l0)))
     (.seq
      (.seq
       (.region [⟨(some 6), (.val (.mov (.const (.int .i64 0)))), none⟩])
       (.block 2
        (.loop F_r05_sign_l1)))
      (.seq
       (.region [⟨(some 2), (.val (.mov (.const (.int .i64 0)))), none⟩])
       .ret)))))),
 [.tmp 2]⟩
theorem ok34 : cFun Try.prog G Try.f34 = some F_r05_sign := by kernel_rfl

/- (*balustrade/expr.Reader).climb -/
abbrev n_expr_Reader_climb : Nat := 35
def F_expr_Reader_climb_l0 : ICode :=
 (.seq
  (.seq
   (.region [⟨(some 12), (.val (.mov (.tmp 0))), none⟩,
     ⟨(some 13), (.call (.const (.func 20 [] [])) [(.tmp 12)]), none⟩])
   (.cond (.tmp 13)
    .skip
    (.exit 0)))
  (.block 1
   (.seq
    (.region [⟨(some 14), (.val (.mov (.tmp 0))), none⟩,
      ⟨(some 15), (.call (.const (.func 18 [] [])) [(.tmp 14)]), none⟩,
      ⟨(some 7), (.val (.alloc 38 [(.int .i64 0), (.str []), (.int .i64 0), (.int .i64 0)])), none⟩,
      ⟨none, (.val (.store 4 (.tmp 7) (.tmp 15))), none⟩])
    (.seq
     (.region [⟨(some 16), (.val (.faddr 1 (.tmp 7))), none⟩,
       ⟨(some 17), (.val (.load none (.tmp 16))), none⟩,
       ⟨(some 18), (.call (.const (.func 45 [] [])) [(.tmp 17)]), none⟩,
       ⟨(some 8), (.val (.alloc 73 [(.int .i64 0), (.int .i64 0)])), none⟩,
       ⟨none, (.val (.store 2 (.tmp 8) (.tmp 18))), none⟩])
     (.seq
      (.seq
       (.region [⟨(some 19), (.val (.faddr 0 (.tmp 7))), none⟩,
         ⟨(some 20), (.val (.load none (.tmp 19))), none⟩,
         ⟨(some 21), (.val (.eq true (.prim 1) (.tmp 20) (.const (.int .i64 4)))), none⟩,
         ⟨(some 22), (.val (.mov (.tmp 21))), none⟩,
         ⟨(some 23), (.val (.faddr 1 (.tmp 8))), (some (22, false))⟩,
         ⟨(some 24), (.val (.load none (.tmp 23))), (some (22, false))⟩,
         ⟨(some 25), (.val (.eq false (.prim 1) (.tmp 24) (.const (.int .i64 0)))), (some (22, false))⟩,
         ⟨(some 26), (.val (.pick (.tmp 22) (.const (.bool true)) (.tmp 25))), none⟩,
         ⟨(some 27), (.val (.mov (.tmp 26))), none⟩,
         ⟨(some 28), (.val (.faddr 0 (.tmp 8))), (some (27, false))⟩,
         ⟨(some 29), (.val (.load none (.tmp 28))), (some (27, false))⟩,
         ⟨(some 30), (.val (.mov (.tmp 1))), (some (27, false))⟩,
         ⟨(some 31), (.val (.bin .lss (.tmp 29) (.tmp 30))), (some (27, false))⟩,
         ⟨(some 32), (.val (.pick (.tmp 27) (.const (.bool true)) (.tmp 31))), none⟩,
         ⟨(some 33), (.val (.mov (.tmp 32))), none⟩,
         ⟨(some 34), (.val (.faddr 0 (.tmp 8))), (some (33, false))⟩,
         ⟨(some 35), (.val (.load none (.tmp 34))), (some (33, false))⟩,
         ⟨(some 36), (.val (.mov (.tmp 6))), (some (33, false))⟩,
         ⟨(some 37), (.val (.bin .gtr (.tmp 35) (.tmp 36))), (some (33, false))⟩,
         ⟨(some 38), (.val (.pick (.tmp 33) (.const (.bool true)) (.tmp 37))), none⟩])
       (.cond (.tmp 38)
        (.exit 0)
        .skip))
      (.seq
       (.region [⟨(some 39), (.val (.mov (.tmp 0))), none⟩,
         ⟨(some 40), (.val (.nilck (.tmp 39))), none⟩,
         ⟨(some 41), (.val (.faddr 1 (.tmp 40))), none⟩,
         ⟨(some 42), (.val (.load none (.tmp 41))), none⟩,
         ⟨(some 43), (.val (.bin .add (.tmp 42) (.const (.int .i64 1)))), none⟩,
         ⟨(some 44), (.val (.nilck (.tmp 39))), none⟩,
         ⟨(some 45), (.val (.faddr 1 (.tmp 44))), none⟩,
         ⟨none, (.val (.store 1 (.tmp 45) (.tmp 43))), none⟩])
       (.seq
        (.region [⟨(some 46), (.val (.mov (.tmp 0))), none⟩,
          ⟨(some 47), (.val (.faddr 0 (.tmp 8))), none⟩,
          ⟨(some 48), (.val (.load none (.tmp 47))), none⟩,
          ⟨(some 49), (.val (.bin .add (.tmp 48) (.const (.int .i64 1)))), none⟩,
          ⟨(some 50), (.call (.const (.func 35 [] [])) [(.tmp 46), (.tmp 49)]), none⟩,
          ⟨(some 9), (.val (.mov (.tmp 50))), none⟩])
        (.seq
         (.region [⟨(some 51), (.val (.mov (.tmp 0))), none⟩,
           ⟨(some 52), (.val (.faddr 1 (.tmp 8))), none⟩,
           ⟨(some 53), (.val (.load none (.tmp 52))), none⟩,
           ⟨(some 54), (.val (.mov (.tmp 5))), none⟩,
           ⟨(some 55), (.val (.mov (.tmp 9))), none⟩,
           ⟨(some 56), (.val (.bslice 3 1 2 [(.int .i64 0)] [(0, (.tmp 54)), (1, (.tmp 55))])), none⟩,
           ⟨(some 57), (.val (.faddr 3 (.tmp 7))), none⟩,
           ⟨(some 58), (.val (.load none (.tmp 57))), none⟩,
           ⟨(some 59), (.val (.build [(.int .i64 0), .nilslice, (.int .i64 0), (.str []), (.int .i64 0)] [(0, 1, (.const (.int .i64 5))), (2, 1, (.tmp 53)), (1, 1, (.tmp 56)), (4, 1, (.tmp 58))])), none⟩,
           ⟨(some 60), (.call (.const (.func 46 [] [])) [(.tmp 51), (.tmp 59)]), none⟩,
           ⟨(some 5), (.val (.mov (.tmp 60))), none⟩])
         (.seq
          (.seq
           (.region [⟨(some 61), (.val (.faddr 0 (.tmp 8))), none⟩,
             ⟨(some 62), (.val (.load none (.tmp 61))), none⟩,
             ⟨(some 6), (.val (.mov (.tmp 62))), none⟩])
           (.seq
            (.region [⟨(some 63), (.val (.mov (.tmp 6))), none⟩,
              ⟨(some 64), (.val (.eq false (.prim 1) (.tmp 63) (.const (.int .i64 3)))), none⟩])
            (.cond (.tmp 64)
             (.region [⟨(some 65), (.val (.mov (.tmp 6))), none⟩,
               ⟨(some 66), (.val (.bin .sub (.tmp 65) (.const (.int .i64 1)))), none⟩,
               ⟨(some 6), (.val (.mov (.tmp 66))), none⟩])
             .skip)))
          (.exit 1))))))))))
def F_expr_Reader_climb : IFun :=
 ⟨68,
 (.seq
  (.region [⟨(some 4), (.val (.mov (.const (.int .i64 0)))), none⟩])
  (.seq
   (.region [⟨(some 10), (.val (.mov (.tmp 0))), none⟩,
     ⟨(some 11), (.call (.const (.func 44 [] [])) [(.tmp 10)]), none⟩,
     ⟨(some 5), (.val (.mov (.tmp 11))), none⟩])
   (.seq
    (.region [⟨(some 6), (.val (.mov (.const (.int .i64 6)))), none⟩])
    (.seq
     .skip
     (.seq
      (.block 0
       (.loop F_expr_Reader_climb_l0))
      (.seq
       (.region [⟨(some 67), (.val (.mov (.tmp 5))), none⟩,
         ⟨(some 4), (.val (.mov (.tmp 67))), none⟩])
       .ret)))))),
 [.tmp 4]⟩
theorem ok35 : cFun Try.prog G Try.f35 = some F_expr_Reader_climb := by kernel_rfl

/- slices.Clone[[]balustrade/api.Node,balustrade/api.Node] -/
abbrev n_slices_Clone : Nat := 36
def F_slices_Clone : IFun :=
 ⟨8,
 (.seq
  (.region [⟨(some 2), (.val (.mov (.const .nilslice))), none⟩])
  (.seq
   (.seq
    (.region [⟨(some 3), (.val (.mov (.tmp 0))), none⟩,
      ⟨(some 4), (.val (.eq false (.prim 4) (.tmp 3) (.const .nilslice))), none⟩])
    (.cond (.tmp 4)
     (.seq
      (.region [⟨(some 2), (.val (.mov (.const .nilslice))), none⟩])
      .ret)
     .skip))
   (.seq
    (.region [⟨(some 5), (.val (.bslice 41 5 0 [(.int .i64 0), .nilslice, (.int .i64 0), (.str []), (.int .i64 0)] [])), none⟩,
      ⟨(some 6), (.val (.mov (.tmp 0))), none⟩,
      ⟨(some 7), (.val (.append 41 5 64 (.tmp 5) (.tmp 6))), none⟩,
      ⟨(some 2), (.val (.mov (.tmp 7))), none⟩])
    .ret))),
 [.tmp 2]⟩
theorem ok36 : cFun Try.prog G Try.f36 = some F_slices_Clone := by kernel_rfl

/- balustrade/balustraderef06.named -/
abbrev n_r06_named : Nat := 37
def F_r06_named : IFun :=
 ⟨6,
 (.seq
  (.region [⟨(some 2), (.val (.mov (.const (.bool false)))), none⟩])
  (.seq
   (.region [⟨(some 3), (.val (.bslice 3 1 8 [(.int .i64 0)] [(0, (.const (.int .i64 4))), (1, (.const (.int .i64 11))), (2, (.const (.int .i64 12))), (3, (.const (.int .i64 13))), (4, (.const (.int .i64 14))), (5, (.const (.int .i64 17))), (6, (.const (.int .i64 24))), (7, (.const (.int .i64 25)))])), none⟩,
     ⟨(some 4), (.val (.mov (.tmp 0))), none⟩,
     ⟨(some 5), (.call (.const (.func 11 [] [])) [(.tmp 3), (.tmp 4)]), none⟩,
     ⟨(some 2), (.val (.mov (.tmp 5))), none⟩])
   .ret)),
 [.tmp 2]⟩
theorem ok37 : cFun Try.prog G Try.f37 = some F_r06_named := by kernel_rfl

/- balustrade/balustraderef05.Name -/
abbrev n_r05_Name : Nat := 38
def F_r05_Name_l0 : ICode :=
 (.seq
  (.seq
   (.region [⟨(some 4), (.val (.mov (.tmp 3))), none⟩,
     ⟨(some 5), (.val (.mov (.tmp 0))), none⟩,
     ⟨(some 6), (.val (.lenstr (.tmp 5))), none⟩,
     ⟨(some 7), (.val (.bin .lss (.tmp 4) (.tmp 6))), none⟩])
   (.cond (.tmp 7)
    .skip
    (.exit 0)))
  (.seq
   (.block 1
    (.seq
     (.region [⟨(some 10), (.val (.mov (.tmp 0))), none⟩,
       ⟨(some 11), (.val (.mov (.tmp 3))), none⟩,
       ⟨(some 12), (.val (.idxstr (.tmp 10) (.tmp 11))), none⟩,
       ⟨(some 13), (.call (.const (.func 32 [] [])) [(.tmp 12)]), none⟩,
       ⟨(some 14), (.val (.un .not (.tmp 13))), none⟩,
       ⟨(some 15), (.val (.mov (.tmp 14))), none⟩,
       ⟨(some 16), (.val (.mov (.tmp 3))), (some (15, true))⟩,
       ⟨(some 17), (.val (.eq false (.prim 1) (.tmp 16) (.const (.int .i64 0)))), (some (15, true))⟩,
       ⟨(some 18), (.val (.mov (.tmp 17))), (some (15, true))⟩,
       ⟨(some 19), (.val (.mov (.tmp 0))), (some (18, false))⟩,
       ⟨(some 20), (.val (.mov (.tmp 3))), (some (18, false))⟩,
       ⟨(some 21), (.val (.idxstr (.tmp 19) (.tmp 20))), (some (18, false))⟩,
       ⟨(some 22), (.call (.const (.func 30 [] [])) [(.tmp 21)]), (some (18, false))⟩,
       ⟨(some 23), (.val (.un .not (.tmp 22))), (some (18, false))⟩,
       ⟨(some 24), (.val (.pick (.tmp 18) (.const (.bool true)) (.tmp 23))), (some (15, true))⟩,
       ⟨(some 25), (.val (.pick (.tmp 15) (.tmp 24) (.const (.bool false)))), none⟩])
     (.cond (.tmp 25)
      (.seq
       (.region [⟨(some 2), (.val (.mov (.const (.bool false)))), none⟩])
       .ret)
      .skip)))
   (.region [⟨(some 8), (.val (.mov (.tmp 3))), none⟩,
     ⟨(some 9), (.val (.bin .add (.tmp 8) (.const (.int .i64 1)))), none⟩,
     ⟨(some 3), (.val (.mov (.tmp 9))), none⟩])))
def F_r05_Name : IFun :=
 ⟨39,
 (.seq
  (.region [⟨(some 2), (.val (.mov (.const (.bool false)))), none⟩])
  (.seq
   (.seq
    (.region [⟨(some 3), (.val (.mov (.const (.int .i64 0)))), none⟩])
    (.block 0
     (.loop F_r05_Name_l0)))
   (.seq
    (.region [⟨(some 26), (.val (.mov (.tmp 0))), none⟩,
      ⟨(some 27), (.val (.lenstr (.tmp 26))), none⟩,
      ⟨(some 28), (.val (.bin .gtr (.tmp 27) (.const (.int .i64 0)))), none⟩,
      ⟨(some 29), (.val (.mov (.tmp 28))), none⟩,
      ⟨(some 30), (.val (.mov (.tmp 0))), (some (29, true))⟩,
      ⟨(some 31), (.val (.lenstr (.tmp 30))), (some (29, true))⟩,
      ⟨(some 32), (.val (.bin .leq (.tmp 31) (.const (.int .i64 32)))), (some (29, true))⟩,
      ⟨(some 33), (.val (.pick (.tmp 29) (.tmp 32) (.const (.bool false)))), none⟩,
      ⟨(some 34), (.val (.mov (.tmp 33))), none⟩,
      ⟨(some 35), (.val (.mov (.tmp 0))), (some (34, true))⟩,
      ⟨(some 36), (.call (.const (.func 33 [] [])) [(.tmp 35)]), (some (34, true))⟩,
      ⟨(some 37), (.val (.un .not (.tmp 36))), (some (34, true))⟩,
      ⟨(some 38), (.val (.pick (.tmp 34) (.tmp 37) (.const (.bool false)))), none⟩,
      ⟨(some 2), (.val (.mov (.tmp 38))), none⟩])
    .ret))),
 [.tmp 2]⟩
theorem ok38 : cFun Try.prog G Try.f38 = some F_r05_Name := by kernel_rfl

/- balustrade/balustraderef06.exprs -/
abbrev n_r06_exprs : Nat := 39
def F_r06_exprs_l0 : ICode :=
 (.seq
  (.seq
   (.region [⟨(some 12), (.val (.mov (.tmp 7))), none⟩,
     ⟨(some 13), (.val (.mov (.tmp 2))), none⟩,
     ⟨(some 14), (.val (.bin .lss (.tmp 12) (.tmp 13))), none⟩])
   (.cond (.tmp 14)
    .skip
    (.exit 0)))
  (.seq
   (.block 1
    (.seq
     (.region [⟨(some 17), (.val (.mov (.tmp 0))), none⟩,
       ⟨(some 18), (.val (.mov (.tmp 1))), none⟩,
       ⟨(some 19), (.val (.mov (.tmp 7))), none⟩,
       ⟨(some 20), (.val (.iaddr 1 (.tmp 18) (.tmp 19))), none⟩,
       ⟨(some 21), (.val (.load none (.tmp 20))), none⟩,
       ⟨(some 22), (.val (.iaddr 5 (.tmp 17) (.tmp 21))), none⟩,
       ⟨(some 23), (.val (.faddr 0 (.tmp 22))), none⟩,
       ⟨(some 24), (.val (.load none (.tmp 23))), none⟩,
       ⟨(some 25), (.call (.const (.func 12 [] [])) [(.tmp 24)]), none⟩,
       ⟨(some 26), (.val (.un .not (.tmp 25))), none⟩])
     (.cond (.tmp 26)
      (.seq
       (.region [⟨(some 6), (.val (.mov (.const (.bool false)))), none⟩])
       .ret)
      .skip)))
   (.region [⟨(some 15), (.val (.mov (.tmp 7))), none⟩,
     ⟨(some 16), (.val (.bin .add (.tmp 15) (.const (.int .i64 1)))), none⟩,
     ⟨(some 7), (.val (.mov (.tmp 16))), none⟩])))
def F_r06_exprs : IFun :=
 ⟨27,
 (.seq
  (.region [⟨(some 6), (.val (.mov (.const (.bool false)))), none⟩])
  (.seq
   (.seq
    (.region [⟨(some 8), (.val (.mov (.tmp 1))), none⟩,
      ⟨(some 9), (.val (.len (.tmp 8))), none⟩,
      ⟨(some 10), (.val (.mov (.tmp 2))), none⟩,
      ⟨(some 11), (.val (.bin .lss (.tmp 9) (.tmp 10))), none⟩])
    (.cond (.tmp 11)
     (.seq
      (.region [⟨(some 6), (.val (.mov (.const (.bool false)))), none⟩])
      .ret)
     .skip))
   (.seq
    (.seq
     (.region [⟨(some 7), (.val (.mov (.const (.int .i64 0)))), none⟩])
     (.block 0
      (.loop F_r06_exprs_l0)))
    (.seq
     (.region [⟨(some 6), (.val (.mov (.const (.bool true)))), none⟩])
     .ret)))),
 [.tmp 6]⟩
theorem ok39 : cFun Try.prog G Try.f39 = some F_r06_exprs := by kernel_rfl

/- balustrade/balustraderef06.all -/
abbrev n_r06_all : Nat := 40
def F_r06_all_l0 : ICode :=
 (.seq
  (.seq
   (.region [⟨(some 10), (.val (.mov (.tmp 9))), none⟩,
     ⟨(some 11), (.val (.mov (.tmp 1))), none⟩,
     ⟨(some 12), (.val (.len (.tmp 11))), none⟩,
     ⟨(some 13), (.val (.bin .lss (.tmp 10) (.tmp 12))), none⟩])
   (.cond (.tmp 13)
    .skip
    (.exit 0)))
  (.seq
   (.block 1
    (.seq
     (.region [⟨(some 16), (.val (.mov (.tmp 0))), none⟩,
       ⟨(some 17), (.val (.mov (.tmp 1))), none⟩,
       ⟨(some 18), (.val (.mov (.tmp 9))), none⟩,
       ⟨(some 19), (.val (.iaddr 1 (.tmp 17) (.tmp 18))), none⟩,
       ⟨(some 20), (.val (.load none (.tmp 19))), none⟩,
       ⟨(some 21), (.val (.iaddr 5 (.tmp 16) (.tmp 20))), none⟩,
       ⟨(some 22), (.val (.faddr 0 (.tmp 21))), none⟩,
       ⟨(some 23), (.val (.load none (.tmp 22))), none⟩,
       ⟨(some 24), (.val (.mov (.tmp 2))), none⟩,
       ⟨(some 25), (.val (.eq true (.prim 1) (.tmp 23) (.tmp 24))), none⟩])
     (.cond (.tmp 25)
      (.seq
       (.region [⟨(some 8), (.val (.mov (.const (.bool false)))), none⟩])
       .ret)
      .skip)))
   (.region [⟨(some 14), (.val (.mov (.tmp 9))), none⟩,
     ⟨(some 15), (.val (.bin .add (.tmp 14) (.const (.int .i64 1)))), none⟩,
     ⟨(some 9), (.val (.mov (.tmp 15))), none⟩])))
def F_r06_all : IFun :=
 ⟨30,
 (.seq
  (.region [⟨(some 8), (.val (.mov (.const (.bool false)))), none⟩])
  (.seq
   (.seq
    (.region [⟨(some 9), (.val (.mov (.const (.int .i64 0)))), none⟩])
    (.block 0
     (.loop F_r06_all_l0)))
   (.seq
    (.region [⟨(some 26), (.val (.mov (.tmp 1))), none⟩,
      ⟨(some 27), (.val (.len (.tmp 26))), none⟩,
      ⟨(some 28), (.val (.mov (.tmp 3))), none⟩,
      ⟨(some 29), (.val (.bin .leq (.tmp 27) (.tmp 28))), none⟩,
      ⟨(some 8), (.val (.mov (.tmp 29))), none⟩])
    .ret))),
 [.tmp 8]⟩
theorem ok40 : cFun Try.prog G Try.f40 = some F_r06_all := by kernel_rfl

/- balustrade/balustraderef06.Stmt -/
abbrev n_r06_Stmt : Nat := 41
def F_r06_Stmt : IFun :=
 ⟨9,
 (.seq
  (.region [⟨(some 2), (.val (.mov (.const (.bool false)))), none⟩])
  (.seq
   (.region [⟨(some 3), (.val (.mov (.tmp 0))), none⟩,
     ⟨(some 4), (.val (.bin .geq (.tmp 3) (.const (.int .i64 12)))), none⟩,
     ⟨(some 5), (.val (.mov (.tmp 4))), none⟩,
     ⟨(some 6), (.val (.mov (.tmp 0))), (some (5, true))⟩,
     ⟨(some 7), (.val (.bin .leq (.tmp 6) (.const (.int .i64 22)))), (some (5, true))⟩,
     ⟨(some 8), (.val (.pick (.tmp 5) (.tmp 7) (.const (.bool false)))), none⟩,
     ⟨(some 2), (.val (.mov (.tmp 8))), none⟩])
   .ret)),
 [.tmp 2]⟩
theorem ok41 : cFun Try.prog G Try.f41 = some F_r06_Stmt := by kernel_rfl

/- balustrade/balustraderef06.Signs -/
abbrev n_r06_Signs : Nat := 42
def F_r06_Signs : IFun :=
 ⟨2,
 (.seq
  (.region [⟨(some 0), (.val (.mov (.const .nilslice))), none⟩])
  (.seq
   (.region [⟨(some 1), (.val (.bslice 9 1 16 [(.str [])] [(0, (.const (.str [124, 124]))), (1, (.const (.str [38, 38]))), (2, (.const (.str [61, 61]))), (3, (.const (.str [33, 61]))), (4, (.const (.str [60]))), (5, (.const (.str [60, 61]))), (6, (.const (.str [62]))), (7, (.const (.str [62, 61]))), (8, (.const (.str [43]))), (9, (.const (.str [45]))), (10, (.const (.str [43, 37]))), (11, (.const (.str [45, 37]))), (12, (.const (.str [42]))), (13, (.const (.str [47]))), (14, (.const (.str [37]))), (15, (.const (.str [42, 37])))])), none⟩,
     ⟨(some 0), (.val (.mov (.tmp 1))), none⟩])
   .ret)),
 [.tmp 0]⟩
theorem ok42 : cFun Try.prog G Try.f42 = some F_r06_Signs := by kernel_rfl

/- balustrade/balustraderef05.Words -/
abbrev n_r05_Words : Nat := 43
def F_r05_Words : IFun :=
 ⟨2,
 (.seq
  (.region [⟨(some 0), (.val (.mov (.const .nilslice))), none⟩])
  (.seq
   (.region [⟨(some 1), (.val (.bslice 9 1 18 [(.str [])] [(0, (.const (.str [102, 110]))), (1, (.const (.str [118, 97, 114]))), (2, (.const (.str [105, 102]))), (3, (.const (.str [101, 108, 115, 101]))), (4, (.const (.str [119, 104, 105, 108, 101]))), (5, (.const (.str [102, 111, 114]))), (6, (.const (.str [98, 114, 101, 97, 107]))), (7, (.const (.str [99, 111, 110, 116, 105, 110, 117, 101]))), (8, (.const (.str [114, 101, 116, 117, 114, 110]))), (9, (.const (.str [112, 114, 105, 110, 116]))), (10, (.const (.str [108, 101, 110]))), (11, (.const (.str [110, 101, 119]))), (12, (.const (.str [116, 114, 117, 101]))), (13, (.const (.str [102, 97, 108, 115, 101]))), (14, (.const (.str [110, 105, 108]))), (15, (.const (.str [105, 110, 116]))), (16, (.const (.str [98, 111, 111, 108]))), (17, (.const (.str [97, 114, 114])))])), none⟩,
     ⟨(some 0), (.val (.mov (.tmp 1))), none⟩])
   .ret)),
 [.tmp 0]⟩
theorem ok43 : cFun Try.prog G Try.f43 = some F_r05_Words := by kernel_rfl

/- (*balustrade/expr.Reader).front -/
abbrev n_expr_Reader_front : Nat := 44
def F_expr_Reader_front : IFun :=
 ⟨35,
 (.seq
  (.region [⟨(some 2), (.val (.mov (.const (.int .i64 0)))), none⟩])
  (.seq
   (.region [⟨(some 6), (.val (.mov (.tmp 0))), none⟩,
     ⟨(some 7), (.call (.const (.func 18 [] [])) [(.tmp 6)]), none⟩,
     ⟨(some 3), (.val (.alloc 38 [(.int .i64 0), (.str []), (.int .i64 0), (.int .i64 0)])), none⟩,
     ⟨none, (.val (.store 4 (.tmp 3) (.tmp 7))), none⟩])
   (.seq
    (.region [⟨(some 4), (.val (.mov (.const (.int .i64 0)))), none⟩])
    (.seq
     (.block 0
      (.seq
       (.region [⟨(some 13), (.val (.mov (.tmp 0))), none⟩,
         ⟨(some 14), (.call (.const (.func 47 [] [])) [(.tmp 13), (.const (.str [45]))]), none⟩,
         ⟨(some 12), (.val (.mov (.tmp 14))), none⟩])
       (.cond (.tmp 12)
        (.region [⟨(some 4), (.val (.mov (.const (.int .i64 6)))), none⟩])
        (.seq
         (.region [⟨(some 16), (.val (.mov (.tmp 0))), none⟩,
           ⟨(some 17), (.call (.const (.func 47 [] [])) [(.tmp 16), (.const (.str [33]))]), none⟩,
           ⟨(some 15), (.val (.mov (.tmp 17))), none⟩])
         (.cond (.tmp 15)
          (.region [⟨(some 4), (.val (.mov (.const (.int .i64 7)))), none⟩])
          (.seq
           (.region [⟨(some 8), (.val (.mov (.tmp 0))), none⟩,
             ⟨(some 9), (.val (.mov (.tmp 0))), none⟩,
             ⟨(some 10), (.call (.const (.func 49 [] [])) [(.tmp 9)]), none⟩,
             ⟨(some 11), (.call (.const (.func 48 [] [])) [(.tmp 8), (.tmp 10)]), none⟩,
             ⟨(some 2), (.val (.mov (.tmp 11))), none⟩])
           .ret))))))
     (.seq
      (.seq
       (.region [⟨(some 18), (.val (.mov (.tmp 0))), none⟩,
         ⟨(some 19), (.val (.faddr 3 (.tmp 3))), none⟩,
         ⟨(some 20), (.val (.load none (.tmp 19))), none⟩,
         ⟨(some 21), (.call (.const (.func 50 [] [])) [(.tmp 18), (.tmp 20)]), none⟩,
         ⟨(some 22), (.val (.un .not (.tmp 21))), none⟩])
       (.cond (.tmp 22)
        (.seq
         (.region [⟨(some 2), (.val (.mov (.const (.int .i64 (-1))))), none⟩])
         .ret)
        .skip))
      (.seq
       (.region [⟨(some 23), (.val (.mov (.tmp 0))), none⟩,
         ⟨(some 24), (.call (.const (.func 44 [] [])) [(.tmp 23)]), none⟩,
         ⟨(some 5), (.val (.mov (.tmp 24))), none⟩])
       (.seq
        (.region [⟨(some 25), (.val (.mov (.tmp 0))), none⟩,
          ⟨(some 26), (.call (.const (.func 51 [] [])) [(.tmp 25)]), none⟩])
        (.seq
         (.region [⟨(some 27), (.val (.mov (.tmp 0))), none⟩,
           ⟨(some 28), (.val (.mov (.tmp 4))), none⟩,
           ⟨(some 29), (.val (.mov (.tmp 5))), none⟩,
           ⟨(some 30), (.val (.bslice 3 1 1 [(.int .i64 0)] [(0, (.tmp 29))])), none⟩,
           ⟨(some 31), (.val (.faddr 3 (.tmp 3))), none⟩,
           ⟨(some 32), (.val (.load none (.tmp 31))), none⟩,
           ⟨(some 33), (.val (.build [(.int .i64 0), .nilslice, (.int .i64 0), (.str []), (.int .i64 0)] [(0, 1, (.tmp 28)), (1, 1, (.tmp 30)), (4, 1, (.tmp 32))])), none⟩,
           ⟨(some 34), (.call (.const (.func 46 [] [])) [(.tmp 27), (.tmp 33)]), none⟩,
           ⟨(some 2), (.val (.mov (.tmp 34))), none⟩])
         .ret)))))))),
 [.tmp 2]⟩
theorem ok44 : cFun Try.prog G Try.f44 = some F_expr_Reader_front := by kernel_rfl

/- balustrade/expr.ops -/
abbrev n_expr_ops : Nat := 45
def F_expr_ops : IFun :=
 ⟨53,
 (.seq
  (.region [⟨(some 2), (.val (.alloc 73 [(.int .i64 0), (.int .i64 0)])), none⟩])
  (.seq
   (.seq
    (.region [⟨(some 3), (.val (.mov (.tmp 0))), none⟩])
    (.block 0
     (.seq
      (.region [⟨(some 5), (.val (.eq false (.prim 2) (.tmp 3) (.const (.str [124, 124])))), none⟩,
        ⟨(some 4), (.val (.mov (.tmp 5))), none⟩])
      (.cond (.tmp 4)
       (.seq
        (.region [⟨(some 6), (.val (.build [(.int .i64 0), (.int .i64 0)] [(0, 1, (.const (.int .i64 1))), (1, 1, (.const (.int .i64 1)))])), none⟩,
          ⟨none, (.val (.store 2 (.tmp 2) (.tmp 6))), none⟩])
        .ret)
       (.seq
        (.region [⟨(some 8), (.val (.eq false (.prim 2) (.tmp 3) (.const (.str [38, 38])))), none⟩,
          ⟨(some 7), (.val (.mov (.tmp 8))), none⟩])
        (.cond (.tmp 7)
         (.seq
          (.region [⟨(some 9), (.val (.build [(.int .i64 0), (.int .i64 0)] [(0, 1, (.const (.int .i64 2))), (1, 1, (.const (.int .i64 2)))])), none⟩,
            ⟨none, (.val (.store 2 (.tmp 2) (.tmp 9))), none⟩])
          .ret)
         (.seq
          (.region [⟨(some 11), (.val (.eq false (.prim 2) (.tmp 3) (.const (.str [61, 61])))), none⟩,
            ⟨(some 10), (.val (.mov (.tmp 11))), none⟩])
          (.cond (.tmp 10)
           (.seq
            (.region [⟨(some 12), (.val (.build [(.int .i64 0), (.int .i64 0)] [(0, 1, (.const (.int .i64 3))), (1, 1, (.const (.int .i64 3)))])), none⟩,
              ⟨none, (.val (.store 2 (.tmp 2) (.tmp 12))), none⟩])
            .ret)
           (.seq
            (.region [⟨(some 14), (.val (.eq false (.prim 2) (.tmp 3) (.const (.str [33, 61])))), none⟩,
              ⟨(some 13), (.val (.mov (.tmp 14))), none⟩])
            (.cond (.tmp 13)
             (.seq
              (.region [⟨(some 15), (.val (.build [(.int .i64 0), (.int .i64 0)] [(0, 1, (.const (.int .i64 3))), (1, 1, (.const (.int .i64 4)))])), none⟩,
                ⟨none, (.val (.store 2 (.tmp 2) (.tmp 15))), none⟩])
              .ret)
             (.seq
              (.region [⟨(some 17), (.val (.eq false (.prim 2) (.tmp 3) (.const (.str [60])))), none⟩,
                ⟨(some 16), (.val (.mov (.tmp 17))), none⟩])
              (.cond (.tmp 16)
               (.seq
                (.region [⟨(some 18), (.val (.build [(.int .i64 0), (.int .i64 0)] [(0, 1, (.const (.int .i64 3))), (1, 1, (.const (.int .i64 5)))])), none⟩,
                  ⟨none, (.val (.store 2 (.tmp 2) (.tmp 18))), none⟩])
                .ret)
               (.seq
                (.region [⟨(some 20), (.val (.eq false (.prim 2) (.tmp 3) (.const (.str [60, 61])))), none⟩,
                  ⟨(some 19), (.val (.mov (.tmp 20))), none⟩])
                (.cond (.tmp 19)
                 (.seq
                  (.region [⟨(some 21), (.val (.build [(.int .i64 0), (.int .i64 0)] [(0, 1, (.const (.int .i64 3))), (1, 1, (.const (.int .i64 6)))])), none⟩,
                    ⟨none, (.val (.store 2 (.tmp 2) (.tmp 21))), none⟩])
                  .ret)
                 (.seq
                  (.region [⟨(some 23), (.val (.eq false (.prim 2) (.tmp 3) (.const (.str [62])))), none⟩,
                    ⟨(some 22), (.val (.mov (.tmp 23))), none⟩])
                  (.cond (.tmp 22)
                   (.seq
                    (.region [⟨(some 24), (.val (.build [(.int .i64 0), (.int .i64 0)] [(0, 1, (.const (.int .i64 3))), (1, 1, (.const (.int .i64 7)))])), none⟩,
                      ⟨none, (.val (.store 2 (.tmp 2) (.tmp 24))), none⟩])
                    .ret)
                   (.seq
                    (.region [⟨(some 26), (.val (.eq false (.prim 2) (.tmp 3) (.const (.str [62, 61])))), none⟩,
                      ⟨(some 25), (.val (.mov (.tmp 26))), none⟩])
                    (.cond (.tmp 25)
                     (.seq
                      (.region [⟨(some 27), (.val (.build [(.int .i64 0), (.int .i64 0)] [(0, 1, (.const (.int .i64 3))), (1, 1, (.const (.int .i64 8)))])), none⟩,
                        ⟨none, (.val (.store 2 (.tmp 2) (.tmp 27))), none⟩])
                      .ret)
                     (.seq
                      (.region [⟨(some 29), (.val (.eq false (.prim 2) (.tmp 3) (.const (.str [43])))), none⟩,
                        ⟨(some 28), (.val (.mov (.tmp 29))), none⟩])
                      (.cond (.tmp 28)
                       (.seq
                        (.region [⟨(some 30), (.val (.build [(.int .i64 0), (.int .i64 0)] [(0, 1, (.const (.int .i64 4))), (1, 1, (.const (.int .i64 9)))])), none⟩,
                          ⟨none, (.val (.store 2 (.tmp 2) (.tmp 30))), none⟩])
                        .ret)
                       (.seq
                        (.region [⟨(some 32), (.val (.eq false (.prim 2) (.tmp 3) (.const (.str [45])))), none⟩,
                          ⟨(some 31), (.val (.mov (.tmp 32))), none⟩])
                        (.cond (.tmp 31)
                         (.seq
                          (.region [⟨(some 33), (.val (.build [(.int .i64 0), (.int .i64 0)] [(0, 1, (.const (.int .i64 4))), (1, 1, (.const (.int .i64 10)))])), none⟩,
                            ⟨none, (.val (.store 2 (.tmp 2) (.tmp 33))), none⟩])
                          .ret)
                         (.seq
                          (.region [⟨(some 35), (.val (.eq false (.prim 2) (.tmp 3) (.const (.str [43, 37])))), none⟩,
                            ⟨(some 34), (.val (.mov (.tmp 35))), none⟩])
                          (.cond (.tmp 34)
                           (.seq
                            (.region [⟨(some 36), (.val (.build [(.int .i64 0), (.int .i64 0)] [(0, 1, (.const (.int .i64 4))), (1, 1, (.const (.int .i64 11)))])), none⟩,
                              ⟨none, (.val (.store 2 (.tmp 2) (.tmp 36))), none⟩])
                            .ret)
                           (.seq
                            (.region [⟨(some 38), (.val (.eq false (.prim 2) (.tmp 3) (.const (.str [45, 37])))), none⟩,
                              ⟨(some 37), (.val (.mov (.tmp 38))), none⟩])
                            (.cond (.tmp 37)
                             (.seq
                              (.region [⟨(some 39), (.val (.build [(.int .i64 0), (.int .i64 0)] [(0, 1, (.const (.int .i64 4))), (1, 1, (.const (.int .i64 12)))])), none⟩,
                                ⟨none, (.val (.store 2 (.tmp 2) (.tmp 39))), none⟩])
                              .ret)
                             (.seq
                              (.region [⟨(some 41), (.val (.eq false (.prim 2) (.tmp 3) (.const (.str [42])))), none⟩,
                                ⟨(some 40), (.val (.mov (.tmp 41))), none⟩])
                              (.cond (.tmp 40)
                               (.seq
                                (.region [⟨(some 42), (.val (.build [(.int .i64 0), (.int .i64 0)] [(0, 1, (.const (.int .i64 5))), (1, 1, (.const (.int .i64 13)))])), none⟩,
                                  ⟨none, (.val (.store 2 (.tmp 2) (.tmp 42))), none⟩])
                                .ret)
                               (.seq
                                (.region [⟨(some 44), (.val (.eq false (.prim 2) (.tmp 3) (.const (.str [47])))), none⟩,
                                  ⟨(some 43), (.val (.mov (.tmp 44))), none⟩])
                                (.cond (.tmp 43)
                                 (.seq
                                  (.region [⟨(some 45), (.val (.build [(.int .i64 0), (.int .i64 0)] [(0, 1, (.const (.int .i64 5))), (1, 1, (.const (.int .i64 14)))])), none⟩,
                                    ⟨none, (.val (.store 2 (.tmp 2) (.tmp 45))), none⟩])
                                  .ret)
                                 (.seq
                                  (.region [⟨(some 47), (.val (.eq false (.prim 2) (.tmp 3) (.const (.str [37])))), none⟩,
                                    ⟨(some 46), (.val (.mov (.tmp 47))), none⟩])
                                  (.cond (.tmp 46)
                                   (.seq
                                    (.region [⟨(some 48), (.val (.build [(.int .i64 0), (.int .i64 0)] [(0, 1, (.const (.int .i64 5))), (1, 1, (.const (.int .i64 15)))])), none⟩,
                                      ⟨none, (.val (.store 2 (.tmp 2) (.tmp 48))), none⟩])
                                    .ret)
                                   (.seq
                                    (.region [⟨(some 50), (.val (.eq false (.prim 2) (.tmp 3) (.const (.str [42, 37])))), none⟩,
                                      ⟨(some 49), (.val (.mov (.tmp 50))), none⟩])
                                    (.cond (.tmp 49)
                                     (.seq
                                      (.region [⟨(some 51), (.val (.build [(.int .i64 0), (.int .i64 0)] [(0, 1, (.const (.int .i64 5))), (1, 1, (.const (.int .i64 16)))])), none⟩,
                                        ⟨none, (.val (.store 2 (.tmp 2) (.tmp 51))), none⟩])
                                      .ret)
                                     .skip))))))))))))))))))))))))))))))))))
   (.seq
    (.region [⟨(some 52), (.val (.build [(.int .i64 0), (.int .i64 0)] [])), none⟩,
      ⟨none, (.val (.store 2 (.tmp 2) (.tmp 52))), none⟩])
    .ret))),
 [.cell 2 (some 2)]⟩
theorem ok45 : cFun Try.prog G Try.f45 = some F_expr_ops := by kernel_rfl

/- (*balustrade/expr.Reader).Put -/
abbrev n_expr_Reader_Put : Nat := 46
def F_expr_Reader_Put_l0 : ICode :=
 (.seq
  (.region [⟨(some 12), (.val (.bin .lss (.tmp 11) (.tmp 10))), none⟩])
  (.seq
   (.cond (.tmp 12)
    .skip
    (.exit 0))
   (.seq
    (.block 1
     (.seq
      (.region [⟨(some 13), (.val (.iaddr 1 (.tmp 9) (.tmp 11))), none⟩,
        ⟨(some 14), (.val (.load none (.tmp 13))), none⟩,
        ⟨(some 7), (.val (.mov (.tmp 14))), none⟩])
      (.seq
       (.region [⟨(some 15), (.val (.mov (.tmp 7))), none⟩,
         ⟨(some 16), (.val (.bin .geq (.tmp 15) (.const (.int .i64 0)))), none⟩,
         ⟨(some 17), (.val (.mov (.tmp 16))), none⟩,
         ⟨(some 18), (.val (.mov (.tmp 7))), (some (17, true))⟩,
         ⟨(some 19), (.val (.mov (.tmp 0))), (some (17, true))⟩,
         ⟨(some 20), (.val (.nilck (.tmp 19))), (some (17, true))⟩,
         ⟨(some 21), (.val (.faddr 4 (.tmp 20))), (some (17, true))⟩,
         ⟨(some 22), (.val (.load none (.tmp 21))), (some (17, true))⟩,
         ⟨(some 23), (.val (.len (.tmp 22))), (some (17, true))⟩,
         ⟨(some 24), (.val (.bin .lss (.tmp 18) (.tmp 23))), (some (17, true))⟩,
         ⟨(some 25), (.val (.pick (.tmp 17) (.tmp 24) (.const (.bool false)))), none⟩])
       (.cond (.tmp 25)
        (.region [⟨(some 26), (.val (.mov (.tmp 5))), none⟩,
          ⟨(some 27), (.val (.mov (.tmp 0))), none⟩,
          ⟨(some 28), (.val (.nilck (.tmp 27))), none⟩,
          ⟨(some 29), (.val (.faddr 4 (.tmp 28))), none⟩,
          ⟨(some 30), (.val (.load none (.tmp 29))), none⟩,
          ⟨(some 31), (.val (.mov (.tmp 7))), none⟩,
          ⟨(some 32), (.val (.iaddr 1 (.tmp 30) (.tmp 31))), none⟩,
          ⟨(some 33), (.val (.load none (.tmp 32))), none⟩,
          ⟨(some 34), (.val (.bin .add (.tmp 33) (.const (.int .i64 1)))), none⟩,
          ⟨(some 35), (.val (.max [(.tmp 26), (.tmp 34)])), none⟩,
          ⟨(some 5), (.val (.mov (.tmp 35))), none⟩])
        .skip))))
    (.region [⟨(some 36), (.val (.bin .add (.tmp 11) (.const (.int .i64 1)))), none⟩,
      ⟨(some 11), (.val (.mov (.tmp 36))), none⟩]))))
def F_expr_Reader_Put : IFun :=
 ⟨72,
 (.seq
  (.region [⟨(some 3), (.val (.box 41 (.tmp 1))), none⟩,
    ⟨(some 4), (.val (.mov (.const (.int .i64 0)))), none⟩])
  (.seq
   (.region [⟨(some 5), (.val (.mov (.const (.int .i64 1)))), none⟩])
   (.seq
    (.seq
     (.region [⟨(some 8), (.val (.faddr 1 (.tmp 3))), none⟩,
       ⟨(some 9), (.val (.load none (.tmp 8))), none⟩,
       ⟨(some 10), (.val (.len (.tmp 9))), none⟩,
       ⟨(some 11), (.val (.mov (.const (.int .i64 0)))), none⟩])
     (.block 0
      (.loop F_expr_Reader_Put_l0)))
    (.seq
     (.seq
      (.region [⟨(some 37), (.val (.mov (.tmp 5))), none⟩,
        ⟨(some 38), (.val (.bin .gtr (.tmp 37) (.const (.int .i64 200)))), none⟩])
      (.cond (.tmp 38)
       (.region [⟨(some 39), (.val (.mov (.tmp 0))), none⟩,
         ⟨(some 40), (.val (.faddr 4 (.tmp 3))), none⟩,
         ⟨(some 41), (.val (.load none (.tmp 40))), none⟩,
         ⟨(some 42), (.call (.const (.func 19 [] [])) [(.tmp 39), (.const (.int .i64 4)), (.tmp 41)]), none⟩])
       .skip))
     (.seq
      (.seq
       (.region [⟨(some 43), (.val (.mov (.tmp 0))), none⟩,
         ⟨(some 44), (.call (.const (.func 20 [] [])) [(.tmp 43)]), none⟩,
         ⟨(some 45), (.val (.un .not (.tmp 44))), none⟩])
       (.cond (.tmp 45)
        (.seq
         (.region [⟨(some 4), (.val (.mov (.const (.int .i64 (-1))))), none⟩])
         .ret)
        .skip))
      (.seq
       (.draw [⟨(some 46), (.val (.mov (.tmp 0))), none⟩,
         ⟨(some 47), (.val (.mov (.tmp 0))), none⟩,
         ⟨(some 48), (.val (.mov (.tmp 0))), none⟩,
         ⟨(some 49), (.val (.nilck (.tmp 48))), none⟩,
         ⟨(some 50), (.val (.faddr 3 (.tmp 49))), none⟩,
         ⟨(some 51), (.val (.load none (.tmp 50))), none⟩,
         ⟨(some 52), (.val (.load (some 5) (.tmp 3))), none⟩,
         ⟨(some 53), (.val (.bslice 41 5 1 [(.int .i64 0), .nilslice, (.int .i64 0), (.str []), (.int .i64 0)] [(0, (.tmp 52))])), none⟩,
         ⟨(some 54), (.val (.append 41 5 64 (.tmp 51) (.tmp 53))), none⟩,
         ⟨(some 55), (.val (.mov (.tmp 0))), none⟩,
         ⟨(some 56), (.val (.nilck (.tmp 55))), none⟩,
         ⟨(some 57), (.val (.faddr 4 (.tmp 56))), none⟩,
         ⟨(some 58), (.val (.load none (.tmp 57))), none⟩,
         ⟨(some 59), (.val (.mov (.tmp 5))), none⟩,
         ⟨(some 60), (.val (.bslice 3 1 1 [(.int .i64 0)] [(0, (.tmp 59))])), none⟩,
         ⟨(some 61), (.val (.append 3 1 8 (.tmp 58) (.tmp 60))), none⟩,
         ⟨(some 62), (.val (.nilck (.tmp 46))), none⟩,
         ⟨(some 63), (.val (.faddr 3 (.tmp 62))), none⟩,
         ⟨none, (.val (.store 1 (.tmp 63) (.tmp 54))), none⟩,
         ⟨(some 64), (.val (.nilck (.tmp 47))), none⟩,
         ⟨(some 65), (.val (.faddr 4 (.tmp 64))), none⟩,
         ⟨none, (.val (.store 1 (.tmp 65) (.tmp 61))), none⟩] [(12, 8)])
       (.seq
        (.region [⟨(some 66), (.val (.mov (.tmp 0))), none⟩,
          ⟨(some 67), (.val (.nilck (.tmp 66))), none⟩,
          ⟨(some 68), (.val (.faddr 3 (.tmp 67))), none⟩,
          ⟨(some 69), (.val (.load none (.tmp 68))), none⟩,
          ⟨(some 70), (.val (.len (.tmp 69))), none⟩,
          ⟨(some 71), (.val (.bin .sub (.tmp 70) (.const (.int .i64 1)))), none⟩,
          ⟨(some 4), (.val (.mov (.tmp 71))), none⟩])
        .ret))))))),
 [.tmp 4]⟩
theorem ok46 : cFun Try.prog G Try.f46 = some F_expr_Reader_Put := by kernel_rfl

/- (*balustrade/expr.Reader).Skip -/
abbrev n_expr_Reader_Skip : Nat := 47
def F_expr_Reader_Skip : IFun :=
 ⟨18,
 (.seq
  (.region [⟨(some 4), (.val (.mov (.const (.bool false)))), none⟩])
  (.seq
   (.region [⟨(some 6), (.val (.mov (.tmp 0))), none⟩,
     ⟨(some 7), (.val (.mov (.tmp 1))), none⟩,
     ⟨(some 8), (.call (.const (.func 52 [] [])) [(.tmp 6), (.tmp 7)]), none⟩,
     ⟨(some 5), (.val (.mov (.tmp 8))), none⟩])
   (.seq
    (.seq
     (.region [⟨(some 9), (.val (.mov (.tmp 5))), none⟩])
     (.cond (.tmp 9)
      (.region [⟨(some 10), (.val (.mov (.tmp 0))), none⟩,
        ⟨(some 11), (.val (.nilck (.tmp 10))), none⟩,
        ⟨(some 12), (.val (.faddr 1 (.tmp 11))), none⟩,
        ⟨(some 13), (.val (.load none (.tmp 12))), none⟩,
        ⟨(some 14), (.val (.bin .add (.tmp 13) (.const (.int .i64 1)))), none⟩,
        ⟨(some 15), (.val (.nilck (.tmp 10))), none⟩,
        ⟨(some 16), (.val (.faddr 1 (.tmp 15))), none⟩,
        ⟨none, (.val (.store 1 (.tmp 16) (.tmp 14))), none⟩])
      .skip))
    (.seq
     (.region [⟨(some 17), (.val (.mov (.tmp 5))), none⟩,
       ⟨(some 4), (.val (.mov (.tmp 17))), none⟩])
     .ret)))),
 [.tmp 4]⟩
theorem ok47 : cFun Try.prog G Try.f47 = some F_expr_Reader_Skip := by kernel_rfl

/- (*balustrade/expr.Reader).cells -/
abbrev n_expr_Reader_cells : Nat := 48
def F_expr_Reader_cells_l0 : ICode :=
 (.seq
  (.seq
   (.region [⟨(some 7), (.val (.mov (.tmp 0))), none⟩,
     ⟨(some 8), (.call (.const (.func 52 [] [])) [(.tmp 7), (.const (.str [91]))]), none⟩])
   (.cond (.tmp 8)
    .skip
    (.exit 0)))
  (.block 1
   (.seq
    (.region [⟨(some 9), (.val (.mov (.tmp 0))), none⟩,
      ⟨(some 10), (.call (.const (.func 18 [] [])) [(.tmp 9)]), none⟩,
      ⟨(some 11), (.val (.fld none 3 (.tmp 10))), none⟩,
      ⟨(some 5), (.val (.mov (.tmp 11))), none⟩])
    (.seq
     (.region [⟨(some 12), (.val (.mov (.tmp 0))), none⟩,
       ⟨(some 13), (.call (.const (.func 53 [] [])) [(.tmp 12), (.const (.str [91])), (.const (.str [93]))]), none⟩,
       ⟨(some 6), (.val (.mov (.tmp 13))), none⟩])
     (.region [⟨(some 14), (.val (.mov (.tmp 0))), none⟩,
       ⟨(some 15), (.val (.mov (.tmp 1))), none⟩,
       ⟨(some 16), (.val (.mov (.tmp 6))), none⟩,
       ⟨(some 17), (.val (.bslice 3 1 2 [(.int .i64 0)] [(0, (.tmp 15)), (1, (.tmp 16))])), none⟩,
       ⟨(some 18), (.val (.mov (.tmp 5))), none⟩,
       ⟨(some 19), (.val (.build [(.int .i64 0), .nilslice, (.int .i64 0), (.str []), (.int .i64 0)] [(0, 1, (.const (.int .i64 8))), (1, 1, (.tmp 17)), (4, 1, (.tmp 18))])), none⟩,
       ⟨(some 20), (.call (.const (.func 46 [] [])) [(.tmp 14), (.tmp 19)]), none⟩,
       ⟨(some 1), (.val (.mov (.tmp 20))), none⟩])))))
def F_expr_Reader_cells : IFun :=
 ⟨22,
 (.seq
  (.region [⟨(some 4), (.val (.mov (.const (.int .i64 0)))), none⟩])
  (.seq
   (.block 0
    (.loop F_expr_Reader_cells_l0))
   (.seq
    (.region [⟨(some 21), (.val (.mov (.tmp 1))), none⟩,
      ⟨(some 4), (.val (.mov (.tmp 21))), none⟩])
    .ret))),
 [.tmp 4]⟩
theorem ok48 : cFun Try.prog G Try.f48 = some F_expr_Reader_cells := by kernel_rfl

/- (*balustrade/expr.Reader).atom -/
abbrev n_expr_Reader_atom : Nat := 49
def F_expr_Reader_atom : IFun :=
 ⟨109,
 (.seq
  (.region [⟨(some 2), (.val (.mov (.const (.int .i64 0)))), none⟩])
  (.seq
   (.region [⟨(some 4), (.val (.mov (.tmp 0))), none⟩,
     ⟨(some 5), (.call (.const (.func 18 [] [])) [(.tmp 4)]), none⟩,
     ⟨(some 3), (.val (.alloc 38 [(.int .i64 0), (.str []), (.int .i64 0), (.int .i64 0)])), none⟩,
     ⟨none, (.val (.store 4 (.tmp 3) (.tmp 5))), none⟩])
   (.seq
    (.block 0
     (.seq
      (.region [⟨(some 7), (.val (.mov (.tmp 0))), none⟩,
        ⟨(some 8), (.call (.const (.func 20 [] [])) [(.tmp 7)]), none⟩,
        ⟨(some 9), (.val (.un .not (.tmp 8))), none⟩,
        ⟨(some 6), (.val (.mov (.tmp 9))), none⟩])
      (.cond (.tmp 6)
       (.seq
        (.region [⟨(some 2), (.val (.mov (.const (.int .i64 (-1))))), none⟩])
        .ret)
       (.seq
        (.region [⟨(some 11), (.val (.mov (.tmp 0))), none⟩,
          ⟨(some 12), (.call (.const (.func 52 [] [])) [(.tmp 11), (.const (.str [40]))]), none⟩,
          ⟨(some 10), (.val (.mov (.tmp 12))), none⟩])
        (.cond (.tmp 10)
         (.seq
          (.region [⟨(some 13), (.val (.mov (.tmp 0))), none⟩,
            ⟨(some 14), (.call (.const (.func 53 [] [])) [(.tmp 13), (.const (.str [40])), (.const (.str [41]))]), none⟩,
            ⟨(some 2), (.val (.mov (.tmp 14))), none⟩])
          .ret)
         (.seq
          (.region [⟨(some 16), (.val (.faddr 0 (.tmp 3))), none⟩,
            ⟨(some 17), (.val (.load none (.tmp 16))), none⟩,
            ⟨(some 18), (.val (.eq false (.prim 1) (.tmp 17) (.const (.int .i64 2)))), none⟩,
            ⟨(some 15), (.val (.mov (.tmp 18))), none⟩])
          (.cond (.tmp 15)
           (.seq
            (.region [⟨(some 19), (.val (.mov (.tmp 0))), none⟩,
              ⟨(some 20), (.val (.nilck (.tmp 19))), none⟩,
              ⟨(some 21), (.val (.faddr 1 (.tmp 20))), none⟩,
              ⟨(some 22), (.val (.load none (.tmp 21))), none⟩,
              ⟨(some 23), (.val (.bin .add (.tmp 22) (.const (.int .i64 1)))), none⟩,
              ⟨(some 24), (.val (.nilck (.tmp 19))), none⟩,
              ⟨(some 25), (.val (.faddr 1 (.tmp 24))), none⟩,
              ⟨none, (.val (.store 1 (.tmp 25) (.tmp 23))), none⟩])
            (.seq
             (.region [⟨(some 26), (.val (.mov (.tmp 0))), none⟩,
               ⟨(some 27), (.val (.faddr 2 (.tmp 3))), none⟩,
               ⟨(some 28), (.val (.load none (.tmp 27))), none⟩,
               ⟨(some 29), (.val (.faddr 3 (.tmp 3))), none⟩,
               ⟨(some 30), (.val (.load none (.tmp 29))), none⟩,
               ⟨(some 31), (.val (.build [(.int .i64 0), .nilslice, (.int .i64 0), (.str []), (.int .i64 0)] [(0, 1, (.const (.int .i64 1))), (2, 1, (.tmp 28)), (4, 1, (.tmp 30))])), none⟩,
               ⟨(some 32), (.call (.const (.func 46 [] [])) [(.tmp 26), (.tmp 31)]), none⟩,
               ⟨(some 2), (.val (.mov (.tmp 32))), none⟩])
             .ret))
           (.seq
            (.region [⟨(some 34), (.val (.faddr 0 (.tmp 3))), none⟩,
              ⟨(some 35), (.val (.load none (.tmp 34))), none⟩,
              ⟨(some 36), (.val (.eq false (.prim 1) (.tmp 35) (.const (.int .i64 1)))), none⟩,
              ⟨(some 33), (.val (.mov (.tmp 36))), none⟩])
            (.cond (.tmp 33)
             (.seq
              (.region [⟨(some 37), (.val (.mov (.tmp 0))), none⟩,
                ⟨(some 38), (.val (.nilck (.tmp 37))), none⟩,
                ⟨(some 39), (.val (.faddr 1 (.tmp 38))), none⟩,
                ⟨(some 40), (.val (.load none (.tmp 39))), none⟩,
                ⟨(some 41), (.val (.bin .add (.tmp 40) (.const (.int .i64 1)))), none⟩,
                ⟨(some 42), (.val (.nilck (.tmp 37))), none⟩,
                ⟨(some 43), (.val (.faddr 1 (.tmp 42))), none⟩,
                ⟨none, (.val (.store 1 (.tmp 43) (.tmp 41))), none⟩])
              (.seq
               (.seq
                (.region [⟨(some 44), (.val (.mov (.tmp 0))), none⟩,
                  ⟨(some 45), (.call (.const (.func 52 [] [])) [(.tmp 44), (.const (.str [40]))]), none⟩])
                (.cond (.tmp 45)
                 (.seq
                  (.region [⟨(some 46), (.val (.mov (.tmp 0))), none⟩,
                    ⟨(some 47), (.val (.faddr 1 (.tmp 3))), none⟩,
                    ⟨(some 48), (.val (.load none (.tmp 47))), none⟩,
                    ⟨(some 49), (.val (.faddr 3 (.tmp 3))), none⟩,
                    ⟨(some 50), (.val (.load none (.tmp 49))), none⟩,
                    ⟨(some 51), (.call (.const (.func 54 [] [])) [(.tmp 46), (.tmp 48), (.tmp 50)]), none⟩,
                    ⟨(some 2), (.val (.mov (.tmp 51))), none⟩])
                  .ret)
                 .skip))
               (.seq
                (.region [⟨(some 52), (.val (.mov (.tmp 0))), none⟩,
                  ⟨(some 53), (.val (.faddr 1 (.tmp 3))), none⟩,
                  ⟨(some 54), (.val (.load none (.tmp 53))), none⟩,
                  ⟨(some 55), (.val (.faddr 3 (.tmp 3))), none⟩,
                  ⟨(some 56), (.val (.load none (.tmp 55))), none⟩,
                  ⟨(some 57), (.val (.build [(.int .i64 0), .nilslice, (.int .i64 0), (.str []), (.int .i64 0)] [(0, 1, (.const (.int .i64 4))), (3, 1, (.tmp 54)), (4, 1, (.tmp 56))])), none⟩,
                  ⟨(some 58), (.call (.const (.func 46 [] [])) [(.tmp 52), (.tmp 57)]), none⟩,
                  ⟨(some 2), (.val (.mov (.tmp 58))), none⟩])
                .ret)))
             (.seq
              (.region [⟨(some 60), (.val (.mov (.tmp 0))), none⟩,
                ⟨(some 61), (.call (.const (.func 47 [] [])) [(.tmp 60), (.const (.str [116, 114, 117, 101]))]), none⟩,
                ⟨(some 59), (.val (.mov (.tmp 61))), none⟩])
              (.cond (.tmp 59)
               (.seq
                (.region [⟨(some 62), (.val (.mov (.tmp 0))), none⟩,
                  ⟨(some 63), (.val (.faddr 3 (.tmp 3))), none⟩,
                  ⟨(some 64), (.val (.load none (.tmp 63))), none⟩,
                  ⟨(some 65), (.val (.build [(.int .i64 0), .nilslice, (.int .i64 0), (.str []), (.int .i64 0)] [(0, 1, (.const (.int .i64 2))), (2, 1, (.const (.int .i64 1))), (4, 1, (.tmp 64))])), none⟩,
                  ⟨(some 66), (.call (.const (.func 46 [] [])) [(.tmp 62), (.tmp 65)]), none⟩,
                  ⟨(some 2), (.val (.mov (.tmp 66))), none⟩])
                .ret)
               (.seq
                (.region [⟨(some 68), (.val (.mov (.tmp 0))), none⟩,
                  ⟨(some 69), (.call (.const (.func 47 [] [])) [(.tmp 68), (.const (.str [102, 97, 108, 115, 101]))]), none⟩,
                  ⟨(some 67), (.val (.mov (.tmp 69))), none⟩])
                (.cond (.tmp 67)
                 (.seq
                  (.region [⟨(some 70), (.val (.mov (.tmp 0))), none⟩,
                    ⟨(some 71), (.val (.faddr 3 (.tmp 3))), none⟩,
                    ⟨(some 72), (.val (.load none (.tmp 71))), none⟩,
                    ⟨(some 73), (.val (.build [(.int .i64 0), .nilslice, (.int .i64 0), (.str []), (.int .i64 0)] [(0, 1, (.const (.int .i64 2))), (4, 1, (.tmp 72))])), none⟩,
                    ⟨(some 74), (.call (.const (.func 46 [] [])) [(.tmp 70), (.tmp 73)]), none⟩,
                    ⟨(some 2), (.val (.mov (.tmp 74))), none⟩])
                  .ret)
                 (.seq
                  (.region [⟨(some 76), (.val (.mov (.tmp 0))), none⟩,
                    ⟨(some 77), (.call (.const (.func 47 [] [])) [(.tmp 76), (.const (.str [110, 105, 108]))]), none⟩,
                    ⟨(some 75), (.val (.mov (.tmp 77))), none⟩])
                  (.cond (.tmp 75)
                   (.seq
                    (.region [⟨(some 78), (.val (.mov (.tmp 0))), none⟩,
                      ⟨(some 79), (.val (.faddr 3 (.tmp 3))), none⟩,
                      ⟨(some 80), (.val (.load none (.tmp 79))), none⟩,
                      ⟨(some 81), (.val (.build [(.int .i64 0), .nilslice, (.int .i64 0), (.str []), (.int .i64 0)] [(0, 1, (.const (.int .i64 3))), (4, 1, (.tmp 80))])), none⟩,
                      ⟨(some 82), (.call (.const (.func 46 [] [])) [(.tmp 78), (.tmp 81)]), none⟩,
                      ⟨(some 2), (.val (.mov (.tmp 82))), none⟩])
                    .ret)
                   (.seq
                    (.region [⟨(some 84), (.val (.mov (.tmp 0))), none⟩,
                      ⟨(some 85), (.call (.const (.func 47 [] [])) [(.tmp 84), (.const (.str [108, 101, 110]))]), none⟩,
                      ⟨(some 83), (.val (.mov (.tmp 85))), none⟩])
                    (.cond (.tmp 83)
                     (.seq
                      (.draw [⟨(some 86), (.val (.mov (.tmp 0))), none⟩,
                        ⟨(some 87), (.val (.mov (.tmp 0))), none⟩,
                        ⟨(some 88), (.call (.const (.func 53 [] [])) [(.tmp 87), (.const (.str [40])), (.const (.str [41]))]), none⟩,
                        ⟨(some 89), (.val (.bslice 3 1 1 [(.int .i64 0)] [(0, (.tmp 88))])), none⟩,
                        ⟨(some 90), (.val (.faddr 3 (.tmp 3))), none⟩,
                        ⟨(some 91), (.val (.load none (.tmp 90))), none⟩,
                        ⟨(some 92), (.val (.build [(.int .i64 0), .nilslice, (.int .i64 0), (.str []), (.int .i64 0)] [(0, 1, (.const (.int .i64 9))), (1, 1, (.tmp 89)), (4, 1, (.tmp 91))])), none⟩,
                        ⟨(some 93), (.call (.const (.func 46 [] [])) [(.tmp 86), (.tmp 92)]), none⟩,
                        ⟨(some 2), (.val (.mov (.tmp 93))), none⟩] [(5, 2)])
                      .ret)
                     (.seq
                      (.region [⟨(some 95), (.val (.mov (.tmp 0))), none⟩,
                        ⟨(some 96), (.call (.const (.func 47 [] [])) [(.tmp 95), (.const (.str [110, 101, 119]))]), none⟩,
                        ⟨(some 94), (.val (.mov (.tmp 96))), none⟩])
                      (.cond (.tmp 94)
                       (.seq
                        (.draw [⟨(some 97), (.val (.mov (.tmp 0))), none⟩,
                          ⟨(some 98), (.val (.mov (.tmp 0))), none⟩,
                          ⟨(some 99), (.call (.const (.func 53 [] [])) [(.tmp 98), (.const (.str [40])), (.const (.str [41]))]), none⟩,
                          ⟨(some 100), (.val (.bslice 3 1 1 [(.int .i64 0)] [(0, (.tmp 99))])), none⟩,
                          ⟨(some 101), (.val (.faddr 3 (.tmp 3))), none⟩,
                          ⟨(some 102), (.val (.load none (.tmp 101))), none⟩,
                          ⟨(some 103), (.val (.build [(.int .i64 0), .nilslice, (.int .i64 0), (.str []), (.int .i64 0)] [(0, 1, (.const (.int .i64 10))), (1, 1, (.tmp 100)), (4, 1, (.tmp 102))])), none⟩,
                          ⟨(some 104), (.call (.const (.func 46 [] [])) [(.tmp 97), (.tmp 103)]), none⟩,
                          ⟨(some 2), (.val (.mov (.tmp 104))), none⟩] [(5, 2)])
                        .ret)
                       .skip)))))))))))))))))))
    (.seq
     (.region [⟨(some 105), (.val (.mov (.tmp 0))), none⟩,
       ⟨(some 106), (.val (.faddr 3 (.tmp 3))), none⟩,
       ⟨(some 107), (.val (.load none (.tmp 106))), none⟩,
       ⟨(some 108), (.call (.const (.func 19 [] [])) [(.tmp 105), (.const (.int .i64 8)), (.tmp 107)]), none⟩])
     (.seq
      (.region [⟨(some 2), (.val (.mov (.const (.int .i64 (-1))))), none⟩])
      .ret))))),
 [.tmp 2]⟩
theorem ok49 : cFun Try.prog G Try.f49 = some F_expr_Reader_atom := by kernel_rfl

end Go.Proofs.Ytjgbofonigpjaaa.Ev
end
