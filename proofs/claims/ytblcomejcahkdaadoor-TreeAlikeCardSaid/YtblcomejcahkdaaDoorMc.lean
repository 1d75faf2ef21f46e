/- EvCode, EvF0, EvF1, EvF2. -/
import Derived.Scope
import Derived.Recover
import Derived.KernelRfl
import Derived.Test.YtblcomejcahkdaaDoorChecked
import Derived.Test.YtblcomejcahkdaaDoorMb
set_option linter.unusedSimpArgs false
set_option linter.unusedVariables false
set_option linter.unusedSectionVars false
section
namespace Go.Proofs.YtblcomejcahkdaaDoor.Ev
open Go
section
variable {P : Program} {G : List Nat} {n : Nat} {call : Call}

theorem DefsR.nil_of {ρ : Ren} {ds : List Deferred} (h : DefsR ρ [] ds) : ds = [] := by cases h; rfl
theorem wp_loop_fuel {Q : Exit → Act → World → Prop} {a : Act} {w : World} {c : Code} (I : Nat → Act → World → Prop) (j : Nat) (h₀ : I j a w)
    (round : ∀ j a w, I j a w → c.wp P (Exit.then (fun a' w' => ∃ i, i < j ∧ I i a' w') Q) a w) : (Code.loop c).wp P Q a w := by
  intro b k cs
  have key : ∀ j a w, I j a w → ∃ e a' w', Q e a' w' ∧ Arrives P (lone (b.at a (.code c :: .inLoop c :: k)) cs w) b k cs e a' w' := by
    intro j
    induction j using Nat.strongRecOn with
    | _ j ih =>
      intro a w hI
      obtain ⟨e, a₁, w₁, hq, harr⟩ := round j a w hI b (.inLoop c :: k) cs
      cases e with
      | normal =>
        obtain ⟨i, hlt, hI₁⟩ := hq
        obtain ⟨e₂, a₂, w₂, hq₂, harr₂⟩ := ih i hlt a₁ w₁ hI₁
        exact ⟨e₂, a₂, w₂, hq₂, .of_steps (Steps.trans harr (.one step_inLoop)) harr₂⟩
      | exit id => exact ⟨_, a₁, w₁, hq, .pass (x := .inLoop c) rfl (fun _ _ => .inl (by simp)) harr⟩
      | goto l => exact ⟨_, a₁, w₁, hq, .pass (x := .inLoop c) rfl (fun _ _ => .inl (by simp)) harr⟩
      | ret => exact ⟨_, a₁, w₁, hq, .pass (x := .inLoop c) rfl (fun _ _ => .inl (by simp)) harr⟩
      | panic ch => exact ⟨_, a₁, w₁, hq, .pass (x := .inLoop c) rfl (fun _ _ => .inl (by simp)) harr⟩
      | outgrown => exact ⟨_, a₁, w₁, hq, .pass (x := .inLoop c) rfl (fun _ _ => .inl (by simp)) harr⟩
  obtain ⟨e, a', w', hq, harr⟩ := key j a w h₀
  exact ⟨e, a', w', hq, .of_steps (.one step_loop) harr⟩

theorem code_sound (hmix : P.follows .mixedOrders = true) (hcall : CallOk P G call) (k : Nat) {base : Nat} : ∀ (c : Code) (ic : ICode), cCode P G n c = some ic →
    ∀ (ρ : Ren) (m : Mem) (w : World) (fr : Fr) (a : Act) (out : Out), R base ρ m w → Globs G ρ → FrR ρ n fr a → evCode call k ic fr m = some out → c.wp P (Reach base n ρ m w out) a w
  | .skip, ic, hc, ρ, m, w, fr, a, out, hR, hG, hF, h => by
    simp only [cCode, Option.some.injEq] at hc; subst hc
    simp only [evCode, Option.some.injEq] at h; subst h
    exact wp_skip ⟨rfl, ρ, hR, .refl _ _ _, hF⟩
  | .label l, ic, hc, ρ, m, w, fr, a, out, hR, hG, hF, h => by
    simp only [cCode, Option.some.injEq] at hc; subst hc
    simp only [evCode, Option.some.injEq] at h; subst h
    exact wp_label ⟨rfl, ρ, hR, .refl _ _ _, hF⟩
  | .exit id, ic, hc, ρ, m, w, fr, a, out, hR, hG, hF, h => by
    simp only [cCode, Option.some.injEq] at hc; subst hc
    simp only [evCode, Option.some.injEq] at h; subst h
    exact wp_exit ⟨rfl, ρ, hR, .refl _ _ _, hF⟩
  | .ret, ic, hc, ρ, m, w, fr, a, out, hR, hG, hF, h => by
    simp only [cCode, Option.some.injEq] at hc; subst hc
    simp only [evCode, Option.some.injEq] at h; subst h
    exact wp_ret ⟨rfl, ρ, hR, .refl _ _ _, hF⟩
  | .region id ops false, ic, hc, ρ, m, w, fr, a, out, hR, hG, hF, h => by
    simp only [cCode] at hc
    obtain ⟨is, his, rfl⟩ := map_some' hc
    simp only [evCode] at h
    refine wp_region ?_
    obtain ⟨h1, h2⟩ := mapM_some _ his
    refine ops_sound hcall is (List.range ops.size) (by simpa using h1.symm) (fun j i io hj hio => ?_) ρ m w fr a out hR hG hF h
    have hlt : j < ops.size := by
      have := (List.getElem?_eq_some_iff.1 hj).1
      simpa using this
    rw [List.getElem?_range hlt] at hj
    cases hj
    exact ⟨ops[j], Array.getElem?_eq_getElem hlt, h2 j ops[j] io (by simp [hlt]) hio⟩
  | .region id ops true, ic, hc, ρ, m, w, fr, a, out, hR, hG, hF, h => by
    simp only [cCode] at hc
    cases his : ops.toList.mapM (cOper P G n ops) with
    | none => simp [his] at hc
    | some is =>
      simp only [his] at hc
      obtain ⟨chk, hchk, rfl⟩ := map_some' hc
      simp only [evCode] at h
      exact draw_sound hmix hcall his hchk hR hG hF h
  | .seq x y, ic, hc, ρ, m, w, fr, a, out, hR, hG, hF, h => by
    simp only [cCode] at hc
    cases hx : cCode P G n x with
    | none => simp [hx] at hc
    | some ix =>
    cases hy : cCode P G n y with
    | none => simp [hx, hy] at hc
    | some iy =>
    simp only [hx, hy, Option.some.injEq] at hc
    subst hc
    simp only [evCode] at h
    cases h1 : evCode call k ix fr m with
    | none => simp [h1] at h
    | some o1 =>
      simp only [h1] at h
      have hw := code_sound hmix hcall k x ix hx ρ m w fr a o1 hR hG hF h1
      refine wp_seq (wp_mono hw fun e a1 w1 hq => ?_)
      cases o1 with
      | norm fr1 m1 =>
        obtain ⟨rfl, ρ1, hR1, hs, hF1⟩ := hq
        simp only [Exit.then]
        have := code_sound hmix hcall k y iy hy ρ1 m1 w1 fr1 a1 out hR1 (hG.ext hs.ext) hF1 h
        exact wp_mono this fun e a w hq => hq.after hs
      | exit id fr1 m1 =>
        simp only [Option.some.injEq] at h; subst h
        have := hq; obtain ⟨rfl, _⟩ := this; exact hq
      | ret fr1 m1 =>
        simp only [Option.some.injEq] at h; subst h
        have := hq; obtain ⟨rfl, _⟩ := this; exact hq
      | pan v fr1 m1 =>
        simp only [Option.some.injEq] at h; subst h
        have := hq; obtain ⟨_, _, rfl, _⟩ := this; exact hq
  | .cond c x y, ic, hc, ρ, m, w, fr, a, out, hR, hG, hF, h => by
    simp only [cCode] at hc
    cases hcc : cOpd G c with
    | none => simp [hcc] at hc
    | some c' =>
    cases hx : cCode P G n x with
    | none => simp [hcc, hx] at hc
    | some ix =>
    cases hy : cCode P G n y with
    | none => simp [hcc, hx, hy] at hc
    | some iy =>
    simp only [hcc, hx, hy, Option.some.injEq] at hc
    subst hc
    simp only [evCode] at h
    have hcv := cOpd_sound hG hF.tm hcc
    cases hev : fr.eval c' <;> simp only [hev, reduceCtorEq] at h
    rename_i t
    rw [hev] at hcv
    generalize hav : a.eval c = av at hcv
    cases hcv
    refine wp_cond hav ?_
    cases t with
    | true => exact code_sound hmix hcall k x ix hx ρ m w fr a out hR hG hF h
    | false => exact code_sound hmix hcall k y iy hy ρ m w fr a out hR hG hF h
  | .block id x, ic, hc, ρ, m, w, fr, a, out, hR, hG, hF, h => by
    simp only [cCode] at hc
    obtain ⟨ix, hx, rfl⟩ := map_some' hc
    simp only [evCode] at h
    cases h1 : evCode call k ix fr m with
    | none => simp [h1] at h
    | some o1 =>
      simp only [h1] at h
      have hw := code_sound hmix hcall k x ix hx ρ m w fr a o1 hR hG hF h1
      refine wp_block (wp_mono hw fun e a1 w1 hq => ?_)
      cases o1 with
      | norm fr1 m1 =>
        simp only [Option.some.injEq] at h; subst h
        have := hq; obtain ⟨rfl, _⟩ := this; exact hq
      | exit j fr1 m1 =>
        obtain ⟨rfl, hq⟩ := hq
        simp only [Exit.inBlock]
        cases hj : j.beq id <;> simp only [hj, cond_true, cond_false, Option.some.injEq] at h <;> subst h
        · rw [if_neg (of_beq_ff hj)]; exact ⟨rfl, hq⟩
        · rw [if_pos (of_beq hj)]; exact ⟨rfl, hq⟩
      | ret fr1 m1 =>
        simp only [Option.some.injEq] at h; subst h
        have := hq; obtain ⟨rfl, _⟩ := this; exact hq
      | pan v fr1 m1 =>
        simp only [Option.some.injEq] at h; subst h
        have := hq; obtain ⟨_, _, rfl, _⟩ := this; exact hq
  | .loop x, ic, hc, ρ, m, w, fr, a, out, hR, hG, hF, h => by
    simp only [cCode] at hc
    obtain ⟨ix, hx, rfl⟩ := map_some' hc
    simp only [evCode] at h
    refine wp_loop_fuel (fun j a1 w1 => ∃ ρ1 m1 fr1, R base ρ1 m1 w1 ∧ Step ρ m w ρ1 m1 w1 ∧ FrR ρ1 n fr1 a1 ∧ iter (evCode call k ix) j fr1 m1 = some out) k ⟨ρ, m, fr, hR, .refl _ _ _, hF, h⟩ ?_
    rintro j a1 w1 ⟨ρ1, m1, fr1, hR1, hs, hF1, hit⟩
    cases j with
    | zero => simp [iter] at hit
    | succ j =>
      simp only [iter] at hit
      cases h1 : evCode call k ix fr1 m1 with
      | none => simp [h1] at hit
      | some o1 =>
        simp only [h1] at hit
        have hw := code_sound hmix hcall k x ix hx ρ1 m1 w1 fr1 a1 o1 hR1 (hG.ext hs.ext) hF1 h1
        refine wp_mono hw fun e a2 w2 hq => ?_
        cases o1 with
        | norm fr2 m2 =>
          obtain ⟨rfl, ρ2, hR2, hs2, hF2⟩ := hq
          exact ⟨j, Nat.lt_succ_self j, ρ2, m2, fr2, hR2, hs.trans hs2, hF2, hit⟩
        | exit id fr2 m2 =>
          simp only [Option.some.injEq] at hit; subst hit
          have := hq; obtain ⟨rfl, _⟩ := this; exact hq.after hs
        | ret fr2 m2 =>
          simp only [Option.some.injEq] at hit; subst hit
          have := hq; obtain ⟨rfl, _⟩ := this; exact hq.after hs
        | pan v fr2 m2 =>
          simp only [Option.some.injEq] at hit; subst hit
          have := hq; obtain ⟨_, _, rfl, _⟩ := this; exact hq.after hs
  | .scope x, ic, hc, ρ, m, w, fr, a, out, hR, hG, hF, h => by
    simp only [cCode] at hc
    refine wp_scope_straight (wp_mono (code_sound hmix hcall k x ic hc ρ m w fr a out hR hG hF h) fun e a1 w1 hq => ?_)
    cases out with
    | norm fr1 m1 => have := hq; obtain ⟨rfl, _⟩ := this; exact hq
    | exit id fr1 m1 => have := hq; obtain ⟨rfl, _⟩ := this; exact hq
    | ret fr1 m1 => have := hq; obtain ⟨rfl, _⟩ := this; exact hq
    | pan v fr1 m1 => have := hq; obtain ⟨_, _, rfl, _⟩ := this; exact hq
  | .goto l, ic, hc, ρ, m, w, fr, a, out, hR, hG, hF, h => by simp [cCode] at hc
  | .refuse l, ic, hc, ρ, m, w, fr, a, out, hR, hG, hF, h => by simp [cCode] at hc
  | .rangeFunc f ps s b, ic, hc, ρ, m, w, fr, a, out, hR, hG, hF, h => by simp [cCode] at hc

theorem args0_get : ∀ (l : List EV) (i : Nat) (t : Tr EV) (k : Nat), (args0 l i t).get k = if i ≤ k ∧ k < i + l.length then l[k - i]? else t.get k
  | [], i, t, k => by rw [if_neg (fun h => by have := h.2; simp at this; omega)]; rfl
  | v :: l, i, t, k => by
    simp only [args0]
    rw [args0_get l (i + 1) (t.set i v) k, Tr.get_set]
    by_cases h : k = i
    · subst h
      rw [if_neg (by omega), if_pos rfl, if_pos (by simp)]
      simp
    · by_cases h2 : i + 1 ≤ k ∧ k < i + 1 + l.length
      · rw [if_pos h2, if_pos (by simp; omega), show k - i = (k - (i + 1)) + 1 by omega]
        simp
      · rw [if_neg h2, if_neg h, if_neg (by simp; omega)]
theorem frame_start {ρ : Ren} {args : List EV} {args' : Array Value} (hv : VRs ρ args args'.toList) (hn : args'.size ≤ n) : FrR ρ n ⟨args0 args 0 .leaf, []⟩ { tmps := args' ++ Array.replicate (n - args'.size) undef, defers := [] } := by
  have hl := hv.length
  simp at hl
  refine ⟨⟨by simp; omega, fun t => ?_⟩, .nil⟩
  unfold Fr.get
  simp only
  rw [args0_get, Tr.get_leaf]
  by_cases h : 0 ≤ t ∧ t < 0 + args.length
  · rw [if_pos h]
    have hlt : t < args.length := by omega
    obtain ⟨v', g1, g2⟩ := hv.get t args[t] (List.getElem?_eq_getElem hlt)
    rw [show t - 0 = t by omega, List.getElem?_eq_getElem hlt]
    rw [Array.getD_eq_getD_getElem?, Array.getElem?_append_left (by omega)]
    rw [Array.getElem?_toList] at g1
    rw [g1]
    exact g2
  · rw [if_neg h]
    have hlt : args'.size ≤ t := by omega
    have e : (args' ++ Array.replicate (n - args'.size) undef).getD t undef = undef := by
      rw [Array.getD_eq_getD_getElem?, Array.getElem?_append_right hlt, Array.getElem?_replicate]
      split <;> rfl
    rw [e]
    exact .undef
theorem results_sound {base : Nat} {ρ : Ren} {m : Mem} {w : World} {fr : Fr} {a : Act} (hR : R base ρ m w) (hF : FR ρ n fr a) : ∀ (rs : List ResultVar) (irs : List IRes) (vs : List EV), rs.mapM (cRes P) = some irs → evResults fr m irs = some vs →
    ∃ vs', (rs.mapM fun r => (match r with | .tmp t => pure (a.tmps.getD t undef) | .cell ad t => do loadVar t (← asAddr (a.tmps.getD ad undef)) : Sem Value)).run P w = .ok vs' w ∧ VRs ρ vs vs'
  | [], irs, vs, hc, h => by
    simp at hc; subst hc
    simp [evResults] at h; subst h
    exact ⟨[], rfl, .nil⟩
  | r :: rs, irs, vs, hc, h => by
    rw [List.mapM_cons] at hc
    cases hr : cRes P r with
    | none => simp [hr] at hc
    | some ir =>
    cases hrs : rs.mapM (cRes P) with
    | none => simp [hr, hrs] at hc
    | some irs' =>
    simp [hr, hrs] at hc
    subst hc
    simp only [evResults] at h
    cases hv : evRes fr m ir with
    | none => simp [hv] at h
    | some v =>
    simp only [hv] at h
    obtain ⟨vs0, h0, rfl⟩ := map_some' h
    obtain ⟨vs', r1, r2⟩ := results_sound hR hF rs irs' vs0 hrs h0
    cases r with
    | tmp t =>
      simp only [cRes, Option.some.injEq] at hr; subst hr
      simp only [evRes, Option.some.injEq] at hv; subst hv
      exact ⟨a.tmps.getD t undef :: vs', by simp only [List.mapM_cons, Sem.run_bind, Sem.run_pure, Result.andThen_ok, r1], .cons (hF.tmp t) r2⟩
    | cell ad t =>
      simp only [cRes] at hr
      obtain ⟨g, hg, rfl⟩ := map_some' hr
      simp only [evRes] at hv
      obtain ⟨ad', v', e1, e2, e3⟩ := loadVar_sound (P := P) hR hg (hF.tmp ad) hv
      have ea : (asAddr (a.tmps.getD ad undef)).run P w = .ok ad' w := by rw [e1]; rfl
      exact ⟨v' :: vs', by simp only [List.mapM_cons, Sem.run_bind, ea, Sem.run_pure, Result.andThen_ok, e2, r1], .cons e3 r2⟩
theorem one_sound {ρ : Ren} {vs : List EV} {vs' : List Value} (h : VRs ρ vs vs') : VR ρ (one vs) (if hh : (⟨vs'⟩ : Array Value).size = 1 then (⟨vs'⟩ : Array Value)[0] else .tuple ⟨vs'⟩) := by
  cases h with
  | nil => exact .tuple .nil
  | cons hx hs =>
    cases hs with
    | nil => simpa [one] using hx
    | cons hy hs =>
      simp only [one]
      rw [dif_neg (by simp)]
      exact .tuple (.cons hx (.cons hy hs))
def DefOk (P : Program) (G : List Nat) (g : Nat) (b : Option Nat) (FD : IFun) : Prop := ∃ fn, P.funcs[g]? = some fn ∧ match b with
  | none => cFun P G fn = some FD
  | some d => cFunR P G fn = some (d, FD)
def EntOk (P : Program) (G : List Nat) (f : Nat) : Ent → Prop
  | .go F => ∃ fn, P.funcs[f]? = some fn ∧ cFun P G fn = some F
  | .ext g => ∀ base ρ m w args (args' : Array Value) v, R base ρ m w → VRs ρ args args'.toList → g args = some v → ∃ v', (callFunc f args').run P w = .ok (.value v') w ∧ VR ρ v v'
  | .pure g => ∀ base ρ m w args (args' : Array Value) v, R base ρ m w → VRs ρ args args'.toList → g args = some v → (callFunc f args').run P w = .ok (.enter f args') w ∧ Calls P f args' w (CallPost base ρ m w (.ret v m))
  | .spec g => ∀ base ρ m w args (args' : Array Value) fin, R base ρ m w → Globs G ρ → VRs ρ args args'.toList → g args m = some fin → (callFunc f args').run P w = .ok (.enter f args') w ∧ Calls P f args' w (CallPost base ρ m w fin)
  | .dgo F D => (∃ fn, P.funcs[f]? = some fn ∧ cFun P G fn = some F) ∧ ∀ g b FD, dfind g D = some (b, FD) → DefOk P G g b FD
theorem done_sound {base : Nat} {ρ : Ren} {m : Mem} {w : World} {fr : Fr} {a : Act} {fn : Func} {r : List IRes} (hrr : fn.results.toList.mapM (cRes P) = some r) (hR : R base ρ m w) (hF : FR ρ n fr a) {vs : List EV} (hvs : evResults fr m r = some vs) :
    ∃ v, (results fn a.tmps).run P w = .ok v w ∧ VR ρ (one vs) v := by
  obtain ⟨vs', r1, r2⟩ := results_sound (P := P) hR hF fn.results.toList r vs hrr hvs
  refine ⟨_, ?_, one_sound r2⟩
  simp only [results, Sem.run_bind]
  rw [Array.mapM_eq_mapM_toList, Sem.run_map]
  erw [r1]
  rfl
theorem cFun_inv {fn : Func} {F : IFun} (hc : cFun P G fn = some F) : ∃ c b r, fn.body = some c ∧ (fn.name == "runtime.NumGoroutine") = false ∧ cCode P G fn.ntmps c = some b ∧ fn.results.toList.mapM (cRes P) = some r ∧ F = ⟨fn.ntmps, b, r⟩ := by
  unfold cFun at hc
  cases hb : fn.body with
  | none => simp [hb] at hc
  | some c =>
  simp only [hb] at hc
  cases hnm : fn.name == "runtime.NumGoroutine" <;> simp only [hnm, cond_true, cond_false, reduceCtorEq] at hc
  cases hcc : cCode P G fn.ntmps c with
  | none => simp [hcc] at hc
  | some b =>
  cases hrr : fn.results.toList.mapM (cRes P) with
  | none => simp [hcc, hrr] at hc
  | some r =>
  simp only [hcc, hrr, Option.some.injEq] at hc
  exact ⟨c, b, r, rfl, rfl, hcc, rfl, hc.symm⟩
theorem cFunR_inv {fn : Func} {d : Nat} {F : IFun} (hc : cFunR P G fn = some (d, F)) : ∃ c b r, fn.body = some c ∧ (fn.name == "runtime.NumGoroutine") = false ∧ cCodeR P G fn.ntmps c = some (d, b) ∧ fn.results.toList.mapM (cRes P) = some r ∧ F = ⟨fn.ntmps, b, r⟩ := by
  unfold cFunR at hc
  cases hb : fn.body with
  | none => simp [hb] at hc
  | some c =>
  simp only [hb] at hc
  cases hnm : fn.name == "runtime.NumGoroutine" <;> simp only [hnm, cond_true, cond_false, reduceCtorEq] at hc
  cases hcc : cCodeR P G fn.ntmps c with
  | none => simp [hcc] at hc
  | some q =>
  obtain ⟨d', b⟩ := q
  cases hrr : fn.results.toList.mapM (cRes P) with
  | none => simp [hcc, hrr] at hc
  | some r =>
  simp only [hcc, hrr, Option.some.injEq, Prod.mk.injEq] at hc
  obtain ⟨rfl, rfl⟩ := hc
  exact ⟨c, b, r, rfl, rfl, hcc, rfl, rfl⟩
theorem enters_fn {f : Nat} {fn : Func} (hf : P.funcs[f]? = some fn) {c : Code} (hb : fn.body = some c) (hnm : (fn.name == "runtime.NumGoroutine") = false) {args' : Array Value} {w : World} : (callFunc f args').run P w = .ok (.enter f args') w := by
  simp [callFunc, hf, hb]
  simpa using hnm
theorem body_wp (hmix : P.follows .mixedOrders = true) (hcall : CallOk P G call) (k : Nat) {base : Nat} {fn : Func} {c : Code} {b : ICode} {r : List IRes} (hcc : cCode P G fn.ntmps c = some b) (hrr : fn.results.toList.mapM (cRes P) = some r) {args : List EV} {m : Mem} {fin : Fin} (h : evBody call k ⟨fn.ntmps, b, r⟩ args m = some fin)
    {ρ : Ren} {w : World} {args' : Array Value} (hR : R base ρ m w) (hG : Globs G ρ) (hv : VRs ρ args args'.toList) :
    c.wp P (bodyPost P fn (CallPost base ρ m w fin)) { tmps := args' ++ Array.replicate (fn.ntmps - args'.size) undef, defers := [] } w := by
  have hl := hv.length
  simp at hl
  unfold evBody at h
  cases hargs : args.length.ble fn.ntmps with
  | false => simp [hargs] at h
  | true =>
  simp only [hargs, cond_true] at h
  have hn : args'.size ≤ fn.ntmps := by have := Nat.le_of_ble_eq_true hargs; omega
  cases h1 : evCode call k b ⟨args0 args 0 .leaf, []⟩ m with
  | none => simp [h1] at h
  | some o1 =>
    simp only [h1] at h
    have hw := code_sound hmix hcall k c b hcc ρ m w _ _ o1 hR hG (frame_start hv hn) h1
    refine wp_mono hw fun e a1 w1 hq => ?_
    have done : ∀ {fr1 : Fr} {m1 : Mem} {ρ1 : Ren}, R base ρ1 m1 w1 → Step ρ m w ρ1 m1 w1 → FrR ρ1 fn.ntmps fr1 a1 → (match fr1.defers with | [] => (evResults fr1 m1 r).map fun vs => Fin.ret (one vs) m1 | _ => none) = some fin →
        a1.defers = [] ∧ ∃ v, (results fn a1.tmps).run P w1 = .ok v w1 ∧ CallPost base ρ m w fin (.returned v) w1 := by
      intro fr1 m1 ρ1 hR1 hs hF1 hfin
      have hd := hF1.defs
      cases hdf : fr1.defers with
      | cons x l => simp [hdf] at hfin
      | nil =>
        rw [hdf] at hd
        simp only [hdf] at hfin
        obtain ⟨vs, hvs, rfl⟩ := map_some' hfin
        obtain ⟨v, r1, r2⟩ := done_sound hrr hR1 hF1.tm hvs
        exact ⟨hd.nil_of, v, r1, ρ1, v, rfl, r2, hR1, hs⟩
    cases o1 with
    | norm fr1 m1 =>
      obtain ⟨rfl, ρ1, hR1, hs, hF1⟩ := hq
      exact done hR1 hs hF1 h
    | ret fr1 m1 =>
      obtain ⟨rfl, ρ1, hR1, hs, hF1⟩ := hq
      exact done hR1 hs hF1 h
    | exit id fr1 m1 => simp at h
    | pan v fr1 m1 =>
      obtain ⟨ρ1, v', rfl, hvv, hR1, hs, hF1⟩ := hq
      simp only at h
      have hd := hF1.defs
      cases hdf : fr1.defers with
      | cons x l => simp [hdf] at h
      | nil =>
        rw [hdf] at hd
        simp only [hdf, Option.some.injEq] at h
        subst h
        exact ⟨hd.nil_of, ρ1, v', rfl, hvv, hR1, hs⟩
theorem body_sound (hmix : P.follows .mixedOrders = true) (hcall : CallOk P G call) (k : Nat) {base : Nat} {f : Nat} {fn : Func} (hf : P.funcs[f]? = some fn) {F : IFun} (hc : cFun P G fn = some F) {args : List EV} {m : Mem} {fin : Fin} (h : evBody call k F args m = some fin)
    {ρ : Ren} {w : World} {args' : Array Value} (hR : R base ρ m w) (hG : Globs G ρ) (hv : VRs ρ args args'.toList) :
    (callFunc f args').run P w = .ok (.enter f args') w ∧ Calls P f args' w (CallPost base ρ m w fin) := by
  obtain ⟨c, b, r, hb, hnm, hcc, hrr, rfl⟩ := cFun_inv hc
  exact ⟨enters_fn hf hb hnm, calls_of_wp hf hb (body_wp hmix hcall k hcc hrr h hR hG hv)⟩
def ModeR (ρ : Ren) (u : Option EV) (md : FrameMode) : Prop := match u with
  | none => md = .returning
  | some v => ∃ v', md = .panicking [{ v := v', recovered := false }] ∧ VR ρ v v'
theorem ModeR.ext {ρ ρ' : Ren} (e : Ext ρ ρ') {u : Option EV} {md : FrameMode} (h : ModeR ρ u md) : ModeR ρ' u md := by
  cases u with
  | none => exact h
  | some v => obtain ⟨v', h1, h2⟩ := h; exact ⟨v', h1, h2.ext e⟩
theorem ModeR.run {ρ : Ren} {u : Option EV} {md : FrameMode} (h : ModeR ρ u md) : md ≠ .run := by
  cases u with
  | none => cases h; simp
  | some v => obtain ⟨v', rfl, _⟩ := h; simp
theorem ModeR.settle {ρ : Ren} {u : Option EV} {md : FrameMode} (h : ModeR ρ u md) : Go.settle md = md := by
  cases u with
  | none => cases h; rfl
  | some v => obtain ⟨v', rfl, _⟩ := h; rfl
theorem ModeR.got {ρ : Ren} {u : Option EV} {md : FrameMode} (h : ModeR ρ u md) (c₀ : Frame) (cs : List Frame) (hm : c₀.mode = md) : ∃ v' u', VR ρ (u.getD .niliface) v' ∧ Go.settle u' = .returning ∧
    ((recoverD (c₀ :: cs) = none ∧ v' = .nilIface ∧ ({ c₀ with mode := u' } : Frame) = c₀) ∨ recoverD (c₀ :: cs) = some (v', { c₀ with mode := u' } :: cs)) := by
  cases u with
  | none =>
    cases h
    refine ⟨.nilIface, .returning, .niliface, rfl, .inl ⟨by simp [recoverD, hm], rfl, ?_⟩⟩
    cases c₀; cases hm; rfl
  | some v =>
    obtain ⟨v', rfl, hv⟩ := h
    exact ⟨v', .panicking [{ v := v', recovered := true }], hv, rfl, .inr (by simp [recoverD, hm])⟩
theorem wpS_mono {c : Code} {Q Q' : Exit → Act → List Frame → World → Prop} {a : Act} {cs : List Frame} {w : World} (h : c.wpS P Q a cs w) (hq : ∀ e a cs w, Q e a cs w → Q' e a cs w) : c.wpS P Q' a cs w :=
  fun b k h1 h2 => let ⟨e, a', cs', w', q, r⟩ := h b k h1 h2; ⟨e, a', cs', w', hq _ _ _ _ q, r⟩
theorem isRec_inv {o : Oper} (h : isRec o = true) : o.guard = none ∧ ∃ ts, o.op = .call ⟨.builtin .recover, #[], ts⟩ := by
  unfold isRec at h
  split at h
  · rename_i xs ts h1 h2
    have : xs = #[] := by simpa using h
    subst this
    exact ⟨h2, ts, h1⟩
  · cases h
theorem codeR_sound (hmix : P.follows .mixedOrders = true) (hcall : CallOk P G call) (k : Nat) {base : Nat} {u : Option EV} {md : FrameMode} {ρ : Ren} {m : Mem} {w : World} (hR : R base ρ m w) (hG : Globs G ρ) (hu : ModeR ρ u md) (c₀ : Frame) (cs : List Frame) (hm : c₀.mode = md) :
    ∀ (c : Code) (d : Nat) (ic : ICode), cCodeR P G n c = some (d, ic) → ∀ (fr : Fr) (a : Act) (out : Out), FrR ρ n fr a → evCode call k ic (fr.set d (u.getD .niliface)) m = some out →
      c.wpS P (fun e a' cs' w' => (∃ u', cs' = { c₀ with mode := u' } :: cs ∧ Go.settle u' = .returning) ∧ Reach base n ρ m w out e a' w') a (c₀ :: cs) w
  | .region id ops false, d, ic, hc, fr, a, out, hF, h => by
    simp only [cCodeR] at hc
    cases hops : ops.toList with
    | nil => simp [hops] at hc
    | cons o r =>
      simp only [hops] at hc
      cases hrec : isRec o <;> simp only [hrec, cond_true, cond_false, reduceCtorEq] at hc
      cases hdst : o.dst with
      | none => simp [hdst] at hc
      | some d' =>
      simp only [hdst] at hc
      cases hlt : Nat.ble (d' + 1) n <;> simp only [hlt, cond_true, cond_false, reduceCtorEq] at hc
      obtain ⟨is, his, heq⟩ := map_some' hc
      simp only [Prod.mk.injEq] at heq
      obtain ⟨rfl, rfl⟩ := heq
      obtain ⟨hgd, ts, hop⟩ := isRec_inv hrec
      obtain ⟨v', u', hv, hset, hgot⟩ := hu.got c₀ cs hm
      simp only [evCode] at h
      have hF1 : FrR ρ n (fr.set d' (u.getD .niliface)) (a.put o.dst v') := by
        rw [hdst]
        exact hF.put (d := some d') (fun x hx => by cases hx; exact Nat.le_of_ble_eq_true hlt) hv
      have hsize : ops.size = r.length + 1 := by rw [← Array.length_toList, hops]; rfl
      have ho : ops[0]? = some o := by rw [← Array.getElem?_toList, hops]; rfl
      obtain ⟨h1, h2⟩ := mapM_some _ his
      have hops2 : wpOps P ops (Reach base n ρ m w out) ((List.range r.length).map Nat.succ) (a.put o.dst v') w := by
        refine ops_sound hcall is _ (by simpa using h1.symm) (fun j i io hj hio => ?_) ρ m w _ _ out hR hG hF1 h
        have hlt : j < r.length := by
          have := (List.getElem?_eq_some_iff.1 hj).1
          simpa using this
        rw [List.getElem?_map, List.getElem?_range hlt] at hj
        cases hj
        have hrj : r[j]? = some r[j] := List.getElem?_eq_getElem hlt
        refine ⟨r[j], ?_, h2 j r[j] io hrj hio⟩
        rw [← Array.getElem?_toList, hops, List.getElem?_cons_succ, hrj]
      intro b kk hb hro
      have hg := stepG_op (P := P) (b := b) (k := kk) (cs := c₀ :: cs) (w := w) (a := a) (rest := (List.range r.length).map Nat.succ) ho (by simp [Region.wanted, hgd])
      have hr : (execOp a.eval o).run P w = .ok .recover w := by
        unfold execOp
        rw [hop]
        rfl
      have hfin : ∀ v, (b.at a (.inRegion ops (0 :: (List.range r.length).map Nat.succ) :: kk)).finish v = b.at (a.put o.dst v) (.inRegion ops ((List.range r.length).map Nat.succ) :: kk) := by
        intro v; rw [Frame.finish_at, ho]; rfl
      have hk : (b.at a (.inRegion ops (0 :: (List.range r.length).map Nat.succ) :: kk)).kind = .deferred := hb
      have htr := tryRecover_deferred hk (c₀ :: cs)
      have hstep : step P (lone (b.at a (.inRegion ops (0 :: (List.range r.length).map Nat.succ) :: kk)) (c₀ :: cs) w) = .next (lone (b.at (a.put o.dst v') (.inRegion ops ((List.range r.length).map Nat.succ) :: kk)) ({ c₀ with mode := u' } :: cs) w) := by
        refine step_lone_go ?_
        rw [hg, ← hfin]
        rcases hgot with ⟨g1, rfl, g3⟩ | g1
        · rw [g3]
          simp only [Frame.at] at htr ⊢
          simp [stepG.apply, hr, htr, g1]
        · simp only [Frame.at] at htr ⊢
          simp [stepG.apply, hr, htr, g1]
      obtain ⟨e, a', w', hq, harr⟩ := wp_ops _ _ _ hops2 b kk ({ c₀ with mode := u' } :: cs)
      refine ⟨e, a', _, w', ⟨⟨u', rfl, hset⟩, hq⟩, .of_steps (.head step_region ?_) harr⟩
      rw [hsize, List.range_succ_eq_map]
      exact .one hstep
  | .seq x y, d, ic, hc, fr, a, out, hF, h => by
    simp only [cCodeR] at hc
    cases hx : cCodeR P G n x with
    | none => simp [hx] at hc
    | some q =>
    obtain ⟨d', ix⟩ := q
    cases hy : cCode P G n y with
    | none => simp [hx, hy] at hc
    | some iy =>
    simp only [hx, hy, Option.some.injEq, Prod.mk.injEq] at hc
    obtain ⟨rfl, rfl⟩ := hc
    simp only [evCode] at h
    cases h1 : evCode call k ix (fr.set d' (u.getD .niliface)) m with
    | none => simp [h1] at h
    | some o1 =>
      simp only [h1] at h
      have hw := codeR_sound hmix hcall k hR hG hu c₀ cs hm x d' ix hx fr a o1 hF h1
      refine wpS_seq (wpS_mono hw fun e a1 cs1 w1 ⟨hcs, hq⟩ => ?_)
      cases o1 with
      | norm fr1 m1 =>
        obtain ⟨rfl, ρ1, hR1, hs, hF1⟩ := hq
        have := code_sound hmix hcall k y iy hy ρ1 m1 w1 fr1 a1 out hR1 (hG.ext hs.ext) hF1 h
        exact wpS_of_wp (wp_mono this fun e a w hq => ⟨hcs, hq.after hs⟩)
      | exit id fr1 m1 =>
        simp only [Option.some.injEq] at h; subst h
        have := hq; obtain ⟨rfl, _⟩ := this; exact ⟨hcs, hq⟩
      | ret fr1 m1 =>
        simp only [Option.some.injEq] at h; subst h
        have := hq; obtain ⟨rfl, _⟩ := this; exact ⟨hcs, hq⟩
      | pan v fr1 m1 =>
        simp only [Option.some.injEq] at h; subst h
        have := hq; obtain ⟨_, _, rfl, _⟩ := this; exact ⟨hcs, hq⟩
  | .region id ops true, d, ic, hc, _, _, _, _, _ => by simp [cCodeR] at hc
  | .skip, d, ic, hc, _, _, _, _, _ => by simp [cCodeR] at hc
  | .label _, d, ic, hc, _, _, _, _, _ => by simp [cCodeR] at hc
  | .exit _, d, ic, hc, _, _, _, _, _ => by simp [cCodeR] at hc
  | .ret, d, ic, hc, _, _, _, _, _ => by simp [cCodeR] at hc
  | .cond _ _ _, d, ic, hc, _, _, _, _, _ => by simp [cCodeR] at hc
  | .block _ _, d, ic, hc, _, _, _, _, _ => by simp [cCodeR] at hc
  | .loop _, d, ic, hc, _, _, _, _, _ => by simp [cCodeR] at hc
  | .scope _, d, ic, hc, _, _, _, _, _ => by simp [cCodeR] at hc
  | .goto _, d, ic, hc, _, _, _, _, _ => by simp [cCodeR] at hc
  | .refuse _, d, ic, hc, _, _, _, _, _ => by simp [cCodeR] at hc
  | .rangeFunc _ _ _ _, d, ic, hc, _, _, _, _, _ => by simp [cCodeR] at hc
theorem bodyR_sound (hmix : P.follows .mixedOrders = true) (hcall : CallOk P G call) (k : Nat) {base : Nat} {f : Nat} {fn : Func} (hf : P.funcs[f]? = some fn) {d : Nat} {F : IFun} (hc : cFunR P G fn = some (d, F)) {args : List EV} {m m' : Mem} {u : Option EV} {md : FrameMode} (h : evBodyR call k d F args u m = some m')
    {ρ : Ren} {w : World} {args' : Array Value} (hR : R base ρ m w) (hG : Globs G ρ) (hv : VRs ρ args args'.toList) (hu : ModeR ρ u md) :
    (callFunc f args').run P w = .ok (.enter f args') w ∧ CallsD P f args' md w fun e u' w' => Go.settle u' = .returning ∧ ∃ v ρ', e = .returned v ∧ R base ρ' m' w' ∧ Step ρ m w ρ' m' w' := by
  obtain ⟨c, b, r, hb, hnm, hcc, hrr, rfl⟩ := cFunR_inv hc
  refine ⟨enters_fn hf hb hnm, callsD_of_wpS hf hb fun c₀ cs hm => ?_⟩
  have hl := hv.length
  simp at hl
  unfold evBodyR at h
  cases hargs : args.length.ble fn.ntmps with
  | false => simp [hargs] at h
  | true =>
  simp only [hargs, cond_true] at h
  have hn : args'.size ≤ fn.ntmps := by have := Nat.le_of_ble_eq_true hargs; omega
  cases h1 : evCode call k b (Fr.set ⟨args0 args 0 .leaf, []⟩ d (u.getD .niliface)) m with
  | none => simp [h1] at h
  | some o1 =>
    simp only [h1] at h
    have hw := codeR_sound hmix hcall k hR hG hu c₀ cs hm c d b hcc _ _ o1 (frame_start hv hn) h1
    refine wpS_mono hw fun e a1 cs1 w1 ⟨⟨u', hcs, hset⟩, hq⟩ => ?_
    have done : ∀ {fr1 : Fr} {m1 : Mem} {ρ1 : Ren}, R base ρ1 m1 w1 → Step ρ m w ρ1 m1 w1 → FrR ρ1 fn.ntmps fr1 a1 → (match fr1.defers with | [] => (evResults fr1 m1 r).map fun _ => m1 | _ => none) = some m' →
        a1.defers = [] ∧ ∃ u', cs1 = { c₀ with mode := u' } :: cs ∧ ∃ v, (results fn a1.tmps).run P w1 = .ok v w1 ∧ Go.settle u' = .returning ∧ ∃ v2 ρ', Ending.returned v = .returned v2 ∧ R base ρ' m' w1 ∧ Step ρ m w ρ' m' w1 := by
      intro fr1 m1 ρ1 hR1 hs hF1 hfin
      have hd := hF1.defs
      cases hdf : fr1.defers with
      | cons x l => simp [hdf] at hfin
      | nil =>
        rw [hdf] at hd
        simp only [hdf] at hfin
        obtain ⟨vs, hvs, rfl⟩ := map_some' hfin
        obtain ⟨v, r1, r2⟩ := done_sound hrr hR1 hF1.tm hvs
        exact ⟨hd.nil_of, u', hcs, v, r1, hset, v, ρ1, rfl, hR1, hs⟩
    cases o1 with
    | norm fr1 m1 =>
      obtain ⟨rfl, ρ1, hR1, hs, hF1⟩ := hq
      exact done hR1 hs hF1 h
    | ret fr1 m1 =>
      obtain ⟨rfl, ρ1, hR1, hs, hF1⟩ := hq
      exact done hR1 hs hF1 h
    | exit id fr1 m1 => simp at h
    | pan v fr1 m1 => simp at h
theorem leave_sound (hmix : P.follows .mixedOrders = true) (hcall : CallOk P G call) (k : Nat) {base : Nat} {fn : Func} {irs : List IRes} (hrr : fn.results.toList.mapM (cRes P) = some irs) {D : List (Nat × Option Nat × IFun)} (hD : ∀ g b FD, dfind g D = some (b, FD) → DefOk P G g b FD) {fr : Fr} {a : Act} {ρ0 : Ren} {m0 : Mem} {w0 : World} {fin : Fin} :
    ∀ (ds : List (Nat × List EV)) (ds' : List Deferred) (u : Option EV) (md : FrameMode) (ρ : Ren) (m : Mem) (w : World), DefsR ρ ds ds' → ModeR ρ u md → R base ρ m w → Globs G ρ → FR ρ n fr a → Step ρ0 m0 w0 ρ m w → evLeave call k irs D fr ds u m = some fin → Leaves P fn a.tmps (CallPost base ρ0 m0 w0 fin) ds' md w
  | [], ds', u, md, ρ, m, w, hds, hu, hR, hG, hF, hs, h => by
    cases hds
    cases u with
    | none =>
      cases hu
      simp only [evLeave] at h
      obtain ⟨vs, hvs, rfl⟩ := map_some' h
      obtain ⟨v, r1, r2⟩ := done_sound hrr hR hF hvs
      exact ⟨v, r1, ρ, v, rfl, r2, hR, hs⟩
    | some v =>
      obtain ⟨v', rfl, hv⟩ := hu
      simp only [evLeave, Option.some.injEq] at h
      subst h
      exact ⟨ρ, v', rfl, hv, hR, hs⟩
  | (g, args) :: ds, ds', u, md, ρ, m, w, hds, hu, hR, hG, hF, hs, h => by
    cases hds with
    | @cons _ dd _ dds hdef hds =>
    obtain ⟨c', htar, hargs⟩ := hdef
    simp only at htar hargs
    have hargs' : VRs ρ args (dd.args ++ c').toList := by rw [Array.toList_append]; exact hargs
    have hinv : ∀ {w : World}, (callFunc g (dd.args ++ c')).run P w = .ok (.enter g (dd.args ++ c')) w → (invoke dd.target dd.args).run P w = .ok (.enter g (dd.args ++ c')) w := by
      intro w hh
      rw [htar]
      exact hh
    simp only [evLeave] at h
    cases hdf : dfind g D with
    | none => simp [hdf] at h
    | some q =>
    obtain ⟨b, FD⟩ := q
    obtain ⟨fn2, hfn2, hcd⟩ := hD g b FD hdf
    cases b with
    | some d =>
      simp only [hdf] at h
      simp only at hcd
      cases hb : evBodyR call k d FD args u m with
      | none => simp [hb] at h
      | some m1 =>
        simp only [hb] at h
        obtain ⟨hent, hcalls⟩ := bodyR_sound hmix hcall k hfn2 hcd hb hR hG hargs' hu
        refine ⟨hu.run, _, _, g, _, htar, hinv hent, hcalls.mono fun e u' w' hq => ?_⟩
        obtain ⟨hset, v, ρ', rfl, hR1, hs1⟩ := hq
        show Leaves P fn a.tmps _ dds (Go.settle u') w'
        rw [hset]
        exact leave_sound hmix hcall k hrr hD ds dds none .returning ρ' m1 w' (hds.ext hs1.ext) rfl hR1 (hG.ext hs1.ext) (hF.ext hs1.ext) (hs.trans hs1) h
    | none =>
      simp only [hdf] at h
      simp only at hcd
      obtain ⟨c, b, r, hbody, hnm, hcc, hrr2, rfl⟩ := cFun_inv hcd
      cases hb : evBody call k ⟨fn2.ntmps, b, r⟩ args m with
      | none => simp [hb] at h
      | some fin1 =>
        simp only [hb] at h
        have hcalls := callsD_of_wp (u := md) hfn2 hbody (body_wp hmix hcall k hcc hrr2 hb hR hG hargs')
        refine ⟨hu.run, _, _, g, _, htar, hinv (enters_fn hfn2 hbody hnm), hcalls.mono fun e u' w' hq => ?_⟩
        obtain ⟨rfl, hq⟩ := hq
        cases fin1 with
        | ret v m1 =>
          obtain ⟨ρ', v', rfl, hvv, hR1, hs1⟩ := hq
          show Leaves P fn a.tmps _ dds (Go.settle u') w'
          rw [hu.settle]
          exact leave_sound hmix hcall k hrr hD ds dds u u' ρ' m1 w' (hds.ext hs1.ext) (hu.ext hs1.ext) hR1 (hG.ext hs1.ext) (hF.ext hs1.ext) (hs.trans hs1) h
        | pan v m1 =>
          cases u with
          | some x => cases h
          | none =>
            obtain ⟨ρ', v', rfl, hvv, hR1, hs1⟩ := hq
            cases hu
            exact leave_sound hmix hcall k hrr hD ds dds (some v) _ ρ' m1 w' (hds.ext hs1.ext) ⟨v', rfl, hvv⟩ hR1 (hG.ext hs1.ext) (hF.ext hs1.ext) (hs.trans hs1) h
theorem bodyD_sound (hmix : P.follows .mixedOrders = true) (hcall : CallOk P G call) (k : Nat) {base : Nat} {f : Nat} {fn : Func} (hf : P.funcs[f]? = some fn) {F : IFun} (hc : cFun P G fn = some F) {D : List (Nat × Option Nat × IFun)} (hD : ∀ g b FD, dfind g D = some (b, FD) → DefOk P G g b FD) {args : List EV} {m : Mem} {fin : Fin} (h : evBodyD call k F D args m = some fin)
    {ρ : Ren} {w : World} {args' : Array Value} (hR : R base ρ m w) (hG : Globs G ρ) (hv : VRs ρ args args'.toList) :
    (callFunc f args').run P w = .ok (.enter f args') w ∧ Calls P f args' w (CallPost base ρ m w fin) := by
  obtain ⟨c, b, r, hb, hnm, hcc, hrr, rfl⟩ := cFun_inv hc
  refine ⟨enters_fn hf hb hnm, calls_of_wp_defers hf hb ?_⟩
  have hl := hv.length
  simp at hl
  unfold evBodyD at h
  cases hargs : args.length.ble fn.ntmps with
  | false => simp [hargs] at h
  | true =>
  simp only [hargs, cond_true] at h
  have hn : args'.size ≤ fn.ntmps := by have := Nat.le_of_ble_eq_true hargs; omega
  cases h1 : evCode call k b ⟨args0 args 0 .leaf, []⟩ m with
  | none => simp [h1] at h
  | some o1 =>
    simp only [h1] at h
    have hw := code_sound hmix hcall k c b hcc ρ m w _ _ o1 hR hG (frame_start hv hn) h1
    refine wp_mono hw fun e a1 w1 hq => ?_
    cases o1 with
    | norm fr1 m1 =>
      obtain ⟨rfl, ρ1, hR1, hs, hF1⟩ := hq
      exact leave_sound hmix hcall k hrr hD _ _ none .returning ρ1 m1 w1 hF1.defs rfl hR1 (hG.ext hs.ext) hF1.tm hs h
    | ret fr1 m1 =>
      obtain ⟨rfl, ρ1, hR1, hs, hF1⟩ := hq
      exact leave_sound hmix hcall k hrr hD _ _ none .returning ρ1 m1 w1 hF1.defs rfl hR1 (hG.ext hs.ext) hF1.tm hs h
    | exit id fr1 m1 => simp at h
    | pan v fr1 m1 =>
      obtain ⟨ρ1, v', rfl, hvv, hR1, hs, hF1⟩ := hq
      exact leave_sound hmix hcall k hrr hD _ _ (some v) _ ρ1 m1 w1 hF1.defs ⟨v', rfl, hvv⟩ hR1 (hG.ext hs.ext) hF1.tm hs h
theorem evFun_ok (hmix : P.follows .mixedOrders = true) {T : Nat → Option Ent} (hT : ∀ f e, T f = some e → EntOk P G f e) : ∀ k, CallOk P G (evFun T k)
  | 0 => fun f args m fin h => by simp [evFun] at h
  | k + 1 => fun f args m fin h base ρ w args' hR hG hv => by
    simp only [evFun] at h
    cases he : T f with
    | none => simp [he] at h
    | some e =>
      simp only [he] at h
      have hok := hT f e he
      cases e with
      | go F =>
        obtain ⟨fn, hf, hc⟩ := hok
        exact .inl (body_sound hmix (evFun_ok hmix hT k) k hf hc h hR hG hv)
      | ext g =>
        simp only [evEnt] at h
        obtain ⟨v, hg, rfl⟩ := map_some' h
        obtain ⟨v', h1, h2⟩ := hok base ρ m w args args' v hR hv hg
        exact .inr ⟨v, v', rfl, h1, h2⟩
      | pure g =>
        simp only [evEnt] at h
        obtain ⟨v, hg, rfl⟩ := map_some' h
        exact .inl (hok base ρ m w args args' v hR hv hg)
      | spec g =>
        simp only [evEnt] at h
        exact .inl (hok base ρ m w args args' fin hR hG hv h)
      | dgo F D =>
        obtain ⟨⟨fn, hf, hc⟩, hD⟩ := hok
        exact .inl (bodyD_sound hmix (evFun_ok hmix hT k) k hf hc hD h hR hG hv)
end
end Go.Proofs.YtblcomejcahkdaaDoor.Ev
end
section
namespace Go.Proofs.YtblcomejcahkdaaDoor.Ev
open Go
def G : List Nat := [0, 1, 2, 3, 4, 5]
abbrev t_int64 : Nat := 2
abbrev t_int : Nat := 3
abbrev t_bool : Nat := 4
abbrev t_uint8 : Nat := 5
abbrev t_abi_BoundsErrorCode : Nat := 6
abbrev t_runtime_boundsError : Nat := 8
abbrev t_string : Nat := 9
abbrev t_runtime_errorString : Nat := 10
abbrev t_runtime_plainError : Nat := 11
abbrev t_uintptr : Nat := 12
abbrev t_runtime_errorAddressString : Nat := 14
abbrev t_P_runtime_TypeAssertionError : Nat := 15
abbrev t_P_runtime_PanicNilError : Nat := 16
abbrev t_P_abi_Type : Nat := 17
abbrev t_maps_unhashableTypeError : Nat := 19
abbrev t_int32 : Nat := 21
abbrev t_S_api_Node : Nat := 22
abbrev t_S_int : Nat := 25
abbrev t_api_Node : Nat := 27
abbrev t_S_string : Nat := 36
abbrev t_tree_row : Nat := 45
abbrev t_S_bool : Nat := 53
abbrev t_P_strings_Builder : Nat := 58
abbrev t_S_uint8 : Nat := 59
abbrev t_strings_Builder : Nat := 61
abbrev t_error : Nat := 64
abbrev t_P_uint8 : Nat := 75
abbrev t_uint64 : Nat := 79
abbrev t_unsafe_Pointer : Nat := 84
abbrev t_uint32 : Nat := 90
abbrev t_uint : Nat := 92
abbrev t_runtime_TypeAssertionError : Nat := 98
abbrev t_runtime_PanicNilError : Nat := 101
abbrev t_abi_TFlag : Nat := 103
abbrev t_abi_Kind : Nat := 104
abbrev t_abi_NameOff : Nat := 106
abbrev t_abi_TypeOff : Nat := 107
abbrev t_abi_Type : Nat := 109

/- balustrade/balustradelaw06.TreeAlike -/
abbrev n_l06_TreeAlike : Nat := 3
def F_l06_TreeAlike_l0 : ICode :=
 (.seq
 (.seq
 (.region [⟨(some 21), (.val (.mov (.tmp 8))), none⟩,
 ⟨(some 22), (.val (.mov (.tmp 0))), none⟩,
 ⟨(some 23), (.val (.len (.tmp 22))), none⟩,
 ⟨(some 24), (.val (.bin .lss (.tmp 21) (.tmp 23))), none⟩])
 (.cond (.tmp 24)
 .skip
 (.exit 0)))
 (.seq
 (.block 1
 (.seq
 (.region [⟨(some 27), (.val (.mov (.tmp 0))), none⟩,
 ⟨(some 28), (.val (.mov (.tmp 8))), none⟩,
 ⟨(some 29), (.val (.iaddr 5 (.tmp 27) (.tmp 28))), none⟩,
 ⟨(some 30), (.val (.load (some 5) (.tmp 29))), none⟩,
 ⟨(some 9), (.val (.alloc 27 [(.int .i64 0), .nilslice, (.int .i64 0), (.str []), (.int .i64 0)])), none⟩,
 ⟨none, (.val (.store 5 (.tmp 9) (.tmp 30))), none⟩])
 (.seq
 (.seq
 (.region [⟨(some 31), (.val (.faddr 4 (.tmp 9))), none⟩,
 ⟨(some 32), (.val (.load none (.tmp 31))), none⟩,
 ⟨(some 33), (.val (.bin .geq (.tmp 32) (.const (.int .i64 0)))), none⟩,
 ⟨(some 34), (.val (.mov (.tmp 33))), none⟩,
 ⟨(some 35), (.val (.faddr 4 (.tmp 9))), (some (34, true))⟩,
 ⟨(some 36), (.val (.load none (.tmp 35))), (some (34, true))⟩,
 ⟨(some 37), (.val (.bin .lss (.tmp 36) (.const (.int .i64 1000)))), (some (34, true))⟩,
 ⟨(some 38), (.val (.pick (.tmp 34) (.tmp 37) (.const (.bool false)))), none⟩])
 (.cond (.tmp 38)
 (.region [⟨(some 39), (.val (.faddr 4 (.tmp 9))), none⟩,
 ⟨(some 40), (.val (.load none (.tmp 39))), none⟩,
 ⟨(some 41), (.val (.mov (.tmp 2))), none⟩,
 ⟨(some 42), (.val (.conv (.int .i64) (.tmp 41))), none⟩,
 ⟨(some 43), (.val (.bin .add (.tmp 40) (.tmp 42))), none⟩,
 ⟨(some 44), (.val (.faddr 4 (.tmp 9))), none⟩,
 ⟨none, (.val (.store 1 (.tmp 44) (.tmp 43))), none⟩])
 .skip))
 (.region [⟨(some 45), (.val (.mov (.tmp 7))), none⟩,
 ⟨(some 46), (.val (.load (some 5) (.tmp 9))), none⟩,
 ⟨(some 47), (.val (.bslice 27 5 1 [(.int .i64 0), .nilslice, (.int .i64 0), (.str []), (.int .i64 0)] [(0, (.tmp 46))])), none⟩,
 ⟨(some 48), (.val (.append 27 5 64 (.tmp 45) (.tmp 47))), none⟩,
 ⟨(some 7), (.val (.mov (.tmp 48))), none⟩]))))
 (.region [⟨(some 25), (.val (.mov (.tmp 8))), none⟩,
 ⟨(some 26), (.val (.bin .add (.tmp 25) (.const (.int .i64 1)))), none⟩,
 ⟨(some 8), (.val (.mov (.tmp 26))), none⟩])))
def F_l06_TreeAlike : IFun :=
 ⟨93,
 (.seq
 (.region [⟨(some 6), (.val (.mov (.const (.bool false)))), none⟩])
 (.seq
 (.seq
 (.region [⟨(some 11), (.val (.mov (.tmp 0))), none⟩,
 ⟨(some 12), (.call (.const (.func 7 [] [])) [(.tmp 11)]), none⟩,
 ⟨(some 13), (.val (.un .not (.tmp 12))), none⟩,
 ⟨(some 14), (.val (.mov (.tmp 13))), none⟩,
 ⟨(some 15), (.val (.mov (.tmp 1))), (some (14, false))⟩,
 ⟨(some 16), (.call (.const (.func 7 [] [])) [(.tmp 15)]), (some (14, false))⟩,
 ⟨(some 17), (.val (.un .not (.tmp 16))), (some (14, false))⟩,
 ⟨(some 18), (.val (.pick (.tmp 14) (.const (.bool true)) (.tmp 17))), none⟩])
 (.cond (.tmp 18)
 (.seq
 (.region [⟨(some 19), (.call (.const (.func 8 [] [])) []), none⟩,
 ⟨(some 6), (.val (.mov (.tmp 19))), none⟩])
 .ret)
 .skip))
 (.seq
 (.region [⟨(some 20), (.val (.bslice 27 5 0 [(.int .i64 0), .nilslice, (.int .i64 0), (.str []), (.int .i64 0)] [])), none⟩,
 ⟨(some 7), (.val (.mov (.tmp 20))), none⟩])
 (.seq
 (.seq
 (.region [⟨(some 8), (.val (.mov (.const (.int .i64 0)))), none⟩])
 (.block 0
 (.loop F_l06_TreeAlike_l0)))
 (.seq
 (.region [⟨(some 49), (.val (.mov (.tmp 0))), none⟩,
 ⟨(some 50), (.val (.mov (.tmp 1))), none⟩,
 ⟨(some 51), (.call (.const (.func 9 [] [])) [(.tmp 49), (.tmp 50)]), none⟩,
 ⟨(some 10), (.val (.mov (.tmp 51))), none⟩])
 (.seq
 (.region [⟨(some 52), (.val (.mov (.tmp 10))), none⟩,
 ⟨(some 53), (.val (.mov (.tmp 0))), none⟩,
 ⟨(some 54), (.val (.mov (.tmp 1))), none⟩,
 ⟨(some 55), (.call (.const (.func 10 [] [])) [(.tmp 53), (.tmp 54)]), none⟩,
 ⟨(some 56), (.val (.eq false (.prim 0) (.tmp 52) (.tmp 55))), none⟩,
 ⟨(some 57), (.val (.mov (.tmp 56))), none⟩,
 ⟨(some 58), (.val (.mov (.tmp 0))), (some (57, true))⟩,
 ⟨(some 59), (.val (.mov (.tmp 7))), (some (57, true))⟩,
 ⟨(some 60), (.call (.const (.func 9 [] [])) [(.tmp 58), (.tmp 59)]), (some (57, true))⟩,
 ⟨(some 61), (.val (.pick (.tmp 57) (.tmp 60) (.const (.bool false)))), none⟩,
 ⟨(some 62), (.val (.mov (.tmp 61))), none⟩,
 ⟨(some 63), (.val (.mov (.tmp 0))), (some (62, true))⟩,
 ⟨(some 64), (.call (.const (.func 11 [] [])) [(.tmp 63)]), (some (62, true))⟩,
 ⟨(some 65), (.val (.mov (.tmp 7))), (some (62, true))⟩,
 ⟨(some 66), (.call (.const (.func 11 [] [])) [(.tmp 65)]), (some (62, true))⟩,
 ⟨(some 67), (.val (.eq false (.prim 2) (.tmp 64) (.tmp 66))), (some (62, true))⟩,
 ⟨(some 68), (.val (.pick (.tmp 62) (.tmp 67) (.const (.bool false)))), none⟩,
 ⟨(some 69), (.val (.mov (.tmp 68))), none⟩,
 ⟨(some 70), (.val (.mov (.tmp 10))), (some (69, true))⟩,
 ⟨(some 71), (.val (.un .not (.tmp 70))), (some (69, true))⟩,
 ⟨(some 72), (.val (.mov (.tmp 71))), (some (69, true))⟩,
 ⟨(some 73), (.val (.mov (.tmp 0))), (some (72, false))⟩,
 ⟨(some 74), (.call (.const (.func 12 [] [])) [(.tmp 73)]), (some (72, false))⟩,
 ⟨(some 75), (.val (.un .not (.tmp 74))), (some (72, false))⟩,
 ⟨(some 76), (.val (.pick (.tmp 72) (.const (.bool true)) (.tmp 75))), (some (69, true))⟩,
 ⟨(some 77), (.val (.mov (.tmp 76))), (some (69, true))⟩,
 ⟨(some 78), (.val (.mov (.tmp 1))), (some (77, false))⟩,
 ⟨(some 79), (.call (.const (.func 12 [] [])) [(.tmp 78)]), (some (77, false))⟩,
 ⟨(some 80), (.val (.un .not (.tmp 79))), (some (77, false))⟩,
 ⟨(some 81), (.val (.pick (.tmp 77) (.const (.bool true)) (.tmp 80))), (some (69, true))⟩,
 ⟨(some 82), (.val (.mov (.tmp 81))), (some (69, true))⟩,
 ⟨(some 83), (.val (.mov (.tmp 0))), (some (82, false))⟩,
 ⟨(some 84), (.call (.const (.func 11 [] [])) [(.tmp 83)]), (some (82, false))⟩,
 ⟨(some 85), (.val (.mov (.tmp 1))), (some (82, false))⟩,
 ⟨(some 86), (.call (.const (.func 11 [] [])) [(.tmp 85)]), (some (82, false))⟩,
 ⟨(some 87), (.val (.eq false (.prim 2) (.tmp 84) (.tmp 86))), (some (82, false))⟩,
 ⟨(some 88), (.val (.pick (.tmp 82) (.const (.bool true)) (.tmp 87))), (some (69, true))⟩,
 ⟨(some 89), (.val (.pick (.tmp 69) (.tmp 88) (.const (.bool false)))), none⟩,
 ⟨(some 90), (.val (.mov (.tmp 89))), none⟩,
 ⟨(some 91), (.call (.const (.func 8 [] [])) []), (some (90, true))⟩,
 ⟨(some 92), (.val (.pick (.tmp 90) (.tmp 91) (.const (.bool false)))), none⟩,
 ⟨(some 6), (.val (.mov (.tmp 92))), none⟩])
 .ret)))))),
 [.tmp 6]⟩
theorem ok3 : cFun Tryd.prog G Tryd.f3 = some F_l06_TreeAlike := by kernel_rfl

/- balustrade/balustradelaw06.TreeParts -/
abbrev n_l06_TreeParts : Nat := 4
def F_l06_TreeParts : IFun :=
 ⟨70,
 (.seq
 (.region [⟨(some 4), (.val (.mov (.const (.bool false)))), none⟩])
 (.seq
 (.seq
 (.region [⟨(some 9), (.val (.mov (.tmp 0))), none⟩,
 ⟨(some 10), (.call (.const (.func 7 [] [])) [(.tmp 9)]), none⟩,
 ⟨(some 11), (.val (.un .not (.tmp 10))), none⟩,
 ⟨(some 12), (.val (.mov (.tmp 11))), none⟩,
 ⟨(some 13), (.val (.mov (.tmp 0))), (some (12, false))⟩,
 ⟨(some 14), (.call (.const (.func 13 [] [])) [(.tmp 13)]), (some (12, false))⟩,
 ⟨(some 15), (.val (.un .not (.tmp 14))), (some (12, false))⟩,
 ⟨(some 16), (.val (.pick (.tmp 12) (.const (.bool true)) (.tmp 15))), none⟩])
 (.cond (.tmp 16)
 (.seq
 (.region [⟨(some 17), (.call (.const (.func 8 [] [])) []), none⟩,
 ⟨(some 4), (.val (.mov (.tmp 17))), none⟩])
 .ret)
 .skip))
 (.seq
 (.region [⟨(some 18), (.val (.mov (.tmp 1))), none⟩,
 ⟨(some 19), (.val (.conv (.int .i64) (.tmp 18))), none⟩,
 ⟨(some 20), (.val (.mov (.tmp 0))), none⟩,
 ⟨(some 21), (.val (.len (.tmp 20))), none⟩,
 ⟨(some 22), (.val (.bin .rem (.tmp 19) (.tmp 21))), none⟩,
 ⟨(some 5), (.val (.mov (.tmp 22))), none⟩])
 (.seq
 (.region [⟨(some 23), (.val (.mov (.tmp 0))), none⟩,
 ⟨(some 24), (.val (.mov (.tmp 5))), none⟩,
 ⟨(some 25), (.call (.const (.func 14 [] [])) [(.tmp 23), (.tmp 24)]), none⟩,
 ⟨(some 6), (.val (.mov (.tmp 25))), none⟩])
 (.seq
 (.region [⟨(some 26), (.val (.mov (.tmp 0))), none⟩,
 ⟨(some 27), (.call (.const (.func 15 [] [])) [(.tmp 26)]), none⟩,
 ⟨(some 28), (.val (.mov (.tmp 6))), none⟩,
 ⟨(some 29), (.call (.const (.func 15 [] [])) [(.tmp 28)]), none⟩,
 ⟨(some 7), (.val (.mov (.tmp 27))), none⟩,
 ⟨(some 8), (.val (.mov (.tmp 29))), none⟩])
 (.seq
 (.draw [⟨(some 30), (.val (.mov (.tmp 6))), none⟩,
 ⟨(some 31), (.call (.const (.func 12 [] [])) [(.tmp 30)]), none⟩,
 ⟨(some 32), (.val (.mov (.tmp 31))), none⟩,
 ⟨(some 33), (.val (.mov (.tmp 7))), (some (32, true))⟩,
 ⟨(some 34), (.val (.len (.tmp 33))), (some (32, true))⟩,
 ⟨(some 35), (.val (.mov (.tmp 0))), (some (32, true))⟩,
 ⟨(some 36), (.val (.len (.tmp 35))), (some (32, true))⟩,
 ⟨(some 37), (.val (.eq false (.prim 1) (.tmp 34) (.tmp 36))), (some (32, true))⟩,
 ⟨(some 38), (.val (.pick (.tmp 32) (.tmp 37) (.const (.bool false)))), none⟩,
 ⟨(some 39), (.val (.mov (.tmp 38))), none⟩,
 ⟨(some 40), (.val (.mov (.tmp 8))), (some (39, true))⟩,
 ⟨(some 41), (.val (.len (.tmp 40))), (some (39, true))⟩,
 ⟨(some 42), (.val (.mov (.tmp 6))), (some (39, true))⟩,
 ⟨(some 43), (.val (.len (.tmp 42))), (some (39, true))⟩,
 ⟨(some 44), (.val (.eq false (.prim 1) (.tmp 41) (.tmp 43))), (some (39, true))⟩,
 ⟨(some 45), (.val (.pick (.tmp 39) (.tmp 44) (.const (.bool false)))), none⟩,
 ⟨(some 46), (.val (.mov (.tmp 45))), none⟩,
 ⟨(some 47), (.val (.mov (.tmp 7))), (some (46, true))⟩,
 ⟨(some 48), (.val (.mov (.tmp 5))), (some (46, true))⟩,
 ⟨(some 49), (.val (.iaddr 1 (.tmp 47) (.tmp 48))), (some (46, true))⟩,
 ⟨(some 50), (.val (.load none (.tmp 49))), (some (46, true))⟩,
 ⟨(some 51), (.val (.mov (.tmp 8))), (some (46, true))⟩,
 ⟨(some 52), (.val (.mov (.tmp 6))), (some (46, true))⟩,
 ⟨(some 53), (.val (.len (.tmp 52))), (some (46, true))⟩,
 ⟨(some 54), (.val (.bin .sub (.tmp 53) (.const (.int .i64 1)))), (some (46, true))⟩,
 ⟨(some 55), (.val (.iaddr 1 (.tmp 51) (.tmp 54))), (some (46, true))⟩,
 ⟨(some 56), (.val (.load none (.tmp 55))), (some (46, true))⟩,
 ⟨(some 57), (.val (.eq false (.prim 1) (.tmp 50) (.tmp 56))), (some (46, true))⟩,
 ⟨(some 58), (.val (.pick (.tmp 46) (.tmp 57) (.const (.bool false)))), none⟩,
 ⟨(some 59), (.val (.mov (.tmp 58))), none⟩,
 ⟨(some 60), (.val (.mov (.tmp 6))), (some (59, true))⟩,
 ⟨(some 61), (.call (.const (.func 11 [] [])) [(.tmp 60)]), (some (59, true))⟩,
 ⟨(some 62), (.val (.mov (.tmp 0))), (some (59, true))⟩,
 ⟨(some 63), (.val (.mov (.tmp 5))), (some (59, true))⟩,
 ⟨(some 64), (.call (.const (.func 16 [] [])) [(.tmp 62), (.tmp 63)]), (some (59, true))⟩,
 ⟨(some 65), (.val (.eq false (.prim 2) (.tmp 61) (.tmp 64))), (some (59, true))⟩,
 ⟨(some 66), (.val (.pick (.tmp 59) (.tmp 65) (.const (.bool false)))), none⟩,
 ⟨(some 67), (.val (.mov (.tmp 66))), none⟩,
 ⟨(some 68), (.call (.const (.func 8 [] [])) []), (some (67, true))⟩,
 ⟨(some 69), (.val (.pick (.tmp 67) (.tmp 68) (.const (.bool false)))), none⟩,
 ⟨(some 4), (.val (.mov (.tmp 69))), none⟩] [])
 .ret)))))),
 [.tmp 4]⟩
theorem ok4 : cFun Tryd.prog G Tryd.f4 = some F_l06_TreeParts := by kernel_rfl

/- balustrade/balustradelaw06.TreeTells -/
abbrev n_l06_TreeTells : Nat := 5
def F_l06_TreeTells_l0 : ICode :=
 (.seq
 (.seq
 (.region [⟨(some 62), (.val (.mov (.tmp 4))), none⟩,
 ⟨(some 63), (.val (.mov (.tmp 0))), none⟩,
 ⟨(some 64), (.val (.len (.tmp 63))), none⟩,
 ⟨(some 65), (.val (.bin .lss (.tmp 62) (.tmp 64))), none⟩])
 (.cond (.tmp 65)
 .skip
 (.exit 0)))
 (.seq
 (.block 1
 (.seq
 (.draw [⟨(some 68), (.val (.mov (.tmp 3))), none⟩,
 ⟨(some 69), (.val (.mov (.tmp 4))), none⟩,
 ⟨(some 70), (.val (.iaddr 1 (.tmp 68) (.tmp 69))), none⟩,
 ⟨(some 71), (.val (.load none (.tmp 70))), none⟩,
 ⟨(some 72), (.val (.mov (.tmp 0))), none⟩,
 ⟨(some 73), (.val (.mov (.tmp 4))), none⟩,
 ⟨(some 74), (.call (.const (.func 19 [] [])) [(.tmp 72), (.tmp 73)]), none⟩,
 ⟨(some 75), (.val (.eq true (.prim 1) (.tmp 71) (.tmp 74))), none⟩] [(3, 6)])
 (.cond (.tmp 75)
 (.seq
 (.region [⟨(some 2), (.val (.mov (.const (.bool false)))), none⟩])
 .ret)
 .skip)))
 (.region [⟨(some 66), (.val (.mov (.tmp 4))), none⟩,
 ⟨(some 67), (.val (.bin .add (.tmp 66) (.const (.int .i64 1)))), none⟩,
 ⟨(some 4), (.val (.mov (.tmp 67))), none⟩])))
def F_l06_TreeTells : IFun :=
 ⟨77,
 (.seq
 (.region [⟨(some 2), (.val (.mov (.const (.bool false)))), none⟩])
 (.seq
 (.seq
 (.region [⟨(some 5), (.val (.mov (.tmp 0))), none⟩,
 ⟨(some 6), (.call (.const (.func 7 [] [])) [(.tmp 5)]), none⟩,
 ⟨(some 7), (.val (.un .not (.tmp 6))), none⟩])
 (.cond (.tmp 7)
 (.seq
 (.region [⟨(some 8), (.call (.const (.func 8 [] [])) []), none⟩,
 ⟨(some 2), (.val (.mov (.tmp 8))), none⟩])
 .ret)
 .skip))
 (.seq
 (.region [⟨(some 9), (.val (.mov (.tmp 0))), none⟩,
 ⟨(some 10), (.call (.const (.func 15 [] [])) [(.tmp 9)]), none⟩,
 ⟨(some 3), (.val (.mov (.tmp 10))), none⟩])
 (.seq
 (.seq
 (.region [⟨(some 11), (.val (.mov (.tmp 0))), none⟩,
 ⟨(some 12), (.call (.const (.func 13 [] [])) [(.tmp 11)]), none⟩,
 ⟨(some 13), (.val (.un .not (.tmp 12))), none⟩])
 (.cond (.tmp 13)
 (.seq
 (.region [⟨(some 14), (.val (.mov (.tmp 0))), none⟩,
 ⟨(some 15), (.call (.const (.func 12 [] [])) [(.tmp 14)]), none⟩,
 ⟨(some 16), (.val (.un .not (.tmp 15))), none⟩,
 ⟨(some 17), (.val (.mov (.tmp 16))), none⟩,
 ⟨(some 18), (.val (.mov (.tmp 0))), (some (17, true))⟩,
 ⟨(some 19), (.call (.const (.func 17 [] [])) [(.tmp 18)]), (some (17, true))⟩,
 ⟨(some 20), (.val (.un .not (.tmp 19))), (some (17, true))⟩,
 ⟨(some 21), (.val (.pick (.tmp 17) (.tmp 20) (.const (.bool false)))), none⟩,
 ⟨(some 22), (.val (.mov (.tmp 21))), none⟩,
 ⟨(some 23), (.val (.mov (.tmp 3))), (some (22, true))⟩,
 ⟨(some 24), (.val (.len (.tmp 23))), (some (22, true))⟩,
 ⟨(some 25), (.val (.eq false (.prim 1) (.tmp 24) (.const (.int .i64 0)))), (some (22, true))⟩,
 ⟨(some 26), (.val (.pick (.tmp 22) (.tmp 25) (.const (.bool false)))), none⟩,
 ⟨(some 27), (.val (.mov (.tmp 26))), none⟩,
 ⟨(some 28), (.val (.mov (.tmp 0))), (some (27, true))⟩,
 ⟨(some 29), (.call (.const (.func 11 [] [])) [(.tmp 28)]), (some (27, true))⟩,
 ⟨(some 30), (.val (.eq false (.prim 2) (.tmp 29) (.const (.str [])))), (some (27, true))⟩,
 ⟨(some 31), (.val (.pick (.tmp 27) (.tmp 30) (.const (.bool false)))), none⟩,
 ⟨(some 32), (.val (.mov (.tmp 31))), none⟩,
 ⟨(some 33), (.call (.const (.func 8 [] [])) []), (some (32, true))⟩,
 ⟨(some 34), (.val (.pick (.tmp 32) (.tmp 33) (.const (.bool false)))), none⟩,
 ⟨(some 2), (.val (.mov (.tmp 34))), none⟩])
 .ret)
 .skip))
 (.seq
 (.seq
 (.region [⟨(some 35), (.val (.mov (.tmp 0))), none⟩,
 ⟨(some 36), (.call (.const (.func 12 [] [])) [(.tmp 35)]), none⟩,
 ⟨(some 37), (.val (.un .not (.tmp 36))), none⟩,
 ⟨(some 38), (.val (.mov (.tmp 37))), none⟩,
 ⟨(some 39), (.val (.mov (.tmp 0))), (some (38, false))⟩,
 ⟨(some 40), (.call (.const (.func 17 [] [])) [(.tmp 39)]), (some (38, false))⟩,
 ⟨(some 41), (.val (.mov (.tmp 0))), (some (38, false))⟩,
 ⟨(some 42), (.call (.const (.func 18 [] [])) [(.tmp 41)]), (some (38, false))⟩,
 ⟨(some 43), (.val (.eq true (.prim 0) (.tmp 40) (.tmp 42))), (some (38, false))⟩,
 ⟨(some 44), (.val (.pick (.tmp 38) (.const (.bool true)) (.tmp 43))), none⟩,
 ⟨(some 45), (.val (.mov (.tmp 44))), none⟩,
 ⟨(some 46), (.val (.mov (.tmp 3))), (some (45, false))⟩,
 ⟨(some 47), (.val (.len (.tmp 46))), (some (45, false))⟩,
 ⟨(some 48), (.val (.mov (.tmp 0))), (some (45, false))⟩,
 ⟨(some 49), (.val (.len (.tmp 48))), (some (45, false))⟩,
 ⟨(some 50), (.val (.eq true (.prim 1) (.tmp 47) (.tmp 49))), (some (45, false))⟩,
 ⟨(some 51), (.val (.pick (.tmp 45) (.const (.bool true)) (.tmp 50))), none⟩,
 ⟨(some 52), (.val (.mov (.tmp 51))), none⟩,
 ⟨(some 53), (.val (.mov (.tmp 0))), (some (52, false))⟩,
 ⟨(some 54), (.call (.const (.func 11 [] [])) [(.tmp 53)]), (some (52, false))⟩,
 ⟨(some 55), (.val (.mov (.tmp 0))), (some (52, false))⟩,
 ⟨(some 56), (.val (.mov (.tmp 0))), (some (52, false))⟩,
 ⟨(some 57), (.val (.len (.tmp 56))), (some (52, false))⟩,
 ⟨(some 58), (.val (.bin .sub (.tmp 57) (.const (.int .i64 1)))), (some (52, false))⟩,
 ⟨(some 59), (.call (.const (.func 16 [] [])) [(.tmp 55), (.tmp 58)]), (some (52, false))⟩,
 ⟨(some 60), (.val (.eq true (.prim 2) (.tmp 54) (.tmp 59))), (some (52, false))⟩,
 ⟨(some 61), (.val (.pick (.tmp 52) (.const (.bool true)) (.tmp 60))), none⟩])
 (.cond (.tmp 61)
 (.seq
 (.region [⟨(some 2), (.val (.mov (.const (.bool false)))), none⟩])
 .ret)
 .skip))
 (.seq
 (.seq
 (.region [⟨(some 4), (.val (.mov (.const (.int .i64 0)))), none⟩])
 (.block 0
 (.loop F_l06_TreeTells_l0)))
 (.seq
 (.region [⟨(some 76), (.call (.const (.func 8 [] [])) []), none⟩,
 ⟨(some 2), (.val (.mov (.tmp 76))), none⟩])
 .ret))))))),
 [.tmp 2]⟩
theorem ok5 : cFun Tryd.prog G Tryd.f5 = some F_l06_TreeTells := by kernel_rfl

/- balustrade/balustradelaw06.TreeWords -/
abbrev n_l06_TreeWords : Nat := 6
def F_l06_TreeWords_l0 : ICode :=
 (.seq
 (.seq
 (.region [⟨(some 23), (.val (.mov (.tmp 10))), none⟩,
 ⟨(some 24), (.val (.mov (.tmp 7))), none⟩,
 ⟨(some 25), (.val (.len (.tmp 24))), none⟩,
 ⟨(some 26), (.val (.bin .lss (.tmp 23) (.tmp 25))), none⟩])
 (.cond (.tmp 26)
 .skip
 (.exit 0)))
 (.seq
 (.block 1
 (.seq
 (.region [⟨(some 29), (.val (.mov (.tmp 7))), none⟩,
 ⟨(some 30), (.val (.mov (.tmp 10))), none⟩,
 ⟨(some 31), (.val (.iaddr 1 (.tmp 29) (.tmp 30))), none⟩,
 ⟨(some 32), (.val (.load none (.tmp 31))), none⟩,
 ⟨(some 33), (.val (.mov (.tmp 1))), none⟩,
 ⟨(some 34), (.val (.eq false (.prim 2) (.tmp 32) (.tmp 33))), none⟩])
 (.cond (.tmp 34)
 (.region [⟨(some 35), (.val (.mov (.tmp 10))), none⟩,
 ⟨(some 36), (.val (.bin .add (.tmp 35) (.const (.int .i64 1)))), none⟩,
 ⟨(some 9), (.val (.mov (.tmp 36))), none⟩])
 .skip)))
 (.region [⟨(some 27), (.val (.mov (.tmp 10))), none⟩,
 ⟨(some 28), (.val (.bin .add (.tmp 27) (.const (.int .i64 1)))), none⟩,
 ⟨(some 10), (.val (.mov (.tmp 28))), none⟩])))
def F_l06_TreeWords : IFun :=
 ⟨57,
 (.seq
 (.region [⟨(some 6), (.val (.mov (.const (.bool false)))), none⟩])
 (.seq
 (.region [⟨(some 11), (.call (.const (.func 20 [] [])) []), none⟩,
 ⟨(some 7), (.val (.mov (.tmp 11))), none⟩])
 (.seq
 (.region [⟨(some 8), (.val (.mov (.const (.str [])))), none⟩,
 ⟨(some 9), (.val (.mov (.const (.int .i64 0)))), none⟩])
 (.seq
 (.seq
 (.region [⟨(some 12), (.val (.mov (.tmp 0))), none⟩,
 ⟨(some 13), (.val (.bin .geq (.tmp 12) (.const (.int .i64 1)))), none⟩,
 ⟨(some 14), (.val (.mov (.tmp 13))), none⟩,
 ⟨(some 15), (.val (.mov (.tmp 0))), (some (14, true))⟩,
 ⟨(some 16), (.val (.bin .leq (.tmp 15) (.const (.int .i64 16)))), (some (14, true))⟩,
 ⟨(some 17), (.val (.pick (.tmp 14) (.tmp 16) (.const (.bool false)))), none⟩])
 (.cond (.tmp 17)
 (.region [⟨(some 18), (.val (.mov (.tmp 7))), none⟩,
 ⟨(some 19), (.val (.mov (.tmp 0))), none⟩,
 ⟨(some 20), (.val (.bin .sub (.tmp 19) (.const (.int .i64 1)))), none⟩,
 ⟨(some 21), (.val (.iaddr 1 (.tmp 18) (.tmp 20))), none⟩,
 ⟨(some 22), (.val (.load none (.tmp 21))), none⟩,
 ⟨(some 8), (.val (.mov (.tmp 22))), none⟩])
 .skip))
 (.seq
 (.seq
 (.region [⟨(some 10), (.val (.mov (.const (.int .i64 0)))), none⟩])
 (.block 0
 (.loop F_l06_TreeWords_l0)))
 (.seq
 (.region [⟨(some 37), (.val (.mov (.tmp 0))), none⟩,
 ⟨(some 38), (.call (.const (.func 21 [] [])) [(.tmp 37)]), none⟩,
 ⟨(some 39), (.val (.mov (.tmp 8))), none⟩,
 ⟨(some 40), (.val (.eq false (.prim 2) (.tmp 38) (.tmp 39))), none⟩,
 ⟨(some 41), (.val (.mov (.tmp 40))), none⟩,
 ⟨(some 42), (.val (.mov (.tmp 1))), (some (41, true))⟩,
 ⟨(some 43), (.call (.const (.func 22 [] [])) [(.tmp 42)]), (some (41, true))⟩,
 ⟨(some 44), (.val (.mov (.tmp 9))), (some (41, true))⟩,
 ⟨(some 45), (.val (.eq false (.prim 1) (.tmp 43) (.tmp 44))), (some (41, true))⟩,
 ⟨(some 46), (.val (.pick (.tmp 41) (.tmp 45) (.const (.bool false)))), none⟩,
 ⟨(some 47), (.val (.mov (.tmp 46))), none⟩,
 ⟨(some 48), (.val (.mov (.tmp 2))), (some (47, true))⟩,
 ⟨(some 49), (.call (.const (.func 23 [] [])) [(.tmp 48)]), (some (47, true))⟩,
 ⟨(some 50), (.val (.mov (.tmp 2))), (some (47, true))⟩,
 ⟨(some 51), (.call (.const (.func 24 [] [])) [(.tmp 50)]), (some (47, true))⟩,
 ⟨(some 52), (.val (.eq false (.prim 2) (.tmp 49) (.tmp 51))), (some (47, true))⟩,
 ⟨(some 53), (.val (.pick (.tmp 47) (.tmp 52) (.const (.bool false)))), none⟩,
 ⟨(some 54), (.val (.mov (.tmp 53))), none⟩,
 ⟨(some 55), (.call (.const (.func 8 [] [])) []), (some (54, true))⟩,
 ⟨(some 56), (.val (.pick (.tmp 54) (.tmp 55) (.const (.bool false)))), none⟩,
 ⟨(some 6), (.val (.mov (.tmp 56))), none⟩])
 .ret)))))),
 [.tmp 6]⟩
theorem ok6 : cFun Tryd.prog G Tryd.f6 = some F_l06_TreeWords := by kernel_rfl

/- balustrade/balustradelaw06.few -/
abbrev n_l06_few : Nat := 7
def F_l06_few_l0 : ICode :=
 (.seq
 (.seq
 (.region [⟨(some 5), (.val (.mov (.tmp 4))), none⟩,
 ⟨(some 6), (.val (.mov (.tmp 0))), none⟩,
 ⟨(some 7), (.val (.len (.tmp 6))), none⟩,
 ⟨(some 8), (.val (.bin .lss (.tmp 5) (.tmp 7))), none⟩])
 (.cond (.tmp 8)
 .skip
 (.exit 0)))
 (.seq
 (.block 1
 (.seq
 (.region [⟨(some 11), (.val (.mov (.tmp 3))), none⟩,
 ⟨(some 12), (.val (.mov (.tmp 0))), none⟩,
 ⟨(some 13), (.val (.mov (.tmp 4))), none⟩,
 ⟨(some 14), (.val (.iaddr 5 (.tmp 12) (.tmp 13))), none⟩,
 ⟨(some 15), (.val (.faddr 1 (.tmp 14))), none⟩,
 ⟨(some 16), (.val (.load none (.tmp 15))), none⟩,
 ⟨(some 17), (.val (.len (.tmp 16))), none⟩,
 ⟨(some 18), (.val (.bin .add (.tmp 11) (.tmp 17))), none⟩,
 ⟨(some 3), (.val (.mov (.tmp 18))), none⟩])
 (.seq
 (.region [⟨(some 19), (.val (.mov (.tmp 0))), none⟩,
 ⟨(some 20), (.val (.mov (.tmp 4))), none⟩,
 ⟨(some 21), (.val (.iaddr 5 (.tmp 19) (.tmp 20))), none⟩,
 ⟨(some 22), (.val (.faddr 3 (.tmp 21))), none⟩,
 ⟨(some 23), (.val (.load none (.tmp 22))), none⟩,
 ⟨(some 24), (.val (.lenstr (.tmp 23))), none⟩,
 ⟨(some 25), (.val (.bin .gtr (.tmp 24) (.const (.int .i64 40)))), none⟩])
 (.cond (.tmp 25)
 (.seq
 (.region [⟨(some 2), (.val (.mov (.const (.bool false)))), none⟩])
 .ret)
 .skip))))
 (.region [⟨(some 9), (.val (.mov (.tmp 4))), none⟩,
 ⟨(some 10), (.val (.bin .add (.tmp 9) (.const (.int .i64 1)))), none⟩,
 ⟨(some 4), (.val (.mov (.tmp 10))), none⟩])))
def F_l06_few : IFun :=
 ⟨33,
 (.seq
 (.region [⟨(some 2), (.val (.mov (.const (.bool false)))), none⟩])
 (.seq
 (.region [⟨(some 3), (.val (.mov (.const (.int .i64 0)))), none⟩])
 (.seq
 (.seq
 (.region [⟨(some 4), (.val (.mov (.const (.int .i64 0)))), none⟩])
 (.block 0
 (.loop F_l06_few_l0)))
 (.seq
 (.region [⟨(some 26), (.val (.mov (.tmp 0))), none⟩,
 ⟨(some 27), (.val (.len (.tmp 26))), none⟩,
 ⟨(some 28), (.val (.bin .leq (.tmp 27) (.const (.int .i64 60)))), none⟩,
 ⟨(some 29), (.val (.mov (.tmp 28))), none⟩,
 ⟨(some 30), (.val (.mov (.tmp 3))), (some (29, true))⟩,
 ⟨(some 31), (.val (.bin .leq (.tmp 30) (.const (.int .i64 200)))), (some (29, true))⟩,
 ⟨(some 32), (.val (.pick (.tmp 29) (.tmp 31) (.const (.bool false)))), none⟩,
 ⟨(some 2), (.val (.mov (.tmp 32))), none⟩])
 .ret)))),
 [.tmp 2]⟩
theorem ok7 : cFun Tryd.prog G Tryd.f7 = some F_l06_few := by kernel_rfl

/- balustrade/balustradelaw06.works -/
abbrev n_l06_works : Nat := 8
def F_l06_works : IFun :=
 ⟨29,
 (.seq
 (.region [⟨(some 0), (.val (.mov (.const (.bool false)))), none⟩])
 (.seq
 (.region [⟨(some 2), (.val (.build [(.int .i64 0), .nilslice, (.int .i64 0), (.str []), (.int .i64 0)] [(0, 1, (.const (.int .i64 4))), (3, 1, (.const (.str [120])))])), none⟩,
 ⟨(some 3), (.val (.build [(.int .i64 0), .nilslice, (.int .i64 0), (.str []), (.int .i64 0)] [(0, 1, (.const (.int .i64 1))), (2, 1, (.const (.int .i64 1)))])), none⟩,
 ⟨(some 4), (.val (.bslice 3 1 2 [(.int .i64 0)] [(0, (.const (.int .i64 0))), (1, (.const (.int .i64 1)))])), none⟩,
 ⟨(some 5), (.val (.build [(.int .i64 0), .nilslice, (.int .i64 0), (.str []), (.int .i64 0)] [(0, 1, (.const (.int .i64 5))), (2, 1, (.const (.int .i64 9))), (1, 1, (.tmp 4))])), none⟩,
 ⟨(some 6), (.val (.bslice 27 5 3 [(.int .i64 0), .nilslice, (.int .i64 0), (.str []), (.int .i64 0)] [(0, (.tmp 2)), (1, (.tmp 3)), (2, (.tmp 5))])), none⟩,
 ⟨(some 1), (.val (.mov (.tmp 6))), none⟩])
 (.seq
 (.region [⟨(some 7), (.val (.mov (.tmp 1))), none⟩,
 ⟨(some 8), (.call (.const (.func 12 [] [])) [(.tmp 7)]), none⟩,
 ⟨(some 9), (.val (.mov (.tmp 8))), none⟩,
 ⟨(some 10), (.val (.mov (.tmp 1))), (some (9, true))⟩,
 ⟨(some 11), (.call (.const (.func 11 [] [])) [(.tmp 10)]), (some (9, true))⟩,
 ⟨(some 12), (.val (.eq false (.prim 2) (.tmp 11) (.const (.str [40, 43, 32, 120, 32, 49, 41])))), (some (9, true))⟩,
 ⟨(some 13), (.val (.pick (.tmp 9) (.tmp 12) (.const (.bool false)))), none⟩,
 ⟨(some 14), (.val (.mov (.tmp 13))), none⟩,
 ⟨(some 15), (.val (.mov (.tmp 1))), (some (14, true))⟩,
 ⟨(some 16), (.call (.const (.func 17 [] [])) [(.tmp 15)]), (some (14, true))⟩,
 ⟨(some 17), (.val (.un .not (.tmp 16))), (some (14, true))⟩,
 ⟨(some 18), (.val (.pick (.tmp 14) (.tmp 17) (.const (.bool false)))), none⟩,
 ⟨(some 19), (.val (.mov (.tmp 18))), none⟩,
 ⟨(some 20), (.val (.mov (.tmp 1))), (some (19, true))⟩,
 ⟨(some 21), (.call (.const (.func 15 [] [])) [(.tmp 20)]), (some (19, true))⟩,
 ⟨(some 22), (.val (.bslice 3 1 3 [(.int .i64 0)] [(0, (.const (.int .i64 1))), (1, (.const (.int .i64 1))), (2, (.const (.int .i64 2)))])), (some (19, true))⟩,
 ⟨(some 23), (.call (.const (.func 25 [] [])) [(.tmp 21), (.tmp 22)]), (some (19, true))⟩,
 ⟨(some 24), (.val (.pick (.tmp 19) (.tmp 23) (.const (.bool false)))), none⟩,
 ⟨(some 25), (.val (.mov (.tmp 24))), none⟩,
 ⟨(some 26), (.call (.const (.func 22 [] [])) [(.const (.str [42, 37]))]), (some (25, true))⟩,
 ⟨(some 27), (.val (.eq false (.prim 1) (.tmp 26) (.const (.int .i64 16)))), (some (25, true))⟩,
 ⟨(some 28), (.val (.pick (.tmp 25) (.tmp 27) (.const (.bool false)))), none⟩,
 ⟨(some 0), (.val (.mov (.tmp 28))), none⟩])
 .ret))),
 [.tmp 0]⟩
theorem ok8 : cFun Tryd.prog G Tryd.f8 = some F_l06_works := by kernel_rfl

/- balustrade/tree.Alike -/
abbrev n_tree_Alike : Nat := 9
def F_tree_Alike : IFun :=
 ⟨8,
 (.seq
 (.region [⟨(some 4), (.val (.mov (.const (.bool false)))), none⟩])
 (.seq
 (.region [⟨(some 5), (.val (.mov (.tmp 0))), none⟩,
 ⟨(some 6), (.val (.mov (.tmp 1))), none⟩,
 ⟨(some 7), (.call (.const (.func 26 [] [])) [(.tmp 5), (.tmp 6), (.const (.func 27 [] []))]), none⟩,
 ⟨(some 4), (.val (.mov (.tmp 7))), none⟩])
 .ret)),
 [.tmp 4]⟩
theorem ok9 : cFun Tryd.prog G Tryd.f9 = some F_tree_Alike := by kernel_rfl

/- balustrade/balustradebase.SameNodes -/
abbrev n_base_SameNodes : Nat := 10
def F_base_SameNodes_l0 : ICode :=
 (.seq
 (.seq
 (.region [⟨(some 11), (.val (.mov (.tmp 5))), none⟩,
 ⟨(some 12), (.val (.mov (.tmp 0))), none⟩,
 ⟨(some 13), (.val (.len (.tmp 12))), none⟩,
 ⟨(some 14), (.val (.bin .lss (.tmp 11) (.tmp 13))), none⟩])
 (.cond (.tmp 14)
 .skip
 (.exit 0)))
 (.seq
 (.block 1
 (.seq
 (.draw [⟨(some 17), (.val (.mov (.tmp 0))), none⟩,
 ⟨(some 18), (.val (.mov (.tmp 5))), none⟩,
 ⟨(some 19), (.val (.iaddr 5 (.tmp 17) (.tmp 18))), none⟩,
 ⟨(some 20), (.val (.faddr 0 (.tmp 19))), none⟩,
 ⟨(some 21), (.val (.load none (.tmp 20))), none⟩,
 ⟨(some 22), (.val (.mov (.tmp 1))), none⟩,
 ⟨(some 23), (.val (.mov (.tmp 5))), none⟩,
 ⟨(some 24), (.val (.iaddr 5 (.tmp 22) (.tmp 23))), none⟩,
 ⟨(some 25), (.val (.faddr 0 (.tmp 24))), none⟩,
 ⟨(some 26), (.val (.load none (.tmp 25))), none⟩,
 ⟨(some 27), (.val (.eq true (.prim 1) (.tmp 21) (.tmp 26))), none⟩,
 ⟨(some 28), (.val (.mov (.tmp 27))), none⟩,
 ⟨(some 29), (.val (.mov (.tmp 0))), (some (28, false))⟩,
 ⟨(some 30), (.val (.mov (.tmp 5))), (some (28, false))⟩,
 ⟨(some 31), (.val (.iaddr 5 (.tmp 29) (.tmp 30))), (some (28, false))⟩,
 ⟨(some 32), (.val (.faddr 2 (.tmp 31))), (some (28, false))⟩,
 ⟨(some 33), (.val (.load none (.tmp 32))), (some (28, false))⟩,
 ⟨(some 34), (.val (.mov (.tmp 1))), (some (28, false))⟩,
 ⟨(some 35), (.val (.mov (.tmp 5))), (some (28, false))⟩,
 ⟨(some 36), (.val (.iaddr 5 (.tmp 34) (.tmp 35))), (some (28, false))⟩,
 ⟨(some 37), (.val (.faddr 2 (.tmp 36))), (some (28, false))⟩,
 ⟨(some 38), (.val (.load none (.tmp 37))), (some (28, false))⟩,
 ⟨(some 39), (.val (.eq true (.prim 1) (.tmp 33) (.tmp 38))), (some (28, false))⟩,
 ⟨(some 40), (.val (.pick (.tmp 28) (.const (.bool true)) (.tmp 39))), none⟩,
 ⟨(some 41), (.val (.mov (.tmp 40))), none⟩,
 ⟨(some 42), (.val (.mov (.tmp 0))), (some (41, false))⟩,
 ⟨(some 43), (.val (.mov (.tmp 5))), (some (41, false))⟩,
 ⟨(some 44), (.val (.iaddr 5 (.tmp 42) (.tmp 43))), (some (41, false))⟩,
 ⟨(some 45), (.val (.faddr 3 (.tmp 44))), (some (41, false))⟩,
 ⟨(some 46), (.val (.load none (.tmp 45))), (some (41, false))⟩,
 ⟨(some 47), (.val (.mov (.tmp 1))), (some (41, false))⟩,
 ⟨(some 48), (.val (.mov (.tmp 5))), (some (41, false))⟩,
 ⟨(some 49), (.val (.iaddr 5 (.tmp 47) (.tmp 48))), (some (41, false))⟩,
 ⟨(some 50), (.val (.faddr 3 (.tmp 49))), (some (41, false))⟩,
 ⟨(some 51), (.val (.load none (.tmp 50))), (some (41, false))⟩,
 ⟨(some 52), (.val (.eq true (.prim 2) (.tmp 46) (.tmp 51))), (some (41, false))⟩,
 ⟨(some 53), (.val (.pick (.tmp 41) (.const (.bool true)) (.tmp 52))), none⟩,
 ⟨(some 54), (.val (.mov (.tmp 53))), none⟩,
 ⟨(some 55), (.val (.mov (.tmp 0))), (some (54, false))⟩,
 ⟨(some 56), (.val (.mov (.tmp 5))), (some (54, false))⟩,
 ⟨(some 57), (.val (.iaddr 5 (.tmp 55) (.tmp 56))), (some (54, false))⟩,
 ⟨(some 58), (.val (.faddr 1 (.tmp 57))), (some (54, false))⟩,
 ⟨(some 59), (.val (.load none (.tmp 58))), (some (54, false))⟩,
 ⟨(some 60), (.val (.mov (.tmp 1))), (some (54, false))⟩,
 ⟨(some 61), (.val (.mov (.tmp 5))), (some (54, false))⟩,
 ⟨(some 62), (.val (.iaddr 5 (.tmp 60) (.tmp 61))), (some (54, false))⟩,
 ⟨(some 63), (.val (.faddr 1 (.tmp 62))), (some (54, false))⟩,
 ⟨(some 64), (.val (.load none (.tmp 63))), (some (54, false))⟩,
 ⟨(some 65), (.call (.const (.func 25 [] [])) [(.tmp 59), (.tmp 64)]), (some (54, false))⟩,
 ⟨(some 66), (.val (.un .not (.tmp 65))), (some (54, false))⟩,
 ⟨(some 67), (.val (.pick (.tmp 54) (.const (.bool true)) (.tmp 66))), none⟩] [])
 (.cond (.tmp 67)
 (.seq
 (.region [⟨(some 4), (.val (.mov (.const (.bool false)))), none⟩])
 .ret)
 .skip)))
 (.region [⟨(some 15), (.val (.mov (.tmp 5))), none⟩,
 ⟨(some 16), (.val (.bin .add (.tmp 15) (.const (.int .i64 1)))), none⟩,
 ⟨(some 5), (.val (.mov (.tmp 16))), none⟩])))
def F_base_SameNodes : IFun :=
 ⟨68,
 (.seq
 (.region [⟨(some 4), (.val (.mov (.const (.bool false)))), none⟩])
 (.seq
 (.seq
 (.region [⟨(some 6), (.val (.mov (.tmp 0))), none⟩,
 ⟨(some 7), (.val (.len (.tmp 6))), none⟩,
 ⟨(some 8), (.val (.mov (.tmp 1))), none⟩,
 ⟨(some 9), (.val (.len (.tmp 8))), none⟩,
 ⟨(some 10), (.val (.eq true (.prim 1) (.tmp 7) (.tmp 9))), none⟩])
 (.cond (.tmp 10)
 (.seq
 (.region [⟨(some 4), (.val (.mov (.const (.bool false)))), none⟩])
 .ret)
 .skip))
 (.seq
 (.seq
 (.region [⟨(some 5), (.val (.mov (.const (.int .i64 0)))), none⟩])
 (.block 0
 (.loop F_base_SameNodes_l0)))
 (.seq
 (.region [⟨(some 4), (.val (.mov (.const (.bool true)))), none⟩])
 .ret)))),
 [.tmp 4]⟩
theorem ok10 : cFun Tryd.prog G Tryd.f10 = some F_base_SameNodes := by kernel_rfl

/- balustrade/tree.Text -/
abbrev n_tree_Text : Nat := 11
def F_tree_Text : IFun :=
 ⟨13,
 (.seq
 (.region [⟨(some 1), (.val (.box 22 (.tmp 0))), none⟩,
 ⟨(some 2), (.val (.mov (.const (.str [])))), none⟩])
 (.seq
 (.seq
 (.region [⟨(some 4), (.val (.load none (.tmp 1))), none⟩,
 ⟨(some 5), (.call (.const (.func 12 [] [])) [(.tmp 4)]), none⟩,
 ⟨(some 6), (.val (.un .not (.tmp 5))), none⟩])
 (.cond (.tmp 6)
 (.seq
 (.region [⟨(some 2), (.val (.mov (.const (.str [])))), none⟩])
 .ret)
 .skip))
 (.seq
 (.region [⟨(some 3), (.val (.alloc 38 [.nilfunc])), none⟩])
 (.seq
 (.region [⟨(some 7), (.val (.mkfn 29 [] [(.tmp 1), (.tmp 3)])), none⟩,
 ⟨none, (.val (.store 1 (.tmp 3) (.tmp 7))), none⟩])
 (.seq
 (.region [⟨(some 8), (.val (.load none (.tmp 3))), none⟩,
 ⟨(some 9), (.val (.load none (.tmp 1))), none⟩,
 ⟨(some 10), (.val (.len (.tmp 9))), none⟩,
 ⟨(some 11), (.val (.bin .sub (.tmp 10) (.const (.int .i64 1)))), none⟩,
 ⟨(some 12), (.call (.tmp 8) [(.tmp 11)]), none⟩,
 ⟨(some 2), (.val (.mov (.tmp 12))), none⟩])
 .ret))))),
 [.tmp 2]⟩
theorem ok11 : cFun Tryd.prog G Tryd.f11 = some F_tree_Text := by kernel_rfl

/- balustrade/tree.Right -/
abbrev n_tree_Right : Nat := 12
def F_tree_Right : IFun :=
 ⟨7,
 (.seq
 (.region [⟨(some 2), (.val (.mov (.const (.bool false)))), none⟩])
 (.seq
 (.region [⟨(some 3), (.val (.mov (.tmp 0))), none⟩,
 ⟨(some 4), (.call (.const (.func 15 [] [])) [(.tmp 3)]), none⟩,
 ⟨(some 5), (.val (.len (.tmp 4))), none⟩,
 ⟨(some 6), (.val (.bin .gtr (.tmp 5) (.const (.int .i64 0)))), none⟩,
 ⟨(some 2), (.val (.mov (.tmp 6))), none⟩])
 .ret)),
 [.tmp 2]⟩
theorem ok12 : cFun Tryd.prog G Tryd.f12 = some F_tree_Right := by kernel_rfl

/- balustrade/balustraderef06.Right -/
abbrev n_r06_Right : Nat := 13
def F_r06_Right_l0 : ICode :=
 (.seq
 (.seq
 (.region [⟨(some 14), (.val (.mov (.tmp 5))), none⟩,
 ⟨(some 15), (.val (.mov (.tmp 0))), none⟩,
 ⟨(some 16), (.val (.mov (.tmp 4))), none⟩,
 ⟨(some 17), (.val (.iaddr 5 (.tmp 15) (.tmp 16))), none⟩,
 ⟨(some 18), (.val (.faddr 1 (.tmp 17))), none⟩,
 ⟨(some 19), (.val (.load none (.tmp 18))), none⟩,
 ⟨(some 20), (.val (.len (.tmp 19))), none⟩,
 ⟨(some 21), (.val (.bin .lss (.tmp 14) (.tmp 20))), none⟩])
 (.cond (.tmp 21)
 .skip
 (.exit 2)))
 (.seq
 (.block 3
 (.seq
 (.region [⟨(some 24), (.val (.mov (.tmp 0))), none⟩,
 ⟨(some 25), (.val (.mov (.tmp 4))), none⟩,
 ⟨(some 26), (.val (.iaddr 5 (.tmp 24) (.tmp 25))), none⟩,
 ⟨(some 27), (.val (.faddr 1 (.tmp 26))), none⟩,
 ⟨(some 28), (.val (.load none (.tmp 27))), none⟩,
 ⟨(some 29), (.val (.mov (.tmp 5))), none⟩,
 ⟨(some 30), (.val (.iaddr 1 (.tmp 28) (.tmp 29))), none⟩,
 ⟨(some 31), (.val (.load none (.tmp 30))), none⟩,
 ⟨(some 6), (.val (.mov (.tmp 31))), none⟩])
 (.seq
 (.seq
 (.region [⟨(some 32), (.val (.mov (.tmp 6))), none⟩,
 ⟨(some 33), (.val (.bin .lss (.tmp 32) (.const (.int .i64 0)))), none⟩,
 ⟨(some 34), (.val (.mov (.tmp 33))), none⟩,
 ⟨(some 35), (.val (.mov (.tmp 6))), (some (34, false))⟩,
 ⟨(some 36), (.val (.mov (.tmp 4))), (some (34, false))⟩,
 ⟨(some 37), (.val (.bin .geq (.tmp 35) (.tmp 36))), (some (34, false))⟩,
 ⟨(some 38), (.val (.pick (.tmp 34) (.const (.bool true)) (.tmp 37))), none⟩,
 ⟨(some 39), (.val (.mov (.tmp 38))), none⟩,
 ⟨(some 40), (.val (.mov (.tmp 3))), (some (39, false))⟩,
 ⟨(some 41), (.val (.mov (.tmp 6))), (some (39, false))⟩,
 ⟨(some 42), (.call (.const (.func 34 [] [])) [(.tmp 40), (.tmp 41)]), (some (39, false))⟩,
 ⟨(some 43), (.val (.pick (.tmp 39) (.const (.bool true)) (.tmp 42))), none⟩])
 (.cond (.tmp 43)
 (.seq
 (.region [⟨(some 2), (.val (.mov (.const (.bool false)))), none⟩])
 .ret)
 .skip))
 (.region [⟨(some 44), (.val (.mov (.tmp 3))), none⟩,
 ⟨(some 45), (.val (.mov (.tmp 6))), none⟩,
 ⟨(some 46), (.val (.bslice 3 1 1 [(.int .i64 0)] [(0, (.tmp 45))])), none⟩,
 ⟨(some 47), (.val (.append 3 1 8 (.tmp 44) (.tmp 46))), none⟩,
 ⟨(some 3), (.val (.mov (.tmp 47))), none⟩]))))
 (.region [⟨(some 22), (.val (.mov (.tmp 5))), none⟩,
 ⟨(some 23), (.val (.bin .add (.tmp 22) (.const (.int .i64 1)))), none⟩,
 ⟨(some 5), (.val (.mov (.tmp 23))), none⟩])))
def F_r06_Right_l1 : ICode :=
 (.seq
 (.seq
 (.region [⟨(some 8), (.val (.mov (.tmp 4))), none⟩,
 ⟨(some 9), (.val (.mov (.tmp 0))), none⟩,
 ⟨(some 10), (.val (.len (.tmp 9))), none⟩,
 ⟨(some 11), (.val (.bin .lss (.tmp 8) (.tmp 10))), none⟩])
 (.cond (.tmp 11)
 .skip
 (.exit 0)))
 (.seq
 (.block 1
 (.seq
 (.seq
 (.region [⟨(some 5), (.val (.mov (.const (.int .i64 0)))), none⟩])
 (.block 2
 (.loop F_r06_Right_l0)))
 (.seq
 (.region [⟨(some 48), (.val (.mov (.tmp 0))), none⟩,
 ⟨(some 49), (.val (.mov (.tmp 4))), none⟩,
 ⟨(some 50), (.val (.iaddr 5 (.tmp 48) (.tmp 49))), none⟩,
 ⟨(some 51), (.val (.load (some 5) (.tmp 50))), none⟩,
 ⟨(some 52), (.call (.const (.func 35 [] [])) [(.tmp 51)]), none⟩,
 ⟨(some 53), (.val (.un .not (.tmp 52))), none⟩,
 ⟨(some 54), (.val (.mov (.tmp 53))), none⟩,
 ⟨(some 55), (.val (.mov (.tmp 0))), (some (54, false))⟩,
 ⟨(some 56), (.val (.mov (.tmp 0))), (some (54, false))⟩,
 ⟨(some 57), (.val (.mov (.tmp 4))), (some (54, false))⟩,
 ⟨(some 58), (.val (.iaddr 5 (.tmp 56) (.tmp 57))), (some (54, false))⟩,
 ⟨(some 59), (.val (.load (some 5) (.tmp 58))), (some (54, false))⟩,
 ⟨(some 60), (.call (.const (.func 36 [] [])) [(.tmp 55), (.tmp 59)]), (some (54, false))⟩,
 ⟨(some 61), (.val (.un .not (.tmp 60))), (some (54, false))⟩,
 ⟨(some 62), (.val (.pick (.tmp 54) (.const (.bool true)) (.tmp 61))), none⟩])
 (.cond (.tmp 62)
 (.seq
 (.region [⟨(some 2), (.val (.mov (.const (.bool false)))), none⟩])
 .ret)
 .skip))))
 (.region [⟨(some 12), (.val (.mov (.tmp 4))), none⟩,
 ⟨(some 13), (.val (.bin .add (.tmp 12) (.const (.int .i64 1)))), none⟩,
 ⟨(some 4), (.val (.mov (.tmp 13))), none⟩])))
def F_r06_Right : IFun :=
 ⟨82,
 (.seq
 (.region [⟨(some 2), (.val (.mov (.const (.bool false)))), none⟩])
 (.seq
 (.region [⟨(some 7), (.val (.bslice 3 1 0 [(.int .i64 0)] [])), none⟩,
 ⟨(some 3), (.val (.mov (.tmp 7))), none⟩])
 (.seq
 (.seq
 (.region [⟨(some 4), (.val (.mov (.const (.int .i64 0)))), none⟩])
 (.block 0
 (.loop F_r06_Right_l1)))
 (.seq
 (.region [⟨(some 63), (.val (.mov (.tmp 0))), none⟩,
 ⟨(some 64), (.val (.len (.tmp 63))), none⟩,
 ⟨(some 65), (.val (.bin .gtr (.tmp 64) (.const (.int .i64 0)))), none⟩,
 ⟨(some 66), (.val (.mov (.tmp 65))), none⟩,
 ⟨(some 67), (.val (.mov (.tmp 3))), (some (66, true))⟩,
 ⟨(some 68), (.val (.len (.tmp 67))), (some (66, true))⟩,
 ⟨(some 69), (.val (.mov (.tmp 0))), (some (66, true))⟩,
 ⟨(some 70), (.val (.len (.tmp 69))), (some (66, true))⟩,
 ⟨(some 71), (.val (.bin .sub (.tmp 70) (.const (.int .i64 1)))), (some (66, true))⟩,
 ⟨(some 72), (.val (.eq false (.prim 1) (.tmp 68) (.tmp 71))), (some (66, true))⟩,
 ⟨(some 73), (.val (.pick (.tmp 66) (.tmp 72) (.const (.bool false)))), none⟩,
 ⟨(some 74), (.val (.mov (.tmp 73))), none⟩,
 ⟨(some 75), (.val (.mov (.tmp 0))), (some (74, true))⟩,
 ⟨(some 76), (.val (.mov (.tmp 0))), (some (74, true))⟩,
 ⟨(some 77), (.val (.len (.tmp 76))), (some (74, true))⟩,
 ⟨(some 78), (.val (.bin .sub (.tmp 77) (.const (.int .i64 1)))), (some (74, true))⟩,
 ⟨(some 79), (.call (.const (.func 19 [] [])) [(.tmp 75), (.tmp 78)]), (some (74, true))⟩,
 ⟨(some 80), (.val (.bin .leq (.tmp 79) (.const (.int .i64 200)))), (some (74, true))⟩,
 ⟨(some 81), (.val (.pick (.tmp 74) (.tmp 80) (.const (.bool false)))), none⟩,
 ⟨(some 2), (.val (.mov (.tmp 81))), none⟩])
 .ret)))),
 [.tmp 2]⟩
theorem ok13 : cFun Tryd.prog G Tryd.f13 = some F_r06_Right := by kernel_rfl

/- balustrade/balustraderef06.Part -/
abbrev n_r06_Part : Nat := 14
def F_r06_Part_l0 : ICode :=
 (.seq
 (.seq
 (.region [⟨(some 49), (.val (.mov (.tmp 11))), none⟩,
 ⟨(some 50), (.val (.mov (.tmp 8))), none⟩,
 ⟨(some 51), (.val (.mov (.tmp 9))), none⟩,
 ⟨(some 52), (.val (.iaddr 5 (.tmp 50) (.tmp 51))), none⟩,
 ⟨(some 53), (.val (.faddr 1 (.tmp 52))), none⟩,
 ⟨(some 54), (.val (.load none (.tmp 53))), none⟩,
 ⟨(some 55), (.val (.len (.tmp 54))), none⟩,
 ⟨(some 56), (.val (.bin .lss (.tmp 49) (.tmp 55))), none⟩])
 (.cond (.tmp 56)
 .skip
 (.exit 4)))
 (.seq
 (.block 5
 (.draw [⟨(some 59), (.val (.faddr 1 (.tmp 10))), none⟩,
 ⟨(some 60), (.val (.load none (.tmp 59))), none⟩,
 ⟨(some 61), (.val (.mov (.tmp 8))), none⟩,
 ⟨(some 62), (.val (.mov (.tmp 9))), none⟩,
 ⟨(some 63), (.val (.iaddr 5 (.tmp 61) (.tmp 62))), none⟩,
 ⟨(some 64), (.val (.faddr 1 (.tmp 63))), none⟩,
 ⟨(some 65), (.val (.load none (.tmp 64))), none⟩,
 ⟨(some 66), (.val (.mov (.tmp 11))), none⟩,
 ⟨(some 67), (.val (.iaddr 1 (.tmp 65) (.tmp 66))), none⟩,
 ⟨(some 68), (.val (.load none (.tmp 67))), none⟩,
 ⟨(some 69), (.val (.mov (.tmp 5))), none⟩,
 ⟨(some 70), (.val (.len (.tmp 69))), none⟩,
 ⟨(some 71), (.val (.bin .add (.tmp 68) (.tmp 70))), none⟩,
 ⟨(some 72), (.val (.bslice 3 1 1 [(.int .i64 0)] [(0, (.tmp 71))])), none⟩,
 ⟨(some 73), (.val (.append 3 1 8 (.tmp 60) (.tmp 72))), none⟩,
 ⟨(some 74), (.val (.faddr 1 (.tmp 10))), none⟩,
 ⟨none, (.val (.store 1 (.tmp 74) (.tmp 73))), none⟩] []))
 (.region [⟨(some 57), (.val (.mov (.tmp 11))), none⟩,
 ⟨(some 58), (.val (.bin .add (.tmp 57) (.const (.int .i64 1)))), none⟩,
 ⟨(some 11), (.val (.mov (.tmp 58))), none⟩])))
def F_r06_Part_l1 : ICode :=
 (.seq
 (.seq
 (.region [⟨(some 38), (.val (.mov (.tmp 9))), none⟩,
 ⟨(some 39), (.val (.mov (.tmp 8))), none⟩,
 ⟨(some 40), (.val (.len (.tmp 39))), none⟩,
 ⟨(some 41), (.val (.bin .lss (.tmp 38) (.tmp 40))), none⟩])
 (.cond (.tmp 41)
 .skip
 (.exit 2)))
 (.seq
 (.block 3
 (.seq
 (.region [⟨(some 44), (.val (.mov (.tmp 8))), none⟩,
 ⟨(some 45), (.val (.mov (.tmp 9))), none⟩,
 ⟨(some 46), (.val (.iaddr 5 (.tmp 44) (.tmp 45))), none⟩,
 ⟨(some 47), (.val (.load (some 5) (.tmp 46))), none⟩,
 ⟨(some 10), (.val (.alloc 27 [(.int .i64 0), .nilslice, (.int .i64 0), (.str []), (.int .i64 0)])), none⟩,
 ⟨none, (.val (.store 5 (.tmp 10) (.tmp 47))), none⟩])
 (.seq
 (.region [⟨(some 48), (.val (.faddr 1 (.tmp 10))), none⟩,
 ⟨none, (.val (.store 1 (.tmp 48) (.const .nilslice))), none⟩])
 (.seq
 (.seq
 (.region [⟨(some 11), (.val (.mov (.const (.int .i64 0)))), none⟩])
 (.block 4
 (.loop F_r06_Part_l0)))
 (.region [⟨(some 75), (.val (.mov (.tmp 8))), none⟩,
 ⟨(some 76), (.val (.mov (.tmp 9))), none⟩,
 ⟨(some 77), (.val (.load (some 5) (.tmp 10))), none⟩,
 ⟨(some 78), (.val (.iaddr 5 (.tmp 75) (.tmp 76))), none⟩,
 ⟨none, (.val (.store 5 (.tmp 78) (.tmp 77))), none⟩])))))
 (.region [⟨(some 42), (.val (.mov (.tmp 9))), none⟩,
 ⟨(some 43), (.val (.bin .add (.tmp 42) (.const (.int .i64 1)))), none⟩,
 ⟨(some 9), (.val (.mov (.tmp 43))), none⟩])))
def F_r06_Part_l2 : ICode :=
 (.seq
 (.seq
 (.region [⟨(some 18), (.val (.mov (.tmp 7))), none⟩,
 ⟨(some 19), (.val (.mov (.tmp 0))), none⟩,
 ⟨(some 20), (.val (.mov (.tmp 1))), none⟩,
 ⟨(some 21), (.val (.iaddr 5 (.tmp 19) (.tmp 20))), none⟩,
 ⟨(some 22), (.val (.faddr 1 (.tmp 21))), none⟩,
 ⟨(some 23), (.val (.load none (.tmp 22))), none⟩,
 ⟨(some 24), (.val (.len (.tmp 23))), none⟩,
 ⟨(some 25), (.val (.bin .lss (.tmp 18) (.tmp 24))), none⟩])
 (.cond (.tmp 25)
 .skip
 (.exit 0)))
 (.seq
 (.block 1
 (.seq
 (.region [⟨(some 28), (.val (.mov (.tmp 0))), none⟩,
 ⟨(some 29), (.val (.mov (.tmp 0))), none⟩,
 ⟨(some 30), (.val (.mov (.tmp 1))), none⟩,
 ⟨(some 31), (.val (.iaddr 5 (.tmp 29) (.tmp 30))), none⟩,
 ⟨(some 32), (.val (.faddr 1 (.tmp 31))), none⟩,
 ⟨(some 33), (.val (.load none (.tmp 32))), none⟩,
 ⟨(some 34), (.val (.mov (.tmp 7))), none⟩,
 ⟨(some 35), (.val (.iaddr 1 (.tmp 33) (.tmp 34))), none⟩,
 ⟨(some 36), (.val (.load none (.tmp 35))), none⟩,
 ⟨(some 37), (.call (.const (.func 14 [] [])) [(.tmp 28), (.tmp 36)]), none⟩,
 ⟨(some 8), (.val (.mov (.tmp 37))), none⟩])
 (.seq
 (.seq
 (.region [⟨(some 9), (.val (.mov (.const (.int .i64 0)))), none⟩])
 (.block 2
 (.loop F_r06_Part_l1)))
 (.seq
 (.region [⟨(some 79), (.val (.mov (.tmp 5))), none⟩,
 ⟨(some 80), (.val (.mov (.tmp 8))), none⟩,
 ⟨(some 81), (.val (.append 27 5 64 (.tmp 79) (.tmp 80))), none⟩,
 ⟨(some 5), (.val (.mov (.tmp 81))), none⟩])
 (.region [⟨(some 82), (.val (.faddr 1 (.tmp 6))), none⟩,
 ⟨(some 83), (.val (.load none (.tmp 82))), none⟩,
 ⟨(some 84), (.val (.mov (.tmp 5))), none⟩,
 ⟨(some 85), (.val (.len (.tmp 84))), none⟩,
 ⟨(some 86), (.val (.bin .sub (.tmp 85) (.const (.int .i64 1)))), none⟩,
 ⟨(some 87), (.val (.bslice 3 1 1 [(.int .i64 0)] [(0, (.tmp 86))])), none⟩,
 ⟨(some 88), (.val (.append 3 1 8 (.tmp 83) (.tmp 87))), none⟩,
 ⟨(some 89), (.val (.faddr 1 (.tmp 6))), none⟩,
 ⟨none, (.val (.store 1 (.tmp 89) (.tmp 88))), none⟩])))))
 (.region [⟨(some 26), (.val (.mov (.tmp 7))), none⟩,
 ⟨(some 27), (.val (.bin .add (.tmp 26) (.const (.int .i64 1)))), none⟩,
 ⟨(some 7), (.val (.mov (.tmp 27))), none⟩])))
def F_r06_Part : IFun :=
 ⟨94,
 (.seq
 (.region [⟨(some 4), (.val (.mov (.const .nilslice))), none⟩])
 (.seq
 (.region [⟨(some 12), (.val (.bslice 27 5 0 [(.int .i64 0), .nilslice, (.int .i64 0), (.str []), (.int .i64 0)] [])), none⟩,
 ⟨(some 5), (.val (.mov (.tmp 12))), none⟩])
 (.seq
 (.region [⟨(some 13), (.val (.mov (.tmp 0))), none⟩,
 ⟨(some 14), (.val (.mov (.tmp 1))), none⟩,
 ⟨(some 15), (.val (.iaddr 5 (.tmp 13) (.tmp 14))), none⟩,
 ⟨(some 16), (.val (.load (some 5) (.tmp 15))), none⟩,
 ⟨(some 6), (.val (.alloc 27 [(.int .i64 0), .nilslice, (.int .i64 0), (.str []), (.int .i64 0)])), none⟩,
 ⟨none, (.val (.store 5 (.tmp 6) (.tmp 16))), none⟩])
 (.seq
 (.region [⟨(some 17), (.val (.faddr 1 (.tmp 6))), none⟩,
 ⟨none, (.val (.store 1 (.tmp 17) (.const .nilslice))), none⟩])
 (.seq
 (.seq
 (.region [⟨(some 7), (.val (.mov (.const (.int .i64 0)))), none⟩])
 (.block 0
 (.loop F_r06_Part_l2)))
 (.seq
 (.region [⟨(some 90), (.val (.mov (.tmp 5))), none⟩,
 ⟨(some 91), (.val (.load (some 5) (.tmp 6))), none⟩,
 ⟨(some 92), (.val (.bslice 27 5 1 [(.int .i64 0), .nilslice, (.int .i64 0), (.str []), (.int .i64 0)] [(0, (.tmp 91))])), none⟩,
 ⟨(some 93), (.val (.append 27 5 64 (.tmp 90) (.tmp 92))), none⟩,
 ⟨(some 4), (.val (.mov (.tmp 93))), none⟩])
 .ret)))))),
 [.tmp 4]⟩
theorem ok14 : cFun Tryd.prog G Tryd.f14 = some F_r06_Part := by kernel_rfl

/- balustrade/tree.Heights -/
abbrev n_tree_Heights : Nat := 15
def F_tree_Heights_l0 : ICode :=
 (.seq
 (.region [⟨(some 29), (.val (.bin .lss (.tmp 28) (.tmp 27))), none⟩])
 (.seq
 (.cond (.tmp 29)
 .skip
 (.exit 2))
 (.seq
 (.block 3
 (.seq
 (.region [⟨(some 30), (.val (.iaddr 1 (.tmp 26) (.tmp 28))), none⟩,
 ⟨(some 31), (.val (.load none (.tmp 30))), none⟩,
 ⟨(some 8), (.val (.mov (.tmp 31))), none⟩])
 (.seq
 (.seq
 (.region [⟨(some 32), (.val (.mov (.tmp 8))), none⟩,
 ⟨(some 33), (.val (.bin .lss (.tmp 32) (.const (.int .i64 0)))), none⟩,
 ⟨(some 34), (.val (.mov (.tmp 33))), none⟩,
 ⟨(some 35), (.val (.mov (.tmp 8))), (some (34, false))⟩,
 ⟨(some 36), (.val (.mov (.tmp 5))), (some (34, false))⟩,
 ⟨(some 37), (.val (.bin .geq (.tmp 35) (.tmp 36))), (some (34, false))⟩,
 ⟨(some 38), (.val (.pick (.tmp 34) (.const (.bool true)) (.tmp 37))), none⟩,
 ⟨(some 39), (.val (.mov (.tmp 38))), none⟩,
 ⟨(some 40), (.val (.mov (.tmp 4))), (some (39, false))⟩,
 ⟨(some 41), (.val (.mov (.tmp 8))), (some (39, false))⟩,
 ⟨(some 42), (.val (.iaddr 1 (.tmp 40) (.tmp 41))), (some (39, false))⟩,
 ⟨(some 43), (.val (.load none (.tmp 42))), (some (39, false))⟩,
 ⟨(some 44), (.val (.pick (.tmp 39) (.const (.bool true)) (.tmp 43))), none⟩])
 (.cond (.tmp 44)
 (.seq
 (.region [⟨(some 2), (.val (.mov (.const .nilslice))), none⟩])
 .ret)
 .skip))
 (.seq
 (.region [⟨(some 45), (.val (.mov (.tmp 4))), none⟩,
 ⟨(some 46), (.val (.mov (.tmp 8))), none⟩,
 ⟨(some 47), (.val (.iaddr 1 (.tmp 45) (.tmp 46))), none⟩,
 ⟨none, (.val (.store 1 (.tmp 47) (.const (.bool true)))), none⟩])
 (.draw [⟨(some 48), (.val (.mov (.tmp 3))), none⟩,
 ⟨(some 49), (.val (.mov (.tmp 5))), none⟩,
 ⟨(some 50), (.val (.mov (.tmp 3))), none⟩,
 ⟨(some 51), (.val (.mov (.tmp 5))), none⟩,
 ⟨(some 52), (.val (.iaddr 1 (.tmp 50) (.tmp 51))), none⟩,
 ⟨(some 53), (.val (.load none (.tmp 52))), none⟩,
 ⟨(some 54), (.val (.mov (.tmp 3))), none⟩,
 ⟨(some 55), (.val (.mov (.tmp 8))), none⟩,
 ⟨(some 56), (.val (.iaddr 1 (.tmp 54) (.tmp 55))), none⟩,
 ⟨(some 57), (.val (.load none (.tmp 56))), none⟩,
 ⟨(some 58), (.val (.bin .add (.tmp 57) (.const (.int .i64 1)))), none⟩,
 ⟨(some 59), (.val (.max [(.tmp 53), (.tmp 58)])), none⟩,
 ⟨(some 60), (.val (.iaddr 1 (.tmp 48) (.tmp 49))), none⟩,
 ⟨none, (.val (.store 1 (.tmp 60) (.tmp 59))), none⟩] [])))))
 (.region [⟨(some 61), (.val (.bin .add (.tmp 28) (.const (.int .i64 1)))), none⟩,
 ⟨(some 28), (.val (.mov (.tmp 61))), none⟩]))))
def F_tree_Heights_l1 : ICode :=
 (.seq
 (.region [⟨(some 18), (.val (.bin .lss (.tmp 17) (.tmp 16))), none⟩])
 (.seq
 (.cond (.tmp 18)
 .skip
 (.exit 0))
 (.seq
 (.block 1
 (.seq
 (.region [⟨(some 19), (.val (.mov (.tmp 17))), none⟩,
 ⟨(some 20), (.val (.iaddr 5 (.tmp 15) (.tmp 17))), none⟩,
 ⟨(some 21), (.val (.load (some 5) (.tmp 20))), none⟩,
 ⟨(some 6), (.val (.alloc 27 [(.int .i64 0), .nilslice, (.int .i64 0), (.str []), (.int .i64 0)])), none⟩,
 ⟨(some 5), (.val (.mov (.tmp 19))), none⟩,
 ⟨none, (.val (.store 5 (.tmp 6) (.tmp 21))), none⟩])
 (.seq
 (.region [⟨(some 22), (.val (.mov (.tmp 3))), none⟩,
 ⟨(some 23), (.val (.mov (.tmp 5))), none⟩,
 ⟨(some 24), (.val (.iaddr 1 (.tmp 22) (.tmp 23))), none⟩,
 ⟨none, (.val (.store 1 (.tmp 24) (.const (.int .i64 1)))), none⟩])
 (.seq
 (.seq
 (.region [⟨(some 25), (.val (.faddr 1 (.tmp 6))), none⟩,
 ⟨(some 26), (.val (.load none (.tmp 25))), none⟩,
 ⟨(some 27), (.val (.len (.tmp 26))), none⟩,
 ⟨(some 28), (.val (.mov (.const (.int .i64 0)))), none⟩])
 (.block 2
 (.loop F_tree_Heights_l0)))
 (.seq
 (.region [⟨(some 62), (.val (.mov (.tmp 0))), none⟩,
 ⟨(some 63), (.val (.load (some 5) (.tmp 6))), none⟩,
 ⟨(some 64), (.call (.const (.func 37 [] [])) [(.tmp 62), (.tmp 63)]), none⟩,
 ⟨(some 65), (.val (.un .not (.tmp 64))), none⟩,
 ⟨(some 66), (.val (.mov (.tmp 65))), none⟩,
 ⟨(some 67), (.val (.mov (.tmp 3))), (some (66, false))⟩,
 ⟨(some 68), (.val (.mov (.tmp 5))), (some (66, false))⟩,
 ⟨(some 69), (.val (.iaddr 1 (.tmp 67) (.tmp 68))), (some (66, false))⟩,
 ⟨(some 70), (.val (.load none (.tmp 69))), (some (66, false))⟩,
 ⟨(some 71), (.val (.bin .gtr (.tmp 70) (.const (.int .i64 200)))), (some (66, false))⟩,
 ⟨(some 72), (.val (.pick (.tmp 66) (.const (.bool true)) (.tmp 71))), none⟩])
 (.cond (.tmp 72)
 (.seq
 (.region [⟨(some 2), (.val (.mov (.const .nilslice))), none⟩])
 .ret)
 .skip))))))
 (.region [⟨(some 73), (.val (.bin .add (.tmp 17) (.const (.int .i64 1)))), none⟩,
 ⟨(some 17), (.val (.mov (.tmp 73))), none⟩]))))
def F_tree_Heights : IFun :=
 ⟨86,
 (.seq
 (.region [⟨(some 2), (.val (.mov (.const .nilslice))), none⟩])
 (.seq
 (.region [⟨(some 9), (.val (.mov (.tmp 0))), none⟩,
 ⟨(some 10), (.val (.len (.tmp 9))), none⟩,
 ⟨(some 11), (.val (.mkslice 3 1 [(.int .i64 0)] (.tmp 10) (.tmp 10))), none⟩,
 ⟨(some 3), (.val (.mov (.tmp 11))), none⟩])
 (.seq
 (.region [⟨(some 12), (.val (.mov (.tmp 0))), none⟩,
 ⟨(some 13), (.val (.len (.tmp 12))), none⟩,
 ⟨(some 14), (.val (.mkslice 4 1 [(.bool false)] (.tmp 13) (.tmp 13))), none⟩,
 ⟨(some 4), (.val (.mov (.tmp 14))), none⟩])
 (.seq
 (.seq
 (.region [⟨(some 15), (.val (.mov (.tmp 0))), none⟩,
 ⟨(some 16), (.val (.len (.tmp 15))), none⟩,
 ⟨(some 17), (.val (.mov (.const (.int .i64 0)))), none⟩])
 (.block 0
 (.loop F_tree_Heights_l1)))
 (.seq
 (.seq
 (.region [⟨(some 74), (.val (.mov (.tmp 0))), none⟩,
 ⟨(some 75), (.val (.len (.tmp 74))), none⟩,
 ⟨(some 76), (.val (.eq false (.prim 1) (.tmp 75) (.const (.int .i64 0)))), none⟩,
 ⟨(some 77), (.val (.mov (.tmp 76))), none⟩,
 ⟨(some 78), (.val (.mov (.tmp 4))), (some (77, false))⟩,
 ⟨(some 79), (.val (.mov (.tmp 0))), (some (77, false))⟩,
 ⟨(some 80), (.val (.len (.tmp 79))), (some (77, false))⟩,
 ⟨(some 81), (.val (.bin .sub (.tmp 80) (.const (.int .i64 1)))), (some (77, false))⟩,
 ⟨(some 82), (.val (.slsl 1 (.tmp 78) none (some (.tmp 81)) none)), (some (77, false))⟩,
 ⟨(some 83), (.call (.const (.func 38 [] [])) [(.tmp 82), (.const (.bool false))]), (some (77, false))⟩,
 ⟨(some 84), (.val (.pick (.tmp 77) (.const (.bool true)) (.tmp 83))), none⟩])
 (.cond (.tmp 84)
 (.seq
 (.region [⟨(some 2), (.val (.mov (.const .nilslice))), none⟩])
 .ret)
 .skip))
 (.seq
 (.region [⟨(some 85), (.val (.mov (.tmp 3))), none⟩,
 ⟨(some 2), (.val (.mov (.tmp 85))), none⟩])
 .ret)))))),
 [.tmp 2]⟩
theorem ok15 : cFun Tryd.prog G Tryd.f15 = some F_tree_Heights := by kernel_rfl

end Go.Proofs.YtblcomejcahkdaaDoor.Ev
end
section
namespace Go.Proofs.YtblcomejcahkdaaDoor.Ev
open Go

/- balustrade/balustraderef06.Tell -/
abbrev n_r06_Tell : Nat := 16
def F_r06_Tell_l0 : ICode :=
 (.seq
 (.seq
 (.region [⟨(some 66), (.val (.mov (.tmp 7))), none⟩,
 ⟨(some 67), (.val (.faddr 1 (.tmp 5))), none⟩,
 ⟨(some 68), (.val (.load none (.tmp 67))), none⟩,
 ⟨(some 69), (.val (.len (.tmp 68))), none⟩,
 ⟨(some 70), (.val (.bin .lss (.tmp 66) (.tmp 69))), none⟩])
 (.cond (.tmp 70)
 .skip
 (.exit 0)))
 (.seq
 (.block 1
 (.region [⟨(some 73), (.val (.mov (.tmp 6))), none⟩,
 ⟨(some 74), (.val (.bin .add (.tmp 73) (.const (.str [32])))), none⟩,
 ⟨(some 75), (.val (.mov (.tmp 0))), none⟩,
 ⟨(some 76), (.val (.faddr 1 (.tmp 5))), none⟩,
 ⟨(some 77), (.val (.load none (.tmp 76))), none⟩,
 ⟨(some 78), (.val (.mov (.tmp 7))), none⟩,
 ⟨(some 79), (.val (.iaddr 1 (.tmp 77) (.tmp 78))), none⟩,
 ⟨(some 80), (.val (.load none (.tmp 79))), none⟩,
 ⟨(some 81), (.call (.const (.func 16 [] [])) [(.tmp 75), (.tmp 80)]), none⟩,
 ⟨(some 82), (.val (.bin .add (.tmp 74) (.tmp 81))), none⟩,
 ⟨(some 6), (.val (.mov (.tmp 82))), none⟩]))
 (.region [⟨(some 71), (.val (.mov (.tmp 7))), none⟩,
 ⟨(some 72), (.val (.bin .add (.tmp 71) (.const (.int .i64 1)))), none⟩,
 ⟨(some 7), (.val (.mov (.tmp 72))), none⟩])))
def F_r06_Tell : IFun :=
 ⟨86,
 (.seq
 (.region [⟨(some 4), (.val (.mov (.const (.str [])))), none⟩])
 (.seq
 (.region [⟨(some 8), (.val (.mov (.tmp 0))), none⟩,
 ⟨(some 9), (.val (.mov (.tmp 1))), none⟩,
 ⟨(some 10), (.val (.iaddr 5 (.tmp 8) (.tmp 9))), none⟩,
 ⟨(some 11), (.val (.load (some 5) (.tmp 10))), none⟩,
 ⟨(some 5), (.val (.alloc 27 [(.int .i64 0), .nilslice, (.int .i64 0), (.str []), (.int .i64 0)])), none⟩,
 ⟨none, (.val (.store 5 (.tmp 5) (.tmp 11))), none⟩])
 (.seq
 (.seq
 (.region [⟨(some 12), (.val (.faddr 0 (.tmp 5))), none⟩,
 ⟨(some 13), (.val (.load none (.tmp 12))), none⟩,
 ⟨(some 14), (.val (.eq false (.prim 1) (.tmp 13) (.const (.int .i64 1)))), none⟩])
 (.cond (.tmp 14)
 (.seq
 (.region [⟨(some 15), (.val (.faddr 2 (.tmp 5))), none⟩,
 ⟨(some 16), (.val (.load none (.tmp 15))), none⟩,
 ⟨(some 17), (.call (.const (.func 39 [] [])) [(.tmp 16)]), none⟩,
 ⟨(some 4), (.val (.mov (.tmp 17))), none⟩])
 .ret)
 .skip))
 (.seq
 (.seq
 (.region [⟨(some 18), (.val (.faddr 0 (.tmp 5))), none⟩,
 ⟨(some 19), (.val (.load none (.tmp 18))), none⟩,
 ⟨(some 20), (.val (.eq false (.prim 1) (.tmp 19) (.const (.int .i64 2)))), none⟩,
 ⟨(some 21), (.val (.mov (.tmp 20))), none⟩,
 ⟨(some 22), (.val (.faddr 2 (.tmp 5))), (some (21, true))⟩,
 ⟨(some 23), (.val (.load none (.tmp 22))), (some (21, true))⟩,
 ⟨(some 24), (.val (.eq false (.prim 1) (.tmp 23) (.const (.int .i64 1)))), (some (21, true))⟩,
 ⟨(some 25), (.val (.pick (.tmp 21) (.tmp 24) (.const (.bool false)))), none⟩])
 (.cond (.tmp 25)
 (.seq
 (.region [⟨(some 4), (.val (.mov (.const (.str [116, 114, 117, 101])))), none⟩])
 .ret)
 .skip))
 (.seq
 (.seq
 (.region [⟨(some 26), (.val (.faddr 0 (.tmp 5))), none⟩,
 ⟨(some 27), (.val (.load none (.tmp 26))), none⟩,
 ⟨(some 28), (.val (.eq false (.prim 1) (.tmp 27) (.const (.int .i64 2)))), none⟩])
 (.cond (.tmp 28)
 (.seq
 (.region [⟨(some 4), (.val (.mov (.const (.str [102, 97, 108, 115, 101])))), none⟩])
 .ret)
 .skip))
 (.seq
 (.seq
 (.region [⟨(some 29), (.val (.faddr 0 (.tmp 5))), none⟩,
 ⟨(some 30), (.val (.load none (.tmp 29))), none⟩,
 ⟨(some 31), (.val (.bin .leq (.tmp 30) (.const (.int .i64 4)))), none⟩])
 (.cond (.tmp 31)
 (.seq
 (.draw [⟨(some 32), (.val (.load (some 5) (.tmp 5))), none⟩,
 ⟨(some 33), (.call (.const (.func 40 [] [])) [(.tmp 32)]), none⟩,
 ⟨(some 34), (.val (.faddr 3 (.tmp 5))), none⟩,
 ⟨(some 35), (.val (.load none (.tmp 34))), none⟩,
 ⟨(some 36), (.val (.bin .add (.tmp 33) (.tmp 35))), none⟩,
 ⟨(some 4), (.val (.mov (.tmp 36))), none⟩] [(3, 1)])
 .ret)
 .skip))
 (.seq
 (.region [⟨(some 37), (.val (.load (some 5) (.tmp 5))), none⟩,
 ⟨(some 38), (.call (.const (.func 40 [] [])) [(.tmp 37)]), none⟩,
 ⟨(some 6), (.val (.mov (.tmp 38))), none⟩])
 (.seq
 (.seq
 (.region [⟨(some 39), (.val (.faddr 3 (.tmp 5))), none⟩,
 ⟨(some 40), (.val (.load none (.tmp 39))), none⟩,
 ⟨(some 41), (.val (.eq true (.prim 2) (.tmp 40) (.const (.str [])))), none⟩,
 ⟨(some 42), (.val (.mov (.tmp 41))), none⟩,
 ⟨(some 43), (.val (.mov (.tmp 6))), (some (42, true))⟩,
 ⟨(some 44), (.val (.eq true (.prim 2) (.tmp 43) (.const (.str [])))), (some (42, true))⟩,
 ⟨(some 45), (.val (.pick (.tmp 42) (.tmp 44) (.const (.bool false)))), none⟩])
 (.cond (.tmp 45)
 (.region [⟨(some 46), (.val (.mov (.tmp 6))), none⟩,
 ⟨(some 47), (.val (.bin .add (.tmp 46) (.const (.str [32])))), none⟩,
 ⟨(some 6), (.val (.mov (.tmp 47))), none⟩])
 .skip))
 (.seq
 (.region [⟨(some 48), (.val (.mov (.tmp 6))), none⟩,
 ⟨(some 49), (.val (.faddr 3 (.tmp 5))), none⟩,
 ⟨(some 50), (.val (.load none (.tmp 49))), none⟩,
 ⟨(some 51), (.val (.bin .add (.tmp 48) (.tmp 50))), none⟩,
 ⟨(some 6), (.val (.mov (.tmp 51))), none⟩])
 (.seq
 (.seq
 (.region [⟨(some 52), (.val (.faddr 0 (.tmp 5))), none⟩,
 ⟨(some 53), (.val (.load none (.tmp 52))), none⟩,
 ⟨(some 54), (.val (.eq false (.prim 1) (.tmp 53) (.const (.int .i64 24)))), none⟩,
 ⟨(some 55), (.val (.mov (.tmp 54))), none⟩,
 ⟨(some 56), (.val (.faddr 0 (.tmp 5))), (some (55, false))⟩,
 ⟨(some 57), (.val (.load none (.tmp 56))), (some (55, false))⟩,
 ⟨(some 58), (.val (.eq false (.prim 1) (.tmp 57) (.const (.int .i64 25)))), (some (55, false))⟩,
 ⟨(some 59), (.val (.pick (.tmp 55) (.const (.bool true)) (.tmp 58))), none⟩])
 (.cond (.tmp 59)
 (.region [⟨(some 60), (.val (.mov (.tmp 6))), none⟩,
 ⟨(some 61), (.val (.bin .add (.tmp 60) (.const (.str [32])))), none⟩,
 ⟨(some 62), (.val (.faddr 2 (.tmp 5))), none⟩,
 ⟨(some 63), (.val (.load none (.tmp 62))), none⟩,
 ⟨(some 64), (.call (.const (.func 24 [] [])) [(.tmp 63)]), none⟩,
 ⟨(some 65), (.val (.bin .add (.tmp 61) (.tmp 64))), none⟩,
 ⟨(some 6), (.val (.mov (.tmp 65))), none⟩])
 .skip))
 (.seq
 (.seq
 (.region [⟨(some 7), (.val (.mov (.const (.int .i64 0)))), none⟩])
 (.block 0
 (.loop F_r06_Tell_l0)))
 (.seq
 (.region [⟨(some 83), (.val (.mov (.tmp 6))), none⟩,
 ⟨(some 84), (.val (.bin .add (.const (.str [40])) (.tmp 83))), none⟩,
 ⟨(some 85), (.val (.bin .add (.tmp 84) (.const (.str [41])))), none⟩,
 ⟨(some 4), (.val (.mov (.tmp 85))), none⟩])
 .ret)))))))))))),
 [.tmp 4]⟩
theorem ok16 : cFun Tryd.prog G Tryd.f16 = some F_r06_Tell := by kernel_rfl

/- balustrade/tree.Whole -/
abbrev n_tree_Whole : Nat := 17
def F_tree_Whole : IFun :=
 ⟨15,
 (.seq
 (.region [⟨(some 2), (.val (.mov (.const (.bool false)))), none⟩])
 (.seq
 (.region [⟨(some 3), (.val (.mov (.tmp 0))), none⟩,
 ⟨(some 4), (.call (.const (.func 12 [] [])) [(.tmp 3)]), none⟩,
 ⟨(some 5), (.val (.mov (.tmp 4))), none⟩,
 ⟨(some 6), (.val (.mov (.tmp 0))), (some (5, true))⟩,
 ⟨(some 7), (.val (.mov (.tmp 0))), (some (5, true))⟩,
 ⟨(some 8), (.val (.len (.tmp 7))), (some (5, true))⟩,
 ⟨(some 9), (.val (.bin .sub (.tmp 8) (.const (.int .i64 1)))), (some (5, true))⟩,
 ⟨(some 10), (.val (.iaddr 5 (.tmp 6) (.tmp 9))), (some (5, true))⟩,
 ⟨(some 11), (.val (.faddr 0 (.tmp 10))), (some (5, true))⟩,
 ⟨(some 12), (.val (.load none (.tmp 11))), (some (5, true))⟩,
 ⟨(some 13), (.val (.eq false (.prim 1) (.tmp 12) (.const (.int .i64 26)))), (some (5, true))⟩,
 ⟨(some 14), (.val (.pick (.tmp 5) (.tmp 13) (.const (.bool false)))), none⟩,
 ⟨(some 2), (.val (.mov (.tmp 14))), none⟩])
 .ret)),
 [.tmp 2]⟩
theorem ok17 : cFun Tryd.prog G Tryd.f17 = some F_tree_Whole := by kernel_rfl

/- balustrade/balustraderef06.Whole -/
abbrev n_r06_Whole : Nat := 18
def F_r06_Whole : IFun :=
 ⟨15,
 (.seq
 (.region [⟨(some 2), (.val (.mov (.const (.bool false)))), none⟩])
 (.seq
 (.region [⟨(some 3), (.val (.mov (.tmp 0))), none⟩,
 ⟨(some 4), (.call (.const (.func 13 [] [])) [(.tmp 3)]), none⟩,
 ⟨(some 5), (.val (.mov (.tmp 4))), none⟩,
 ⟨(some 6), (.val (.mov (.tmp 0))), (some (5, true))⟩,
 ⟨(some 7), (.val (.mov (.tmp 0))), (some (5, true))⟩,
 ⟨(some 8), (.val (.len (.tmp 7))), (some (5, true))⟩,
 ⟨(some 9), (.val (.bin .sub (.tmp 8) (.const (.int .i64 1)))), (some (5, true))⟩,
 ⟨(some 10), (.val (.iaddr 5 (.tmp 6) (.tmp 9))), (some (5, true))⟩,
 ⟨(some 11), (.val (.faddr 0 (.tmp 10))), (some (5, true))⟩,
 ⟨(some 12), (.val (.load none (.tmp 11))), (some (5, true))⟩,
 ⟨(some 13), (.val (.eq false (.prim 1) (.tmp 12) (.const (.int .i64 26)))), (some (5, true))⟩,
 ⟨(some 14), (.val (.pick (.tmp 5) (.tmp 13) (.const (.bool false)))), none⟩,
 ⟨(some 2), (.val (.mov (.tmp 14))), none⟩])
 .ret)),
 [.tmp 2]⟩
theorem ok18 : cFun Tryd.prog G Tryd.f18 = some F_r06_Whole := by kernel_rfl

/- balustrade/balustraderef06.Height -/
abbrev n_r06_Height : Nat := 19
def F_r06_Height_l0 : ICode :=
 (.seq
 (.seq
 (.region [⟨(some 7), (.val (.mov (.tmp 6))), none⟩,
 ⟨(some 8), (.val (.mov (.tmp 0))), none⟩,
 ⟨(some 9), (.val (.mov (.tmp 1))), none⟩,
 ⟨(some 10), (.val (.iaddr 5 (.tmp 8) (.tmp 9))), none⟩,
 ⟨(some 11), (.val (.faddr 1 (.tmp 10))), none⟩,
 ⟨(some 12), (.val (.load none (.tmp 11))), none⟩,
 ⟨(some 13), (.val (.len (.tmp 12))), none⟩,
 ⟨(some 14), (.val (.bin .lss (.tmp 7) (.tmp 13))), none⟩])
 (.cond (.tmp 14)
 .skip
 (.exit 0)))
 (.seq
 (.block 1
 (.region [⟨(some 17), (.val (.mov (.tmp 5))), none⟩,
 ⟨(some 18), (.val (.mov (.tmp 0))), none⟩,
 ⟨(some 19), (.val (.mov (.tmp 0))), none⟩,
 ⟨(some 20), (.val (.mov (.tmp 1))), none⟩,
 ⟨(some 21), (.val (.iaddr 5 (.tmp 19) (.tmp 20))), none⟩,
 ⟨(some 22), (.val (.faddr 1 (.tmp 21))), none⟩,
 ⟨(some 23), (.val (.load none (.tmp 22))), none⟩,
 ⟨(some 24), (.val (.mov (.tmp 6))), none⟩,
 ⟨(some 25), (.val (.iaddr 1 (.tmp 23) (.tmp 24))), none⟩,
 ⟨(some 26), (.val (.load none (.tmp 25))), none⟩,
 ⟨(some 27), (.call (.const (.func 19 [] [])) [(.tmp 18), (.tmp 26)]), none⟩,
 ⟨(some 28), (.val (.bin .add (.const (.int .i64 1)) (.tmp 27))), none⟩,
 ⟨(some 29), (.val (.max [(.tmp 17), (.tmp 28)])), none⟩,
 ⟨(some 5), (.val (.mov (.tmp 29))), none⟩]))
 (.region [⟨(some 15), (.val (.mov (.tmp 6))), none⟩,
 ⟨(some 16), (.val (.bin .add (.tmp 15) (.const (.int .i64 1)))), none⟩,
 ⟨(some 6), (.val (.mov (.tmp 16))), none⟩])))
def F_r06_Height : IFun :=
 ⟨31,
 (.seq
 (.region [⟨(some 4), (.val (.mov (.const (.int .i64 0)))), none⟩])
 (.seq
 (.region [⟨(some 5), (.val (.mov (.const (.int .i64 1)))), none⟩])
 (.seq
 (.seq
 (.region [⟨(some 6), (.val (.mov (.const (.int .i64 0)))), none⟩])
 (.block 0
 (.loop F_r06_Height_l0)))
 (.seq
 (.region [⟨(some 30), (.val (.mov (.tmp 5))), none⟩,
 ⟨(some 4), (.val (.mov (.tmp 30))), none⟩])
 .ret)))),
 [.tmp 4]⟩
theorem ok19 : cFun Tryd.prog G Tryd.f19 = some F_r06_Height := by kernel_rfl

/- balustrade/balustraderef06.Signs -/
abbrev n_r06_Signs : Nat := 20
def F_r06_Signs : IFun :=
 ⟨2,
 (.seq
 (.region [⟨(some 0), (.val (.mov (.const .nilslice))), none⟩])
 (.seq
 (.region [⟨(some 1), (.val (.bslice 9 1 16 [(.str [])] [(0, (.const (.str [124, 124]))), (1, (.const (.str [38, 38]))), (2, (.const (.str [61, 61]))), (3, (.const (.str [33, 61]))), (4, (.const (.str [60]))), (5, (.const (.str [60, 61]))), (6, (.const (.str [62]))), (7, (.const (.str [62, 61]))), (8, (.const (.str [43]))), (9, (.const (.str [45]))), (10, (.const (.str [43, 37]))), (11, (.const (.str [45, 37]))), (12, (.const (.str [42]))), (13, (.const (.str [47]))), (14, (.const (.str [37]))), (15, (.const (.str [42, 37])))])), none⟩,
 ⟨(some 0), (.val (.mov (.tmp 1))), none⟩])
 .ret)),
 [.tmp 0]⟩
theorem ok20 : cFun Tryd.prog G Tryd.f20 = some F_r06_Signs := by kernel_rfl

/- balustrade/tree.Sign -/
abbrev n_tree_Sign : Nat := 21
def F_tree_Sign : IFun :=
 ⟨15,
 (.seq
 (.region [⟨(some 2), (.val (.mov (.const (.str [])))), none⟩])
 (.seq
 (.seq
 (.region [⟨(some 3), (.val (.mov (.tmp 0))), none⟩,
 ⟨(some 4), (.val (.bin .lss (.tmp 3) (.const (.int .i64 0)))), none⟩,
 ⟨(some 5), (.val (.mov (.tmp 4))), none⟩,
 ⟨(some 6), (.val (.mov (.tmp 0))), (some (5, false))⟩,
 ⟨(some 7), (.val (.load none (.const (.ptr 0 0)))), (some (5, false))⟩,
 ⟨(some 8), (.val (.len (.tmp 7))), (some (5, false))⟩,
 ⟨(some 9), (.val (.bin .geq (.tmp 6) (.tmp 8))), (some (5, false))⟩,
 ⟨(some 10), (.val (.pick (.tmp 5) (.const (.bool true)) (.tmp 9))), none⟩])
 (.cond (.tmp 10)
 (.seq
 (.region [⟨(some 2), (.val (.mov (.const (.str [])))), none⟩])
 .ret)
 .skip))
 (.seq
 (.region [⟨(some 11), (.val (.load none (.const (.ptr 0 0)))), none⟩,
 ⟨(some 12), (.val (.mov (.tmp 0))), none⟩,
 ⟨(some 13), (.val (.iaddr 1 (.tmp 11) (.tmp 12))), none⟩,
 ⟨(some 14), (.val (.load none (.tmp 13))), none⟩,
 ⟨(some 2), (.val (.mov (.tmp 14))), none⟩])
 .ret))),
 [.tmp 2]⟩
theorem ok21 : cFun Tryd.prog G Tryd.f21 = some F_tree_Sign := by kernel_rfl

/- balustrade/tree.Op -/
abbrev n_tree_Op : Nat := 22
def F_tree_Op : IFun :=
 ⟨7,
 (.seq
 (.region [⟨(some 2), (.val (.mov (.const (.int .i64 0)))), none⟩])
 (.seq
 (.region [⟨(some 3), (.val (.load none (.const (.ptr 0 0)))), none⟩,
 ⟨(some 4), (.val (.mov (.tmp 0))), none⟩,
 ⟨(some 5), (.call (.const (.func 41 [] [])) [(.tmp 3), (.tmp 4)]), none⟩,
 ⟨(some 6), (.val (.max [(.const (.int .i64 0)), (.tmp 5)])), none⟩,
 ⟨(some 2), (.val (.mov (.tmp 6))), none⟩])
 .ret)),
 [.tmp 2]⟩
theorem ok22 : cFun Tryd.prog G Tryd.f22 = some F_tree_Op := by kernel_rfl

/- balustrade/tree.Kind -/
abbrev n_tree_Kind : Nat := 23
def F_tree_Kind : IFun :=
 ⟨10,
 (.seq
 (.region [⟨(some 2), (.val (.mov (.const (.str [])))), none⟩])
 (.seq
 (.seq
 (.region [⟨(some 3), (.val (.mov (.tmp 0))), none⟩])
 (.block 0
 (.seq
 (.region [⟨(some 5), (.val (.eq false (.prim 1) (.tmp 3) (.const (.int .i64 1)))), none⟩,
 ⟨(some 4), (.val (.mov (.tmp 5))), none⟩])
 (.cond (.tmp 4)
 (.seq
 (.region [⟨(some 2), (.val (.mov (.const (.str [105, 110, 116])))), none⟩])
 .ret)
 (.seq
 (.region [⟨(some 7), (.val (.eq false (.prim 1) (.tmp 3) (.const (.int .i64 2)))), none⟩,
 ⟨(some 6), (.val (.mov (.tmp 7))), none⟩])
 (.cond (.tmp 6)
 (.seq
 (.region [⟨(some 2), (.val (.mov (.const (.str [98, 111, 111, 108])))), none⟩])
 .ret)
 (.seq
 (.region [⟨(some 9), (.val (.eq false (.prim 1) (.tmp 3) (.const (.int .i64 3)))), none⟩,
 ⟨(some 8), (.val (.mov (.tmp 9))), none⟩])
 (.cond (.tmp 8)
 (.seq
 (.region [⟨(some 2), (.val (.mov (.const (.str [97, 114, 114])))), none⟩])
 .ret)
 .skip))))))))
 (.seq
 (.region [⟨(some 2), (.val (.mov (.const (.str [])))), none⟩])
 .ret))),
 [.tmp 2]⟩
theorem ok23 : cFun Tryd.prog G Tryd.f23 = some F_tree_Kind := by kernel_rfl

/- balustrade/balustraderef06.Kind -/
abbrev n_r06_Kind : Nat := 24
def F_r06_Kind : IFun :=
 ⟨16,
 (.seq
 (.region [⟨(some 2), (.val (.mov (.const (.str [])))), none⟩])
 (.seq
 (.region [⟨(some 4), (.val (.bslice 9 1 3 [(.str [])] [(0, (.const (.str [105, 110, 116]))), (1, (.const (.str [98, 111, 111, 108]))), (2, (.const (.str [97, 114, 114])))])), none⟩,
 ⟨(some 3), (.val (.mov (.tmp 4))), none⟩])
 (.seq
 (.seq
 (.region [⟨(some 5), (.val (.mov (.tmp 0))), none⟩,
 ⟨(some 6), (.val (.bin .lss (.tmp 5) (.const (.int .i64 1)))), none⟩,
 ⟨(some 7), (.val (.mov (.tmp 6))), none⟩,
 ⟨(some 8), (.val (.mov (.tmp 0))), (some (7, false))⟩,
 ⟨(some 9), (.val (.bin .gtr (.tmp 8) (.const (.int .i64 3)))), (some (7, false))⟩,
 ⟨(some 10), (.val (.pick (.tmp 7) (.const (.bool true)) (.tmp 9))), none⟩])
 (.cond (.tmp 10)
 (.seq
 (.region [⟨(some 2), (.val (.mov (.const (.str [])))), none⟩])
 .ret)
 .skip))
 (.seq
 (.region [⟨(some 11), (.val (.mov (.tmp 3))), none⟩,
 ⟨(some 12), (.val (.mov (.tmp 0))), none⟩,
 ⟨(some 13), (.val (.bin .sub (.tmp 12) (.const (.int .i64 1)))), none⟩,
 ⟨(some 14), (.val (.iaddr 1 (.tmp 11) (.tmp 13))), none⟩,
 ⟨(some 15), (.val (.load none (.tmp 14))), none⟩,
 ⟨(some 2), (.val (.mov (.tmp 15))), none⟩])
 .ret)))),
 [.tmp 2]⟩
theorem ok24 : cFun Tryd.prog G Tryd.f24 = some F_r06_Kind := by kernel_rfl

/- balustrade/balustradebase.SameInts -/
abbrev n_base_SameInts : Nat := 25
def F_base_SameInts_l0 : ICode :=
 (.seq
 (.seq
 (.region [⟨(some 11), (.val (.mov (.tmp 5))), none⟩,
 ⟨(some 12), (.val (.mov (.tmp 0))), none⟩,
 ⟨(some 13), (.val (.len (.tmp 12))), none⟩,
 ⟨(some 14), (.val (.bin .lss (.tmp 11) (.tmp 13))), none⟩])
 (.cond (.tmp 14)
 .skip
 (.exit 0)))
 (.seq
 (.block 1
 (.seq
 (.draw [⟨(some 17), (.val (.mov (.tmp 0))), none⟩,
 ⟨(some 18), (.val (.mov (.tmp 5))), none⟩,
 ⟨(some 19), (.val (.iaddr 1 (.tmp 17) (.tmp 18))), none⟩,
 ⟨(some 20), (.val (.load none (.tmp 19))), none⟩,
 ⟨(some 21), (.val (.mov (.tmp 1))), none⟩,
 ⟨(some 22), (.val (.mov (.tmp 5))), none⟩,
 ⟨(some 23), (.val (.iaddr 1 (.tmp 21) (.tmp 22))), none⟩,
 ⟨(some 24), (.val (.load none (.tmp 23))), none⟩,
 ⟨(some 25), (.val (.eq true (.prim 1) (.tmp 20) (.tmp 24))), none⟩] [])
 (.cond (.tmp 25)
 (.seq
 (.region [⟨(some 4), (.val (.mov (.const (.bool false)))), none⟩])
 .ret)
 .skip)))
 (.region [⟨(some 15), (.val (.mov (.tmp 5))), none⟩,
 ⟨(some 16), (.val (.bin .add (.tmp 15) (.const (.int .i64 1)))), none⟩,
 ⟨(some 5), (.val (.mov (.tmp 16))), none⟩])))
def F_base_SameInts : IFun :=
 ⟨26,
 (.seq
 (.region [⟨(some 4), (.val (.mov (.const (.bool false)))), none⟩])
 (.seq
 (.seq
 (.region [⟨(some 6), (.val (.mov (.tmp 0))), none⟩,
 ⟨(some 7), (.val (.len (.tmp 6))), none⟩,
 ⟨(some 8), (.val (.mov (.tmp 1))), none⟩,
 ⟨(some 9), (.val (.len (.tmp 8))), none⟩,
 ⟨(some 10), (.val (.eq true (.prim 1) (.tmp 7) (.tmp 9))), none⟩])
 (.cond (.tmp 10)
 (.seq
 (.region [⟨(some 4), (.val (.mov (.const (.bool false)))), none⟩])
 .ret)
 .skip))
 (.seq
 (.seq
 (.region [⟨(some 5), (.val (.mov (.const (.int .i64 0)))), none⟩])
 (.block 0
 (.loop F_base_SameInts_l0)))
 (.seq
 (.region [⟨(some 4), (.val (.mov (.const (.bool true)))), none⟩])
 .ret)))),
 [.tmp 4]⟩
theorem ok25 : cFun Tryd.prog G Tryd.f25 = some F_base_SameInts := by kernel_rfl

/- slices.EqualFunc[[]balustrade/api.Node,[]balustrade/api.Node,balustrade/api.Node,balustrade/api.Node] -/
abbrev n_slices_EqualFunc_api_Node : Nat := 26
def F_slices_EqualFunc_api_Node_l0 : ICode :=
 (.seq
 (.region [⟨(some 18), (.val (.bin .lss (.tmp 17) (.tmp 16))), none⟩])
 (.seq
 (.cond (.tmp 18)
 .skip
 (.exit 0))
 (.seq
 (.block 1
 (.seq
 (.region [⟨(some 19), (.val (.mov (.tmp 17))), none⟩,
 ⟨(some 20), (.val (.iaddr 5 (.tmp 15) (.tmp 17))), none⟩,
 ⟨(some 21), (.val (.load (some 5) (.tmp 20))), none⟩,
 ⟨(some 8), (.val (.alloc 27 [(.int .i64 0), .nilslice, (.int .i64 0), (.str []), (.int .i64 0)])), none⟩,
 ⟨(some 7), (.val (.mov (.tmp 19))), none⟩,
 ⟨none, (.val (.store 5 (.tmp 8) (.tmp 21))), none⟩])
 (.seq
 (.region [⟨(some 22), (.val (.mov (.tmp 1))), none⟩,
 ⟨(some 23), (.val (.mov (.tmp 7))), none⟩,
 ⟨(some 24), (.val (.iaddr 5 (.tmp 22) (.tmp 23))), none⟩,
 ⟨(some 25), (.val (.load (some 5) (.tmp 24))), none⟩,
 ⟨(some 9), (.val (.alloc 27 [(.int .i64 0), .nilslice, (.int .i64 0), (.str []), (.int .i64 0)])), none⟩,
 ⟨none, (.val (.store 5 (.tmp 9) (.tmp 25))), none⟩])
 (.seq
 (.region [⟨(some 26), (.val (.mov (.tmp 2))), none⟩,
 ⟨(some 27), (.val (.load (some 5) (.tmp 8))), none⟩,
 ⟨(some 28), (.val (.load (some 5) (.tmp 9))), none⟩,
 ⟨(some 29), (.call (.tmp 26) [(.tmp 27), (.tmp 28)]), none⟩,
 ⟨(some 30), (.val (.un .not (.tmp 29))), none⟩])
 (.cond (.tmp 30)
 (.seq
 (.region [⟨(some 6), (.val (.mov (.const (.bool false)))), none⟩])
 .ret)
 .skip)))))
 (.region [⟨(some 31), (.val (.bin .add (.tmp 17) (.const (.int .i64 1)))), none⟩,
 ⟨(some 17), (.val (.mov (.tmp 31))), none⟩]))))
def F_slices_EqualFunc_api_Node : IFun :=
 ⟨32,
 (.seq
 (.region [⟨(some 6), (.val (.mov (.const (.bool false)))), none⟩])
 (.seq
 (.seq
 (.region [⟨(some 10), (.val (.mov (.tmp 0))), none⟩,
 ⟨(some 11), (.val (.len (.tmp 10))), none⟩,
 ⟨(some 12), (.val (.mov (.tmp 1))), none⟩,
 ⟨(some 13), (.val (.len (.tmp 12))), none⟩,
 ⟨(some 14), (.val (.eq true (.prim 1) (.tmp 11) (.tmp 13))), none⟩])
 (.cond (.tmp 14)
 (.seq
 (.region [⟨(some 6), (.val (.mov (.const (.bool false)))), none⟩])
 .ret)
 .skip))
 (.seq
 (.seq
 (.region [⟨(some 15), (.val (.mov (.tmp 0))), none⟩,
 ⟨(some 16), (.val (.len (.tmp 15))), none⟩,
 ⟨(some 17), (.val (.mov (.const (.int .i64 0)))), none⟩])
 (.block 0
 (.loop F_slices_EqualFunc_api_Node_l0)))
 (.seq
 (.region [⟨(some 6), (.val (.mov (.const (.bool true)))), none⟩])
 .ret)))),
 [.tmp 6]⟩
theorem ok26 : cFun Tryd.prog G Tryd.f26 = some F_slices_EqualFunc_api_Node := by kernel_rfl

/- balustrade/tree.Alike$1 -/
abbrev n_tree_Alike_1 : Nat := 27
def F_tree_Alike_1 : IFun :=
 ⟨31,
 (.seq
 (.region [⟨(some 2), (.val (.box 27 (.tmp 0))), none⟩,
 ⟨(some 3), (.val (.box 27 (.tmp 1))), none⟩,
 ⟨(some 4), (.val (.mov (.const (.bool false)))), none⟩])
 (.seq
 (.region [⟨(some 5), (.val (.faddr 0 (.tmp 2))), none⟩,
 ⟨(some 6), (.val (.load none (.tmp 5))), none⟩,
 ⟨(some 7), (.val (.faddr 0 (.tmp 3))), none⟩,
 ⟨(some 8), (.val (.load none (.tmp 7))), none⟩,
 ⟨(some 9), (.val (.eq false (.prim 1) (.tmp 6) (.tmp 8))), none⟩,
 ⟨(some 10), (.val (.mov (.tmp 9))), none⟩,
 ⟨(some 11), (.val (.faddr 2 (.tmp 2))), (some (10, true))⟩,
 ⟨(some 12), (.val (.load none (.tmp 11))), (some (10, true))⟩,
 ⟨(some 13), (.val (.faddr 2 (.tmp 3))), (some (10, true))⟩,
 ⟨(some 14), (.val (.load none (.tmp 13))), (some (10, true))⟩,
 ⟨(some 15), (.val (.eq false (.prim 1) (.tmp 12) (.tmp 14))), (some (10, true))⟩,
 ⟨(some 16), (.val (.pick (.tmp 10) (.tmp 15) (.const (.bool false)))), none⟩,
 ⟨(some 17), (.val (.mov (.tmp 16))), none⟩,
 ⟨(some 18), (.val (.faddr 3 (.tmp 2))), (some (17, true))⟩,
 ⟨(some 19), (.val (.load none (.tmp 18))), (some (17, true))⟩,
 ⟨(some 20), (.val (.faddr 3 (.tmp 3))), (some (17, true))⟩,
 ⟨(some 21), (.val (.load none (.tmp 20))), (some (17, true))⟩,
 ⟨(some 22), (.val (.eq false (.prim 2) (.tmp 19) (.tmp 21))), (some (17, true))⟩,
 ⟨(some 23), (.val (.pick (.tmp 17) (.tmp 22) (.const (.bool false)))), none⟩,
 ⟨(some 24), (.val (.mov (.tmp 23))), none⟩,
 ⟨(some 25), (.val (.faddr 1 (.tmp 2))), (some (24, true))⟩,
 ⟨(some 26), (.val (.load none (.tmp 25))), (some (24, true))⟩,
 ⟨(some 27), (.val (.faddr 1 (.tmp 3))), (some (24, true))⟩,
 ⟨(some 28), (.val (.load none (.tmp 27))), (some (24, true))⟩,
 ⟨(some 29), (.call (.const (.func 28 [] [])) [(.tmp 26), (.tmp 28)]), (some (24, true))⟩,
 ⟨(some 30), (.val (.pick (.tmp 24) (.tmp 29) (.const (.bool false)))), none⟩,
 ⟨(some 4), (.val (.mov (.tmp 30))), none⟩])
 .ret)),
 [.tmp 4]⟩
theorem ok27 : cFun Tryd.prog G Tryd.f27 = some F_tree_Alike_1 := by kernel_rfl

/- slices.Equal[[]int,int] -/
abbrev n_slices_Equal_int : Nat := 28
def F_slices_Equal_int_l0 : ICode :=
 (.seq
 (.region [⟨(some 14), (.val (.bin .lss (.tmp 13) (.tmp 12))), none⟩])
 (.seq
 (.cond (.tmp 14)
 .skip
 (.exit 0))
 (.seq
 (.block 1
 (.seq
 (.region [⟨(some 15), (.val (.mov (.tmp 13))), none⟩,
 ⟨(some 5), (.val (.mov (.tmp 15))), none⟩])
 (.seq
 (.draw [⟨(some 16), (.val (.mov (.tmp 0))), none⟩,
 ⟨(some 17), (.val (.mov (.tmp 5))), none⟩,
 ⟨(some 18), (.val (.iaddr 1 (.tmp 16) (.tmp 17))), none⟩,
 ⟨(some 19), (.val (.load none (.tmp 18))), none⟩,
 ⟨(some 20), (.val (.mov (.tmp 1))), none⟩,
 ⟨(some 21), (.val (.mov (.tmp 5))), none⟩,
 ⟨(some 22), (.val (.iaddr 1 (.tmp 20) (.tmp 21))), none⟩,
 ⟨(some 23), (.val (.load none (.tmp 22))), none⟩,
 ⟨(some 24), (.val (.eq true (.prim 1) (.tmp 19) (.tmp 23))), none⟩] [])
 (.cond (.tmp 24)
 (.seq
 (.region [⟨(some 4), (.val (.mov (.const (.bool false)))), none⟩])
 .ret)
 .skip))))
 (.region [⟨(some 25), (.val (.bin .add (.tmp 13) (.const (.int .i64 1)))), none⟩,
 ⟨(some 13), (.val (.mov (.tmp 25))), none⟩]))))
def F_slices_Equal_int : IFun :=
 ⟨26,
 (.seq
 (.region [⟨(some 4), (.val (.mov (.const (.bool false)))), none⟩])
 (.seq
 (.seq
 (.region [⟨(some 6), (.val (.mov (.tmp 0))), none⟩,
 ⟨(some 7), (.val (.len (.tmp 6))), none⟩,
 ⟨(some 8), (.val (.mov (.tmp 1))), none⟩,
 ⟨(some 9), (.val (.len (.tmp 8))), none⟩,
 ⟨(some 10), (.val (.eq true (.prim 1) (.tmp 7) (.tmp 9))), none⟩])
 (.cond (.tmp 10)
 (.seq
 (.region [⟨(some 4), (.val (.mov (.const (.bool false)))), none⟩])
 .ret)
 .skip))
 (.seq
 (.seq
 (.region [⟨(some 11), (.val (.mov (.tmp 0))), none⟩,
 ⟨(some 12), (.val (.len (.tmp 11))), none⟩,
 ⟨(some 13), (.val (.mov (.const (.int .i64 0)))), none⟩])
 (.block 0
 (.loop F_slices_Equal_int_l0)))
 (.seq
 (.region [⟨(some 4), (.val (.mov (.const (.bool true)))), none⟩])
 .ret)))),
 [.tmp 4]⟩
theorem ok28 : cFun Tryd.prog G Tryd.f28 = some F_slices_Equal_int := by kernel_rfl

/- balustrade/tree.Text$1 -/
abbrev n_tree_Text_1 : Nat := 29
def F_tree_Text_1_l0 : ICode :=
 (.seq
 (.region [⟨(some 57), (.val (.bin .lss (.tmp 56) (.tmp 55))), none⟩])
 (.seq
 (.cond (.tmp 57)
 .skip
 (.exit 1))
 (.seq
 (.block 2
 (.seq
 (.region [⟨(some 58), (.val (.iaddr 1 (.tmp 54) (.tmp 56))), none⟩,
 ⟨(some 59), (.val (.load none (.tmp 58))), none⟩,
 ⟨(some 10), (.val (.mov (.tmp 59))), none⟩])
 (.seq
 (.region [⟨(some 60), (.val (.mov (.tmp 10))), none⟩,
 ⟨(some 61), (.val (.eq true (.prim 2) (.tmp 60) (.const (.str [])))), none⟩])
 (.cond (.tmp 61)
 (.region [⟨(some 62), (.val (.mov (.tmp 8))), none⟩,
 ⟨(some 63), (.val (.mov (.tmp 10))), none⟩,
 ⟨(some 64), (.val (.bslice 9 1 1 [(.str [])] [(0, (.tmp 63))])), none⟩,
 ⟨(some 65), (.val (.append 9 1 16 (.tmp 62) (.tmp 64))), none⟩,
 ⟨(some 8), (.val (.mov (.tmp 65))), none⟩])
 .skip))))
 (.region [⟨(some 66), (.val (.bin .add (.tmp 56) (.const (.int .i64 1)))), none⟩,
 ⟨(some 56), (.val (.mov (.tmp 66))), none⟩]))))
def F_tree_Text_1_l1 : ICode :=
 (.seq
 (.region [⟨(some 85), (.val (.bin .lss (.tmp 84) (.tmp 83))), none⟩])
 (.seq
 (.cond (.tmp 85)
 .skip
 (.exit 3))
 (.seq
 (.block 4
 (.seq
 (.region [⟨(some 86), (.val (.iaddr 1 (.tmp 82) (.tmp 84))), none⟩,
 ⟨(some 87), (.val (.load none (.tmp 86))), none⟩,
 ⟨(some 12), (.val (.mov (.tmp 87))), none⟩])
 (.region [⟨(some 88), (.val (.mov (.tmp 8))), none⟩,
 ⟨(some 89), (.val (.load none (.tmp 2))), none⟩,
 ⟨(some 90), (.val (.mov (.tmp 12))), none⟩,
 ⟨(some 91), (.call (.tmp 89) [(.tmp 90)]), none⟩,
 ⟨(some 92), (.val (.bslice 9 1 1 [(.str [])] [(0, (.tmp 91))])), none⟩,
 ⟨(some 93), (.val (.append 9 1 16 (.tmp 88) (.tmp 92))), none⟩,
 ⟨(some 8), (.val (.mov (.tmp 93))), none⟩])))
 (.region [⟨(some 94), (.val (.bin .add (.tmp 84) (.const (.int .i64 1)))), none⟩,
 ⟨(some 84), (.val (.mov (.tmp 94))), none⟩]))))
def F_tree_Text_1 : IFun :=
 ⟨99,
 (.seq
 (.region [⟨(some 4), (.val (.mov (.const (.str [])))), none⟩])
 (.seq
 (.region [⟨(some 13), (.val (.load none (.tmp 1))), none⟩,
 ⟨(some 14), (.val (.mov (.tmp 0))), none⟩,
 ⟨(some 15), (.val (.iaddr 5 (.tmp 13) (.tmp 14))), none⟩,
 ⟨(some 16), (.val (.load (some 5) (.tmp 15))), none⟩,
 ⟨(some 5), (.val (.alloc 27 [(.int .i64 0), .nilslice, (.int .i64 0), (.str []), (.int .i64 0)])), none⟩,
 ⟨none, (.val (.store 5 (.tmp 5) (.tmp 16))), none⟩])
 (.seq
 (.region [⟨(some 18), (.val (.faddr 0 (.tmp 5))), none⟩,
 ⟨(some 19), (.val (.load none (.tmp 18))), none⟩,
 ⟨(some 20), (.call (.const (.func 30 [] [])) [(.tmp 19)]), none⟩,
 ⟨(some 17), (.val (.mov (.tmp 20))), none⟩,
 ⟨(some 21), (.val (.extract (.tmp 17) 0)), none⟩,
 ⟨(some 22), (.val (.extract (.tmp 17) 1)), none⟩,
 ⟨(some 6), (.val (.alloc 45 [(.str []), (.bool false), (.int .i64 0), (.int .i64 0), (.int .i64 0), (.int .i64 0), .nilslice, (.bool false)])), none⟩,
 ⟨none, (.val (.store 8 (.tmp 6) (.tmp 21))), none⟩,
 ⟨(some 7), (.val (.mov (.tmp 22))), none⟩])
 (.seq
 (.seq
 (.region [⟨(some 23), (.val (.faddr 0 (.tmp 5))), none⟩,
 ⟨(some 24), (.val (.load none (.tmp 23))), none⟩])
 (.block 0
 (.seq
 (.region [⟨(some 26), (.val (.eq false (.prim 1) (.tmp 24) (.const (.int .i64 1)))), none⟩,
 ⟨(some 25), (.val (.mov (.tmp 26))), none⟩])
 (.cond (.tmp 25)
 (.seq
 (.region [⟨(some 27), (.val (.faddr 2 (.tmp 5))), none⟩,
 ⟨(some 28), (.val (.load none (.tmp 27))), none⟩,
 ⟨(some 29), (.call (.const (.func 31 [] [])) [(.tmp 28)]), none⟩,
 ⟨(some 4), (.val (.mov (.tmp 29))), none⟩])
 .ret)
 (.seq
 (.region [⟨(some 31), (.val (.eq false (.prim 1) (.tmp 24) (.const (.int .i64 2)))), none⟩,
 ⟨(some 30), (.val (.mov (.tmp 31))), none⟩])
 (.cond (.tmp 30)
 (.seq
 (.region [⟨(some 32), (.val (.faddr 2 (.tmp 5))), none⟩,
 ⟨(some 33), (.val (.load none (.tmp 32))), none⟩,
 ⟨(some 34), (.val (.eq false (.prim 1) (.tmp 33) (.const (.int .i64 1)))), none⟩,
 ⟨(some 35), (.call (.const (.func 32 [] [])) [(.tmp 34)]), none⟩,
 ⟨(some 4), (.val (.mov (.tmp 35))), none⟩])
 .ret)
 (.seq
 (.region [⟨(some 37), (.val (.eq false (.prim 1) (.tmp 24) (.const (.int .i64 3)))), none⟩,
 ⟨(some 36), (.val (.mov (.tmp 37))), none⟩])
 (.cond (.tmp 36)
 (.seq
 (.region [⟨(some 38), (.val (.faddr 0 (.tmp 6))), none⟩,
 ⟨(some 39), (.val (.load none (.tmp 38))), none⟩,
 ⟨(some 4), (.val (.mov (.tmp 39))), none⟩])
 .ret)
 (.seq
 (.region [⟨(some 41), (.val (.eq false (.prim 1) (.tmp 24) (.const (.int .i64 4)))), none⟩,
 ⟨(some 40), (.val (.mov (.tmp 41))), none⟩])
 (.cond (.tmp 40)
 (.seq
 (.region [⟨(some 42), (.val (.faddr 3 (.tmp 5))), none⟩,
 ⟨(some 43), (.val (.load none (.tmp 42))), none⟩,
 ⟨(some 4), (.val (.mov (.tmp 43))), none⟩])
 .ret)
 (.seq
 (.region [⟨(some 45), (.val (.eq false (.prim 1) (.tmp 24) (.const (.int .i64 5)))), none⟩,
 ⟨(some 44), (.val (.mov (.tmp 45))), none⟩])
 (.cond (.tmp 44)
 (.region [⟨(some 46), (.val (.faddr 2 (.tmp 5))), none⟩,
 ⟨(some 47), (.val (.load none (.tmp 46))), none⟩,
 ⟨(some 48), (.call (.const (.func 21 [] [])) [(.tmp 47)]), none⟩,
 ⟨(some 49), (.val (.faddr 0 (.tmp 6))), none⟩,
 ⟨none, (.val (.store 1 (.tmp 49) (.tmp 48))), none⟩])
 .skip))))))))))))
 (.seq
 (.region [⟨(some 8), (.val (.mov (.const .nilslice))), none⟩])
 (.seq
 (.seq
 (.region [⟨(some 50), (.val (.faddr 0 (.tmp 6))), none⟩,
 ⟨(some 51), (.val (.load none (.tmp 50))), none⟩,
 ⟨(some 52), (.val (.faddr 3 (.tmp 5))), none⟩,
 ⟨(some 53), (.val (.load none (.tmp 52))), none⟩,
 ⟨(some 54), (.val (.bslice 9 1 2 [(.str [])] [(0, (.tmp 51)), (1, (.tmp 53))])), none⟩,
 ⟨(some 55), (.val (.len (.tmp 54))), none⟩,
 ⟨(some 56), (.val (.mov (.const (.int .i64 0)))), none⟩])
 (.block 1
 (.loop F_tree_Text_1_l0)))
 (.seq
 (.seq
 (.region [⟨(some 67), (.val (.faddr 0 (.tmp 5))), none⟩,
 ⟨(some 68), (.val (.load none (.tmp 67))), none⟩,
 ⟨(some 69), (.val (.eq false (.prim 1) (.tmp 68) (.const (.int .i64 25)))), none⟩,
 ⟨(some 70), (.val (.mov (.tmp 69))), none⟩,
 ⟨(some 71), (.val (.faddr 0 (.tmp 5))), (some (70, false))⟩,
 ⟨(some 72), (.val (.load none (.tmp 71))), (some (70, false))⟩,
 ⟨(some 73), (.val (.eq false (.prim 1) (.tmp 72) (.const (.int .i64 24)))), (some (70, false))⟩,
 ⟨(some 74), (.val (.pick (.tmp 70) (.const (.bool true)) (.tmp 73))), none⟩])
 (.cond (.tmp 74)
 (.region [⟨(some 75), (.val (.mov (.tmp 8))), none⟩,
 ⟨(some 76), (.val (.faddr 2 (.tmp 5))), none⟩,
 ⟨(some 77), (.val (.load none (.tmp 76))), none⟩,
 ⟨(some 78), (.call (.const (.func 23 [] [])) [(.tmp 77)]), none⟩,
 ⟨(some 79), (.val (.bslice 9 1 1 [(.str [])] [(0, (.tmp 78))])), none⟩,
 ⟨(some 80), (.val (.append 9 1 16 (.tmp 75) (.tmp 79))), none⟩,
 ⟨(some 8), (.val (.mov (.tmp 80))), none⟩])
 .skip))
 (.seq
 (.seq
 (.region [⟨(some 81), (.val (.faddr 1 (.tmp 5))), none⟩,
 ⟨(some 82), (.val (.load none (.tmp 81))), none⟩,
 ⟨(some 83), (.val (.len (.tmp 82))), none⟩,
 ⟨(some 84), (.val (.mov (.const (.int .i64 0)))), none⟩])
 (.block 3
 (.loop F_tree_Text_1_l1)))
 (.seq
 (.region [⟨(some 95), (.val (.mov (.tmp 8))), none⟩,
 ⟨(some 96), (.call (.const (.func 33 [] [])) [(.tmp 95), (.const (.str [32]))]), none⟩,
 ⟨(some 97), (.val (.bin .add (.const (.str [40])) (.tmp 96))), none⟩,
 ⟨(some 98), (.val (.bin .add (.tmp 97) (.const (.str [41])))), none⟩,
 ⟨(some 4), (.val (.mov (.tmp 98))), none⟩])
 .ret))))))))),
 [.tmp 4]⟩
theorem ok29 : cFun Tryd.prog G Tryd.f29 = some F_tree_Text_1 := by kernel_rfl

/- balustrade/tree.rows -/
abbrev n_tree_rows : Nat := 30
def F_tree_rows : IFun :=
 ⟨58,
 (.seq
 (.region [⟨(some 2), (.val (.alloc 45 [(.str []), (.bool false), (.int .i64 0), (.int .i64 0), (.int .i64 0), (.int .i64 0), .nilslice, (.bool false)])), none⟩,
 ⟨(some 3), (.val (.mov (.const (.bool false)))), none⟩])
 (.seq
 (.region [⟨(some 5), (.val (.build [(.str []), (.bool false), (.int .i64 0), (.int .i64 0), (.int .i64 0), (.int .i64 0), .nilslice, (.bool false)] [(3, 1, (.const (.int .i64 9223372036854775807)))])), none⟩,
 ⟨(some 6), (.val (.build [(.str []), (.bool false), (.int .i64 0), (.int .i64 0), (.int .i64 0), (.int .i64 0), .nilslice, (.bool false)] [(3, 1, (.const (.int .i64 1)))])), none⟩,
 ⟨(some 7), (.val (.build [(.str []), (.bool false), (.int .i64 0), (.int .i64 0), (.int .i64 0), (.int .i64 0), .nilslice, (.bool false)] [(0, 1, (.const (.str [110, 105, 108])))])), none⟩,
 ⟨(some 8), (.val (.build [(.str []), (.bool false), (.int .i64 0), (.int .i64 0), (.int .i64 0), (.int .i64 0), .nilslice, (.bool false)] [(1, 1, (.const (.bool true)))])), none⟩,
 ⟨(some 9), (.val (.bslice 3 1 2 [(.int .i64 0)] [(0, (.const (.int .i64 0))), (1, (.const (.int .i64 0)))])), none⟩,
 ⟨(some 10), (.val (.build [(.str []), (.bool false), (.int .i64 0), (.int .i64 0), (.int .i64 0), (.int .i64 0), .nilslice, (.bool false)] [(2, 1, (.const (.int .i64 1))), (3, 1, (.const (.int .i64 16))), (6, 1, (.tmp 9))])), none⟩,
 ⟨(some 11), (.val (.bslice 3 1 1 [(.int .i64 0)] [(0, (.const (.int .i64 0)))])), none⟩,
 ⟨(some 12), (.val (.build [(.str []), (.bool false), (.int .i64 0), (.int .i64 0), (.int .i64 0), (.int .i64 0), .nilslice, (.bool false)] [(0, 1, (.const (.str [110, 101, 103]))), (6, 1, (.tmp 11))])), none⟩,
 ⟨(some 13), (.val (.bslice 3 1 1 [(.int .i64 0)] [(0, (.const (.int .i64 0)))])), none⟩,
 ⟨(some 14), (.val (.build [(.str []), (.bool false), (.int .i64 0), (.int .i64 0), (.int .i64 0), (.int .i64 0), .nilslice, (.bool false)] [(0, 1, (.const (.str [110, 111, 116]))), (6, 1, (.tmp 13))])), none⟩,
 ⟨(some 15), (.val (.bslice 3 1 2 [(.int .i64 0)] [(0, (.const (.int .i64 0))), (1, (.const (.int .i64 0)))])), none⟩,
 ⟨(some 16), (.val (.build [(.str []), (.bool false), (.int .i64 0), (.int .i64 0), (.int .i64 0), (.int .i64 0), .nilslice, (.bool false)] [(0, 1, (.const (.str [97, 116]))), (6, 1, (.tmp 15))])), none⟩,
 ⟨(some 17), (.val (.bslice 3 1 1 [(.int .i64 0)] [(0, (.const (.int .i64 0)))])), none⟩,
 ⟨(some 18), (.val (.build [(.str []), (.bool false), (.int .i64 0), (.int .i64 0), (.int .i64 0), (.int .i64 0), .nilslice, (.bool false)] [(0, 1, (.const (.str [108, 101, 110]))), (6, 1, (.tmp 17))])), none⟩,
 ⟨(some 19), (.val (.bslice 3 1 1 [(.int .i64 0)] [(0, (.const (.int .i64 0)))])), none⟩,
 ⟨(some 20), (.val (.build [(.str []), (.bool false), (.int .i64 0), (.int .i64 0), (.int .i64 0), (.int .i64 0), .nilslice, (.bool false)] [(0, 1, (.const (.str [110, 101, 119]))), (6, 1, (.tmp 19))])), none⟩,
 ⟨(some 21), (.val (.build [(.str []), (.bool false), (.int .i64 0), (.int .i64 0), (.int .i64 0), (.int .i64 0), .nilslice, (.bool false)] [(0, 1, (.const (.str [99, 97, 108, 108]))), (1, 1, (.const (.bool true))), (4, 1, (.const (.int .i64 8))), (5, 1, (.const (.int .i64 0)))])), none⟩,
 ⟨(some 22), (.val (.bslice 3 1 1 [(.int .i64 0)] [(0, (.const (.int .i64 0)))])), none⟩,
 ⟨(some 23), (.val (.build [(.str []), (.bool false), (.int .i64 0), (.int .i64 0), (.int .i64 0), (.int .i64 0), .nilslice, (.bool false)] [(0, 1, (.const (.str [118, 97, 114]))), (1, 1, (.const (.bool true))), (6, 1, (.tmp 22))])), none⟩,
 ⟨(some 24), (.val (.bslice 3 1 1 [(.int .i64 0)] [(0, (.const (.int .i64 0)))])), none⟩,
 ⟨(some 25), (.val (.build [(.str []), (.bool false), (.int .i64 0), (.int .i64 0), (.int .i64 0), (.int .i64 0), .nilslice, (.bool false)] [(0, 1, (.const (.str [115, 101, 116]))), (1, 1, (.const (.bool true))), (6, 1, (.tmp 24))])), none⟩,
 ⟨(some 26), (.val (.bslice 3 1 2 [(.int .i64 0)] [(0, (.const (.int .i64 0))), (1, (.const (.int .i64 0)))])), none⟩,
 ⟨(some 27), (.val (.build [(.str []), (.bool false), (.int .i64 0), (.int .i64 0), (.int .i64 0), (.int .i64 0), .nilslice, (.bool false)] [(0, 1, (.const (.str [112, 117, 116]))), (1, 1, (.const (.bool true))), (6, 1, (.tmp 26))])), none⟩,
 ⟨(some 28), (.val (.bslice 3 1 3 [(.int .i64 0)] [(0, (.const (.int .i64 0))), (1, (.const (.int .i64 2))), (2, (.const (.int .i64 2)))])), none⟩,
 ⟨(some 29), (.val (.build [(.str []), (.bool false), (.int .i64 0), (.int .i64 0), (.int .i64 0), (.int .i64 0), .nilslice, (.bool false)] [(0, 1, (.const (.str [105, 102]))), (6, 1, (.tmp 28)), (7, 1, (.const (.bool true)))])), none⟩,
 ⟨(some 30), (.val (.bslice 3 1 2 [(.int .i64 0)] [(0, (.const (.int .i64 0))), (1, (.const (.int .i64 2)))])), none⟩,
 ⟨(some 31), (.val (.build [(.str []), (.bool false), (.int .i64 0), (.int .i64 0), (.int .i64 0), (.int .i64 0), .nilslice, (.bool false)] [(0, 1, (.const (.str [119, 104, 105, 108, 101]))), (6, 1, (.tmp 30))])), none⟩,
 ⟨(some 32), (.val (.bslice 3 1 3 [(.int .i64 0)] [(0, (.const (.int .i64 0))), (1, (.const (.int .i64 0))), (2, (.const (.int .i64 2)))])), none⟩,
 ⟨(some 33), (.val (.build [(.str []), (.bool false), (.int .i64 0), (.int .i64 0), (.int .i64 0), (.int .i64 0), .nilslice, (.bool false)] [(0, 1, (.const (.str [102, 111, 114]))), (1, 1, (.const (.bool true))), (6, 1, (.tmp 32))])), none⟩,
 ⟨(some 34), (.val (.build [(.str []), (.bool false), (.int .i64 0), (.int .i64 0), (.int .i64 0), (.int .i64 0), .nilslice, (.bool false)] [(0, 1, (.const (.str [98, 114, 101, 97, 107])))])), none⟩,
 ⟨(some 35), (.val (.build [(.str []), (.bool false), (.int .i64 0), (.int .i64 0), (.int .i64 0), (.int .i64 0), .nilslice, (.bool false)] [(0, 1, (.const (.str [99, 111, 110, 116, 105, 110, 117, 101])))])), none⟩,
 ⟨(some 36), (.val (.bslice 3 1 1 [(.int .i64 0)] [(0, (.const (.int .i64 0)))])), none⟩,
 ⟨(some 37), (.val (.build [(.str []), (.bool false), (.int .i64 0), (.int .i64 0), (.int .i64 0), (.int .i64 0), .nilslice, (.bool false)] [(0, 1, (.const (.str [114, 101, 116, 117, 114, 110]))), (6, 1, (.tmp 36))])), none⟩,
 ⟨(some 38), (.val (.bslice 3 1 1 [(.int .i64 0)] [(0, (.const (.int .i64 0)))])), none⟩,
 ⟨(some 39), (.val (.build [(.str []), (.bool false), (.int .i64 0), (.int .i64 0), (.int .i64 0), (.int .i64 0), .nilslice, (.bool false)] [(0, 1, (.const (.str [112, 114, 105, 110, 116]))), (6, 1, (.tmp 38))])), none⟩,
 ⟨(some 40), (.val (.bslice 3 1 1 [(.int .i64 0)] [(0, (.const (.int .i64 3)))])), none⟩,
 ⟨(some 41), (.val (.build [(.str []), (.bool false), (.int .i64 0), (.int .i64 0), (.int .i64 0), (.int .i64 0), .nilslice, (.bool false)] [(0, 1, (.const (.str [100, 111]))), (6, 1, (.tmp 40))])), none⟩,
 ⟨(some 42), (.val (.build [(.str []), (.bool false), (.int .i64 0), (.int .i64 0), (.int .i64 0), (.int .i64 0), .nilslice, (.bool false)] [(0, 1, (.const (.str [98, 108, 111, 99, 107]))), (4, 1, (.const (.int .i64 4611686018427387904))), (5, 1, (.const (.int .i64 1)))])), none⟩,
 ⟨(some 43), (.val (.build [(.str []), (.bool false), (.int .i64 0), (.int .i64 0), (.int .i64 0), (.int .i64 0), .nilslice, (.bool false)] [(1, 1, (.const (.bool true))), (2, 1, (.const (.int .i64 1))), (3, 1, (.const (.int .i64 3)))])), none⟩,
 ⟨(some 44), (.val (.bslice 3 1 1 [(.int .i64 0)] [(0, (.const (.int .i64 2)))])), none⟩,
 ⟨(some 45), (.val (.build [(.str []), (.bool false), (.int .i64 0), (.int .i64 0), (.int .i64 0), (.int .i64 0), .nilslice, (.bool false)] [(0, 1, (.const (.str [102, 110]))), (1, 1, (.const (.bool true))), (2, 1, (.const (.int .i64 1))), (3, 1, (.const (.int .i64 3))), (4, 1, (.const (.int .i64 8))), (5, 1, (.const (.int .i64 4))), (6, 1, (.tmp 44))])), none⟩,
 ⟨(some 46), (.val (.build [(.str []), (.bool false), (.int .i64 0), (.int .i64 0), (.int .i64 0), (.int .i64 0), .nilslice, (.bool false)] [(0, 1, (.const (.str [112, 114, 111, 103]))), (4, 1, (.const (.int .i64 200))), (5, 1, (.const (.int .i64 5)))])), none⟩,
 ⟨(some 47), (.val (.build [(.str []), (.bool false), (.int .i64 0), (.int .i64 0), (.int .i64 0), (.int .i64 0), .nilslice, (.bool false), (.str []), (.bool false), (.int .i64 0), (.int .i64 0), (.int .i64 0), (.int .i64 0), .nilslice, (.bool false), (.str []), (.bool false), (.int .i64 0), (.int .i64 0), (.int .i64 0), (.int .i64 0), .nilslice, (.bool false), (.str []), (.bool false), (.int .i64 0), (.int .i64 0), (.int .i64 0), (.int .i64 0), .nilslice, (.bool false), (.str []), (.bool false), (.int .i64 0), (.int .i64 0), (.int .i64 0), (.int .i64 0), .nilslice, (.bool false), (.str []), (.bool false), (.int .i64 0), (.int .i64 0), (.int .i64 0), (.int .i64 0), .nilslice, (.bool false), (.str []), (.bool false), (.int .i64 0), (.int .i64 0), (.int .i64 0), (.int .i64 0), .nilslice, (.bool false), (.str []), (.bool false), (.int .i64 0), (.int .i64 0), (.int .i64 0), (.int .i64 0), .nilslice, (.bool false), (.str []), (.bool false), (.int .i64 0), (.int .i64 0), (.int .i64 0), (.int .i64 0), .nilslice, (.bool false), (.str []), (.bool false), (.int .i64 0), (.int .i64 0), (.int .i64 0), (.int .i64 0), .nilslice, (.bool false), (.str []), (.bool false), (.int .i64 0), (.int .i64 0), (.int .i64 0), (.int .i64 0), .nilslice, (.bool false), (.str []), (.bool false), (.int .i64 0), (.int .i64 0), (.int .i64 0), (.int .i64 0), .nilslice, (.bool false), (.str []), (.bool false), (.int .i64 0), (.int .i64 0), (.int .i64 0), (.int .i64 0), .nilslice, (.bool false), (.str []), (.bool false), (.int .i64 0), (.int .i64 0), (.int .i64 0), (.int .i64 0), .nilslice, (.bool false), (.str []), (.bool false), (.int .i64 0), (.int .i64 0), (.int .i64 0), (.int .i64 0), .nilslice, (.bool false), (.str []), (.bool false), (.int .i64 0), (.int .i64 0), (.int .i64 0), (.int .i64 0), .nilslice, (.bool false), (.str []), (.bool false), (.int .i64 0), (.int .i64 0), (.int .i64 0), (.int .i64 0), .nilslice, (.bool false), (.str []), (.bool false), (.int .i64 0), (.int .i64 0), (.int .i64 0), (.int .i64 0), .nilslice, (.bool false), (.str []), (.bool false), (.int .i64 0), (.int .i64 0), (.int .i64 0), (.int .i64 0), .nilslice, (.bool false), (.str []), (.bool false), (.int .i64 0), (.int .i64 0), (.int .i64 0), (.int .i64 0), .nilslice, (.bool false), (.str []), (.bool false), (.int .i64 0), (.int .i64 0), (.int .i64 0), (.int .i64 0), .nilslice, (.bool false), (.str []), (.bool false), (.int .i64 0), (.int .i64 0), (.int .i64 0), (.int .i64 0), .nilslice, (.bool false), (.str []), (.bool false), (.int .i64 0), (.int .i64 0), (.int .i64 0), (.int .i64 0), .nilslice, (.bool false), (.str []), (.bool false), (.int .i64 0), (.int .i64 0), (.int .i64 0), (.int .i64 0), .nilslice, (.bool false), (.str []), (.bool false), (.int .i64 0), (.int .i64 0), (.int .i64 0), (.int .i64 0), .nilslice, (.bool false), (.str []), (.bool false), (.int .i64 0), (.int .i64 0), (.int .i64 0), (.int .i64 0), .nilslice, (.bool false), (.str []), (.bool false), (.int .i64 0), (.int .i64 0), (.int .i64 0), (.int .i64 0), .nilslice, (.bool false)] [(8, 8, (.tmp 5)), (16, 8, (.tmp 6)), (24, 8, (.tmp 7)), (32, 8, (.tmp 8)), (40, 8, (.tmp 10)), (48, 8, (.tmp 12)), (56, 8, (.tmp 14)), (64, 8, (.tmp 16)), (72, 8, (.tmp 18)), (80, 8, (.tmp 20)), (88, 8, (.tmp 21)), (96, 8, (.tmp 23)), (104, 8, (.tmp 25)), (112, 8, (.tmp 27)), (120, 8, (.tmp 29)), (128, 8, (.tmp 31)), (136, 8, (.tmp 33)), (144, 8, (.tmp 34)), (152, 8, (.tmp 35)), (160, 8, (.tmp 37)), (168, 8, (.tmp 39)), (176, 8, (.tmp 41)), (184, 8, (.tmp 42)), (192, 8, (.tmp 43)), (200, 8, (.tmp 45)), (208, 8, (.tmp 46))])), none⟩,
 ⟨(some 4), (.val (.alloc 57 [(.str []), (.bool false), (.int .i64 0), (.int .i64 0), (.int .i64 0), (.int .i64 0), .nilslice, (.bool false), (.str []), (.bool false), (.int .i64 0), (.int .i64 0), (.int .i64 0), (.int .i64 0), .nilslice, (.bool false), (.str []), (.bool false), (.int .i64 0), (.int .i64 0), (.int .i64 0), (.int .i64 0), .nilslice, (.bool false), (.str []), (.bool false), (.int .i64 0), (.int .i64 0), (.int .i64 0), (.int .i64 0), .nilslice, (.bool false), (.str []), (.bool false), (.int .i64 0), (.int .i64 0), (.int .i64 0), (.int .i64 0), .nilslice, (.bool false), (.str []), (.bool false), (.int .i64 0), (.int .i64 0), (.int .i64 0), (.int .i64 0), .nilslice, (.bool false), (.str []), (.bool false), (.int .i64 0), (.int .i64 0), (.int .i64 0), (.int .i64 0), .nilslice, (.bool false), (.str []), (.bool false), (.int .i64 0), (.int .i64 0), (.int .i64 0), (.int .i64 0), .nilslice, (.bool false), (.str []), (.bool false), (.int .i64 0), (.int .i64 0), (.int .i64 0), (.int .i64 0), .nilslice, (.bool false), (.str []), (.bool false), (.int .i64 0), (.int .i64 0), (.int .i64 0), (.int .i64 0), .nilslice, (.bool false), (.str []), (.bool false), (.int .i64 0), (.int .i64 0), (.int .i64 0), (.int .i64 0), .nilslice, (.bool false), (.str []), (.bool false), (.int .i64 0), (.int .i64 0), (.int .i64 0), (.int .i64 0), .nilslice, (.bool false), (.str []), (.bool false), (.int .i64 0), (.int .i64 0), (.int .i64 0), (.int .i64 0), .nilslice, (.bool false), (.str []), (.bool false), (.int .i64 0), (.int .i64 0), (.int .i64 0), (.int .i64 0), .nilslice, (.bool false), (.str []), (.bool false), (.int .i64 0), (.int .i64 0), (.int .i64 0), (.int .i64 0), .nilslice, (.bool false), (.str []), (.bool false), (.int .i64 0), (.int .i64 0), (.int .i64 0), (.int .i64 0), .nilslice, (.bool false), (.str []), (.bool false), (.int .i64 0), (.int .i64 0), (.int .i64 0), (.int .i64 0), .nilslice, (.bool false), (.str []), (.bool false), (.int .i64 0), (.int .i64 0), (.int .i64 0), (.int .i64 0), .nilslice, (.bool false), (.str []), (.bool false), (.int .i64 0), (.int .i64 0), (.int .i64 0), (.int .i64 0), .nilslice, (.bool false), (.str []), (.bool false), (.int .i64 0), (.int .i64 0), (.int .i64 0), (.int .i64 0), .nilslice, (.bool false), (.str []), (.bool false), (.int .i64 0), (.int .i64 0), (.int .i64 0), (.int .i64 0), .nilslice, (.bool false), (.str []), (.bool false), (.int .i64 0), (.int .i64 0), (.int .i64 0), (.int .i64 0), .nilslice, (.bool false), (.str []), (.bool false), (.int .i64 0), (.int .i64 0), (.int .i64 0), (.int .i64 0), .nilslice, (.bool false), (.str []), (.bool false), (.int .i64 0), (.int .i64 0), (.int .i64 0), (.int .i64 0), .nilslice, (.bool false), (.str []), (.bool false), (.int .i64 0), (.int .i64 0), (.int .i64 0), (.int .i64 0), .nilslice, (.bool false), (.str []), (.bool false), (.int .i64 0), (.int .i64 0), (.int .i64 0), (.int .i64 0), .nilslice, (.bool false), (.str []), (.bool false), (.int .i64 0), (.int .i64 0), (.int .i64 0), (.int .i64 0), .nilslice, (.bool false)])), none⟩,
 ⟨none, (.val (.store 216 (.tmp 4) (.tmp 47))), none⟩])
 (.seq
 (.seq
 (.region [⟨(some 48), (.val (.mov (.tmp 0))), none⟩,
 ⟨(some 49), (.val (.bin .lss (.tmp 48) (.const (.int .i64 1)))), none⟩,
 ⟨(some 50), (.val (.mov (.tmp 49))), none⟩,
 ⟨(some 51), (.val (.mov (.tmp 0))), (some (50, false))⟩,
 ⟨(some 52), (.val (.bin .geq (.tmp 51) (.const (.int .i64 27)))), (some (50, false))⟩,
 ⟨(some 53), (.val (.pick (.tmp 50) (.const (.bool true)) (.tmp 52))), none⟩])
 (.cond (.tmp 53)
 (.seq
 (.region [⟨(some 54), (.val (.build [(.str []), (.bool false), (.int .i64 0), (.int .i64 0), (.int .i64 0), (.int .i64 0), .nilslice, (.bool false)] [])), none⟩,
 ⟨none, (.val (.store 8 (.tmp 2) (.tmp 54))), none⟩,
 ⟨(some 3), (.val (.mov (.const (.bool false)))), none⟩])
 .ret)
 .skip))
 (.seq
 (.region [⟨(some 55), (.val (.mov (.tmp 0))), none⟩,
 ⟨(some 56), (.val (.iaddrArr 27 8 (.tmp 4) (.tmp 55))), none⟩,
 ⟨(some 57), (.val (.load (some 8) (.tmp 56))), none⟩,
 ⟨none, (.val (.store 8 (.tmp 2) (.tmp 57))), none⟩,
 ⟨(some 3), (.val (.mov (.const (.bool true)))), none⟩])
 .ret)))),
 [.cell 2 (some 8), .tmp 3]⟩
theorem ok30 : cFun Tryd.prog G Tryd.f30 = some F_tree_rows := by kernel_rfl

/- strconv.Itoa -/
abbrev n_strconv_Itoa : Nat := 31
def F_strconv_Itoa : IFun :=
 ⟨5,
 (.seq
 (.region [⟨(some 2), (.val (.mov (.const (.str [])))), none⟩])
 (.seq
 (.region [⟨(some 3), (.val (.mov (.tmp 0))), none⟩,
 ⟨(some 4), (.call (.const (.func 42 [] [])) [(.tmp 3)]), none⟩,
 ⟨(some 2), (.val (.mov (.tmp 4))), none⟩])
 .ret)),
 [.tmp 2]⟩
/- strconv.FormatBool -/
abbrev n_strconv_FormatBool : Nat := 32
def F_strconv_FormatBool : IFun :=
 ⟨5,
 (.seq
 (.region [⟨(some 2), (.val (.mov (.const (.str [])))), none⟩])
 (.seq
 (.region [⟨(some 3), (.val (.mov (.tmp 0))), none⟩,
 ⟨(some 4), (.call (.const (.func 43 [] [])) [(.tmp 3)]), none⟩,
 ⟨(some 2), (.val (.mov (.tmp 4))), none⟩])
 .ret)),
 [.tmp 2]⟩
theorem ok32 : cFun Tryd.prog G Tryd.f32 = some F_strconv_FormatBool := by kernel_rfl

end Go.Proofs.YtblcomejcahkdaaDoor.Ev
end
section
namespace Go.Proofs.YtblcomejcahkdaaDoor.Ev
open Go

/- strings.Join -/
abbrev n_strings_Join : Nat := 33
def F_strings_Join_l0 : ICode :=
 (.seq
 (.region [⟨(some 42), (.val (.bin .lss (.tmp 41) (.tmp 40))), none⟩])
 (.seq
 (.cond (.tmp 42)
 .skip
 (.exit 1))
 (.seq
 (.block 2
 (.seq
 (.region [⟨(some 43), (.val (.iaddr 1 (.tmp 39) (.tmp 41))), none⟩,
 ⟨(some 44), (.val (.load none (.tmp 43))), none⟩,
 ⟨(some 7), (.val (.mov (.tmp 44))), none⟩])
 (.seq
 (.seq
 (.region [⟨(some 45), (.val (.mov (.tmp 7))), none⟩,
 ⟨(some 46), (.val (.lenstr (.tmp 45))), none⟩,
 ⟨(some 47), (.val (.mov (.tmp 5))), none⟩,
 ⟨(some 48), (.val (.bin .sub (.const (.int .i64 9223372036854775807)) (.tmp 47))), none⟩,
 ⟨(some 49), (.val (.bin .gtr (.tmp 46) (.tmp 48))), none⟩])
 (.cond (.tmp 49)
 (.region [⟨(some 50), (.val (.iface 9 (.const (.str [115, 116, 114, 105, 110, 103, 115, 58, 32, 74, 111, 105, 110, 32, 111, 117, 116, 112, 117, 116, 32, 108, 101, 110, 103, 116, 104, 32, 111, 118, 101, 114, 102, 108, 111, 119])))), none⟩,
 ⟨none, (.panic (.tmp 50)), none⟩])
 .skip))
 (.region [⟨(some 51), (.val (.mov (.tmp 5))), none⟩,
 ⟨(some 52), (.val (.mov (.tmp 7))), none⟩,
 ⟨(some 53), (.val (.lenstr (.tmp 52))), none⟩,
 ⟨(some 54), (.val (.bin .add (.tmp 51) (.tmp 53))), none⟩,
 ⟨(some 5), (.val (.mov (.tmp 54))), none⟩]))))
 (.region [⟨(some 55), (.val (.bin .add (.tmp 41) (.const (.int .i64 1)))), none⟩,
 ⟨(some 41), (.val (.mov (.tmp 55))), none⟩]))))
def F_strings_Join_l1 : ICode :=
 (.seq
 (.region [⟨(some 66), (.val (.bin .lss (.tmp 65) (.tmp 64))), none⟩])
 (.seq
 (.cond (.tmp 66)
 .skip
 (.exit 3))
 (.seq
 (.block 4
 (.seq
 (.region [⟨(some 67), (.val (.iaddr 1 (.tmp 63) (.tmp 65))), none⟩,
 ⟨(some 68), (.val (.load none (.tmp 67))), none⟩,
 ⟨(some 10), (.val (.mov (.tmp 68))), none⟩])
 (.seq
 (.region [⟨(some 69), (.val (.mov (.tmp 1))), none⟩,
 ⟨(some 70), (.call (.const (.func 45 [] [])) [(.tmp 8), (.tmp 69)]), none⟩])
 (.region [⟨(some 71), (.val (.mov (.tmp 10))), none⟩,
 ⟨(some 72), (.call (.const (.func 45 [] [])) [(.tmp 8), (.tmp 71)]), none⟩]))))
 (.region [⟨(some 73), (.val (.bin .add (.tmp 65) (.const (.int .i64 1)))), none⟩,
 ⟨(some 65), (.val (.mov (.tmp 73))), none⟩]))))
def F_strings_Join : IFun :=
 ⟨75,
 (.seq
 (.region [⟨(some 4), (.val (.mov (.const (.str [])))), none⟩])
 (.seq
 (.seq
 (.region [⟨(some 11), (.val (.mov (.tmp 0))), none⟩,
 ⟨(some 12), (.val (.len (.tmp 11))), none⟩])
 (.block 0
 (.seq
 (.region [⟨(some 14), (.val (.eq false (.prim 1) (.tmp 12) (.const (.int .i64 0)))), none⟩,
 ⟨(some 13), (.val (.mov (.tmp 14))), none⟩])
 (.cond (.tmp 13)
 (.seq
 (.region [⟨(some 4), (.val (.mov (.const (.str [])))), none⟩])
 .ret)
 (.seq
 (.region [⟨(some 16), (.val (.eq false (.prim 1) (.tmp 12) (.const (.int .i64 1)))), none⟩,
 ⟨(some 15), (.val (.mov (.tmp 16))), none⟩])
 (.cond (.tmp 15)
 (.seq
 (.region [⟨(some 17), (.val (.mov (.tmp 0))), none⟩,
 ⟨(some 18), (.val (.iaddr 1 (.tmp 17) (.const (.int .i64 0)))), none⟩,
 ⟨(some 19), (.val (.load none (.tmp 18))), none⟩,
 ⟨(some 4), (.val (.mov (.tmp 19))), none⟩])
 .ret)
 .skip))))))
 (.seq
 (.region [⟨(some 5), (.val (.mov (.const (.int .i64 0)))), none⟩])
 (.seq
 (.seq
 (.region [⟨(some 20), (.val (.mov (.tmp 1))), none⟩,
 ⟨(some 21), (.val (.lenstr (.tmp 20))), none⟩,
 ⟨(some 22), (.val (.bin .gtr (.tmp 21) (.const (.int .i64 0)))), none⟩])
 (.cond (.tmp 22)
 (.seq
 (.seq
 (.region [⟨(some 23), (.val (.mov (.tmp 1))), none⟩,
 ⟨(some 24), (.val (.lenstr (.tmp 23))), none⟩,
 ⟨(some 25), (.val (.mov (.tmp 0))), none⟩,
 ⟨(some 26), (.val (.len (.tmp 25))), none⟩,
 ⟨(some 27), (.val (.bin .sub (.tmp 26) (.const (.int .i64 1)))), none⟩,
 ⟨(some 28), (.val (.bin .quo (.const (.int .i64 9223372036854775807)) (.tmp 27))), none⟩,
 ⟨(some 29), (.val (.bin .geq (.tmp 24) (.tmp 28))), none⟩])
 (.cond (.tmp 29)
 (.region [⟨(some 30), (.val (.iface 9 (.const (.str [115, 116, 114, 105, 110, 103, 115, 58, 32, 74, 111, 105, 110, 32, 111, 117, 116, 112, 117, 116, 32, 108, 101, 110, 103, 116, 104, 32, 111, 118, 101, 114, 102, 108, 111, 119])))), none⟩,
 ⟨none, (.panic (.tmp 30)), none⟩])
 .skip))
 (.region [⟨(some 31), (.val (.mov (.tmp 5))), none⟩,
 ⟨(some 32), (.val (.mov (.tmp 1))), none⟩,
 ⟨(some 33), (.val (.lenstr (.tmp 32))), none⟩,
 ⟨(some 34), (.val (.mov (.tmp 0))), none⟩,
 ⟨(some 35), (.val (.len (.tmp 34))), none⟩,
 ⟨(some 36), (.val (.bin .sub (.tmp 35) (.const (.int .i64 1)))), none⟩,
 ⟨(some 37), (.val (.bin .mul (.tmp 33) (.tmp 36))), none⟩,
 ⟨(some 38), (.val (.bin .add (.tmp 31) (.tmp 37))), none⟩,
 ⟨(some 5), (.val (.mov (.tmp 38))), none⟩]))
 .skip))
 (.seq
 (.seq
 (.region [⟨(some 39), (.val (.mov (.tmp 0))), none⟩,
 ⟨(some 40), (.val (.len (.tmp 39))), none⟩,
 ⟨(some 41), (.val (.mov (.const (.int .i64 0)))), none⟩])
 (.block 1
 (.loop F_strings_Join_l0)))
 (.seq
 (.region [⟨(some 8), (.val (.alloc 61 [.nilptr, .nilslice])), none⟩])
 (.seq
 (.region [⟨(some 56), (.val (.mov (.tmp 5))), none⟩,
 ⟨(some 57), (.call (.const (.func 44 [] [])) [(.tmp 8), (.tmp 56)]), none⟩])
 (.seq
 (.region [⟨(some 58), (.val (.mov (.tmp 0))), none⟩,
 ⟨(some 59), (.val (.iaddr 1 (.tmp 58) (.const (.int .i64 0)))), none⟩,
 ⟨(some 60), (.val (.load none (.tmp 59))), none⟩,
 ⟨(some 61), (.call (.const (.func 45 [] [])) [(.tmp 8), (.tmp 60)]), none⟩])
 (.seq
 (.seq
 (.region [⟨(some 62), (.val (.mov (.tmp 0))), none⟩,
 ⟨(some 63), (.val (.slsl 1 (.tmp 62) (some (.const (.int .i64 1))) none none)), none⟩,
 ⟨(some 64), (.val (.len (.tmp 63))), none⟩,
 ⟨(some 65), (.val (.mov (.const (.int .i64 0)))), none⟩])
 (.block 3
 (.loop F_strings_Join_l1)))
 (.seq
 (.region [⟨(some 74), (.call (.const (.func 46 [] [])) [(.tmp 8)]), none⟩,
 ⟨(some 4), (.val (.mov (.tmp 74))), none⟩])
 .ret)))))))))),
 [.tmp 4]⟩
/- balustrade/balustradebase.HasInt -/
abbrev n_base_HasInt : Nat := 34
def F_base_HasInt_l0 : ICode :=
 (.seq
 (.seq
 (.region [⟨(some 6), (.val (.mov (.tmp 5))), none⟩,
 ⟨(some 7), (.val (.mov (.tmp 0))), none⟩,
 ⟨(some 8), (.val (.len (.tmp 7))), none⟩,
 ⟨(some 9), (.val (.bin .lss (.tmp 6) (.tmp 8))), none⟩])
 (.cond (.tmp 9)
 .skip
 (.exit 0)))
 (.seq
 (.block 1
 (.seq
 (.region [⟨(some 12), (.val (.mov (.tmp 0))), none⟩,
 ⟨(some 13), (.val (.mov (.tmp 5))), none⟩,
 ⟨(some 14), (.val (.iaddr 1 (.tmp 12) (.tmp 13))), none⟩,
 ⟨(some 15), (.val (.load none (.tmp 14))), none⟩,
 ⟨(some 16), (.val (.mov (.tmp 1))), none⟩,
 ⟨(some 17), (.val (.eq false (.prim 1) (.tmp 15) (.tmp 16))), none⟩])
 (.cond (.tmp 17)
 (.seq
 (.region [⟨(some 4), (.val (.mov (.const (.bool true)))), none⟩])
 .ret)
 .skip)))
 (.region [⟨(some 10), (.val (.mov (.tmp 5))), none⟩,
 ⟨(some 11), (.val (.bin .add (.tmp 10) (.const (.int .i64 1)))), none⟩,
 ⟨(some 5), (.val (.mov (.tmp 11))), none⟩])))
def F_base_HasInt : IFun :=
 ⟨18,
 (.seq
 (.region [⟨(some 4), (.val (.mov (.const (.bool false)))), none⟩])
 (.seq
 (.seq
 (.region [⟨(some 5), (.val (.mov (.const (.int .i64 0)))), none⟩])
 (.block 0
 (.loop F_base_HasInt_l0)))
 (.seq
 (.region [⟨(some 4), (.val (.mov (.const (.bool false)))), none⟩])
 .ret))),
 [.tmp 4]⟩
theorem ok34 : cFun Tryd.prog G Tryd.f34 = some F_base_HasInt := by kernel_rfl

/- balustrade/balustraderef06.own -/
abbrev n_r06_own : Nat := 35
def F_r06_own : IFun :=
 ⟨83,
 (.seq
 (.region [⟨(some 1), (.val (.box 27 (.tmp 0))), none⟩,
 ⟨(some 2), (.val (.mov (.const (.bool false)))), none⟩])
 (.seq
 (.seq
 (.draw [⟨(some 3), (.val (.faddr 0 (.tmp 1))), none⟩,
 ⟨(some 4), (.val (.load none (.tmp 3))), none⟩,
 ⟨(some 5), (.val (.bin .lss (.tmp 4) (.const (.int .i64 1)))), none⟩,
 ⟨(some 6), (.val (.mov (.tmp 5))), none⟩,
 ⟨(some 7), (.val (.faddr 0 (.tmp 1))), (some (6, false))⟩,
 ⟨(some 8), (.val (.load none (.tmp 7))), (some (6, false))⟩,
 ⟨(some 9), (.val (.bin .gtr (.tmp 8) (.const (.int .i64 26)))), (some (6, false))⟩,
 ⟨(some 10), (.val (.pick (.tmp 6) (.const (.bool true)) (.tmp 9))), none⟩,
 ⟨(some 11), (.val (.mov (.tmp 10))), none⟩,
 ⟨(some 12), (.val (.faddr 4 (.tmp 1))), (some (11, false))⟩,
 ⟨(some 13), (.val (.load none (.tmp 12))), (some (11, false))⟩,
 ⟨(some 14), (.val (.bin .lss (.tmp 13) (.const (.int .i64 0)))), (some (11, false))⟩,
 ⟨(some 15), (.val (.pick (.tmp 11) (.const (.bool true)) (.tmp 14))), none⟩,
 ⟨(some 16), (.val (.mov (.tmp 15))), none⟩,
 ⟨(some 17), (.val (.faddr 0 (.tmp 1))), (some (16, false))⟩,
 ⟨(some 18), (.val (.load none (.tmp 17))), (some (16, false))⟩,
 ⟨(some 19), (.call (.const (.func 47 [] [])) [(.tmp 18)]), (some (16, false))⟩,
 ⟨(some 20), (.val (.faddr 3 (.tmp 1))), (some (16, false))⟩,
 ⟨(some 21), (.val (.load none (.tmp 20))), (some (16, false))⟩,
 ⟨(some 22), (.val (.eq true (.prim 2) (.tmp 21) (.const (.str [])))), (some (16, false))⟩,
 ⟨(some 23), (.val (.eq true (.prim 0) (.tmp 19) (.tmp 22))), (some (16, false))⟩,
 ⟨(some 24), (.val (.pick (.tmp 16) (.const (.bool true)) (.tmp 23))), none⟩,
 ⟨(some 25), (.val (.mov (.tmp 24))), none⟩,
 ⟨(some 26), (.val (.faddr 3 (.tmp 1))), (some (25, false))⟩,
 ⟨(some 27), (.val (.load none (.tmp 26))), (some (25, false))⟩,
 ⟨(some 28), (.val (.eq true (.prim 2) (.tmp 27) (.const (.str [])))), (some (25, false))⟩,
 ⟨(some 29), (.val (.mov (.tmp 28))), (some (25, false))⟩,
 ⟨(some 30), (.val (.faddr 3 (.tmp 1))), (some (29, true))⟩,
 ⟨(some 31), (.val (.load none (.tmp 30))), (some (29, true))⟩,
 ⟨(some 32), (.call (.const (.func 48 [] [])) [(.tmp 31)]), (some (29, true))⟩,
 ⟨(some 33), (.val (.un .not (.tmp 32))), (some (29, true))⟩,
 ⟨(some 34), (.val (.pick (.tmp 29) (.tmp 33) (.const (.bool false)))), (some (25, false))⟩,
 ⟨(some 35), (.val (.pick (.tmp 25) (.const (.bool true)) (.tmp 34))), none⟩] [(18, 16)])
 (.cond (.tmp 35)
 (.seq
 (.region [⟨(some 2), (.val (.mov (.const (.bool false)))), none⟩])
 .ret)
 .skip))
 (.seq
 (.seq
 (.region [⟨(some 36), (.val (.faddr 0 (.tmp 1))), none⟩,
 ⟨(some 37), (.val (.load none (.tmp 36))), none⟩,
 ⟨(some 38), (.val (.eq false (.prim 1) (.tmp 37) (.const (.int .i64 1)))), none⟩])
 (.cond (.tmp 38)
 (.seq
 (.region [⟨(some 39), (.val (.faddr 2 (.tmp 1))), none⟩,
 ⟨(some 40), (.val (.load none (.tmp 39))), none⟩,
 ⟨(some 41), (.val (.bin .geq (.tmp 40) (.const (.int .i64 0)))), none⟩,
 ⟨(some 2), (.val (.mov (.tmp 41))), none⟩])
 .ret)
 .skip))
 (.seq
 (.seq
 (.region [⟨(some 42), (.val (.faddr 0 (.tmp 1))), none⟩,
 ⟨(some 43), (.val (.load none (.tmp 42))), none⟩,
 ⟨(some 44), (.val (.eq false (.prim 1) (.tmp 43) (.const (.int .i64 2)))), none⟩])
 (.cond (.tmp 44)
 (.seq
 (.region [⟨(some 45), (.val (.faddr 2 (.tmp 1))), none⟩,
 ⟨(some 46), (.val (.load none (.tmp 45))), none⟩,
 ⟨(some 47), (.val (.eq false (.prim 1) (.tmp 46) (.const (.int .i64 0)))), none⟩,
 ⟨(some 48), (.val (.mov (.tmp 47))), none⟩,
 ⟨(some 49), (.val (.faddr 2 (.tmp 1))), (some (48, false))⟩,
 ⟨(some 50), (.val (.load none (.tmp 49))), (some (48, false))⟩,
 ⟨(some 51), (.val (.eq false (.prim 1) (.tmp 50) (.const (.int .i64 1)))), (some (48, false))⟩,
 ⟨(some 52), (.val (.pick (.tmp 48) (.const (.bool true)) (.tmp 51))), none⟩,
 ⟨(some 2), (.val (.mov (.tmp 52))), none⟩])
 .ret)
 .skip))
 (.seq
 (.seq
 (.region [⟨(some 53), (.val (.faddr 0 (.tmp 1))), none⟩,
 ⟨(some 54), (.val (.load none (.tmp 53))), none⟩,
 ⟨(some 55), (.val (.eq false (.prim 1) (.tmp 54) (.const (.int .i64 5)))), none⟩])
 (.cond (.tmp 55)
 (.seq
 (.region [⟨(some 56), (.val (.faddr 2 (.tmp 1))), none⟩,
 ⟨(some 57), (.val (.load none (.tmp 56))), none⟩,
 ⟨(some 58), (.val (.bin .geq (.tmp 57) (.const (.int .i64 1)))), none⟩,
 ⟨(some 59), (.val (.mov (.tmp 58))), none⟩,
 ⟨(some 60), (.val (.faddr 2 (.tmp 1))), (some (59, true))⟩,
 ⟨(some 61), (.val (.load none (.tmp 60))), (some (59, true))⟩,
 ⟨(some 62), (.val (.bin .leq (.tmp 61) (.const (.int .i64 16)))), (some (59, true))⟩,
 ⟨(some 63), (.val (.pick (.tmp 59) (.tmp 62) (.const (.bool false)))), none⟩,
 ⟨(some 2), (.val (.mov (.tmp 63))), none⟩])
 .ret)
 .skip))
 (.seq
 (.seq
 (.region [⟨(some 64), (.val (.faddr 0 (.tmp 1))), none⟩,
 ⟨(some 65), (.val (.load none (.tmp 64))), none⟩,
 ⟨(some 66), (.val (.eq false (.prim 1) (.tmp 65) (.const (.int .i64 24)))), none⟩,
 ⟨(some 67), (.val (.mov (.tmp 66))), none⟩,
 ⟨(some 68), (.val (.faddr 0 (.tmp 1))), (some (67, false))⟩,
 ⟨(some 69), (.val (.load none (.tmp 68))), (some (67, false))⟩,
 ⟨(some 70), (.val (.eq false (.prim 1) (.tmp 69) (.const (.int .i64 25)))), (some (67, false))⟩,
 ⟨(some 71), (.val (.pick (.tmp 67) (.const (.bool true)) (.tmp 70))), none⟩])
 (.cond (.tmp 71)
 (.seq
 (.region [⟨(some 72), (.val (.faddr 2 (.tmp 1))), none⟩,
 ⟨(some 73), (.val (.load none (.tmp 72))), none⟩,
 ⟨(some 74), (.val (.bin .geq (.tmp 73) (.const (.int .i64 1)))), none⟩,
 ⟨(some 75), (.val (.mov (.tmp 74))), none⟩,
 ⟨(some 76), (.val (.faddr 2 (.tmp 1))), (some (75, true))⟩,
 ⟨(some 77), (.val (.load none (.tmp 76))), (some (75, true))⟩,
 ⟨(some 78), (.val (.bin .leq (.tmp 77) (.const (.int .i64 3)))), (some (75, true))⟩,
 ⟨(some 79), (.val (.pick (.tmp 75) (.tmp 78) (.const (.bool false)))), none⟩,
 ⟨(some 2), (.val (.mov (.tmp 79))), none⟩])
 .ret)
 .skip))
 (.seq
 (.region [⟨(some 80), (.val (.faddr 2 (.tmp 1))), none⟩,
 ⟨(some 81), (.val (.load none (.tmp 80))), none⟩,
 ⟨(some 82), (.val (.eq false (.prim 1) (.tmp 81) (.const (.int .i64 0)))), none⟩,
 ⟨(some 2), (.val (.mov (.tmp 82))), none⟩])
 .ret))))))),
 [.tmp 2]⟩
theorem ok35 : cFun Tryd.prog G Tryd.f35 = some F_r06_own := by kernel_rfl

/- balustrade/balustraderef06.kids -/
abbrev n_r06_kids : Nat := 36
def F_r06_kids_l0 : ICode :=
 (.seq
 (.seq
 (.region [⟨(some 117), (.val (.mov (.tmp 6))), none⟩,
 ⟨(some 118), (.val (.mov (.tmp 5))), none⟩,
 ⟨(some 119), (.val (.len (.tmp 118))), none⟩,
 ⟨(some 120), (.val (.bin .lss (.tmp 117) (.tmp 119))), none⟩])
 (.cond (.tmp 120)
 .skip
 (.exit 1)))
 (.seq
 (.block 2
 (.seq
 (.region [⟨(some 123), (.val (.mov (.tmp 0))), none⟩,
 ⟨(some 124), (.val (.mov (.tmp 5))), none⟩,
 ⟨(some 125), (.val (.mov (.tmp 6))), none⟩,
 ⟨(some 126), (.val (.iaddr 1 (.tmp 124) (.tmp 125))), none⟩,
 ⟨(some 127), (.val (.load none (.tmp 126))), none⟩,
 ⟨(some 128), (.val (.iaddr 5 (.tmp 123) (.tmp 127))), none⟩,
 ⟨(some 129), (.val (.faddr 0 (.tmp 128))), none⟩,
 ⟨(some 130), (.val (.load none (.tmp 129))), none⟩,
 ⟨(some 131), (.call (.const (.func 51 [] [])) [(.tmp 130)]), none⟩,
 ⟨(some 132), (.val (.un .not (.tmp 131))), none⟩])
 (.cond (.tmp 132)
 (.seq
 (.region [⟨(some 4), (.val (.mov (.const (.bool false)))), none⟩])
 .ret)
 .skip)))
 (.region [⟨(some 121), (.val (.mov (.tmp 6))), none⟩,
 ⟨(some 122), (.val (.bin .add (.tmp 121) (.const (.int .i64 1)))), none⟩,
 ⟨(some 6), (.val (.mov (.tmp 122))), none⟩])))
def F_r06_kids : IFun :=
 ⟨168,
 (.seq
 (.region [⟨(some 3), (.val (.box 27 (.tmp 1))), none⟩,
 ⟨(some 4), (.val (.mov (.const (.bool false)))), none⟩])
 (.seq
 (.region [⟨(some 7), (.val (.faddr 1 (.tmp 3))), none⟩,
 ⟨(some 8), (.val (.load none (.tmp 7))), none⟩,
 ⟨(some 5), (.val (.mov (.tmp 8))), none⟩])
 (.seq
 (.seq
 (.region [⟨(some 9), (.val (.faddr 0 (.tmp 3))), none⟩,
 ⟨(some 10), (.val (.load none (.tmp 9))), none⟩])
 (.block 0
 (.seq
 (.seq
 (.region [⟨(some 12), (.val (.eq false (.prim 1) (.tmp 10) (.const (.int .i64 5)))), none⟩,
 ⟨(some 11), (.val (.mov (.tmp 12))), none⟩])
 (.cond (.tmp 11)
 .skip
 (.seq
 (.region [⟨(some 13), (.val (.eq false (.prim 1) (.tmp 10) (.const (.int .i64 8)))), none⟩,
 ⟨(some 11), (.val (.mov (.tmp 13))), none⟩])
 (.cond (.tmp 11)
 .skip
 (.region [⟨(some 14), (.val (.eq false (.prim 1) (.tmp 10) (.const (.int .i64 14)))), none⟩,
 ⟨(some 11), (.val (.mov (.tmp 14))), none⟩])))))
 (.cond (.tmp 11)
 (.seq
 (.region [⟨(some 15), (.val (.mov (.tmp 5))), none⟩,
 ⟨(some 16), (.val (.len (.tmp 15))), none⟩,
 ⟨(some 17), (.val (.eq false (.prim 1) (.tmp 16) (.const (.int .i64 2)))), none⟩,
 ⟨(some 18), (.val (.mov (.tmp 17))), none⟩,
 ⟨(some 19), (.val (.mov (.tmp 0))), (some (18, true))⟩,
 ⟨(some 20), (.val (.mov (.tmp 5))), (some (18, true))⟩,
 ⟨(some 21), (.call (.const (.func 49 [] [])) [(.tmp 19), (.tmp 20), (.const (.int .i64 2))]), (some (18, true))⟩,
 ⟨(some 22), (.val (.pick (.tmp 18) (.tmp 21) (.const (.bool false)))), none⟩,
 ⟨(some 4), (.val (.mov (.tmp 22))), none⟩])
 .ret)
 (.seq
 (.seq
 (.region [⟨(some 24), (.val (.eq false (.prim 1) (.tmp 10) (.const (.int .i64 6)))), none⟩,
 ⟨(some 23), (.val (.mov (.tmp 24))), none⟩])
 (.cond (.tmp 23)
 .skip
 (.seq
 (.region [⟨(some 25), (.val (.eq false (.prim 1) (.tmp 10) (.const (.int .i64 7)))), none⟩,
 ⟨(some 23), (.val (.mov (.tmp 25))), none⟩])
 (.cond (.tmp 23)
 .skip
 (.seq
 (.region [⟨(some 26), (.val (.eq false (.prim 1) (.tmp 10) (.const (.int .i64 9)))), none⟩,
 ⟨(some 23), (.val (.mov (.tmp 26))), none⟩])
 (.cond (.tmp 23)
 .skip
 (.seq
 (.region [⟨(some 27), (.val (.eq false (.prim 1) (.tmp 10) (.const (.int .i64 10)))), none⟩,
 ⟨(some 23), (.val (.mov (.tmp 27))), none⟩])
 (.cond (.tmp 23)
 .skip
 (.seq
 (.region [⟨(some 28), (.val (.eq false (.prim 1) (.tmp 10) (.const (.int .i64 12)))), none⟩,
 ⟨(some 23), (.val (.mov (.tmp 28))), none⟩])
 (.cond (.tmp 23)
 .skip
 (.seq
 (.region [⟨(some 29), (.val (.eq false (.prim 1) (.tmp 10) (.const (.int .i64 13)))), none⟩,
 ⟨(some 23), (.val (.mov (.tmp 29))), none⟩])
 (.cond (.tmp 23)
 .skip
 (.seq
 (.region [⟨(some 30), (.val (.eq false (.prim 1) (.tmp 10) (.const (.int .i64 20)))), none⟩,
 ⟨(some 23), (.val (.mov (.tmp 30))), none⟩])
 (.cond (.tmp 23)
 .skip
 (.region [⟨(some 31), (.val (.eq false (.prim 1) (.tmp 10) (.const (.int .i64 21)))), none⟩,
 ⟨(some 23), (.val (.mov (.tmp 31))), none⟩])))))))))))))))
 (.cond (.tmp 23)
 (.seq
 (.region [⟨(some 32), (.val (.mov (.tmp 5))), none⟩,
 ⟨(some 33), (.val (.len (.tmp 32))), none⟩,
 ⟨(some 34), (.val (.eq false (.prim 1) (.tmp 33) (.const (.int .i64 1)))), none⟩,
 ⟨(some 35), (.val (.mov (.tmp 34))), none⟩,
 ⟨(some 36), (.val (.mov (.tmp 0))), (some (35, true))⟩,
 ⟨(some 37), (.val (.mov (.tmp 5))), (some (35, true))⟩,
 ⟨(some 38), (.call (.const (.func 49 [] [])) [(.tmp 36), (.tmp 37), (.const (.int .i64 1))]), (some (35, true))⟩,
 ⟨(some 39), (.val (.pick (.tmp 35) (.tmp 38) (.const (.bool false)))), none⟩,
 ⟨(some 4), (.val (.mov (.tmp 39))), none⟩])
 .ret)
 (.seq
 (.region [⟨(some 41), (.val (.eq false (.prim 1) (.tmp 10) (.const (.int .i64 11)))), none⟩,
 ⟨(some 40), (.val (.mov (.tmp 41))), none⟩])
 (.cond (.tmp 40)
 (.seq
 (.region [⟨(some 42), (.val (.mov (.tmp 5))), none⟩,
 ⟨(some 43), (.val (.len (.tmp 42))), none⟩,
 ⟨(some 44), (.val (.bin .leq (.tmp 43) (.const (.int .i64 8)))), none⟩,
 ⟨(some 45), (.val (.mov (.tmp 44))), none⟩,
 ⟨(some 46), (.val (.mov (.tmp 0))), (some (45, true))⟩,
 ⟨(some 47), (.val (.mov (.tmp 5))), (some (45, true))⟩,
 ⟨(some 48), (.val (.mov (.tmp 5))), (some (45, true))⟩,
 ⟨(some 49), (.val (.len (.tmp 48))), (some (45, true))⟩,
 ⟨(some 50), (.call (.const (.func 49 [] [])) [(.tmp 46), (.tmp 47), (.tmp 49)]), (some (45, true))⟩,
 ⟨(some 51), (.val (.pick (.tmp 45) (.tmp 50) (.const (.bool false)))), none⟩,
 ⟨(some 4), (.val (.mov (.tmp 51))), none⟩])
 .ret)
 (.seq
 (.region [⟨(some 53), (.val (.eq false (.prim 1) (.tmp 10) (.const (.int .i64 15)))), none⟩,
 ⟨(some 52), (.val (.mov (.tmp 53))), none⟩])
 (.cond (.tmp 52)
 (.seq
 (.region [⟨(some 54), (.val (.mov (.tmp 0))), none⟩,
 ⟨(some 55), (.val (.mov (.tmp 5))), none⟩,
 ⟨(some 56), (.call (.const (.func 49 [] [])) [(.tmp 54), (.tmp 55), (.const (.int .i64 1))]), none⟩,
 ⟨(some 57), (.val (.mov (.tmp 56))), none⟩,
 ⟨(some 58), (.val (.mov (.tmp 5))), (some (57, true))⟩,
 ⟨(some 59), (.val (.len (.tmp 58))), (some (57, true))⟩,
 ⟨(some 60), (.val (.bin .geq (.tmp 59) (.const (.int .i64 2)))), (some (57, true))⟩,
 ⟨(some 61), (.val (.pick (.tmp 57) (.tmp 60) (.const (.bool false)))), none⟩,
 ⟨(some 62), (.val (.mov (.tmp 61))), none⟩,
 ⟨(some 63), (.val (.mov (.tmp 0))), (some (62, true))⟩,
 ⟨(some 64), (.val (.mov (.tmp 5))), (some (62, true))⟩,
 ⟨(some 65), (.val (.slsl 1 (.tmp 64) (some (.const (.int .i64 1))) none none)), (some (62, true))⟩,
 ⟨(some 66), (.call (.const (.func 50 [] [])) [(.tmp 63), (.tmp 65), (.const (.int .i64 23)), (.const (.int .i64 2))]), (some (62, true))⟩,
 ⟨(some 67), (.val (.pick (.tmp 62) (.tmp 66) (.const (.bool false)))), none⟩,
 ⟨(some 4), (.val (.mov (.tmp 67))), none⟩])
 .ret)
 (.seq
 (.region [⟨(some 69), (.val (.eq false (.prim 1) (.tmp 10) (.const (.int .i64 16)))), none⟩,
 ⟨(some 68), (.val (.mov (.tmp 69))), none⟩])
 (.cond (.tmp 68)
 (.seq
 (.region [⟨(some 70), (.val (.mov (.tmp 0))), none⟩,
 ⟨(some 71), (.val (.mov (.tmp 5))), none⟩,
 ⟨(some 72), (.call (.const (.func 49 [] [])) [(.tmp 70), (.tmp 71), (.const (.int .i64 1))]), none⟩,
 ⟨(some 73), (.val (.mov (.tmp 72))), none⟩,
 ⟨(some 74), (.val (.mov (.tmp 5))), (some (73, true))⟩,
 ⟨(some 75), (.val (.len (.tmp 74))), (some (73, true))⟩,
 ⟨(some 76), (.val (.eq false (.prim 1) (.tmp 75) (.const (.int .i64 2)))), (some (73, true))⟩,
 ⟨(some 77), (.val (.pick (.tmp 73) (.tmp 76) (.const (.bool false)))), none⟩,
 ⟨(some 78), (.val (.mov (.tmp 77))), none⟩,
 ⟨(some 79), (.val (.mov (.tmp 0))), (some (78, true))⟩,
 ⟨(some 80), (.val (.mov (.tmp 5))), (some (78, true))⟩,
 ⟨(some 81), (.val (.slsl 1 (.tmp 80) (some (.const (.int .i64 1))) none none)), (some (78, true))⟩,
 ⟨(some 82), (.call (.const (.func 50 [] [])) [(.tmp 79), (.tmp 81), (.const (.int .i64 23)), (.const (.int .i64 1))]), (some (78, true))⟩,
 ⟨(some 83), (.val (.pick (.tmp 78) (.tmp 82) (.const (.bool false)))), none⟩,
 ⟨(some 4), (.val (.mov (.tmp 83))), none⟩])
 .ret)
 (.seq
 (.region [⟨(some 85), (.val (.eq false (.prim 1) (.tmp 10) (.const (.int .i64 17)))), none⟩,
 ⟨(some 84), (.val (.mov (.tmp 85))), none⟩])
 (.cond (.tmp 84)
 (.seq
 (.region [⟨(some 86), (.val (.mov (.tmp 0))), none⟩,
 ⟨(some 87), (.val (.mov (.tmp 5))), none⟩,
 ⟨(some 88), (.call (.const (.func 49 [] [])) [(.tmp 86), (.tmp 87), (.const (.int .i64 2))]), none⟩,
 ⟨(some 89), (.val (.mov (.tmp 88))), none⟩,
 ⟨(some 90), (.val (.mov (.tmp 5))), (some (89, true))⟩,
 ⟨(some 91), (.val (.len (.tmp 90))), (some (89, true))⟩,
 ⟨(some 92), (.val (.eq false (.prim 1) (.tmp 91) (.const (.int .i64 3)))), (some (89, true))⟩,
 ⟨(some 93), (.val (.pick (.tmp 89) (.tmp 92) (.const (.bool false)))), none⟩,
 ⟨(some 94), (.val (.mov (.tmp 93))), none⟩,
 ⟨(some 95), (.val (.mov (.tmp 0))), (some (94, true))⟩,
 ⟨(some 96), (.val (.mov (.tmp 5))), (some (94, true))⟩,
 ⟨(some 97), (.val (.slsl 1 (.tmp 96) (some (.const (.int .i64 2))) none none)), (some (94, true))⟩,
 ⟨(some 98), (.call (.const (.func 50 [] [])) [(.tmp 95), (.tmp 97), (.const (.int .i64 23)), (.const (.int .i64 1))]), (some (94, true))⟩,
 ⟨(some 99), (.val (.pick (.tmp 94) (.tmp 98) (.const (.bool false)))), none⟩,
 ⟨(some 4), (.val (.mov (.tmp 99))), none⟩])
 .ret)
 (.seq
 (.region [⟨(some 101), (.val (.eq false (.prim 1) (.tmp 10) (.const (.int .i64 22)))), none⟩,
 ⟨(some 100), (.val (.mov (.tmp 101))), none⟩])
 (.cond (.tmp 100)
 (.seq
 (.region [⟨(some 102), (.val (.mov (.tmp 5))), none⟩,
 ⟨(some 103), (.val (.len (.tmp 102))), none⟩,
 ⟨(some 104), (.val (.eq false (.prim 1) (.tmp 103) (.const (.int .i64 1)))), none⟩,
 ⟨(some 105), (.val (.mov (.tmp 104))), none⟩,
 ⟨(some 106), (.val (.mov (.tmp 0))), (some (105, true))⟩,
 ⟨(some 107), (.val (.mov (.tmp 5))), (some (105, true))⟩,
 ⟨(some 108), (.val (.iaddr 1 (.tmp 107) (.const (.int .i64 0)))), (some (105, true))⟩,
 ⟨(some 109), (.val (.load none (.tmp 108))), (some (105, true))⟩,
 ⟨(some 110), (.val (.iaddr 5 (.tmp 106) (.tmp 109))), (some (105, true))⟩,
 ⟨(some 111), (.val (.faddr 0 (.tmp 110))), (some (105, true))⟩,
 ⟨(some 112), (.val (.load none (.tmp 111))), (some (105, true))⟩,
 ⟨(some 113), (.val (.eq false (.prim 1) (.tmp 112) (.const (.int .i64 11)))), (some (105, true))⟩,
 ⟨(some 114), (.val (.pick (.tmp 105) (.tmp 113) (.const (.bool false)))), none⟩,
 ⟨(some 4), (.val (.mov (.tmp 114))), none⟩])
 .ret)
 (.seq
 (.region [⟨(some 116), (.val (.eq false (.prim 1) (.tmp 10) (.const (.int .i64 23)))), none⟩,
 ⟨(some 115), (.val (.mov (.tmp 116))), none⟩])
 (.cond (.tmp 115)
 (.seq
 (.seq
 (.region [⟨(some 6), (.val (.mov (.const (.int .i64 0)))), none⟩])
 (.block 1
 (.loop F_r06_kids_l0)))
 (.seq
 (.region [⟨(some 4), (.val (.mov (.const (.bool true)))), none⟩])
 .ret))
 (.seq
 (.region [⟨(some 134), (.val (.eq false (.prim 1) (.tmp 10) (.const (.int .i64 25)))), none⟩,
 ⟨(some 133), (.val (.mov (.tmp 134))), none⟩])
 (.cond (.tmp 133)
 (.seq
 (.region [⟨(some 135), (.val (.mov (.tmp 5))), none⟩,
 ⟨(some 136), (.val (.len (.tmp 135))), none⟩,
 ⟨(some 137), (.val (.bin .geq (.tmp 136) (.const (.int .i64 1)))), none⟩,
 ⟨(some 138), (.val (.mov (.tmp 137))), none⟩,
 ⟨(some 139), (.val (.mov (.tmp 0))), (some (138, true))⟩,
 ⟨(some 140), (.val (.mov (.tmp 5))), (some (138, true))⟩,
 ⟨(some 141), (.val (.mov (.tmp 5))), (some (138, true))⟩,
 ⟨(some 142), (.val (.len (.tmp 141))), (some (138, true))⟩,
 ⟨(some 143), (.val (.bin .sub (.tmp 142) (.const (.int .i64 1)))), (some (138, true))⟩,
 ⟨(some 144), (.val (.slsl 1 (.tmp 140) none (some (.tmp 143)) none)), (some (138, true))⟩,
 ⟨(some 145), (.call (.const (.func 50 [] [])) [(.tmp 139), (.tmp 144), (.const (.int .i64 24)), (.const (.int .i64 8))]), (some (138, true))⟩,
 ⟨(some 146), (.val (.pick (.tmp 138) (.tmp 145) (.const (.bool false)))), none⟩,
 ⟨(some 147), (.val (.mov (.tmp 146))), none⟩,
 ⟨(some 148), (.val (.mov (.tmp 0))), (some (147, true))⟩,
 ⟨(some 149), (.val (.mov (.tmp 5))), (some (147, true))⟩,
 ⟨(some 150), (.val (.mov (.tmp 5))), (some (147, true))⟩,
 ⟨(some 151), (.val (.len (.tmp 150))), (some (147, true))⟩,
 ⟨(some 152), (.val (.bin .sub (.tmp 151) (.const (.int .i64 1)))), (some (147, true))⟩,
 ⟨(some 153), (.val (.iaddr 1 (.tmp 149) (.tmp 152))), (some (147, true))⟩,
 ⟨(some 154), (.val (.load none (.tmp 153))), (some (147, true))⟩,
 ⟨(some 155), (.val (.iaddr 5 (.tmp 148) (.tmp 154))), (some (147, true))⟩,
 ⟨(some 156), (.val (.faddr 0 (.tmp 155))), (some (147, true))⟩,
 ⟨(some 157), (.val (.load none (.tmp 156))), (some (147, true))⟩,
 ⟨(some 158), (.val (.eq false (.prim 1) (.tmp 157) (.const (.int .i64 23)))), (some (147, true))⟩,
 ⟨(some 159), (.val (.pick (.tmp 147) (.tmp 158) (.const (.bool false)))), none⟩,
 ⟨(some 4), (.val (.mov (.tmp 159))), none⟩])
 .ret)
 (.seq
 (.region [⟨(some 161), (.val (.eq false (.prim 1) (.tmp 10) (.const (.int .i64 26)))), none⟩,
 ⟨(some 160), (.val (.mov (.tmp 161))), none⟩])
 (.cond (.tmp 160)
 (.seq
 (.region [⟨(some 162), (.val (.mov (.tmp 0))), none⟩,
 ⟨(some 163), (.val (.mov (.tmp 5))), none⟩,
 ⟨(some 164), (.call (.const (.func 50 [] [])) [(.tmp 162), (.tmp 163), (.const (.int .i64 25)), (.const (.int .i64 200))]), none⟩,
 ⟨(some 4), (.val (.mov (.tmp 164))), none⟩])
 .ret)
 .skip))))))))))))))))))))))
 (.seq
 (.region [⟨(some 165), (.val (.mov (.tmp 5))), none⟩,
 ⟨(some 166), (.val (.len (.tmp 165))), none⟩,
 ⟨(some 167), (.val (.eq false (.prim 1) (.tmp 166) (.const (.int .i64 0)))), none⟩,
 ⟨(some 4), (.val (.mov (.tmp 167))), none⟩])
 .ret)))),
 [.tmp 4]⟩
theorem ok36 : cFun Tryd.prog G Tryd.f36 = some F_r06_kids := by kernel_rfl

/- balustrade/tree.has -/
abbrev n_tree_has : Nat := 37
def F_tree_has_l0 : ICode :=
 (.seq
 (.region [⟨(some 75), (.val (.bin .lss (.tmp 74) (.tmp 73))), none⟩])
 (.seq
 (.cond (.tmp 75)
 .skip
 (.exit 0))
 (.seq
 (.block 1
 (.seq
 (.region [⟨(some 76), (.val (.iaddr 1 (.tmp 72) (.tmp 74))), none⟩,
 ⟨(some 77), (.val (.load none (.tmp 76))), none⟩,
 ⟨(some 10), (.val (.mov (.tmp 77))), none⟩])
 (.seq
 (.draw [⟨(some 78), (.val (.mov (.tmp 0))), none⟩,
 ⟨(some 79), (.val (.mov (.tmp 10))), none⟩,
 ⟨(some 80), (.val (.iaddr 5 (.tmp 78) (.tmp 79))), none⟩,
 ⟨(some 81), (.val (.faddr 0 (.tmp 80))), none⟩,
 ⟨(some 82), (.val (.load none (.tmp 81))), none⟩,
 ⟨(some 83), (.val (.faddr 5 (.tmp 5))), none⟩,
 ⟨(some 84), (.val (.load none (.tmp 83))), none⟩,
 ⟨(some 85), (.call (.const (.func 53 [] [])) [(.tmp 82), (.tmp 84)]), none⟩,
 ⟨(some 86), (.val (.un .not (.tmp 85))), none⟩] [])
 (.cond (.tmp 86)
 (.seq
 (.region [⟨(some 4), (.val (.mov (.const (.bool false)))), none⟩])
 .ret)
 .skip))))
 (.region [⟨(some 87), (.val (.bin .add (.tmp 74) (.const (.int .i64 1)))), none⟩,
 ⟨(some 74), (.val (.mov (.tmp 87))), none⟩]))))
def F_tree_has_l1 : ICode :=
 (.seq
 (.region [⟨(some 118), (.val (.bin .lss (.tmp 117) (.tmp 116))), none⟩])
 (.seq
 (.cond (.tmp 118)
 .skip
 (.exit 2))
 (.seq
 (.block 3
 (.seq
 (.region [⟨(some 119), (.val (.mov (.tmp 117))), none⟩,
 ⟨(some 120), (.val (.iaddr 1 (.tmp 115) (.tmp 117))), none⟩,
 ⟨(some 121), (.val (.load none (.tmp 120))), none⟩,
 ⟨(some 11), (.val (.mov (.tmp 119))), none⟩,
 ⟨(some 12), (.val (.mov (.tmp 121))), none⟩])
 (.seq
 (.draw [⟨(some 122), (.val (.mov (.tmp 0))), none⟩,
 ⟨(some 123), (.val (.mov (.tmp 12))), none⟩,
 ⟨(some 124), (.val (.iaddr 5 (.tmp 122) (.tmp 123))), none⟩,
 ⟨(some 125), (.val (.faddr 0 (.tmp 124))), none⟩,
 ⟨(some 126), (.val (.load none (.tmp 125))), none⟩,
 ⟨(some 127), (.val (.faddr 6 (.tmp 5))), none⟩,
 ⟨(some 128), (.val (.load none (.tmp 127))), none⟩,
 ⟨(some 129), (.val (.mov (.tmp 11))), none⟩,
 ⟨(some 130), (.val (.iaddr 1 (.tmp 128) (.tmp 129))), none⟩,
 ⟨(some 131), (.val (.load none (.tmp 130))), none⟩,
 ⟨(some 132), (.call (.const (.func 53 [] [])) [(.tmp 126), (.tmp 131)]), none⟩,
 ⟨(some 133), (.val (.un .not (.tmp 132))), none⟩] [])
 (.cond (.tmp 133)
 (.seq
 (.region [⟨(some 4), (.val (.mov (.const (.bool false)))), none⟩])
 .ret)
 .skip))))
 (.region [⟨(some 134), (.val (.bin .add (.tmp 117) (.const (.int .i64 1)))), none⟩,
 ⟨(some 117), (.val (.mov (.tmp 134))), none⟩]))))
def F_tree_has : IFun :=
 ⟨135,
 (.seq
 (.region [⟨(some 3), (.val (.box 27 (.tmp 1))), none⟩,
 ⟨(some 4), (.val (.mov (.const (.bool false)))), none⟩])
 (.seq
 (.region [⟨(some 14), (.val (.faddr 0 (.tmp 3))), none⟩,
 ⟨(some 15), (.val (.load none (.tmp 14))), none⟩,
 ⟨(some 16), (.call (.const (.func 30 [] [])) [(.tmp 15)]), none⟩,
 ⟨(some 13), (.val (.mov (.tmp 16))), none⟩,
 ⟨(some 17), (.val (.extract (.tmp 13) 0)), none⟩,
 ⟨(some 18), (.val (.extract (.tmp 13) 1)), none⟩,
 ⟨(some 5), (.val (.alloc 45 [(.str []), (.bool false), (.int .i64 0), (.int .i64 0), (.int .i64 0), (.int .i64 0), .nilslice, (.bool false)])), none⟩,
 ⟨none, (.val (.store 8 (.tmp 5) (.tmp 17))), none⟩,
 ⟨(some 6), (.val (.mov (.tmp 18))), none⟩])
 (.seq
 (.seq
 (.region [⟨(some 19), (.val (.mov (.tmp 6))), none⟩,
 ⟨(some 20), (.val (.un .not (.tmp 19))), none⟩,
 ⟨(some 21), (.val (.mov (.tmp 20))), none⟩,
 ⟨(some 22), (.val (.faddr 4 (.tmp 3))), (some (21, false))⟩,
 ⟨(some 23), (.val (.load none (.tmp 22))), (some (21, false))⟩,
 ⟨(some 24), (.val (.bin .lss (.tmp 23) (.const (.int .i64 0)))), (some (21, false))⟩,
 ⟨(some 25), (.val (.pick (.tmp 21) (.const (.bool true)) (.tmp 24))), none⟩,
 ⟨(some 26), (.val (.mov (.tmp 25))), none⟩,
 ⟨(some 27), (.val (.faddr 2 (.tmp 3))), (some (26, false))⟩,
 ⟨(some 28), (.val (.load none (.tmp 27))), (some (26, false))⟩,
 ⟨(some 29), (.val (.faddr 2 (.tmp 5))), (some (26, false))⟩,
 ⟨(some 30), (.val (.load none (.tmp 29))), (some (26, false))⟩,
 ⟨(some 31), (.val (.bin .lss (.tmp 28) (.tmp 30))), (some (26, false))⟩,
 ⟨(some 32), (.val (.pick (.tmp 26) (.const (.bool true)) (.tmp 31))), none⟩,
 ⟨(some 33), (.val (.mov (.tmp 32))), none⟩,
 ⟨(some 34), (.val (.faddr 2 (.tmp 3))), (some (33, false))⟩,
 ⟨(some 35), (.val (.load none (.tmp 34))), (some (33, false))⟩,
 ⟨(some 36), (.val (.faddr 3 (.tmp 5))), (some (33, false))⟩,
 ⟨(some 37), (.val (.load none (.tmp 36))), (some (33, false))⟩,
 ⟨(some 38), (.val (.bin .gtr (.tmp 35) (.tmp 37))), (some (33, false))⟩,
 ⟨(some 39), (.val (.pick (.tmp 33) (.const (.bool true)) (.tmp 38))), none⟩,
 ⟨(some 40), (.val (.mov (.tmp 39))), none⟩,
 ⟨(some 41), (.val (.faddr 1 (.tmp 5))), (some (40, false))⟩,
 ⟨(some 42), (.val (.load none (.tmp 41))), (some (40, false))⟩,
 ⟨(some 43), (.val (.faddr 3 (.tmp 3))), (some (40, false))⟩,
 ⟨(some 44), (.val (.load none (.tmp 43))), (some (40, false))⟩,
 ⟨(some 45), (.val (.eq true (.prim 2) (.tmp 44) (.const (.str [])))), (some (40, false))⟩,
 ⟨(some 46), (.val (.eq true (.prim 0) (.tmp 42) (.tmp 45))), (some (40, false))⟩,
 ⟨(some 47), (.val (.pick (.tmp 40) (.const (.bool true)) (.tmp 46))), none⟩,
 ⟨(some 48), (.val (.mov (.tmp 47))), none⟩,
 ⟨(some 49), (.val (.faddr 1 (.tmp 5))), (some (48, false))⟩,
 ⟨(some 50), (.val (.load none (.tmp 49))), (some (48, false))⟩,
 ⟨(some 51), (.val (.mov (.tmp 50))), (some (48, false))⟩,
 ⟨(some 52), (.val (.faddr 3 (.tmp 3))), (some (51, true))⟩,
 ⟨(some 53), (.val (.load none (.tmp 52))), (some (51, true))⟩,
 ⟨(some 54), (.call (.const (.func 52 [] [])) [(.tmp 53)]), (some (51, true))⟩,
 ⟨(some 55), (.val (.un .not (.tmp 54))), (some (51, true))⟩,
 ⟨(some 56), (.val (.pick (.tmp 51) (.tmp 55) (.const (.bool false)))), (some (48, false))⟩,
 ⟨(some 57), (.val (.pick (.tmp 48) (.const (.bool true)) (.tmp 56))), none⟩])
 (.cond (.tmp 57)
 (.seq
 (.region [⟨(some 4), (.val (.mov (.const (.bool false)))), none⟩])
 .ret)
 .skip))
 (.seq
 (.region [⟨(some 58), (.val (.faddr 1 (.tmp 3))), none⟩,
 ⟨(some 59), (.val (.load none (.tmp 58))), none⟩,
 ⟨(some 7), (.val (.mov (.tmp 59))), none⟩])
 (.seq
 (.seq
 (.region [⟨(some 60), (.val (.faddr 4 (.tmp 5))), none⟩,
 ⟨(some 61), (.val (.load none (.tmp 60))), none⟩,
 ⟨(some 62), (.val (.bin .gtr (.tmp 61) (.const (.int .i64 0)))), none⟩])
 (.cond (.tmp 62)
 (.seq
 (.region [⟨(some 63), (.val (.mov (.tmp 7))), none⟩,
 ⟨(some 64), (.val (.len (.tmp 63))), none⟩,
 ⟨(some 65), (.val (.faddr 6 (.tmp 5))), none⟩,
 ⟨(some 66), (.val (.load none (.tmp 65))), none⟩,
 ⟨(some 67), (.val (.len (.tmp 66))), none⟩,
 ⟨(some 68), (.val (.bin .sub (.tmp 64) (.tmp 67))), none⟩,
 ⟨(some 69), (.val (.max [(.const (.int .i64 0)), (.tmp 68)])), none⟩,
 ⟨(some 8), (.val (.mov (.tmp 69))), none⟩])
 (.seq
 (.seq
 (.region [⟨(some 70), (.val (.mov (.tmp 7))), none⟩,
 ⟨(some 71), (.val (.mov (.tmp 8))), none⟩,
 ⟨(some 72), (.val (.slsl 1 (.tmp 70) none (some (.tmp 71)) none)), none⟩,
 ⟨(some 73), (.val (.len (.tmp 72))), none⟩,
 ⟨(some 74), (.val (.mov (.const (.int .i64 0)))), none⟩])
 (.block 0
 (.loop F_tree_has_l0)))
 (.seq
 (.seq
 (.region [⟨(some 88), (.val (.mov (.tmp 8))), none⟩,
 ⟨(some 89), (.val (.faddr 4 (.tmp 5))), none⟩,
 ⟨(some 90), (.val (.load none (.tmp 89))), none⟩,
 ⟨(some 91), (.val (.bin .gtr (.tmp 88) (.tmp 90))), none⟩])
 (.cond (.tmp 91)
 (.seq
 (.region [⟨(some 4), (.val (.mov (.const (.bool false)))), none⟩])
 .ret)
 .skip))
 (.region [⟨(some 92), (.val (.mov (.tmp 7))), none⟩,
 ⟨(some 93), (.val (.mov (.tmp 8))), none⟩,
 ⟨(some 94), (.val (.slsl 1 (.tmp 92) (some (.tmp 93)) none none)), none⟩,
 ⟨(some 7), (.val (.mov (.tmp 94))), none⟩]))))
 .skip))
 (.seq
 (.seq
 (.region [⟨(some 95), (.val (.mov (.tmp 7))), none⟩,
 ⟨(some 96), (.val (.len (.tmp 95))), none⟩,
 ⟨(some 97), (.val (.faddr 6 (.tmp 5))), none⟩,
 ⟨(some 98), (.val (.load none (.tmp 97))), none⟩,
 ⟨(some 99), (.val (.len (.tmp 98))), none⟩,
 ⟨(some 100), (.val (.eq true (.prim 1) (.tmp 96) (.tmp 99))), none⟩,
 ⟨(some 101), (.val (.mov (.tmp 100))), none⟩,
 ⟨(some 102), (.val (.faddr 7 (.tmp 5))), (some (101, true))⟩,
 ⟨(some 103), (.val (.load none (.tmp 102))), (some (101, true))⟩,
 ⟨(some 104), (.val (.mov (.tmp 103))), (some (101, true))⟩,
 ⟨(some 105), (.val (.mov (.tmp 7))), (some (104, true))⟩,
 ⟨(some 106), (.val (.len (.tmp 105))), (some (104, true))⟩,
 ⟨(some 107), (.val (.faddr 6 (.tmp 5))), (some (104, true))⟩,
 ⟨(some 108), (.val (.load none (.tmp 107))), (some (104, true))⟩,
 ⟨(some 109), (.val (.len (.tmp 108))), (some (104, true))⟩,
 ⟨(some 110), (.val (.bin .sub (.tmp 109) (.const (.int .i64 1)))), (some (104, true))⟩,
 ⟨(some 111), (.val (.eq false (.prim 1) (.tmp 106) (.tmp 110))), (some (104, true))⟩,
 ⟨(some 112), (.val (.pick (.tmp 104) (.tmp 111) (.const (.bool false)))), (some (101, true))⟩,
 ⟨(some 113), (.val (.un .not (.tmp 112))), (some (101, true))⟩,
 ⟨(some 114), (.val (.pick (.tmp 101) (.tmp 113) (.const (.bool false)))), none⟩])
 (.cond (.tmp 114)
 (.seq
 (.region [⟨(some 4), (.val (.mov (.const (.bool false)))), none⟩])
 .ret)
 .skip))
 (.seq
 (.seq
 (.region [⟨(some 115), (.val (.mov (.tmp 7))), none⟩,
 ⟨(some 116), (.val (.len (.tmp 115))), none⟩,
 ⟨(some 117), (.val (.mov (.const (.int .i64 0)))), none⟩])
 (.block 2
 (.loop F_tree_has_l1)))
 (.seq
 (.region [⟨(some 4), (.val (.mov (.const (.bool true)))), none⟩])
 .ret)))))))),
 [.tmp 4]⟩
theorem ok37 : cFun Tryd.prog G Tryd.f37 = some F_tree_has := by kernel_rfl

/- slices.Contains[[]bool,bool] -/
abbrev n_slices_Contains_bool : Nat := 38
def F_slices_Contains_bool : IFun :=
 ⟨9,
 (.seq
 (.region [⟨(some 4), (.val (.mov (.const (.bool false)))), none⟩])
 (.seq
 (.region [⟨(some 5), (.val (.mov (.tmp 0))), none⟩,
 ⟨(some 6), (.val (.mov (.tmp 1))), none⟩,
 ⟨(some 7), (.call (.const (.func 54 [] [])) [(.tmp 5), (.tmp 6)]), none⟩,
 ⟨(some 8), (.val (.bin .geq (.tmp 7) (.const (.int .i64 0)))), none⟩,
 ⟨(some 4), (.val (.mov (.tmp 8))), none⟩])
 .ret)),
 [.tmp 4]⟩
theorem ok38 : cFun Tryd.prog G Tryd.f38 = some F_slices_Contains_bool := by kernel_rfl

/- balustrade/balustradebase.Itoa -/
abbrev n_base_Itoa : Nat := 39
def F_base_Itoa_l0 : ICode :=
 (.seq
 (.seq
 (.region [⟨(some 9), (.val (.mov (.tmp 4))), none⟩,
 ⟨(some 10), (.val (.eq true (.prim 1) (.tmp 9) (.const (.int .i64 0)))), none⟩])
 (.cond (.tmp 10)
 .skip
 (.exit 0)))
 (.block 1
 (.seq
 (.region [⟨(some 11), (.val (.mov (.tmp 4))), none⟩,
 ⟨(some 12), (.val (.bin .rem (.tmp 11) (.const (.int .i64 10)))), none⟩,
 ⟨(some 5), (.val (.mov (.tmp 12))), none⟩])
 (.seq
 (.seq
 (.region [⟨(some 13), (.val (.mov (.tmp 5))), none⟩,
 ⟨(some 14), (.val (.bin .lss (.tmp 13) (.const (.int .i64 0)))), none⟩])
 (.cond (.tmp 14)
 (.region [⟨(some 15), (.val (.mov (.tmp 5))), none⟩,
 ⟨(some 16), (.val (.un .neg (.tmp 15))), none⟩,
 ⟨(some 5), (.val (.mov (.tmp 16))), none⟩])
 .skip))
 (.seq
 (.region [⟨(some 17), (.val (.mov (.tmp 5))), none⟩,
 ⟨(some 18), (.val (.bin .add (.const (.int .i64 48)) (.tmp 17))), none⟩,
 ⟨(some 19), (.val (.conv (.int .u8) (.tmp 18))), none⟩,
 ⟨(some 20), (.val (.bslice 5 1 1 [(.int .u8 0)] [(0, (.tmp 19))])), none⟩,
 ⟨(some 21), (.val (.conv .text (.tmp 20))), none⟩,
 ⟨(some 22), (.val (.mov (.tmp 3))), none⟩,
 ⟨(some 23), (.val (.bin .add (.tmp 21) (.tmp 22))), none⟩,
 ⟨(some 3), (.val (.mov (.tmp 23))), none⟩])
 (.region [⟨(some 24), (.val (.mov (.tmp 4))), none⟩,
 ⟨(some 25), (.val (.bin .quo (.tmp 24) (.const (.int .i64 10)))), none⟩,
 ⟨(some 4), (.val (.mov (.tmp 25))), none⟩]))))))
def F_base_Itoa : IFun :=
 ⟨31,
 (.seq
 (.region [⟨(some 2), (.val (.mov (.const (.str [])))), none⟩])
 (.seq
 (.seq
 (.region [⟨(some 6), (.val (.mov (.tmp 0))), none⟩,
 ⟨(some 7), (.val (.eq false (.prim 1) (.tmp 6) (.const (.int .i64 0)))), none⟩])
 (.cond (.tmp 7)
 (.seq
 (.region [⟨(some 2), (.val (.mov (.const (.str [48])))), none⟩])
 .ret)
 .skip))
 (.seq
 (.region [⟨(some 8), (.val (.mov (.tmp 0))), none⟩,
 ⟨(some 3), (.val (.mov (.const (.str [])))), none⟩,
 ⟨(some 4), (.val (.mov (.tmp 8))), none⟩])
 (.seq
 (.block 0
 (.loop F_base_Itoa_l0))
 (.seq
 (.seq
 (.region [⟨(some 26), (.val (.mov (.tmp 0))), none⟩,
 ⟨(some 27), (.val (.bin .lss (.tmp 26) (.const (.int .i64 0)))), none⟩])
 (.cond (.tmp 27)
 (.region [⟨(some 28), (.val (.mov (.tmp 3))), none⟩,
 ⟨(some 29), (.val (.bin .add (.const (.str [45])) (.tmp 28))), none⟩,
 ⟨(some 3), (.val (.mov (.tmp 29))), none⟩])
 .skip))
 (.seq
 (.region [⟨(some 30), (.val (.mov (.tmp 3))), none⟩,
 ⟨(some 2), (.val (.mov (.tmp 30))), none⟩])
 .ret)))))),
 [.tmp 2]⟩
theorem ok39 : cFun Tryd.prog G Tryd.f39 = some F_base_Itoa := by kernel_rfl

/- balustrade/balustraderef06.word -/
abbrev n_r06_word : Nat := 40
def F_r06_word : IFun :=
 ⟨20,
 (.seq
 (.region [⟨(some 1), (.val (.box 27 (.tmp 0))), none⟩,
 ⟨(some 2), (.val (.mov (.const (.str [])))), none⟩])
 (.seq
 (.region [⟨(some 4), (.val (.bslice 9 1 26 [(.str [])] [(0, (.const (.str []))), (1, (.const (.str []))), (2, (.const (.str [110, 105, 108]))), (3, (.const (.str []))), (4, (.const (.str []))), (5, (.const (.str [110, 101, 103]))), (6, (.const (.str [110, 111, 116]))), (7, (.const (.str [97, 116]))), (8, (.const (.str [108, 101, 110]))), (9, (.const (.str [110, 101, 119]))), (10, (.const (.str [99, 97, 108, 108]))), (11, (.const (.str [118, 97, 114]))), (12, (.const (.str [115, 101, 116]))), (13, (.const (.str [112, 117, 116]))), (14, (.const (.str [105, 102]))), (15, (.const (.str [119, 104, 105, 108, 101]))), (16, (.const (.str [102, 111, 114]))), (17, (.const (.str [98, 114, 101, 97, 107]))), (18, (.const (.str [99, 111, 110, 116, 105, 110, 117, 101]))), (19, (.const (.str [114, 101, 116, 117, 114, 110]))), (20, (.const (.str [112, 114, 105, 110, 116]))), (21, (.const (.str [100, 111]))), (22, (.const (.str [98, 108, 111, 99, 107]))), (23, (.const (.str []))), (24, (.const (.str [102, 110]))), (25, (.const (.str [112, 114, 111, 103])))])), none⟩,
 ⟨(some 3), (.val (.mov (.tmp 4))), none⟩])
 (.seq
 (.seq
 (.region [⟨(some 5), (.val (.faddr 0 (.tmp 1))), none⟩,
 ⟨(some 6), (.val (.load none (.tmp 5))), none⟩,
 ⟨(some 7), (.val (.eq false (.prim 1) (.tmp 6) (.const (.int .i64 5)))), none⟩])
 (.cond (.tmp 7)
 (.seq
 (.draw [⟨(some 8), (.call (.const (.func 20 [] [])) []), none⟩,
 ⟨(some 9), (.val (.faddr 2 (.tmp 1))), none⟩,
 ⟨(some 10), (.val (.load none (.tmp 9))), none⟩,
 ⟨(some 11), (.val (.bin .sub (.tmp 10) (.const (.int .i64 1)))), none⟩,
 ⟨(some 12), (.val (.iaddr 1 (.tmp 8) (.tmp 11))), none⟩,
 ⟨(some 13), (.val (.load none (.tmp 12))), none⟩,
 ⟨(some 2), (.val (.mov (.tmp 13))), none⟩] [(2, 0)])
 .ret)
 .skip))
 (.seq
 (.region [⟨(some 14), (.val (.mov (.tmp 3))), none⟩,
 ⟨(some 15), (.val (.faddr 0 (.tmp 1))), none⟩,
 ⟨(some 16), (.val (.load none (.tmp 15))), none⟩,
 ⟨(some 17), (.val (.bin .sub (.tmp 16) (.const (.int .i64 1)))), none⟩,
 ⟨(some 18), (.val (.iaddr 1 (.tmp 14) (.tmp 17))), none⟩,
 ⟨(some 19), (.val (.load none (.tmp 18))), none⟩,
 ⟨(some 2), (.val (.mov (.tmp 19))), none⟩])
 .ret)))),
 [.tmp 2]⟩
theorem ok40 : cFun Tryd.prog G Tryd.f40 = some F_r06_word := by kernel_rfl

/- slices.Index[[]string,string] -/
abbrev n_slices_Index_string : Nat := 41
def F_slices_Index_string_l0 : ICode :=
 (.seq
 (.region [⟨(some 9), (.val (.bin .lss (.tmp 8) (.tmp 7))), none⟩])
 (.seq
 (.cond (.tmp 9)
 .skip
 (.exit 0))
 (.seq
 (.block 1
 (.seq
 (.region [⟨(some 10), (.val (.mov (.tmp 8))), none⟩,
 ⟨(some 5), (.val (.mov (.tmp 10))), none⟩])
 (.seq
 (.region [⟨(some 11), (.val (.mov (.tmp 1))), none⟩,
 ⟨(some 12), (.val (.mov (.tmp 0))), none⟩,
 ⟨(some 13), (.val (.mov (.tmp 5))), none⟩,
 ⟨(some 14), (.val (.iaddr 1 (.tmp 12) (.tmp 13))), none⟩,
 ⟨(some 15), (.val (.load none (.tmp 14))), none⟩,
 ⟨(some 16), (.val (.eq false (.prim 2) (.tmp 11) (.tmp 15))), none⟩])
 (.cond (.tmp 16)
 (.seq
 (.region [⟨(some 17), (.val (.mov (.tmp 5))), none⟩,
 ⟨(some 4), (.val (.mov (.tmp 17))), none⟩])
 .ret)
 .skip))))
 (.region [⟨(some 18), (.val (.bin .add (.tmp 8) (.const (.int .i64 1)))), none⟩,
 ⟨(some 8), (.val (.mov (.tmp 18))), none⟩]))))
def F_slices_Index_string : IFun :=
 ⟨19,
 (.seq
 (.region [⟨(some 4), (.val (.mov (.const (.int .i64 0)))), none⟩])
 (.seq
 (.seq
 (.region [⟨(some 6), (.val (.mov (.tmp 0))), none⟩,
 ⟨(some 7), (.val (.len (.tmp 6))), none⟩,
 ⟨(some 8), (.val (.mov (.const (.int .i64 0)))), none⟩])
 (.block 0
 (.loop F_slices_Index_string_l0)))
 (.seq
 (.region [⟨(some 4), (.val (.mov (.const (.int .i64 (-1))))), none⟩])
 .ret))),
 [.tmp 4]⟩
theorem ok41 : cFun Tryd.prog G Tryd.f41 = some F_slices_Index_string := by kernel_rfl

/- internal/strconv.Itoa -/
abbrev n_internal_strconv_Itoa : Nat := 42
def F_internal_strconv_Itoa : IFun :=
 ⟨5,
 (.seq
 (.region [⟨(some 2), (.val (.mov (.const (.str [])))), none⟩])
 (.seq
 (.region [⟨(some 3), (.val (.mov (.tmp 0))), none⟩,
 ⟨(some 4), (.call (.const (.func 55 [] [])) [(.tmp 3), (.const (.int .i64 10))]), none⟩,
 ⟨(some 2), (.val (.mov (.tmp 4))), none⟩])
 .ret)),
 [.tmp 2]⟩
theorem ok42 : cFun Tryd.prog G Tryd.f42 = some F_internal_strconv_Itoa := by kernel_rfl

/- internal/strconv.FormatBool -/
abbrev n_internal_strconv_FormatBool : Nat := 43
def F_internal_strconv_FormatBool : IFun :=
 ⟨4,
 (.seq
 (.region [⟨(some 2), (.val (.mov (.const (.str [])))), none⟩])
 (.seq
 (.seq
 (.region [⟨(some 3), (.val (.mov (.tmp 0))), none⟩])
 (.cond (.tmp 3)
 (.seq
 (.region [⟨(some 2), (.val (.mov (.const (.str [116, 114, 117, 101])))), none⟩])
 .ret)
 .skip))
 (.seq
 (.region [⟨(some 2), (.val (.mov (.const (.str [102, 97, 108, 115, 101])))), none⟩])
 .ret))),
 [.tmp 2]⟩
theorem ok43 : cFun Tryd.prog G Tryd.f43 = some F_internal_strconv_FormatBool := by kernel_rfl

/- (*strings.Builder).Grow -/
abbrev n_strings_Builder_Grow : Nat := 44
def F_strings_Builder_Grow : IFun :=
 ⟨25,
 (.seq
 (.region [⟨(some 4), (.val (.mov (.tmp 0))), none⟩,
 ⟨(some 5), (.call (.const (.func 56 [] [])) [(.tmp 4)]), none⟩])
 (.seq
 (.seq
 (.region [⟨(some 6), (.val (.mov (.tmp 1))), none⟩,
 ⟨(some 7), (.val (.bin .lss (.tmp 6) (.const (.int .i64 0)))), none⟩])
 (.cond (.tmp 7)
 (.region [⟨(some 8), (.val (.iface 9 (.const (.str [115, 116, 114, 105, 110, 103, 115, 46, 66, 117, 105, 108, 100, 101, 114, 46, 71, 114, 111, 119, 58, 32, 110, 101, 103, 97, 116, 105, 118, 101, 32, 99, 111, 117, 110, 116])))), none⟩,
 ⟨none, (.panic (.tmp 8)), none⟩])
 .skip))
 (.seq
 (.draw [⟨(some 9), (.val (.mov (.tmp 0))), none⟩,
 ⟨(some 10), (.val (.nilck (.tmp 9))), none⟩,
 ⟨(some 11), (.val (.faddr 1 (.tmp 10))), none⟩,
 ⟨(some 12), (.val (.load none (.tmp 11))), none⟩,
 ⟨(some 13), (.val (.cap (.tmp 12))), none⟩,
 ⟨(some 14), (.val (.mov (.tmp 0))), none⟩,
 ⟨(some 15), (.val (.nilck (.tmp 14))), none⟩,
 ⟨(some 16), (.val (.faddr 1 (.tmp 15))), none⟩,
 ⟨(some 17), (.val (.load none (.tmp 16))), none⟩,
 ⟨(some 18), (.val (.len (.tmp 17))), none⟩,
 ⟨(some 19), (.val (.bin .sub (.tmp 13) (.tmp 18))), none⟩,
 ⟨(some 20), (.val (.mov (.tmp 1))), none⟩,
 ⟨(some 21), (.val (.bin .lss (.tmp 19) (.tmp 20))), none⟩] [])
 (.cond (.tmp 21)
 (.region [⟨(some 22), (.val (.mov (.tmp 0))), none⟩,
 ⟨(some 23), (.val (.mov (.tmp 1))), none⟩,
 ⟨(some 24), (.call (.const (.func 57 [] [])) [(.tmp 22), (.tmp 23)]), none⟩])
 .skip)))),
 []⟩
theorem ok44 : cFun Tryd.prog G Tryd.f44 = some F_strings_Builder_Grow := by kernel_rfl

/- (*strings.Builder).WriteString -/
abbrev n_strings_Builder_WriteString : Nat := 45
def F_strings_Builder_WriteString : IFun :=
 ⟨19,
 (.seq
 (.region [⟨(some 4), (.val (.mov (.const (.int .i64 0)))), none⟩,
 ⟨(some 5), (.val (.mov (.const .niliface))), none⟩])
 (.seq
 (.region [⟨(some 6), (.val (.mov (.tmp 0))), none⟩,
 ⟨(some 7), (.call (.const (.func 56 [] [])) [(.tmp 6)]), none⟩])
 (.seq
 (.region [⟨(some 8), (.val (.mov (.tmp 0))), none⟩,
 ⟨(some 9), (.val (.mov (.tmp 0))), none⟩,
 ⟨(some 10), (.val (.nilck (.tmp 9))), none⟩,
 ⟨(some 11), (.val (.faddr 1 (.tmp 10))), none⟩,
 ⟨(some 12), (.val (.load none (.tmp 11))), none⟩,
 ⟨(some 13), (.val (.mov (.tmp 1))), none⟩,
 ⟨(some 14), (.val (.append 5 1 1 (.tmp 12) (.tmp 13))), none⟩,
 ⟨(some 15), (.val (.nilck (.tmp 8))), none⟩,
 ⟨(some 16), (.val (.faddr 1 (.tmp 15))), none⟩,
 ⟨none, (.val (.store 1 (.tmp 16) (.tmp 14))), none⟩])
 (.seq
 (.region [⟨(some 17), (.val (.mov (.tmp 1))), none⟩,
 ⟨(some 18), (.val (.lenstr (.tmp 17))), none⟩,
 ⟨(some 4), (.val (.mov (.tmp 18))), none⟩,
 ⟨(some 5), (.val (.mov (.const .niliface))), none⟩])
 .ret)))),
 [.tmp 4, .tmp 5]⟩
theorem ok45 : cFun Tryd.prog G Tryd.f45 = some F_strings_Builder_WriteString := by kernel_rfl

/- balustrade/balustraderef06.named -/
abbrev n_r06_named : Nat := 47
def F_r06_named : IFun :=
 ⟨6,
 (.seq
 (.region [⟨(some 2), (.val (.mov (.const (.bool false)))), none⟩])
 (.seq
 (.region [⟨(some 3), (.val (.bslice 3 1 8 [(.int .i64 0)] [(0, (.const (.int .i64 4))), (1, (.const (.int .i64 11))), (2, (.const (.int .i64 12))), (3, (.const (.int .i64 13))), (4, (.const (.int .i64 14))), (5, (.const (.int .i64 17))), (6, (.const (.int .i64 24))), (7, (.const (.int .i64 25)))])), none⟩,
 ⟨(some 4), (.val (.mov (.tmp 0))), none⟩,
 ⟨(some 5), (.call (.const (.func 34 [] [])) [(.tmp 3), (.tmp 4)]), none⟩,
 ⟨(some 2), (.val (.mov (.tmp 5))), none⟩])
 .ret)),
 [.tmp 2]⟩
theorem ok47 : cFun Tryd.prog G Tryd.f47 = some F_r06_named := by kernel_rfl

end Go.Proofs.YtblcomejcahkdaaDoor.Ev
end
