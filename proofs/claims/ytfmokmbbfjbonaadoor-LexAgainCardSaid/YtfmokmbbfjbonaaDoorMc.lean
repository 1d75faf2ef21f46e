/- EvCode, EvF0, EvF1, EvLaw, EvLim, EvSym, EvExt, EvT, EvGlo, EvGl, EvHeap. -/
import Derived.Scope
import Derived.KernelRfl
import Derived.Test.YtfmokmbbfjbonaaDoorChecked
import Derived.Below
import Derived.Laws.Externs
import Derived.Lib.Bytealg
import Derived.Test.YtfmokmbbfjbonaaDoorMb
set_option linter.unusedSimpArgs false
set_option linter.unusedVariables false
section
namespace Go.Proofs.YtfmokmbbfjbonaaDoor.Ev
open Go
section
variable {P : Program} {G : List Nat} {n : Nat} {call : Call}

theorem DefsR.nil_of {ρ : Ren} {ds : List Deferred} (h : DefsR ρ [] ds) : ds = [] := by cases h; rfl
theorem wp_loop_fuel {Q : Exit → Act → World → Prop} {a : Act} {w : World} {c : Code} (I : Nat → Act → World → Prop) (j : Nat) (h₀ : I j a w)
    (round : ∀ j a w, I j a w → c.wp P (Exit.then (fun a' w' => ∃ i, i < j ∧ I i a' w') Q) a w) : (Code.loop c).wp P Q a w := by
  intro b k cs
  have key : ∀ j a w, I j a w → ∃ e a' w', Q e a' w' ∧ Arrives P (lone (b.at a (.code c :: .inLoop c :: k)) cs w) b k cs e a' w' := by
    intro j
    induction j using Nat.strongRecOn with
    | _ j ih =>
      intro a w hI
      obtain ⟨e, a₁, w₁, hq, harr⟩ := round j a w hI b (.inLoop c :: k) cs
      cases e with
      | normal =>
        obtain ⟨i, hlt, hI₁⟩ := hq
        obtain ⟨e₂, a₂, w₂, hq₂, harr₂⟩ := ih i hlt a₁ w₁ hI₁
        exact ⟨e₂, a₂, w₂, hq₂, .of_steps (Steps.trans harr (.one step_inLoop)) harr₂⟩
      | exit id => exact ⟨_, a₁, w₁, hq, .pass (x := .inLoop c) rfl (fun _ _ => .inl (by simp)) harr⟩
      | goto l => exact ⟨_, a₁, w₁, hq, .pass (x := .inLoop c) rfl (fun _ _ => .inl (by simp)) harr⟩
      | ret => exact ⟨_, a₁, w₁, hq, .pass (x := .inLoop c) rfl (fun _ _ => .inl (by simp)) harr⟩
      | panic ch => exact ⟨_, a₁, w₁, hq, .pass (x := .inLoop c) rfl (fun _ _ => .inl (by simp)) harr⟩
      | outgrown => exact ⟨_, a₁, w₁, hq, .pass (x := .inLoop c) rfl (fun _ _ => .inl (by simp)) harr⟩
  obtain ⟨e, a', w', hq, harr⟩ := key j a w h₀
  exact ⟨e, a', w', hq, .of_steps (.one step_loop) harr⟩

theorem code_sound (hmix : P.follows .mixedOrders = true) (hcall : CallOk P G call) (k : Nat) {base : Nat} : ∀ (c : Code) (ic : ICode), cCode P G n c = some ic →
    ∀ (ρ : Ren) (m : Mem) (w : World) (fr : Fr) (a : Act) (out : Out), R base ρ m w → Globs G ρ → FrR ρ n fr a → evCode call k ic fr m = some out → c.wp P (Reach base n ρ m w out) a w
  | .skip, ic, hc, ρ, m, w, fr, a, out, hR, hG, hF, h => by
    simp only [cCode, Option.some.injEq] at hc; subst hc
    simp only [evCode, Option.some.injEq] at h; subst h
    exact wp_skip ⟨rfl, ρ, hR, .refl _ _ _, hF⟩
  | .label l, ic, hc, ρ, m, w, fr, a, out, hR, hG, hF, h => by
    simp only [cCode, Option.some.injEq] at hc; subst hc
    simp only [evCode, Option.some.injEq] at h; subst h
    exact wp_label ⟨rfl, ρ, hR, .refl _ _ _, hF⟩
  | .exit id, ic, hc, ρ, m, w, fr, a, out, hR, hG, hF, h => by
    simp only [cCode, Option.some.injEq] at hc; subst hc
    simp only [evCode, Option.some.injEq] at h; subst h
    exact wp_exit ⟨rfl, ρ, hR, .refl _ _ _, hF⟩
  | .ret, ic, hc, ρ, m, w, fr, a, out, hR, hG, hF, h => by
    simp only [cCode, Option.some.injEq] at hc; subst hc
    simp only [evCode, Option.some.injEq] at h; subst h
    exact wp_ret ⟨rfl, ρ, hR, .refl _ _ _, hF⟩
  | .region id ops false, ic, hc, ρ, m, w, fr, a, out, hR, hG, hF, h => by
    simp only [cCode] at hc
    obtain ⟨is, his, rfl⟩ := map_some' hc
    simp only [evCode] at h
    refine wp_region ?_
    obtain ⟨h1, h2⟩ := mapM_some _ his
    refine ops_sound hcall is (List.range ops.size) (by simpa using h1.symm) (fun j i io hj hio => ?_) ρ m w fr a out hR hG hF h
    have hlt : j < ops.size := by
      have := (List.getElem?_eq_some_iff.1 hj).1
      simpa using this
    rw [List.getElem?_range hlt] at hj
    cases hj
    exact ⟨ops[j], Array.getElem?_eq_getElem hlt, h2 j ops[j] io (by simp [hlt]) hio⟩
  | .region id ops true, ic, hc, ρ, m, w, fr, a, out, hR, hG, hF, h => by
    simp only [cCode] at hc
    cases his : ops.toList.mapM (cOper P G n ops) with
    | none => simp [his] at hc
    | some is =>
      simp only [his] at hc
      obtain ⟨chk, hchk, rfl⟩ := map_some' hc
      simp only [evCode] at h
      exact draw_sound hmix hcall his hchk hR hG hF h
  | .seq x y, ic, hc, ρ, m, w, fr, a, out, hR, hG, hF, h => by
    simp only [cCode] at hc
    cases hx : cCode P G n x with
    | none => simp [hx] at hc
    | some ix =>
    cases hy : cCode P G n y with
    | none => simp [hx, hy] at hc
    | some iy =>
    simp only [hx, hy, Option.some.injEq] at hc
    subst hc
    simp only [evCode] at h
    cases h1 : evCode call k ix fr m with
    | none => simp [h1] at h
    | some o1 =>
      simp only [h1] at h
      have hw := code_sound hmix hcall k x ix hx ρ m w fr a o1 hR hG hF h1
      refine wp_seq (wp_mono hw fun e a1 w1 hq => ?_)
      cases o1 with
      | norm fr1 m1 =>
        obtain ⟨rfl, ρ1, hR1, hs, hF1⟩ := hq
        simp only [Exit.then]
        have := code_sound hmix hcall k y iy hy ρ1 m1 w1 fr1 a1 out hR1 (hG.ext hs.ext) hF1 h
        exact wp_mono this fun e a w hq => hq.after hs
      | exit id fr1 m1 =>
        simp only [Option.some.injEq] at h; subst h
        have := hq; obtain ⟨rfl, _⟩ := this; exact hq
      | ret fr1 m1 =>
        simp only [Option.some.injEq] at h; subst h
        have := hq; obtain ⟨rfl, _⟩ := this; exact hq
      | pan v fr1 m1 =>
        simp only [Option.some.injEq] at h; subst h
        have := hq; obtain ⟨_, _, rfl, _⟩ := this; exact hq
  | .cond c x y, ic, hc, ρ, m, w, fr, a, out, hR, hG, hF, h => by
    simp only [cCode] at hc
    cases hcc : cOpd G c with
    | none => simp [hcc] at hc
    | some c' =>
    cases hx : cCode P G n x with
    | none => simp [hcc, hx] at hc
    | some ix =>
    cases hy : cCode P G n y with
    | none => simp [hcc, hx, hy] at hc
    | some iy =>
    simp only [hcc, hx, hy, Option.some.injEq] at hc
    subst hc
    simp only [evCode] at h
    have hcv := cOpd_sound hG hF.tm hcc
    cases hev : fr.eval c' <;> simp only [hev, reduceCtorEq] at h
    rename_i t
    rw [hev] at hcv
    generalize hav : a.eval c = av at hcv
    cases hcv
    refine wp_cond hav ?_
    cases t with
    | true => exact code_sound hmix hcall k x ix hx ρ m w fr a out hR hG hF h
    | false => exact code_sound hmix hcall k y iy hy ρ m w fr a out hR hG hF h
  | .block id x, ic, hc, ρ, m, w, fr, a, out, hR, hG, hF, h => by
    simp only [cCode] at hc
    obtain ⟨ix, hx, rfl⟩ := map_some' hc
    simp only [evCode] at h
    cases h1 : evCode call k ix fr m with
    | none => simp [h1] at h
    | some o1 =>
      simp only [h1] at h
      have hw := code_sound hmix hcall k x ix hx ρ m w fr a o1 hR hG hF h1
      refine wp_block (wp_mono hw fun e a1 w1 hq => ?_)
      cases o1 with
      | norm fr1 m1 =>
        simp only [Option.some.injEq] at h; subst h
        have := hq; obtain ⟨rfl, _⟩ := this; exact hq
      | exit j fr1 m1 =>
        obtain ⟨rfl, hq⟩ := hq
        simp only [Exit.inBlock]
        cases hj : j.beq id <;> simp only [hj, cond_true, cond_false, Option.some.injEq] at h <;> subst h
        · rw [if_neg (of_beq_ff hj)]; exact ⟨rfl, hq⟩
        · rw [if_pos (of_beq hj)]; exact ⟨rfl, hq⟩
      | ret fr1 m1 =>
        simp only [Option.some.injEq] at h; subst h
        have := hq; obtain ⟨rfl, _⟩ := this; exact hq
      | pan v fr1 m1 =>
        simp only [Option.some.injEq] at h; subst h
        have := hq; obtain ⟨_, _, rfl, _⟩ := this; exact hq
  | .loop x, ic, hc, ρ, m, w, fr, a, out, hR, hG, hF, h => by
    simp only [cCode] at hc
    obtain ⟨ix, hx, rfl⟩ := map_some' hc
    simp only [evCode] at h
    refine wp_loop_fuel (fun j a1 w1 => ∃ ρ1 m1 fr1, R base ρ1 m1 w1 ∧ Step ρ m w ρ1 m1 w1 ∧ FrR ρ1 n fr1 a1 ∧ iter (evCode call k ix) j fr1 m1 = some out) k ⟨ρ, m, fr, hR, .refl _ _ _, hF, h⟩ ?_
    rintro j a1 w1 ⟨ρ1, m1, fr1, hR1, hs, hF1, hit⟩
    cases j with
    | zero => simp [iter] at hit
    | succ j =>
      simp only [iter] at hit
      cases h1 : evCode call k ix fr1 m1 with
      | none => simp [h1] at hit
      | some o1 =>
        simp only [h1] at hit
        have hw := code_sound hmix hcall k x ix hx ρ1 m1 w1 fr1 a1 o1 hR1 (hG.ext hs.ext) hF1 h1
        refine wp_mono hw fun e a2 w2 hq => ?_
        cases o1 with
        | norm fr2 m2 =>
          obtain ⟨rfl, ρ2, hR2, hs2, hF2⟩ := hq
          exact ⟨j, Nat.lt_succ_self j, ρ2, m2, fr2, hR2, hs.trans hs2, hF2, hit⟩
        | exit id fr2 m2 =>
          simp only [Option.some.injEq] at hit; subst hit
          have := hq; obtain ⟨rfl, _⟩ := this; exact hq.after hs
        | ret fr2 m2 =>
          simp only [Option.some.injEq] at hit; subst hit
          have := hq; obtain ⟨rfl, _⟩ := this; exact hq.after hs
        | pan v fr2 m2 =>
          simp only [Option.some.injEq] at hit; subst hit
          have := hq; obtain ⟨_, _, rfl, _⟩ := this; exact hq.after hs
  | .scope x, ic, hc, ρ, m, w, fr, a, out, hR, hG, hF, h => by
    simp only [cCode] at hc
    refine wp_scope_straight (wp_mono (code_sound hmix hcall k x ic hc ρ m w fr a out hR hG hF h) fun e a1 w1 hq => ?_)
    cases out with
    | norm fr1 m1 => have := hq; obtain ⟨rfl, _⟩ := this; exact hq
    | exit id fr1 m1 => have := hq; obtain ⟨rfl, _⟩ := this; exact hq
    | ret fr1 m1 => have := hq; obtain ⟨rfl, _⟩ := this; exact hq
    | pan v fr1 m1 => have := hq; obtain ⟨_, _, rfl, _⟩ := this; exact hq
  | .goto l, ic, hc, ρ, m, w, fr, a, out, hR, hG, hF, h => by simp [cCode] at hc
  | .refuse l, ic, hc, ρ, m, w, fr, a, out, hR, hG, hF, h => by simp [cCode] at hc
  | .rangeFunc f ps s b, ic, hc, ρ, m, w, fr, a, out, hR, hG, hF, h => by simp [cCode] at hc

/-! ### Functions -/
theorem args0_get : ∀ (l : List EV) (i : Nat) (t : Tr EV) (k : Nat), (args0 l i t).get k = if i ≤ k ∧ k < i + l.length then l[k - i]? else t.get k
  | [], i, t, k => by rw [if_neg (fun h => by have := h.2; simp at this; omega)]; rfl
  | v :: l, i, t, k => by
    simp only [args0]
    rw [args0_get l (i + 1) (t.set i v) k, Tr.get_set]
    by_cases h : k = i
    · subst h
      rw [if_neg (by omega), if_pos rfl, if_pos (by simp)]
      simp
    · by_cases h2 : i + 1 ≤ k ∧ k < i + 1 + l.length
      · rw [if_pos h2, if_pos (by simp; omega), show k - i = (k - (i + 1)) + 1 by omega]
        simp
      · rw [if_neg h2, if_neg h, if_neg (by simp; omega)]
theorem frame_start {ρ : Ren} {args : List EV} {args' : Array Value} (hv : VRs ρ args args'.toList) (hn : args'.size ≤ n) : FrR ρ n ⟨args0 args 0 .leaf, []⟩ { tmps := args' ++ Array.replicate (n - args'.size) undef, defers := [] } := by
  have hl := hv.length
  simp at hl
  refine ⟨⟨by simp; omega, fun t => ?_⟩, .nil⟩
  unfold Fr.get
  simp only
  rw [args0_get, Tr.get_leaf]
  by_cases h : 0 ≤ t ∧ t < 0 + args.length
  · rw [if_pos h]
    have hlt : t < args.length := by omega
    obtain ⟨v', g1, g2⟩ := hv.get t args[t] (List.getElem?_eq_getElem hlt)
    rw [show t - 0 = t by omega, List.getElem?_eq_getElem hlt]
    rw [Array.getD_eq_getD_getElem?, Array.getElem?_append_left (by omega)]
    rw [Array.getElem?_toList] at g1
    rw [g1]
    exact g2
  · rw [if_neg h]
    have hlt : args'.size ≤ t := by omega
    have e : (args' ++ Array.replicate (n - args'.size) undef).getD t undef = undef := by
      rw [Array.getD_eq_getD_getElem?, Array.getElem?_append_right hlt, Array.getElem?_replicate]
      split <;> rfl
    rw [e]
    exact .undef
theorem results_sound {base : Nat} {ρ : Ren} {m : Mem} {w : World} {fr : Fr} {a : Act} (hR : R base ρ m w) (hF : FR ρ n fr a) : ∀ (rs : List ResultVar) (irs : List IRes) (vs : List EV), rs.mapM (cRes P) = some irs → evResults fr m irs = some vs →
    ∃ vs', (rs.mapM fun r => (match r with | .tmp t => pure (a.tmps.getD t undef) | .cell ad t => do loadVar t (← asAddr (a.tmps.getD ad undef)) : Sem Value)).run P w = .ok vs' w ∧ VRs ρ vs vs'
  | [], irs, vs, hc, h => by
    simp at hc; subst hc
    simp [evResults] at h; subst h
    exact ⟨[], rfl, .nil⟩
  | r :: rs, irs, vs, hc, h => by
    rw [List.mapM_cons] at hc
    cases hr : cRes P r with
    | none => simp [hr] at hc
    | some ir =>
    cases hrs : rs.mapM (cRes P) with
    | none => simp [hr, hrs] at hc
    | some irs' =>
    simp [hr, hrs] at hc
    subst hc
    simp only [evResults] at h
    cases hv : evRes fr m ir with
    | none => simp [hv] at h
    | some v =>
    simp only [hv] at h
    obtain ⟨vs0, h0, rfl⟩ := map_some' h
    obtain ⟨vs', r1, r2⟩ := results_sound hR hF rs irs' vs0 hrs h0
    cases r with
    | tmp t =>
      simp only [cRes, Option.some.injEq] at hr; subst hr
      simp only [evRes, Option.some.injEq] at hv; subst hv
      exact ⟨a.tmps.getD t undef :: vs', by simp only [List.mapM_cons, Sem.run_bind, Sem.run_pure, Result.andThen_ok, r1], .cons (hF.tmp t) r2⟩
    | cell ad t =>
      simp only [cRes] at hr
      obtain ⟨g, hg, rfl⟩ := map_some' hr
      simp only [evRes] at hv
      obtain ⟨ad', v', e1, e2, e3⟩ := loadVar_sound (P := P) hR hg (hF.tmp ad) hv
      have ea : (asAddr (a.tmps.getD ad undef)).run P w = .ok ad' w := by rw [e1]; rfl
      exact ⟨v' :: vs', by simp only [List.mapM_cons, Sem.run_bind, ea, Sem.run_pure, Result.andThen_ok, e2, r1], .cons e3 r2⟩
theorem one_sound {ρ : Ren} {vs : List EV} {vs' : List Value} (h : VRs ρ vs vs') : VR ρ (one vs) (if hh : (⟨vs'⟩ : Array Value).size = 1 then (⟨vs'⟩ : Array Value)[0] else .tuple ⟨vs'⟩) := by
  cases h with
  | nil => exact .tuple .nil
  | cons hx hs =>
    cases hs with
    | nil => simpa [one] using hx
    | cons hy hs =>
      simp only [one]
      rw [dif_neg (by simp)]
      exact .tuple (.cons hx (.cons hy hs))
/-- A table that fits the program. -/
def EntOk (P : Program) (G : List Nat) (f : Nat) : Ent → Prop
  | .go F => ∃ fn, P.funcs[f]? = some fn ∧ cFun P G fn = some F
  | .ext g => ∀ base ρ m w args (args' : Array Value) v, R base ρ m w → VRs ρ args args'.toList → g args = some v → ∃ v', (callFunc f args').run P w = .ok (.value v') w ∧ VR ρ v v'
  | .pure g => ∀ base ρ m w args (args' : Array Value) v, R base ρ m w → VRs ρ args args'.toList → g args = some v → (callFunc f args').run P w = .ok (.enter f args') w ∧ Calls P f args' w (CallPost base ρ m w (.ret v m))
  | .spec g => ∀ base ρ m w args (args' : Array Value) fin, R base ρ m w → Globs G ρ → VRs ρ args args'.toList → g args m = some fin → (callFunc f args').run P w = .ok (.enter f args') w ∧ Calls P f args' w (CallPost base ρ m w fin)
theorem body_sound (hmix : P.follows .mixedOrders = true) (hcall : CallOk P G call) (k : Nat) {base : Nat} {f : Nat} {fn : Func} (hf : P.funcs[f]? = some fn) {F : IFun} (hc : cFun P G fn = some F) {args : List EV} {m : Mem} {fin : Fin} (h : evBody call k F args m = some fin)
    {ρ : Ren} {w : World} {args' : Array Value} (hR : R base ρ m w) (hG : Globs G ρ) (hv : VRs ρ args args'.toList) :
    (callFunc f args').run P w = .ok (.enter f args') w ∧ Calls P f args' w (CallPost base ρ m w fin) := by
  unfold cFun at hc
  cases hb : fn.body with
  | none => simp [hb] at hc
  | some c =>
  simp only [hb] at hc
  cases hnm : fn.name == "runtime.NumGoroutine" <;> simp only [hnm, cond_true, cond_false, reduceCtorEq] at hc
  cases hcc : cCode P G fn.ntmps c with
  | none => simp [hcc] at hc
  | some b =>
  cases hrr : fn.results.toList.mapM (cRes P) with
  | none => simp [hcc, hrr] at hc
  | some r =>
  simp only [hcc, hrr, Option.some.injEq] at hc
  subst hc
  refine ⟨?_, ?_⟩
  · simp [callFunc, hf, hb]
    simpa using hnm
  · have hl := hv.length
    simp at hl
    unfold evBody at h
    cases hargs : args.length.ble fn.ntmps with
    | false => simp [hargs] at h
    | true =>
    simp only [hargs, cond_true] at h
    have hn : args'.size ≤ fn.ntmps := by have := Nat.le_of_ble_eq_true hargs; omega
    refine calls_of_wp hf hb ?_
    cases h1 : evCode call k b ⟨args0 args 0 .leaf, []⟩ m with
    | none => simp [h1] at h
    | some o1 =>
      simp only [h1] at h
      have hw := code_sound hmix hcall k c b hcc ρ m w _ _ o1 hR hG (frame_start hv hn) h1
      refine wp_mono hw fun e a1 w1 hq => ?_
      have done : ∀ {fr1 : Fr} {m1 : Mem} {ρ1 : Ren}, R base ρ1 m1 w1 → Step ρ m w ρ1 m1 w1 → FrR ρ1 fn.ntmps fr1 a1 → (match fr1.defers with | [] => (evResults fr1 m1 r).map fun vs => Fin.ret (one vs) m1 | _ => none) = some fin →
          a1.defers = [] ∧ ∃ v, (results fn a1.tmps).run P w1 = .ok v w1 ∧ CallPost base ρ m w fin (.returned v) w1 := by
        intro fr1 m1 ρ1 hR1 hs hF1 hfin
        have hd := hF1.defs
        cases hdf : fr1.defers with
        | cons x l => simp [hdf] at hfin
        | nil =>
          rw [hdf] at hd
          simp only [hdf] at hfin
          obtain ⟨vs, hvs, rfl⟩ := map_some' hfin
          obtain ⟨vs', r1, r2⟩ := results_sound (P := P) hR1 hF1.tm fn.results.toList r vs hrr hvs
          refine ⟨hd.nil_of, _, ?_, ρ1, _, rfl, one_sound r2, hR1, hs⟩
          simp only [results, Sem.run_bind]
          rw [Array.mapM_eq_mapM_toList, Sem.run_map]
          erw [r1]
          rfl
      cases o1 with
      | norm fr1 m1 =>
        obtain ⟨rfl, ρ1, hR1, hs, hF1⟩ := hq
        exact done hR1 hs hF1 h
      | ret fr1 m1 =>
        obtain ⟨rfl, ρ1, hR1, hs, hF1⟩ := hq
        exact done hR1 hs hF1 h
      | exit id fr1 m1 => simp at h
      | pan v fr1 m1 =>
        obtain ⟨ρ1, v', rfl, hvv, hR1, hs, hF1⟩ := hq
        simp only at h
        have hd := hF1.defs
        cases hdf : fr1.defers with
        | cons x l => simp [hdf] at h
        | nil =>
          rw [hdf] at hd
          simp only [hdf, Option.some.injEq] at h
          subst h
          exact ⟨hd.nil_of, ρ1, v', rfl, hvv, hR1, hs⟩
/-- The evaluator is sound, at whatever fuel. -/
theorem evFun_ok (hmix : P.follows .mixedOrders = true) {T : Nat → Option Ent} (hT : ∀ f e, T f = some e → EntOk P G f e) : ∀ k, CallOk P G (evFun T k)
  | 0 => fun f args m fin h => by simp [evFun] at h
  | k + 1 => fun f args m fin h base ρ w args' hR hG hv => by
    simp only [evFun] at h
    cases he : T f with
    | none => simp [he] at h
    | some e =>
      simp only [he] at h
      have hok := hT f e he
      cases e with
      | go F =>
        obtain ⟨fn, hf, hc⟩ := hok
        exact .inl (body_sound hmix (evFun_ok hmix hT k) k hf hc h hR hG hv)
      | ext g =>
        simp only [evEnt] at h
        obtain ⟨v, hg, rfl⟩ := map_some' h
        obtain ⟨v', h1, h2⟩ := hok base ρ m w args args' v hR hv hg
        exact .inr ⟨v, v', rfl, h1, h2⟩
      | pure g =>
        simp only [evEnt] at h
        obtain ⟨v, hg, rfl⟩ := map_some' h
        exact .inl (hok base ρ m w args args' v hR hv hg)
      | spec g =>
        simp only [evEnt] at h
        exact .inl (hok base ρ m w args args' fin hR hG hv h)
end
end Go.Proofs.YtfmokmbbfjbonaaDoor.Ev
end
section
namespace Go.Proofs.YtfmokmbbfjbonaaDoor.Ev
open Go
def G : List Nat := [0, 1, 2]
abbrev t_int64 : Nat := 2
abbrev t_int : Nat := 3
abbrev t_bool : Nat := 4
abbrev t_uint8 : Nat := 5
abbrev t_abi_BoundsErrorCode : Nat := 6
abbrev t_runtime_boundsError : Nat := 8
abbrev t_string : Nat := 9
abbrev t_runtime_errorString : Nat := 10
abbrev t_runtime_plainError : Nat := 11
abbrev t_uintptr : Nat := 12
abbrev t_runtime_errorAddressString : Nat := 14
abbrev t_P_runtime_TypeAssertionError : Nat := 15
abbrev t_P_runtime_PanicNilError : Nat := 16
abbrev t_P_abi_Type : Nat := 17
abbrev t_maps_unhashableTypeError : Nat := 19
abbrev t_int32 : Nat := 21
abbrev t_S_api_Token : Nat := 23
abbrev t_api_Errno : Nat := 24
abbrev t_api_Fault : Nat := 26
abbrev t_api_Token : Nat := 30
abbrev t_P_lex_scanner : Nat := 34
abbrev t_lex_scanner : Nat := 36
abbrev t_S_string : Nat := 41
abbrev t_S_int : Nat := 51
abbrev t_uint : Nat := 56
abbrev t_uint32 : Nat := 57
abbrev t_runtime_TypeAssertionError : Nat := 62
abbrev t_runtime_PanicNilError : Nat := 65
abbrev t_abi_TFlag : Nat := 67
abbrev t_abi_Kind : Nat := 68
abbrev t_P_uint8 : Nat := 70
abbrev t_abi_NameOff : Nat := 71
abbrev t_abi_TypeOff : Nat := 72
abbrev t_abi_Type : Nat := 74
abbrev t_unsafe_Pointer : Nat := 75

/- balustrade/balustradelaw05.LexAgain -/
abbrev n_l05_LexAgain : Nat := 3
def F_l05_LexAgain_l0 : ICode :=
 (.seq
  (.seq
   (.region [⟨(some 25), (.val (.mov (.tmp 8))), none⟩,
     ⟨(some 26), (.val (.mov (.tmp 1))), none⟩,
     ⟨(some 27), (.val (.conv (.int .i64) (.tmp 26))), none⟩,
     ⟨(some 28), (.val (.bin .rem (.tmp 27) (.const (.int .i64 7)))), none⟩,
     ⟨(some 29), (.val (.bin .lss (.tmp 25) (.tmp 28))), none⟩])
   (.cond (.tmp 29)
    .skip
    (.exit 0)))
  (.seq
   (.block 1
    (.region [⟨(some 32), (.val (.mov (.tmp 7))), none⟩,
      ⟨(some 33), (.val (.bin .add (.tmp 32) (.const (.str [9, 35, 120, 10])))), none⟩,
      ⟨(some 7), (.val (.mov (.tmp 33))), none⟩]))
   (.region [⟨(some 30), (.val (.mov (.tmp 8))), none⟩,
     ⟨(some 31), (.val (.bin .add (.tmp 30) (.const (.int .i64 1)))), none⟩,
     ⟨(some 8), (.val (.mov (.tmp 31))), none⟩])))
def F_l05_LexAgain_l1 : ICode :=
 (.seq
  (.seq
   (.region [⟨(some 62), (.val (.mov (.tmp 12))), none⟩,
     ⟨(some 63), (.val (.mov (.tmp 5))), none⟩,
     ⟨(some 64), (.val (.len (.tmp 63))), none⟩,
     ⟨(some 65), (.val (.bin .lss (.tmp 62) (.tmp 64))), none⟩])
   (.cond (.tmp 65)
    .skip
    (.exit 2)))
  (.seq
   (.block 3
    (.region [⟨(some 68), (.val (.mov (.tmp 11))), none⟩,
      ⟨(some 69), (.val (.mov (.tmp 5))), none⟩,
      ⟨(some 70), (.val (.mov (.tmp 12))), none⟩,
      ⟨(some 71), (.val (.iaddr 4 (.tmp 69) (.tmp 70))), none⟩,
      ⟨(some 72), (.val (.faddr 1 (.tmp 71))), none⟩,
      ⟨(some 73), (.val (.load none (.tmp 72))), none⟩,
      ⟨(some 74), (.val (.bin .add (.tmp 68) (.tmp 73))), none⟩,
      ⟨(some 75), (.val (.bin .add (.tmp 74) (.const (.str [32])))), none⟩,
      ⟨(some 11), (.val (.mov (.tmp 75))), none⟩]))
   (.region [⟨(some 66), (.val (.mov (.tmp 12))), none⟩,
     ⟨(some 67), (.val (.bin .add (.tmp 66) (.const (.int .i64 1)))), none⟩,
     ⟨(some 12), (.val (.mov (.tmp 67))), none⟩])))
def F_l05_LexAgain_l2 : ICode :=
 (.seq
  (.seq
   (.region [⟨(some 98), (.val (.mov (.tmp 15))), none⟩,
     ⟨(some 99), (.val (.mov (.tmp 5))), none⟩,
     ⟨(some 100), (.val (.len (.tmp 99))), none⟩,
     ⟨(some 101), (.val (.bin .lss (.tmp 98) (.tmp 100))), none⟩])
   (.cond (.tmp 101)
    .skip
    (.exit 4)))
  (.seq
   (.block 5
    (.seq
     (.draw [⟨(some 104), (.val (.mov (.tmp 13))), none⟩,
       ⟨(some 105), (.val (.mov (.tmp 15))), none⟩,
       ⟨(some 106), (.val (.iaddr 4 (.tmp 104) (.tmp 105))), none⟩,
       ⟨(some 107), (.val (.faddr 0 (.tmp 106))), none⟩,
       ⟨(some 108), (.val (.load none (.tmp 107))), none⟩,
       ⟨(some 109), (.val (.mov (.tmp 5))), none⟩,
       ⟨(some 110), (.val (.mov (.tmp 15))), none⟩,
       ⟨(some 111), (.val (.iaddr 4 (.tmp 109) (.tmp 110))), none⟩,
       ⟨(some 112), (.val (.faddr 0 (.tmp 111))), none⟩,
       ⟨(some 113), (.val (.load none (.tmp 112))), none⟩,
       ⟨(some 114), (.val (.eq true (.prim 1) (.tmp 108) (.tmp 113))), none⟩,
       ⟨(some 115), (.val (.mov (.tmp 114))), none⟩,
       ⟨(some 116), (.val (.mov (.tmp 13))), (some (115, false))⟩,
       ⟨(some 117), (.val (.mov (.tmp 15))), (some (115, false))⟩,
       ⟨(some 118), (.val (.iaddr 4 (.tmp 116) (.tmp 117))), (some (115, false))⟩,
       ⟨(some 119), (.val (.faddr 1 (.tmp 118))), (some (115, false))⟩,
       ⟨(some 120), (.val (.load none (.tmp 119))), (some (115, false))⟩,
       ⟨(some 121), (.val (.mov (.tmp 5))), (some (115, false))⟩,
       ⟨(some 122), (.val (.mov (.tmp 15))), (some (115, false))⟩,
       ⟨(some 123), (.val (.iaddr 4 (.tmp 121) (.tmp 122))), (some (115, false))⟩,
       ⟨(some 124), (.val (.faddr 1 (.tmp 123))), (some (115, false))⟩,
       ⟨(some 125), (.val (.load none (.tmp 124))), (some (115, false))⟩,
       ⟨(some 126), (.val (.eq true (.prim 2) (.tmp 120) (.tmp 125))), (some (115, false))⟩,
       ⟨(some 127), (.val (.pick (.tmp 115) (.const (.bool true)) (.tmp 126))), none⟩,
       ⟨(some 128), (.val (.mov (.tmp 127))), none⟩,
       ⟨(some 129), (.val (.mov (.tmp 13))), (some (128, false))⟩,
       ⟨(some 130), (.val (.mov (.tmp 15))), (some (128, false))⟩,
       ⟨(some 131), (.val (.iaddr 4 (.tmp 129) (.tmp 130))), (some (128, false))⟩,
       ⟨(some 132), (.val (.faddr 2 (.tmp 131))), (some (128, false))⟩,
       ⟨(some 133), (.val (.load none (.tmp 132))), (some (128, false))⟩,
       ⟨(some 134), (.val (.mov (.tmp 5))), (some (128, false))⟩,
       ⟨(some 135), (.val (.mov (.tmp 15))), (some (128, false))⟩,
       ⟨(some 136), (.val (.iaddr 4 (.tmp 134) (.tmp 135))), (some (128, false))⟩,
       ⟨(some 137), (.val (.faddr 2 (.tmp 136))), (some (128, false))⟩,
       ⟨(some 138), (.val (.load none (.tmp 137))), (some (128, false))⟩,
       ⟨(some 139), (.val (.eq true (.prim 1) (.tmp 133) (.tmp 138))), (some (128, false))⟩,
       ⟨(some 140), (.val (.pick (.tmp 128) (.const (.bool true)) (.tmp 139))), none⟩,
       ⟨(some 141), (.val (.mov (.tmp 140))), none⟩,
       ⟨(some 142), (.val (.mov (.tmp 9))), (some (141, false))⟩,
       ⟨(some 143), (.val (.mov (.tmp 15))), (some (141, false))⟩,
       ⟨(some 144), (.val (.iaddr 4 (.tmp 142) (.tmp 143))), (some (141, false))⟩,
       ⟨(some 145), (.val (.load (some 4) (.tmp 144))), (some (141, false))⟩,
       ⟨(some 146), (.val (.mov (.tmp 5))), (some (141, false))⟩,
       ⟨(some 147), (.val (.mov (.tmp 15))), (some (141, false))⟩,
       ⟨(some 148), (.val (.iaddr 4 (.tmp 146) (.tmp 147))), (some (141, false))⟩,
       ⟨(some 149), (.val (.faddr 0 (.tmp 148))), (some (141, false))⟩,
       ⟨(some 150), (.val (.load none (.tmp 149))), (some (141, false))⟩,
       ⟨(some 151), (.val (.mov (.tmp 5))), (some (141, false))⟩,
       ⟨(some 152), (.val (.mov (.tmp 15))), (some (141, false))⟩,
       ⟨(some 153), (.val (.iaddr 4 (.tmp 151) (.tmp 152))), (some (141, false))⟩,
       ⟨(some 154), (.val (.faddr 1 (.tmp 153))), (some (141, false))⟩,
       ⟨(some 155), (.val (.load none (.tmp 154))), (some (141, false))⟩,
       ⟨(some 156), (.val (.mov (.tmp 5))), (some (141, false))⟩,
       ⟨(some 157), (.val (.mov (.tmp 15))), (some (141, false))⟩,
       ⟨(some 158), (.val (.iaddr 4 (.tmp 156) (.tmp 157))), (some (141, false))⟩,
       ⟨(some 159), (.val (.faddr 2 (.tmp 158))), (some (141, false))⟩,
       ⟨(some 160), (.val (.load none (.tmp 159))), (some (141, false))⟩,
       ⟨(some 161), (.val (.mov (.tmp 5))), (some (141, false))⟩,
       ⟨(some 162), (.val (.mov (.tmp 15))), (some (141, false))⟩,
       ⟨(some 163), (.val (.iaddr 4 (.tmp 161) (.tmp 162))), (some (141, false))⟩,
       ⟨(some 164), (.val (.faddr 3 (.tmp 163))), (some (141, false))⟩,
       ⟨(some 165), (.val (.load none (.tmp 164))), (some (141, false))⟩,
       ⟨(some 166), (.val (.mov (.tmp 7))), (some (141, false))⟩,
       ⟨(some 167), (.val (.lenstr (.tmp 166))), (some (141, false))⟩,
       ⟨(some 168), (.val (.bin .add (.tmp 165) (.tmp 167))), (some (141, false))⟩,
       ⟨(some 169), (.val (.build [(.int .i64 0), (.str []), (.int .i64 0), (.int .i64 0)] [(0, 1, (.tmp 150)), (1, 1, (.tmp 155)), (2, 1, (.tmp 160)), (3, 1, (.tmp 168))])), (some (141, false))⟩,
       ⟨(some 170), (.val (.eq true (.agg [(none, 0, (.prim 1)), (none, 1, (.prim 2)), (none, 2, (.prim 1)), (none, 3, (.prim 1))]) (.tmp 145) (.tmp 169))), (some (141, false))⟩,
       ⟨(some 171), (.val (.pick (.tmp 141) (.const (.bool true)) (.tmp 170))), none⟩] [])
     (.cond (.tmp 171)
      (.seq
       (.region [⟨(some 4), (.val (.mov (.const (.bool false)))), none⟩])
       .ret)
      .skip)))
   (.region [⟨(some 102), (.val (.mov (.tmp 15))), none⟩,
     ⟨(some 103), (.val (.bin .add (.tmp 102) (.const (.int .i64 1)))), none⟩,
     ⟨(some 15), (.val (.mov (.tmp 103))), none⟩])))
def F_l05_LexAgain : IFun :=
 ⟨173,
 (.seq
  (.region [⟨(some 4), (.val (.mov (.const (.bool false)))), none⟩])
  (.seq
   (.seq
    (.region [⟨(some 16), (.val (.mov (.tmp 0))), none⟩,
      ⟨(some 17), (.val (.lenstr (.tmp 16))), none⟩,
      ⟨(some 18), (.val (.bin .gtr (.tmp 17) (.const (.int .i64 300)))), none⟩])
    (.cond (.tmp 18)
     (.seq
      (.region [⟨(some 19), (.call (.const (.func 5 [] [])) []), none⟩,
        ⟨(some 4), (.val (.mov (.tmp 19))), none⟩])
      .ret)
     .skip))
   (.seq
    (.region [⟨(some 21), (.val (.mov (.tmp 0))), none⟩,
      ⟨(some 22), (.call (.const (.func 6 [] [])) [(.tmp 21)]), none⟩,
      ⟨(some 20), (.val (.mov (.tmp 22))), none⟩,
      ⟨(some 23), (.val (.extract (.tmp 20) 0)), none⟩,
      ⟨(some 24), (.val (.extract (.tmp 20) 1)), none⟩,
      ⟨(some 6), (.val (.alloc 26 [(.int .i64 0), (.int .i64 0)])), none⟩,
      ⟨(some 5), (.val (.mov (.tmp 23))), none⟩,
      ⟨none, (.val (.store 2 (.tmp 6) (.tmp 24))), none⟩])
    (.seq
     (.region [⟨(some 7), (.val (.mov (.const (.str [])))), none⟩])
     (.seq
      (.seq
       (.region [⟨(some 8), (.val (.mov (.const (.int .i64 0)))), none⟩])
       (.block 0
        (.loop F_l05_LexAgain_l0)))
      (.seq
       (.region [⟨(some 35), (.val (.mov (.tmp 7))), none⟩,
         ⟨(some 36), (.val (.mov (.tmp 0))), none⟩,
         ⟨(some 37), (.val (.bin .add (.tmp 35) (.tmp 36))), none⟩,
         ⟨(some 38), (.call (.const (.func 6 [] [])) [(.tmp 37)]), none⟩,
         ⟨(some 34), (.val (.mov (.tmp 38))), none⟩,
         ⟨(some 39), (.val (.extract (.tmp 34) 0)), none⟩,
         ⟨(some 40), (.val (.extract (.tmp 34) 1)), none⟩,
         ⟨(some 10), (.val (.alloc 26 [(.int .i64 0), (.int .i64 0)])), none⟩,
         ⟨(some 9), (.val (.mov (.tmp 39))), none⟩,
         ⟨none, (.val (.store 2 (.tmp 10) (.tmp 40))), none⟩])
       (.seq
        (.seq
         (.region [⟨(some 41), (.val (.faddr 0 (.tmp 6))), none⟩,
           ⟨(some 42), (.val (.load none (.tmp 41))), none⟩,
           ⟨(some 43), (.val (.eq true (.prim 1) (.tmp 42) (.const (.int .i64 0)))), none⟩])
         (.cond (.tmp 43)
          (.seq
           (.region [⟨(some 44), (.val (.mov (.tmp 9))), none⟩,
             ⟨(some 45), (.val (.len (.tmp 44))), none⟩,
             ⟨(some 46), (.val (.eq false (.prim 1) (.tmp 45) (.const (.int .i64 0)))), none⟩,
             ⟨(some 47), (.val (.mov (.tmp 46))), none⟩,
             ⟨(some 48), (.val (.load (some 2) (.tmp 10))), (some (47, true))⟩,
             ⟨(some 49), (.val (.faddr 0 (.tmp 6))), (some (47, true))⟩,
             ⟨(some 50), (.val (.load none (.tmp 49))), (some (47, true))⟩,
             ⟨(some 51), (.val (.faddr 1 (.tmp 6))), (some (47, true))⟩,
             ⟨(some 52), (.val (.load none (.tmp 51))), (some (47, true))⟩,
             ⟨(some 53), (.val (.mov (.tmp 7))), (some (47, true))⟩,
             ⟨(some 54), (.val (.lenstr (.tmp 53))), (some (47, true))⟩,
             ⟨(some 55), (.val (.bin .add (.tmp 52) (.tmp 54))), (some (47, true))⟩,
             ⟨(some 56), (.val (.build [(.int .i64 0), (.int .i64 0)] [(0, 1, (.tmp 50)), (1, 1, (.tmp 55))])), (some (47, true))⟩,
             ⟨(some 57), (.val (.eq false (.agg [(none, 0, (.prim 1)), (none, 1, (.prim 1))]) (.tmp 48) (.tmp 56))), (some (47, true))⟩,
             ⟨(some 58), (.val (.pick (.tmp 47) (.tmp 57) (.const (.bool false)))), none⟩,
             ⟨(some 59), (.val (.mov (.tmp 58))), none⟩,
             ⟨(some 60), (.call (.const (.func 5 [] [])) []), (some (59, true))⟩,
             ⟨(some 61), (.val (.pick (.tmp 59) (.tmp 60) (.const (.bool false)))), none⟩,
             ⟨(some 4), (.val (.mov (.tmp 61))), none⟩])
           .ret)
          .skip))
        (.seq
         (.region [⟨(some 11), (.val (.mov (.const (.str [])))), none⟩])
         (.seq
          (.seq
           (.region [⟨(some 12), (.val (.mov (.const (.int .i64 0)))), none⟩])
           (.block 2
            (.loop F_l05_LexAgain_l1)))
          (.seq
           (.region [⟨(some 77), (.val (.mov (.tmp 11))), none⟩,
             ⟨(some 78), (.call (.const (.func 6 [] [])) [(.tmp 77)]), none⟩,
             ⟨(some 76), (.val (.mov (.tmp 78))), none⟩,
             ⟨(some 79), (.val (.extract (.tmp 76) 0)), none⟩,
             ⟨(some 80), (.val (.extract (.tmp 76) 1)), none⟩,
             ⟨(some 14), (.val (.alloc 26 [(.int .i64 0), (.int .i64 0)])), none⟩,
             ⟨(some 13), (.val (.mov (.tmp 79))), none⟩,
             ⟨none, (.val (.store 2 (.tmp 14) (.tmp 80))), none⟩])
           (.seq
            (.seq
             (.region [⟨(some 81), (.val (.faddr 0 (.tmp 14))), none⟩,
               ⟨(some 82), (.val (.load none (.tmp 81))), none⟩,
               ⟨(some 83), (.val (.eq true (.prim 1) (.tmp 82) (.const (.int .i64 0)))), none⟩,
               ⟨(some 84), (.val (.mov (.tmp 83))), none⟩,
               ⟨(some 85), (.val (.mov (.tmp 13))), (some (84, false))⟩,
               ⟨(some 86), (.val (.len (.tmp 85))), (some (84, false))⟩,
               ⟨(some 87), (.val (.mov (.tmp 5))), (some (84, false))⟩,
               ⟨(some 88), (.val (.len (.tmp 87))), (some (84, false))⟩,
               ⟨(some 89), (.val (.eq true (.prim 1) (.tmp 86) (.tmp 88))), (some (84, false))⟩,
               ⟨(some 90), (.val (.pick (.tmp 84) (.const (.bool true)) (.tmp 89))), none⟩,
               ⟨(some 91), (.val (.mov (.tmp 90))), none⟩,
               ⟨(some 92), (.val (.mov (.tmp 9))), (some (91, false))⟩,
               ⟨(some 93), (.val (.len (.tmp 92))), (some (91, false))⟩,
               ⟨(some 94), (.val (.mov (.tmp 5))), (some (91, false))⟩,
               ⟨(some 95), (.val (.len (.tmp 94))), (some (91, false))⟩,
               ⟨(some 96), (.val (.eq true (.prim 1) (.tmp 93) (.tmp 95))), (some (91, false))⟩,
               ⟨(some 97), (.val (.pick (.tmp 91) (.const (.bool true)) (.tmp 96))), none⟩])
             (.cond (.tmp 97)
              (.seq
               (.region [⟨(some 4), (.val (.mov (.const (.bool false)))), none⟩])
               .ret)
              .skip))
            (.seq
             (.seq
              (.region [⟨(some 15), (.val (.mov (.const (.int .i64 0)))), none⟩])
              (.block 4
               (.loop F_l05_LexAgain_l2)))
             (.seq
              (.region [⟨(some 172), (.call (.const (.func 5 [] [])) []), none⟩,
                ⟨(some 4), (.val (.mov (.tmp 172))), none⟩])
              .ret))))))))))))),
 [.tmp 4]⟩
theorem ok3 : cFun Tryd.prog G Tryd.f3 = some F_l05_LexAgain := by kernel_rfl

/- balustrade/balustradelaw05.LexStands -/
abbrev n_l05_LexStands : Nat := 4
def F_l05_LexStands_l0 : ICode :=
 (.seq
  (.seq
   (.region [⟨(some 38), (.val (.mov (.tmp 6))), none⟩,
     ⟨(some 39), (.val (.mov (.tmp 3))), none⟩,
     ⟨(some 40), (.val (.len (.tmp 39))), none⟩,
     ⟨(some 41), (.val (.bin .lss (.tmp 38) (.tmp 40))), none⟩])
   (.cond (.tmp 41)
    .skip
    (.exit 0)))
  (.seq
   (.block 1
    (.seq
     (.region [⟨(some 44), (.val (.mov (.tmp 3))), none⟩,
       ⟨(some 45), (.val (.mov (.tmp 6))), none⟩,
       ⟨(some 46), (.val (.iaddr 4 (.tmp 44) (.tmp 45))), none⟩,
       ⟨(some 47), (.val (.load (some 4) (.tmp 46))), none⟩,
       ⟨(some 7), (.val (.alloc 30 [(.int .i64 0), (.str []), (.int .i64 0), (.int .i64 0)])), none⟩,
       ⟨none, (.val (.store 4 (.tmp 7) (.tmp 47))), none⟩])
     (.seq
      (.seq
       (.draw [⟨(some 48), (.val (.faddr 3 (.tmp 7))), none⟩,
         ⟨(some 49), (.val (.load none (.tmp 48))), none⟩,
         ⟨(some 50), (.val (.mov (.tmp 5))), none⟩,
         ⟨(some 51), (.val (.bin .lss (.tmp 49) (.tmp 50))), none⟩,
         ⟨(some 52), (.val (.mov (.tmp 51))), none⟩,
         ⟨(some 53), (.val (.faddr 3 (.tmp 7))), (some (52, false))⟩,
         ⟨(some 54), (.val (.load none (.tmp 53))), (some (52, false))⟩,
         ⟨(some 55), (.val (.mov (.tmp 0))), (some (52, false))⟩,
         ⟨(some 56), (.val (.lenstr (.tmp 55))), (some (52, false))⟩,
         ⟨(some 57), (.val (.bin .gtr (.tmp 54) (.tmp 56))), (some (52, false))⟩,
         ⟨(some 58), (.val (.pick (.tmp 52) (.const (.bool true)) (.tmp 57))), none⟩,
         ⟨(some 59), (.val (.mov (.tmp 58))), none⟩,
         ⟨(some 60), (.val (.faddr 1 (.tmp 7))), (some (59, false))⟩,
         ⟨(some 61), (.val (.load none (.tmp 60))), (some (59, false))⟩,
         ⟨(some 62), (.val (.lenstr (.tmp 61))), (some (59, false))⟩,
         ⟨(some 63), (.val (.mov (.tmp 0))), (some (59, false))⟩,
         ⟨(some 64), (.val (.lenstr (.tmp 63))), (some (59, false))⟩,
         ⟨(some 65), (.val (.faddr 3 (.tmp 7))), (some (59, false))⟩,
         ⟨(some 66), (.val (.load none (.tmp 65))), (some (59, false))⟩,
         ⟨(some 67), (.val (.bin .sub (.tmp 64) (.tmp 66))), (some (59, false))⟩,
         ⟨(some 68), (.val (.bin .gtr (.tmp 62) (.tmp 67))), (some (59, false))⟩,
         ⟨(some 69), (.val (.pick (.tmp 59) (.const (.bool true)) (.tmp 68))), none⟩,
         ⟨(some 70), (.val (.mov (.tmp 69))), none⟩,
         ⟨(some 71), (.val (.mov (.tmp 0))), (some (70, false))⟩,
         ⟨(some 72), (.val (.faddr 3 (.tmp 7))), (some (70, false))⟩,
         ⟨(some 73), (.val (.load none (.tmp 72))), (some (70, false))⟩,
         ⟨(some 74), (.val (.faddr 3 (.tmp 7))), (some (70, false))⟩,
         ⟨(some 75), (.val (.load none (.tmp 74))), (some (70, false))⟩,
         ⟨(some 76), (.val (.faddr 1 (.tmp 7))), (some (70, false))⟩,
         ⟨(some 77), (.val (.load none (.tmp 76))), (some (70, false))⟩,
         ⟨(some 78), (.val (.lenstr (.tmp 77))), (some (70, false))⟩,
         ⟨(some 79), (.val (.bin .add (.tmp 75) (.tmp 78))), (some (70, false))⟩,
         ⟨(some 80), (.val (.slstr (.tmp 71) (some (.tmp 73)) (some (.tmp 79)))), (some (70, false))⟩,
         ⟨(some 81), (.val (.faddr 1 (.tmp 7))), (some (70, false))⟩,
         ⟨(some 82), (.val (.load none (.tmp 81))), (some (70, false))⟩,
         ⟨(some 83), (.val (.eq true (.prim 2) (.tmp 80) (.tmp 82))), (some (70, false))⟩,
         ⟨(some 84), (.val (.pick (.tmp 70) (.const (.bool true)) (.tmp 83))), none⟩,
         ⟨(some 85), (.val (.mov (.tmp 84))), none⟩,
         ⟨(some 86), (.val (.mov (.tmp 0))), (some (85, false))⟩,
         ⟨(some 87), (.val (.mov (.tmp 5))), (some (85, false))⟩,
         ⟨(some 88), (.val (.faddr 3 (.tmp 7))), (some (85, false))⟩,
         ⟨(some 89), (.val (.load none (.tmp 88))), (some (85, false))⟩,
         ⟨(some 90), (.val (.slstr (.tmp 86) (some (.tmp 87)) (some (.tmp 89)))), (some (85, false))⟩,
         ⟨(some 91), (.call (.const (.func 7 [] [])) [(.tmp 90)]), (some (85, false))⟩,
         ⟨(some 92), (.val (.faddr 3 (.tmp 7))), (some (85, false))⟩,
         ⟨(some 93), (.val (.load none (.tmp 92))), (some (85, false))⟩,
         ⟨(some 94), (.val (.mov (.tmp 5))), (some (85, false))⟩,
         ⟨(some 95), (.val (.bin .sub (.tmp 93) (.tmp 94))), (some (85, false))⟩,
         ⟨(some 96), (.val (.eq true (.prim 1) (.tmp 91) (.tmp 95))), (some (85, false))⟩,
         ⟨(some 97), (.val (.pick (.tmp 85) (.const (.bool true)) (.tmp 96))), none⟩] [(45, 43)])
       (.cond (.tmp 97)
        (.seq
         (.region [⟨(some 2), (.val (.mov (.const (.bool false)))), none⟩])
         .ret)
        .skip))
      (.seq
       (.seq
        (.region [⟨(some 98), (.val (.faddr 0 (.tmp 7))), none⟩,
          ⟨(some 99), (.val (.load none (.tmp 98))), none⟩,
          ⟨(some 100), (.val (.eq false (.prim 1) (.tmp 99) (.const (.int .i64 0)))), none⟩,
          ⟨(some 101), (.val (.mov (.tmp 6))), none⟩,
          ⟨(some 102), (.val (.mov (.tmp 3))), none⟩,
          ⟨(some 103), (.val (.len (.tmp 102))), none⟩,
          ⟨(some 104), (.val (.bin .sub (.tmp 103) (.const (.int .i64 1)))), none⟩,
          ⟨(some 105), (.val (.eq false (.prim 1) (.tmp 101) (.tmp 104))), none⟩,
          ⟨(some 106), (.val (.eq true (.prim 0) (.tmp 100) (.tmp 105))), none⟩,
          ⟨(some 107), (.val (.mov (.tmp 106))), none⟩,
          ⟨(some 108), (.val (.faddr 1 (.tmp 7))), (some (107, false))⟩,
          ⟨(some 109), (.val (.load none (.tmp 108))), (some (107, false))⟩,
          ⟨(some 110), (.val (.eq false (.prim 2) (.tmp 109) (.const (.str [])))), (some (107, false))⟩,
          ⟨(some 111), (.val (.faddr 0 (.tmp 7))), (some (107, false))⟩,
          ⟨(some 112), (.val (.load none (.tmp 111))), (some (107, false))⟩,
          ⟨(some 113), (.val (.eq false (.prim 1) (.tmp 112) (.const (.int .i64 0)))), (some (107, false))⟩,
          ⟨(some 114), (.val (.eq true (.prim 0) (.tmp 110) (.tmp 113))), (some (107, false))⟩,
          ⟨(some 115), (.val (.pick (.tmp 107) (.const (.bool true)) (.tmp 114))), none⟩])
        (.cond (.tmp 115)
         (.seq
          (.region [⟨(some 2), (.val (.mov (.const (.bool false)))), none⟩])
          .ret)
         .skip))
       (.region [⟨(some 116), (.val (.faddr 3 (.tmp 7))), none⟩,
         ⟨(some 117), (.val (.load none (.tmp 116))), none⟩,
         ⟨(some 118), (.val (.faddr 1 (.tmp 7))), none⟩,
         ⟨(some 119), (.val (.load none (.tmp 118))), none⟩,
         ⟨(some 120), (.val (.lenstr (.tmp 119))), none⟩,
         ⟨(some 121), (.val (.bin .add (.tmp 117) (.tmp 120))), none⟩,
         ⟨(some 5), (.val (.mov (.tmp 121))), none⟩])))))
   (.region [⟨(some 42), (.val (.mov (.tmp 6))), none⟩,
     ⟨(some 43), (.val (.bin .add (.tmp 42) (.const (.int .i64 1)))), none⟩,
     ⟨(some 6), (.val (.mov (.tmp 43))), none⟩])))
def F_l05_LexStands : IFun :=
 ⟨129,
 (.seq
  (.region [⟨(some 2), (.val (.mov (.const (.bool false)))), none⟩])
  (.seq
   (.seq
    (.region [⟨(some 8), (.val (.mov (.tmp 0))), none⟩,
      ⟨(some 9), (.val (.lenstr (.tmp 8))), none⟩,
      ⟨(some 10), (.val (.bin .gtr (.tmp 9) (.const (.int .i64 300)))), none⟩])
    (.cond (.tmp 10)
     (.seq
      (.region [⟨(some 11), (.call (.const (.func 5 [] [])) []), none⟩,
        ⟨(some 2), (.val (.mov (.tmp 11))), none⟩])
      .ret)
     .skip))
   (.seq
    (.region [⟨(some 13), (.val (.mov (.tmp 0))), none⟩,
      ⟨(some 14), (.call (.const (.func 6 [] [])) [(.tmp 13)]), none⟩,
      ⟨(some 12), (.val (.mov (.tmp 14))), none⟩,
      ⟨(some 15), (.val (.extract (.tmp 12) 0)), none⟩,
      ⟨(some 16), (.val (.extract (.tmp 12) 1)), none⟩,
      ⟨(some 4), (.val (.alloc 26 [(.int .i64 0), (.int .i64 0)])), none⟩,
      ⟨(some 3), (.val (.mov (.tmp 15))), none⟩,
      ⟨none, (.val (.store 2 (.tmp 4) (.tmp 16))), none⟩])
    (.seq
     (.seq
      (.region [⟨(some 17), (.val (.faddr 0 (.tmp 4))), none⟩,
        ⟨(some 18), (.val (.load none (.tmp 17))), none⟩,
        ⟨(some 19), (.val (.eq true (.prim 1) (.tmp 18) (.const (.int .i64 0)))), none⟩])
      (.cond (.tmp 19)
       (.seq
        (.region [⟨(some 20), (.val (.mov (.tmp 3))), none⟩,
          ⟨(some 21), (.val (.len (.tmp 20))), none⟩,
          ⟨(some 22), (.val (.eq false (.prim 1) (.tmp 21) (.const (.int .i64 0)))), none⟩,
          ⟨(some 23), (.val (.mov (.tmp 22))), none⟩,
          ⟨(some 24), (.val (.faddr 1 (.tmp 4))), (some (23, true))⟩,
          ⟨(some 25), (.val (.load none (.tmp 24))), (some (23, true))⟩,
          ⟨(some 26), (.val (.bin .geq (.tmp 25) (.const (.int .i64 0)))), (some (23, true))⟩,
          ⟨(some 27), (.val (.pick (.tmp 23) (.tmp 26) (.const (.bool false)))), none⟩,
          ⟨(some 28), (.val (.mov (.tmp 27))), none⟩,
          ⟨(some 29), (.val (.faddr 1 (.tmp 4))), (some (28, true))⟩,
          ⟨(some 30), (.val (.load none (.tmp 29))), (some (28, true))⟩,
          ⟨(some 31), (.val (.mov (.tmp 0))), (some (28, true))⟩,
          ⟨(some 32), (.val (.lenstr (.tmp 31))), (some (28, true))⟩,
          ⟨(some 33), (.val (.bin .lss (.tmp 30) (.tmp 32))), (some (28, true))⟩,
          ⟨(some 34), (.val (.pick (.tmp 28) (.tmp 33) (.const (.bool false)))), none⟩,
          ⟨(some 35), (.val (.mov (.tmp 34))), none⟩,
          ⟨(some 36), (.call (.const (.func 5 [] [])) []), (some (35, true))⟩,
          ⟨(some 37), (.val (.pick (.tmp 35) (.tmp 36) (.const (.bool false)))), none⟩,
          ⟨(some 2), (.val (.mov (.tmp 37))), none⟩])
        .ret)
       .skip))
     (.seq
      (.region [⟨(some 5), (.val (.mov (.const (.int .i64 0)))), none⟩])
      (.seq
       (.seq
        (.region [⟨(some 6), (.val (.mov (.const (.int .i64 0)))), none⟩])
        (.block 0
         (.loop F_l05_LexStands_l0)))
       (.seq
        (.region [⟨(some 122), (.val (.mov (.tmp 5))), none⟩,
          ⟨(some 123), (.val (.mov (.tmp 0))), none⟩,
          ⟨(some 124), (.val (.lenstr (.tmp 123))), none⟩,
          ⟨(some 125), (.val (.eq false (.prim 1) (.tmp 122) (.tmp 124))), none⟩,
          ⟨(some 126), (.val (.mov (.tmp 125))), none⟩,
          ⟨(some 127), (.call (.const (.func 5 [] [])) []), (some (126, true))⟩,
          ⟨(some 128), (.val (.pick (.tmp 126) (.tmp 127) (.const (.bool false)))), none⟩,
          ⟨(some 2), (.val (.mov (.tmp 128))), none⟩])
        .ret))))))),
 [.tmp 2]⟩
theorem ok4 : cFun Tryd.prog G Tryd.f4 = some F_l05_LexStands := by kernel_rfl

/- balustrade/balustradelaw05.works -/
abbrev n_l05_works : Nat := 5
def F_l05_works : IFun :=
 ⟨46,
 (.seq
  (.region [⟨(some 0), (.val (.mov (.const (.bool false)))), none⟩])
  (.seq
   (.region [⟨(some 4), (.call (.const (.func 6 [] [])) [(.const (.str [97, 60, 61, 49, 50, 43, 37, 98, 32, 35, 32, 99]))]), none⟩,
     ⟨(some 3), (.val (.mov (.tmp 4))), none⟩,
     ⟨(some 5), (.val (.extract (.tmp 3) 0)), none⟩,
     ⟨(some 6), (.val (.extract (.tmp 3) 1)), none⟩,
     ⟨(some 2), (.val (.alloc 26 [(.int .i64 0), (.int .i64 0)])), none⟩,
     ⟨(some 1), (.val (.mov (.tmp 5))), none⟩,
     ⟨none, (.val (.store 2 (.tmp 2) (.tmp 6))), none⟩])
   (.seq
    (.region [⟨(some 7), (.val (.load (some 2) (.tmp 2))), none⟩,
      ⟨(some 8), (.val (.build [(.int .i64 0), (.int .i64 0)] [])), none⟩,
      ⟨(some 9), (.val (.eq false (.agg [(none, 0, (.prim 1)), (none, 1, (.prim 1))]) (.tmp 7) (.tmp 8))), none⟩,
      ⟨(some 10), (.val (.mov (.tmp 9))), none⟩,
      ⟨(some 11), (.val (.mov (.tmp 1))), (some (10, true))⟩,
      ⟨(some 12), (.val (.len (.tmp 11))), (some (10, true))⟩,
      ⟨(some 13), (.val (.eq false (.prim 1) (.tmp 12) (.const (.int .i64 6)))), (some (10, true))⟩,
      ⟨(some 14), (.val (.pick (.tmp 10) (.tmp 13) (.const (.bool false)))), none⟩,
      ⟨(some 15), (.val (.mov (.tmp 14))), none⟩,
      ⟨(some 16), (.val (.mov (.tmp 1))), (some (15, true))⟩,
      ⟨(some 17), (.val (.iaddr 4 (.tmp 16) (.const (.int .i64 1)))), (some (15, true))⟩,
      ⟨(some 18), (.val (.faddr 1 (.tmp 17))), (some (15, true))⟩,
      ⟨(some 19), (.val (.load none (.tmp 18))), (some (15, true))⟩,
      ⟨(some 20), (.val (.eq false (.prim 2) (.tmp 19) (.const (.str [60, 61])))), (some (15, true))⟩,
      ⟨(some 21), (.val (.pick (.tmp 15) (.tmp 20) (.const (.bool false)))), none⟩,
      ⟨(some 22), (.val (.mov (.tmp 21))), none⟩,
      ⟨(some 23), (.val (.mov (.tmp 1))), (some (22, true))⟩,
      ⟨(some 24), (.val (.iaddr 4 (.tmp 23) (.const (.int .i64 2)))), (some (22, true))⟩,
      ⟨(some 25), (.val (.faddr 2 (.tmp 24))), (some (22, true))⟩,
      ⟨(some 26), (.val (.load none (.tmp 25))), (some (22, true))⟩,
      ⟨(some 27), (.val (.eq false (.prim 1) (.tmp 26) (.const (.int .i64 12)))), (some (22, true))⟩,
      ⟨(some 28), (.val (.pick (.tmp 22) (.tmp 27) (.const (.bool false)))), none⟩,
      ⟨(some 29), (.val (.mov (.tmp 28))), none⟩,
      ⟨(some 30), (.val (.mov (.tmp 1))), (some (29, true))⟩,
      ⟨(some 31), (.val (.iaddr 4 (.tmp 30) (.const (.int .i64 3)))), (some (29, true))⟩,
      ⟨(some 32), (.val (.faddr 0 (.tmp 31))), (some (29, true))⟩,
      ⟨(some 33), (.val (.load none (.tmp 32))), (some (29, true))⟩,
      ⟨(some 34), (.val (.eq false (.prim 1) (.tmp 33) (.const (.int .i64 4)))), (some (29, true))⟩,
      ⟨(some 35), (.val (.pick (.tmp 29) (.tmp 34) (.const (.bool false)))), none⟩,
      ⟨(some 36), (.val (.mov (.tmp 35))), none⟩,
      ⟨(some 37), (.val (.mov (.tmp 1))), (some (36, true))⟩,
      ⟨(some 38), (.val (.iaddr 4 (.tmp 37) (.const (.int .i64 5)))), (some (36, true))⟩,
      ⟨(some 39), (.val (.load (some 4) (.tmp 38))), (some (36, true))⟩,
      ⟨(some 40), (.val (.build [(.int .i64 0), (.str []), (.int .i64 0), (.int .i64 0)] [(3, 1, (.const (.int .i64 12)))])), (some (36, true))⟩,
      ⟨(some 41), (.val (.eq false (.agg [(none, 0, (.prim 1)), (none, 1, (.prim 2)), (none, 2, (.prim 1)), (none, 3, (.prim 1))]) (.tmp 39) (.tmp 40))), (some (36, true))⟩,
      ⟨(some 42), (.val (.pick (.tmp 36) (.tmp 41) (.const (.bool false)))), none⟩,
      ⟨(some 43), (.val (.mov (.tmp 42))), none⟩,
      ⟨(some 44), (.call (.const (.func 8 [] [])) [(.const (.str [110, 105, 108]))]), (some (43, true))⟩,
      ⟨(some 45), (.val (.pick (.tmp 43) (.tmp 44) (.const (.bool false)))), none⟩,
      ⟨(some 0), (.val (.mov (.tmp 45))), none⟩])
    .ret))),
 [.tmp 0]⟩
theorem ok5 : cFun Tryd.prog G Tryd.f5 = some F_l05_works := by kernel_rfl

/- balustrade/lex.Tokens -/
abbrev n_lex_Tokens : Nat := 6
def F_lex_Tokens_l0 : ICode :=
 (.seq
  (.seq
   (.region [⟨(some 13), (.val (.mov (.tmp 4))), none⟩,
     ⟨(some 14), (.val (.nilck (.tmp 13))), none⟩,
     ⟨(some 15), (.val (.faddr 1 (.tmp 14))), none⟩,
     ⟨(some 16), (.val (.load none (.tmp 15))), none⟩,
     ⟨(some 17), (.val (.mov (.tmp 0))), none⟩,
     ⟨(some 18), (.val (.lenstr (.tmp 17))), none⟩,
     ⟨(some 19), (.val (.bin .lss (.tmp 16) (.tmp 18))), none⟩])
   (.cond (.tmp 19)
    .skip
    (.exit 0)))
  (.block 1
   (.seq
    (.region [⟨(some 20), (.val (.mov (.tmp 4))), none⟩,
      ⟨(some 21), (.call (.const (.func 9 [] [])) [(.tmp 20)]), none⟩,
      ⟨(some 5), (.val (.mov (.tmp 21))), none⟩])
    (.seq
     (.region [⟨(some 22), (.val (.mov (.tmp 5))), none⟩,
       ⟨(some 23), (.val (.eq true (.prim 1) (.tmp 22) (.const (.int .i64 0)))), none⟩])
     (.cond (.tmp 23)
      (.seq
       (.draw [⟨(some 24), (.val (.mov (.tmp 5))), none⟩,
         ⟨(some 25), (.val (.mov (.tmp 4))), none⟩,
         ⟨(some 26), (.val (.nilck (.tmp 25))), none⟩,
         ⟨(some 27), (.val (.faddr 1 (.tmp 26))), none⟩,
         ⟨(some 28), (.val (.load none (.tmp 27))), none⟩,
         ⟨(some 29), (.val (.build [(.int .i64 0), (.int .i64 0)] [(0, 1, (.tmp 24)), (1, 1, (.tmp 28))])), none⟩,
         ⟨(some 2), (.val (.mov (.const .nilslice))), none⟩,
         ⟨none, (.val (.store 2 (.tmp 3) (.tmp 29))), none⟩] [])
       .ret)
      .skip)))))
def F_lex_Tokens : IFun :=
 ⟨37,
 (.seq
  (.region [⟨(some 2), (.val (.mov (.const .nilslice))), none⟩,
    ⟨(some 3), (.val (.alloc 26 [(.int .i64 0), (.int .i64 0)])), none⟩])
  (.seq
   (.seq
    (.region [⟨(some 6), (.val (.mov (.tmp 0))), none⟩,
      ⟨(some 7), (.val (.lenstr (.tmp 6))), none⟩,
      ⟨(some 8), (.val (.bin .gtr (.tmp 7) (.const (.int .i64 65536)))), none⟩])
    (.cond (.tmp 8)
     (.seq
      (.region [⟨(some 9), (.val (.build [(.int .i64 0), (.int .i64 0)] [(0, 1, (.const (.int .i64 3)))])), none⟩,
        ⟨(some 2), (.val (.mov (.const .nilslice))), none⟩,
        ⟨none, (.val (.store 2 (.tmp 3) (.tmp 9))), none⟩])
      .ret)
     .skip))
   (.seq
    (.region [⟨(some 10), (.val (.mov (.tmp 0))), none⟩,
      ⟨(some 11), (.val (.build [(.str []), (.int .i64 0), .nilslice] [(0, 1, (.tmp 10))])), none⟩,
      ⟨(some 12), (.val (.box 36 (.tmp 11))), none⟩,
      ⟨(some 4), (.val (.mov (.tmp 12))), none⟩])
    (.seq
     (.block 0
      (.loop F_lex_Tokens_l0))
     (.seq
      (.region [⟨(some 30), (.val (.mov (.tmp 4))), none⟩,
        ⟨(some 31), (.call (.const (.func 10 [] [])) [(.tmp 30), (.const (.int .i64 0)), (.const (.int .i64 0)), (.const (.int .i64 0))]), none⟩])
      (.seq
       (.region [⟨(some 32), (.val (.mov (.tmp 4))), none⟩,
         ⟨(some 33), (.val (.nilck (.tmp 32))), none⟩,
         ⟨(some 34), (.val (.faddr 2 (.tmp 33))), none⟩,
         ⟨(some 35), (.val (.load none (.tmp 34))), none⟩,
         ⟨(some 36), (.val (.build [(.int .i64 0), (.int .i64 0)] [])), none⟩,
         ⟨(some 2), (.val (.mov (.tmp 35))), none⟩,
         ⟨none, (.val (.store 2 (.tmp 3) (.tmp 36))), none⟩])
       .ret)))))),
 [.tmp 2, .cell 3 (some 2)]⟩
theorem ok6 : cFun Tryd.prog G Tryd.f6 = some F_lex_Tokens := by kernel_rfl

/- balustrade/balustraderef05.Skip -/
abbrev n_r05_Skip : Nat := 7
def F_r05_Skip_l0 : ICode :=
 (.seq
  (.seq
   (.region [⟨(some 5), (.val (.mov (.tmp 4))), none⟩,
     ⟨(some 6), (.val (.mov (.tmp 0))), none⟩,
     ⟨(some 7), (.val (.lenstr (.tmp 6))), none⟩,
     ⟨(some 8), (.val (.bin .lss (.tmp 5) (.tmp 7))), none⟩])
   (.cond (.tmp 8)
    .skip
    (.exit 0)))
  (.seq
   (.block 1
    (.seq
     (.seq
      (.region [⟨(some 11), (.val (.mov (.tmp 0))), none⟩,
        ⟨(some 12), (.val (.mov (.tmp 4))), none⟩,
        ⟨(some 13), (.val (.idxstr (.tmp 11) (.tmp 12))), none⟩,
        ⟨(some 14), (.val (.eq false (.prim 1) (.tmp 13) (.const (.int .u8 35)))), none⟩])
      (.cond (.tmp 14)
       (.region [⟨(some 3), (.val (.mov (.const (.bool true)))), none⟩])
       .skip))
     (.seq
      (.seq
       (.region [⟨(some 15), (.val (.mov (.tmp 0))), none⟩,
         ⟨(some 16), (.val (.mov (.tmp 4))), none⟩,
         ⟨(some 17), (.val (.idxstr (.tmp 15) (.tmp 16))), none⟩,
         ⟨(some 18), (.val (.eq false (.prim 1) (.tmp 17) (.const (.int .u8 10)))), none⟩])
       (.cond (.tmp 18)
        (.region [⟨(some 3), (.val (.mov (.const (.bool false)))), none⟩])
        .skip))
      (.seq
       (.region [⟨(some 19), (.val (.mov (.tmp 3))), none⟩,
         ⟨(some 20), (.val (.un .not (.tmp 19))), none⟩,
         ⟨(some 21), (.val (.mov (.tmp 20))), none⟩,
         ⟨(some 22), (.val (.mov (.tmp 0))), (some (21, true))⟩,
         ⟨(some 23), (.val (.mov (.tmp 4))), (some (21, true))⟩,
         ⟨(some 24), (.val (.idxstr (.tmp 22) (.tmp 23))), (some (21, true))⟩,
         ⟨(some 25), (.call (.const (.func 11 [] [])) [(.tmp 24)]), (some (21, true))⟩,
         ⟨(some 26), (.val (.un .not (.tmp 25))), (some (21, true))⟩,
         ⟨(some 27), (.val (.pick (.tmp 21) (.tmp 26) (.const (.bool false)))), none⟩])
       (.cond (.tmp 27)
        (.seq
         (.region [⟨(some 28), (.val (.mov (.tmp 4))), none⟩,
           ⟨(some 2), (.val (.mov (.tmp 28))), none⟩])
         .ret)
        .skip)))))
   (.region [⟨(some 9), (.val (.mov (.tmp 4))), none⟩,
     ⟨(some 10), (.val (.bin .add (.tmp 9) (.const (.int .i64 1)))), none⟩,
     ⟨(some 4), (.val (.mov (.tmp 10))), none⟩])))
def F_r05_Skip : IFun :=
 ⟨31,
 (.seq
  (.region [⟨(some 2), (.val (.mov (.const (.int .i64 0)))), none⟩])
  (.seq
   (.region [⟨(some 3), (.val (.mov (.const (.bool false)))), none⟩])
   (.seq
    (.seq
     (.region [⟨(some 4), (.val (.mov (.const (.int .i64 0)))), none⟩])
     (.block 0
      (.loop F_r05_Skip_l0)))
    (.seq
     (.region [⟨(some 29), (.val (.mov (.tmp 0))), none⟩,
       ⟨(some 30), (.val (.lenstr (.tmp 29))), none⟩,
       ⟨(some 2), (.val (.mov (.tmp 30))), none⟩])
     .ret)))),
 [.tmp 2]⟩
theorem ok7 : cFun Tryd.prog G Tryd.f7 = some F_r05_Skip := by kernel_rfl

/- balustrade/lex.Word -/
abbrev n_lex_Word : Nat := 8
def F_lex_Word : IFun :=
 ⟨6,
 (.seq
  (.region [⟨(some 2), (.val (.mov (.const (.bool false)))), none⟩])
  (.seq
   (.region [⟨(some 3), (.val (.load none (.const (.ptr 0 0)))), none⟩,
     ⟨(some 4), (.val (.mov (.tmp 0))), none⟩,
     ⟨(some 5), (.call (.const (.func 12 [] [])) [(.tmp 3), (.tmp 4)]), none⟩,
     ⟨(some 2), (.val (.mov (.tmp 5))), none⟩])
   .ret)),
 [.tmp 2]⟩
theorem ok8 : cFun Tryd.prog G Tryd.f8 = some F_lex_Word := by kernel_rfl

/- (*balustrade/lex.scanner).next -/
abbrev n_lex_scanner_next : Nat := 9
def F_lex_scanner_next : IFun :=
 ⟨73,
 (.seq
  (.region [⟨(some 2), (.val (.mov (.const (.int .i64 0)))), none⟩])
  (.seq
   (.draw [⟨(some 8), (.val (.mov (.tmp 0))), none⟩,
     ⟨(some 9), (.val (.nilck (.tmp 8))), none⟩,
     ⟨(some 10), (.val (.faddr 0 (.tmp 9))), none⟩,
     ⟨(some 11), (.val (.load none (.tmp 10))), none⟩,
     ⟨(some 12), (.val (.mov (.tmp 0))), none⟩,
     ⟨(some 13), (.val (.nilck (.tmp 12))), none⟩,
     ⟨(some 14), (.val (.faddr 1 (.tmp 13))), none⟩,
     ⟨(some 15), (.val (.load none (.tmp 14))), none⟩,
     ⟨(some 16), (.val (.slstr (.tmp 11) (some (.tmp 15)) none)), none⟩,
     ⟨(some 3), (.val (.alloc 9 [(.str [])])), none⟩,
     ⟨none, (.val (.store 1 (.tmp 3) (.tmp 16))), none⟩] [])
   (.seq
    (.seq
     (.region [⟨(some 17), (.val (.load none (.tmp 3))), none⟩,
       ⟨(some 18), (.val (.idxstr (.tmp 17) (.const (.int .i64 0)))), none⟩,
       ⟨(some 19), (.call (.const (.func 13 [] [])) [(.tmp 18)]), none⟩])
     (.block 0
      (.seq
       (.region [⟨(some 21), (.val (.eq false (.prim 1) (.tmp 19) (.const (.int .i64 1)))), none⟩,
         ⟨(some 20), (.val (.mov (.tmp 21))), none⟩])
       (.cond (.tmp 20)
        (.draw [⟨(some 22), (.val (.mov (.tmp 0))), none⟩,
          ⟨(some 23), (.val (.nilck (.tmp 22))), none⟩,
          ⟨(some 24), (.val (.faddr 1 (.tmp 23))), none⟩,
          ⟨(some 25), (.val (.load none (.tmp 24))), none⟩,
          ⟨(some 26), (.val (.load none (.tmp 3))), none⟩,
          ⟨(some 27), (.val (.bslice 3 1 1 [(.int .i64 0)] [(0, (.const (.int .i64 1)))])), none⟩,
          ⟨(some 28), (.call (.const (.func 14 [] [])) [(.tmp 26), (.tmp 27)]), none⟩,
          ⟨(some 29), (.val (.bin .add (.tmp 25) (.tmp 28))), none⟩,
          ⟨(some 30), (.val (.nilck (.tmp 22))), none⟩,
          ⟨(some 31), (.val (.faddr 1 (.tmp 30))), none⟩,
          ⟨none, (.val (.store 1 (.tmp 31) (.tmp 29))), none⟩] [(3, 6)])
        (.seq
         (.region [⟨(some 33), (.val (.eq false (.prim 1) (.tmp 19) (.const (.int .i64 2)))), none⟩,
           ⟨(some 32), (.val (.mov (.tmp 33))), none⟩])
         (.cond (.tmp 32)
          (.seq
           (.region [⟨(some 35), (.val (.load none (.tmp 3))), none⟩,
             ⟨(some 36), (.call (.const (.func 15 [] [])) [(.tmp 35), (.const (.str [10]))]), none⟩,
             ⟨(some 34), (.val (.mov (.tmp 36))), none⟩,
             ⟨(some 37), (.val (.extract (.tmp 34) 0)), none⟩,
             ⟨(some 38), (.val (.extract (.tmp 34) 1)), none⟩,
             ⟨(some 39), (.val (.extract (.tmp 34) 2)), none⟩,
             ⟨(some 4), (.val (.mov (.tmp 37))), none⟩,
             ⟨(some 5), (.val (.mov (.tmp 38))), none⟩,
             ⟨(some 6), (.val (.mov (.tmp 39))), none⟩])
           (.region [⟨(some 40), (.val (.mov (.tmp 0))), none⟩,
             ⟨(some 41), (.val (.nilck (.tmp 40))), none⟩,
             ⟨(some 42), (.val (.faddr 1 (.tmp 41))), none⟩,
             ⟨(some 43), (.val (.load none (.tmp 42))), none⟩,
             ⟨(some 44), (.val (.mov (.tmp 4))), none⟩,
             ⟨(some 45), (.val (.lenstr (.tmp 44))), none⟩,
             ⟨(some 46), (.val (.bin .add (.tmp 43) (.tmp 45))), none⟩,
             ⟨(some 47), (.val (.nilck (.tmp 40))), none⟩,
             ⟨(some 48), (.val (.faddr 1 (.tmp 47))), none⟩,
             ⟨none, (.val (.store 1 (.tmp 48) (.tmp 46))), none⟩]))
          (.seq
           (.region [⟨(some 50), (.val (.eq false (.prim 1) (.tmp 19) (.const (.int .i64 3)))), none⟩,
             ⟨(some 49), (.val (.mov (.tmp 50))), none⟩])
           (.cond (.tmp 49)
            (.seq
             (.region [⟨(some 51), (.val (.mov (.tmp 0))), none⟩,
               ⟨(some 52), (.val (.load none (.tmp 3))), none⟩,
               ⟨(some 53), (.call (.const (.func 16 [] [])) [(.tmp 51), (.tmp 52)]), none⟩,
               ⟨(some 2), (.val (.mov (.tmp 53))), none⟩])
             .ret)
            (.seq
             (.region [⟨(some 55), (.val (.eq false (.prim 1) (.tmp 19) (.const (.int .i64 4)))), none⟩,
               ⟨(some 54), (.val (.mov (.tmp 55))), none⟩])
             (.cond (.tmp 54)
              (.seq
               (.region [⟨(some 56), (.val (.mov (.tmp 0))), none⟩,
                 ⟨(some 57), (.val (.load none (.tmp 3))), none⟩,
                 ⟨(some 58), (.call (.const (.func 17 [] [])) [(.tmp 56), (.tmp 57)]), none⟩,
                 ⟨(some 2), (.val (.mov (.tmp 58))), none⟩])
               .ret)
              (.seq
               (.region [⟨(some 60), (.val (.eq false (.prim 1) (.tmp 19) (.const (.int .i64 5)))), none⟩,
                 ⟨(some 59), (.val (.mov (.tmp 60))), none⟩])
               (.cond (.tmp 59)
                (.seq
                 (.region [⟨(some 61), (.val (.load none (.const (.ptr 1 0)))), none⟩,
                   ⟨(some 62), (.val (.mkfn 19 [] [(.tmp 3)])), none⟩,
                   ⟨(some 63), (.call (.const (.func 18 [] [])) [(.tmp 61), (.tmp 62)]), none⟩,
                   ⟨(some 7), (.val (.mov (.tmp 63))), none⟩])
                 (.seq
                  (.seq
                   (.region [⟨(some 64), (.val (.mov (.tmp 7))), none⟩,
                     ⟨(some 65), (.val (.bin .lss (.tmp 64) (.const (.int .i64 0)))), none⟩])
                   (.cond (.tmp 65)
                    (.seq
                     (.region [⟨(some 2), (.val (.mov (.const (.int .i64 6)))), none⟩])
                     .ret)
                    .skip))
                  (.region [⟨(some 66), (.val (.mov (.tmp 0))), none⟩,
                    ⟨(some 67), (.val (.load none (.const (.ptr 1 0)))), none⟩,
                    ⟨(some 68), (.val (.mov (.tmp 7))), none⟩,
                    ⟨(some 69), (.val (.iaddr 1 (.tmp 67) (.tmp 68))), none⟩,
                    ⟨(some 70), (.val (.load none (.tmp 69))), none⟩,
                    ⟨(some 71), (.val (.lenstr (.tmp 70))), none⟩,
                    ⟨(some 72), (.call (.const (.func 10 [] [])) [(.tmp 66), (.const (.int .i64 4)), (.tmp 71), (.const (.int .i64 0))]), none⟩])))
                (.seq
                 (.region [⟨(some 2), (.val (.mov (.const (.int .i64 6)))), none⟩])
                 .ret)))))))))))))
    (.seq
     (.region [⟨(some 2), (.val (.mov (.const (.int .i64 0)))), none⟩])
     .ret)))),
 [.tmp 2]⟩
theorem ok9 : cFun Tryd.prog G Tryd.f9 = some F_lex_scanner_next := by kernel_rfl

/- (*balustrade/lex.scanner).put -/
abbrev n_lex_scanner_put : Nat := 10
def F_lex_scanner_put : IFun :=
 ⟨47,
 (.seq
  (.draw [⟨(some 8), (.val (.mov (.tmp 0))), none⟩,
    ⟨(some 9), (.val (.mov (.tmp 0))), none⟩,
    ⟨(some 10), (.val (.nilck (.tmp 9))), none⟩,
    ⟨(some 11), (.val (.faddr 2 (.tmp 10))), none⟩,
    ⟨(some 12), (.val (.load none (.tmp 11))), none⟩,
    ⟨(some 13), (.val (.mov (.tmp 1))), none⟩,
    ⟨(some 14), (.val (.mov (.tmp 0))), none⟩,
    ⟨(some 15), (.val (.nilck (.tmp 14))), none⟩,
    ⟨(some 16), (.val (.faddr 0 (.tmp 15))), none⟩,
    ⟨(some 17), (.val (.load none (.tmp 16))), none⟩,
    ⟨(some 18), (.val (.mov (.tmp 0))), none⟩,
    ⟨(some 19), (.val (.nilck (.tmp 18))), none⟩,
    ⟨(some 20), (.val (.faddr 1 (.tmp 19))), none⟩,
    ⟨(some 21), (.val (.load none (.tmp 20))), none⟩,
    ⟨(some 22), (.val (.mov (.tmp 0))), none⟩,
    ⟨(some 23), (.val (.nilck (.tmp 22))), none⟩,
    ⟨(some 24), (.val (.faddr 1 (.tmp 23))), none⟩,
    ⟨(some 25), (.val (.load none (.tmp 24))), none⟩,
    ⟨(some 26), (.val (.mov (.tmp 2))), none⟩,
    ⟨(some 27), (.val (.bin .add (.tmp 25) (.tmp 26))), none⟩,
    ⟨(some 28), (.val (.slstr (.tmp 17) (some (.tmp 21)) (some (.tmp 27)))), none⟩,
    ⟨(some 29), (.val (.mov (.tmp 3))), none⟩,
    ⟨(some 30), (.val (.mov (.tmp 0))), none⟩,
    ⟨(some 31), (.val (.nilck (.tmp 30))), none⟩,
    ⟨(some 32), (.val (.faddr 1 (.tmp 31))), none⟩,
    ⟨(some 33), (.val (.load none (.tmp 32))), none⟩,
    ⟨(some 34), (.val (.build [(.int .i64 0), (.str []), (.int .i64 0), (.int .i64 0)] [(0, 1, (.tmp 13)), (1, 1, (.tmp 28)), (2, 1, (.tmp 29)), (3, 1, (.tmp 33))])), none⟩,
    ⟨(some 35), (.val (.bslice 30 4 1 [(.int .i64 0), (.str []), (.int .i64 0), (.int .i64 0)] [(0, (.tmp 34))])), none⟩,
    ⟨(some 36), (.val (.append 30 4 40 (.tmp 12) (.tmp 35))), none⟩,
    ⟨(some 37), (.val (.nilck (.tmp 8))), none⟩,
    ⟨(some 38), (.val (.faddr 2 (.tmp 37))), none⟩,
    ⟨none, (.val (.store 1 (.tmp 38) (.tmp 36))), none⟩] [])
  (.region [⟨(some 39), (.val (.mov (.tmp 0))), none⟩,
    ⟨(some 40), (.val (.nilck (.tmp 39))), none⟩,
    ⟨(some 41), (.val (.faddr 1 (.tmp 40))), none⟩,
    ⟨(some 42), (.val (.load none (.tmp 41))), none⟩,
    ⟨(some 43), (.val (.mov (.tmp 2))), none⟩,
    ⟨(some 44), (.val (.bin .add (.tmp 42) (.tmp 43))), none⟩,
    ⟨(some 45), (.val (.nilck (.tmp 39))), none⟩,
    ⟨(some 46), (.val (.faddr 1 (.tmp 45))), none⟩,
    ⟨none, (.val (.store 1 (.tmp 46) (.tmp 44))), none⟩])),
 []⟩
theorem ok10 : cFun Tryd.prog G Tryd.f10 = some F_lex_scanner_put := by kernel_rfl

/- balustrade/balustraderef05.Blank -/
abbrev n_r05_Blank : Nat := 11
def F_r05_Blank : IFun :=
 ⟨17,
 (.seq
  (.region [⟨(some 2), (.val (.mov (.const (.bool false)))), none⟩])
  (.seq
   (.region [⟨(some 3), (.val (.mov (.tmp 0))), none⟩,
     ⟨(some 4), (.val (.eq false (.prim 1) (.tmp 3) (.const (.int .u8 32)))), none⟩,
     ⟨(some 5), (.val (.mov (.tmp 4))), none⟩,
     ⟨(some 6), (.val (.mov (.tmp 0))), (some (5, false))⟩,
     ⟨(some 7), (.val (.eq false (.prim 1) (.tmp 6) (.const (.int .u8 9)))), (some (5, false))⟩,
     ⟨(some 8), (.val (.pick (.tmp 5) (.const (.bool true)) (.tmp 7))), none⟩,
     ⟨(some 9), (.val (.mov (.tmp 8))), none⟩,
     ⟨(some 10), (.val (.mov (.tmp 0))), (some (9, false))⟩,
     ⟨(some 11), (.val (.eq false (.prim 1) (.tmp 10) (.const (.int .u8 10)))), (some (9, false))⟩,
     ⟨(some 12), (.val (.pick (.tmp 9) (.const (.bool true)) (.tmp 11))), none⟩,
     ⟨(some 13), (.val (.mov (.tmp 12))), none⟩,
     ⟨(some 14), (.val (.mov (.tmp 0))), (some (13, false))⟩,
     ⟨(some 15), (.val (.eq false (.prim 1) (.tmp 14) (.const (.int .u8 13)))), (some (13, false))⟩,
     ⟨(some 16), (.val (.pick (.tmp 13) (.const (.bool true)) (.tmp 15))), none⟩,
     ⟨(some 2), (.val (.mov (.tmp 16))), none⟩])
   .ret)),
 [.tmp 2]⟩
theorem ok11 : cFun Tryd.prog G Tryd.f11 = some F_r05_Blank := by kernel_rfl

/- slices.Contains[[]string,string] -/
abbrev n_slices_Contains_string : Nat := 12
def F_slices_Contains_string : IFun :=
 ⟨9,
 (.seq
  (.region [⟨(some 4), (.val (.mov (.const (.bool false)))), none⟩])
  (.seq
   (.region [⟨(some 5), (.val (.mov (.tmp 0))), none⟩,
     ⟨(some 6), (.val (.mov (.tmp 1))), none⟩,
     ⟨(some 7), (.call (.const (.func 21 [] [])) [(.tmp 5), (.tmp 6)]), none⟩,
     ⟨(some 8), (.val (.bin .geq (.tmp 7) (.const (.int .i64 0)))), none⟩,
     ⟨(some 4), (.val (.mov (.tmp 8))), none⟩])
   .ret)),
 [.tmp 4]⟩
theorem ok12 : cFun Tryd.prog G Tryd.f12 = some F_slices_Contains_string := by kernel_rfl

/- balustrade/lex.class -/
abbrev n_lex_class : Nat := 13
def F_lex_class : IFun :=
 ⟨38,
 (.seq
  (.region [⟨(some 2), (.val (.mov (.const (.int .i64 0)))), none⟩])
  (.seq
   (.block 0
    (.seq
     (.seq
      (.region [⟨(some 4), (.val (.mov (.tmp 0))), none⟩,
        ⟨(some 5), (.val (.bin .geq (.tmp 4) (.const (.int .u8 97)))), none⟩,
        ⟨(some 6), (.val (.mov (.tmp 5))), none⟩,
        ⟨(some 7), (.val (.mov (.tmp 0))), (some (6, true))⟩,
        ⟨(some 8), (.val (.bin .leq (.tmp 7) (.const (.int .u8 122)))), (some (6, true))⟩,
        ⟨(some 9), (.val (.pick (.tmp 6) (.tmp 8) (.const (.bool false)))), none⟩,
        ⟨(some 3), (.val (.mov (.tmp 9))), none⟩])
      (.cond (.tmp 3)
       .skip
       (.seq
        (.region [⟨(some 10), (.val (.mov (.tmp 0))), none⟩,
          ⟨(some 11), (.val (.bin .geq (.tmp 10) (.const (.int .u8 65)))), none⟩,
          ⟨(some 12), (.val (.mov (.tmp 11))), none⟩,
          ⟨(some 13), (.val (.mov (.tmp 0))), (some (12, true))⟩,
          ⟨(some 14), (.val (.bin .leq (.tmp 13) (.const (.int .u8 90)))), (some (12, true))⟩,
          ⟨(some 15), (.val (.pick (.tmp 12) (.tmp 14) (.const (.bool false)))), none⟩,
          ⟨(some 3), (.val (.mov (.tmp 15))), none⟩])
        (.cond (.tmp 3)
         .skip
         (.region [⟨(some 16), (.val (.mov (.tmp 0))), none⟩,
           ⟨(some 17), (.val (.eq false (.prim 1) (.tmp 16) (.const (.int .u8 95)))), none⟩,
           ⟨(some 3), (.val (.mov (.tmp 17))), none⟩])))))
     (.cond (.tmp 3)
      (.seq
       (.region [⟨(some 2), (.val (.mov (.const (.int .i64 3)))), none⟩])
       .ret)
      (.seq
       (.region [⟨(some 19), (.val (.mov (.tmp 0))), none⟩,
         ⟨(some 20), (.val (.bin .geq (.tmp 19) (.const (.int .u8 48)))), none⟩,
         ⟨(some 21), (.val (.mov (.tmp 20))), none⟩,
         ⟨(some 22), (.val (.mov (.tmp 0))), (some (21, true))⟩,
         ⟨(some 23), (.val (.bin .leq (.tmp 22) (.const (.int .u8 57)))), (some (21, true))⟩,
         ⟨(some 24), (.val (.pick (.tmp 21) (.tmp 23) (.const (.bool false)))), none⟩,
         ⟨(some 18), (.val (.mov (.tmp 24))), none⟩])
       (.cond (.tmp 18)
        (.seq
         (.region [⟨(some 2), (.val (.mov (.const (.int .i64 4)))), none⟩])
         .ret)
        (.seq
         (.region [⟨(some 26), (.val (.mov (.tmp 0))), none⟩,
           ⟨(some 27), (.val (.eq false (.prim 1) (.tmp 26) (.const (.int .u8 35)))), none⟩,
           ⟨(some 25), (.val (.mov (.tmp 27))), none⟩])
         (.cond (.tmp 25)
          (.seq
           (.region [⟨(some 2), (.val (.mov (.const (.int .i64 2)))), none⟩])
           .ret)
          .skip)))))))
   (.seq
    (.seq
     (.region [⟨(some 28), (.val (.mov (.tmp 0))), none⟩])
     (.block 1
      (.seq
       (.block 3
        (.block 2
         (.seq
          (.seq
           (.seq
            (.region [⟨(some 30), (.val (.eq false (.prim 1) (.tmp 28) (.const (.int .u8 32)))), none⟩,
              ⟨(some 29), (.val (.mov (.tmp 30))), none⟩])
            (.cond (.tmp 29)
             (.exit 2)
             .skip))
           (.seq
            (.seq
             (.region [⟨(some 32), (.val (.eq false (.prim 1) (.tmp 28) (.const (.int .u8 9)))), none⟩,
               ⟨(some 31), (.val (.mov (.tmp 32))), none⟩])
             (.cond (.tmp 31)
              .skip
              (.seq
               (.region [⟨(some 33), (.val (.eq false (.prim 1) (.tmp 28) (.const (.int .u8 10)))), none⟩,
                 ⟨(some 31), (.val (.mov (.tmp 33))), none⟩])
               (.cond (.tmp 31)
                .skip
                (.region [⟨(some 34), (.val (.eq false (.prim 1) (.tmp 28) (.const (.int .u8 13)))), none⟩,
                  ⟨(some 31), (.val (.mov (.tmp 34))), none⟩])))))
            (.cond (.tmp 31)
             (.exit 3)
             .skip)))
          (.exit 1))))
       (.seq
        (.seq
         (.region [⟨(some 2), (.val (.mov (.const (.int .i64 1)))), none⟩])
         .ret)
        (.exit 1)))))
    (.seq
     (.seq
      (.region [⟨(some 35), (.val (.mov (.tmp 0))), none⟩,
        ⟨(some 36), (.call (.const (.func 22 [] [])) [(.const (.str [124, 38, 61, 33, 60, 62, 43, 45, 42, 47, 37, 40, 41, 123, 125, 91, 93, 44, 59])), (.tmp 35)]), none⟩,
        ⟨(some 37), (.val (.bin .geq (.tmp 36) (.const (.int .i64 0)))), none⟩])
      (.cond (.tmp 37)
       (.seq
        (.region [⟨(some 2), (.val (.mov (.const (.int .i64 5)))), none⟩])
        .ret)
       .skip))
     (.seq
      (.region [⟨(some 2), (.val (.mov (.const (.int .i64 0)))), none⟩])
      .ret))))),
 [.tmp 2]⟩
theorem ok13 : cFun Tryd.prog G Tryd.f13 = some F_lex_class := by kernel_rfl

/- balustrade/lex.run -/
abbrev n_lex_run : Nat := 14
def F_lex_run_l0 : ICode :=
 (.seq
  (.seq
   (.region [⟨(some 6), (.val (.mov (.tmp 5))), none⟩,
     ⟨(some 7), (.val (.mov (.tmp 0))), none⟩,
     ⟨(some 8), (.val (.lenstr (.tmp 7))), none⟩,
     ⟨(some 9), (.val (.bin .lss (.tmp 6) (.tmp 8))), none⟩,
     ⟨(some 10), (.val (.mov (.tmp 9))), none⟩,
     ⟨(some 11), (.val (.mov (.tmp 1))), (some (10, true))⟩,
     ⟨(some 12), (.val (.mov (.tmp 0))), (some (10, true))⟩,
     ⟨(some 13), (.val (.mov (.tmp 5))), (some (10, true))⟩,
     ⟨(some 14), (.val (.idxstr (.tmp 12) (.tmp 13))), (some (10, true))⟩,
     ⟨(some 15), (.call (.const (.func 13 [] [])) [(.tmp 14)]), (some (10, true))⟩,
     ⟨(some 16), (.call (.const (.func 23 [] [])) [(.tmp 11), (.tmp 15)]), (some (10, true))⟩,
     ⟨(some 17), (.val (.pick (.tmp 10) (.tmp 16) (.const (.bool false)))), none⟩])
   (.cond (.tmp 17)
    .skip
    (.exit 0)))
  (.block 1
   (.region [⟨(some 18), (.val (.mov (.tmp 5))), none⟩,
     ⟨(some 19), (.val (.bin .add (.tmp 18) (.const (.int .i64 1)))), none⟩,
     ⟨(some 5), (.val (.mov (.tmp 19))), none⟩])))
def F_lex_run : IFun :=
 ⟨21,
 (.seq
  (.region [⟨(some 4), (.val (.mov (.const (.int .i64 0)))), none⟩])
  (.seq
   (.region [⟨(some 5), (.val (.mov (.const (.int .i64 0)))), none⟩])
   (.seq
    (.block 0
     (.loop F_lex_run_l0))
    (.seq
     (.region [⟨(some 20), (.val (.mov (.tmp 5))), none⟩,
       ⟨(some 4), (.val (.mov (.tmp 20))), none⟩])
     .ret)))),
 [.tmp 4]⟩
theorem ok14 : cFun Tryd.prog G Tryd.f14 = some F_lex_run := by kernel_rfl

/- strings.Cut -/
abbrev n_strings_Cut : Nat := 15
def F_strings_Cut : IFun :=
 ⟨13,
 (.seq
  (.region [⟨(some 4), (.val (.mov (.const (.str [])))), none⟩,
    ⟨(some 5), (.val (.mov (.const (.str [])))), none⟩,
    ⟨(some 6), (.val (.mov (.const (.bool false)))), none⟩])
  (.seq
   (.region [⟨(some 7), (.val (.mov (.tmp 0))), none⟩,
     ⟨(some 8), (.val (.mov (.tmp 1))), none⟩,
     ⟨(some 9), (.call (.const (.func 24 [] [])) [(.tmp 7), (.tmp 8)]), none⟩,
     ⟨(some 10), (.val (.extract (.tmp 9) 0)), none⟩,
     ⟨(some 11), (.val (.extract (.tmp 9) 1)), none⟩,
     ⟨(some 12), (.val (.extract (.tmp 9) 2)), none⟩,
     ⟨(some 4), (.val (.mov (.tmp 10))), none⟩,
     ⟨(some 5), (.val (.mov (.tmp 11))), none⟩,
     ⟨(some 6), (.val (.mov (.tmp 12))), none⟩])
   .ret)),
 [.tmp 4, .tmp 5, .tmp 6]⟩
theorem ok15 : cFun Tryd.prog G Tryd.f15 = some F_strings_Cut := by kernel_rfl

/- (*balustrade/lex.scanner).word -/
abbrev n_lex_scanner_word : Nat := 16
def F_lex_scanner_word : IFun :=
 ⟨23,
 (.seq
  (.region [⟨(some 4), (.val (.mov (.const (.int .i64 0)))), none⟩])
  (.seq
   (.region [⟨(some 6), (.val (.mov (.tmp 1))), none⟩,
     ⟨(some 7), (.val (.bslice 3 1 2 [(.int .i64 0)] [(0, (.const (.int .i64 3))), (1, (.const (.int .i64 4)))])), none⟩,
     ⟨(some 8), (.call (.const (.func 14 [] [])) [(.tmp 6), (.tmp 7)]), none⟩,
     ⟨(some 5), (.val (.mov (.tmp 8))), none⟩])
   (.seq
    (.block 0
     (.seq
      (.region [⟨(some 13), (.val (.mov (.tmp 1))), none⟩,
        ⟨(some 14), (.val (.mov (.tmp 5))), none⟩,
        ⟨(some 15), (.val (.slstr (.tmp 13) none (some (.tmp 14)))), none⟩,
        ⟨(some 16), (.call (.const (.func 8 [] [])) [(.tmp 15)]), none⟩,
        ⟨(some 12), (.val (.mov (.tmp 16))), none⟩])
      (.cond (.tmp 12)
       (.region [⟨(some 17), (.val (.mov (.tmp 0))), none⟩,
         ⟨(some 18), (.val (.mov (.tmp 5))), none⟩,
         ⟨(some 19), (.call (.const (.func 10 [] [])) [(.tmp 17), (.const (.int .i64 3)), (.tmp 18), (.const (.int .i64 0))]), none⟩])
       (.seq
        (.region [⟨(some 21), (.val (.mov (.tmp 5))), none⟩,
          ⟨(some 22), (.val (.bin .gtr (.tmp 21) (.const (.int .i64 32)))), none⟩,
          ⟨(some 20), (.val (.mov (.tmp 22))), none⟩])
        (.cond (.tmp 20)
         (.seq
          (.region [⟨(some 4), (.val (.mov (.const (.int .i64 3)))), none⟩])
          .ret)
         (.region [⟨(some 9), (.val (.mov (.tmp 0))), none⟩,
           ⟨(some 10), (.val (.mov (.tmp 5))), none⟩,
           ⟨(some 11), (.call (.const (.func 10 [] [])) [(.tmp 9), (.const (.int .i64 1)), (.tmp 10), (.const (.int .i64 0))]), none⟩]))))))
    (.seq
     (.region [⟨(some 4), (.val (.mov (.const (.int .i64 0)))), none⟩])
     .ret)))),
 [.tmp 4]⟩
theorem ok16 : cFun Tryd.prog G Tryd.f16 = some F_lex_scanner_word := by kernel_rfl

end Go.Proofs.YtfmokmbbfjbonaaDoor.Ev
end
section
namespace Go.Proofs.YtfmokmbbfjbonaaDoor.Ev
open Go

/- (*balustrade/lex.scanner).number -/
abbrev n_lex_scanner_number : Nat := 17
def F_lex_scanner_number_l0 : ICode :=
 (.seq
  (.region [⟨(some 14), (.val (.bin .lss (.tmp 13) (.tmp 12))), none⟩])
  (.seq
   (.cond (.tmp 14)
    .skip
    (.exit 0))
   (.seq
    (.block 1
     (.seq
      (.region [⟨(some 15), (.val (.mov (.tmp 13))), none⟩,
        ⟨(some 7), (.val (.mov (.tmp 15))), none⟩])
      (.seq
       (.region [⟨(some 16), (.val (.mov (.tmp 1))), none⟩,
         ⟨(some 17), (.val (.mov (.tmp 7))), none⟩,
         ⟨(some 18), (.val (.idxstr (.tmp 16) (.tmp 17))), none⟩,
         ⟨(some 19), (.val (.bin .sub (.tmp 18) (.const (.int .u8 48)))), none⟩,
         ⟨(some 20), (.val (.conv (.int .i64) (.tmp 19))), none⟩,
         ⟨(some 8), (.val (.mov (.tmp 20))), none⟩])
       (.seq
        (.seq
         (.region [⟨(some 21), (.val (.mov (.tmp 5))), none⟩,
           ⟨(some 22), (.val (.mov (.tmp 8))), none⟩,
           ⟨(some 23), (.val (.bin .sub (.const (.int .i64 9223372036854775807)) (.tmp 22))), none⟩,
           ⟨(some 24), (.val (.bin .quo (.tmp 23) (.const (.int .i64 10)))), none⟩,
           ⟨(some 25), (.val (.bin .gtr (.tmp 21) (.tmp 24))), none⟩])
         (.cond (.tmp 25)
          (.seq
           (.region [⟨(some 4), (.val (.mov (.const (.int .i64 7)))), none⟩])
           .ret)
          .skip))
        (.region [⟨(some 26), (.val (.mov (.tmp 5))), none⟩,
          ⟨(some 27), (.val (.bin .mul (.const (.int .i64 10)) (.tmp 26))), none⟩,
          ⟨(some 28), (.val (.mov (.tmp 8))), none⟩,
          ⟨(some 29), (.val (.bin .add (.tmp 27) (.tmp 28))), none⟩,
          ⟨(some 5), (.val (.mov (.tmp 29))), none⟩])))))
    (.region [⟨(some 30), (.val (.bin .add (.tmp 13) (.const (.int .i64 1)))), none⟩,
      ⟨(some 13), (.val (.mov (.tmp 30))), none⟩]))))
def F_lex_scanner_number : IFun :=
 ⟨35,
 (.seq
  (.region [⟨(some 4), (.val (.mov (.const (.int .i64 0)))), none⟩])
  (.seq
   (.region [⟨(some 9), (.val (.mov (.tmp 1))), none⟩,
     ⟨(some 10), (.val (.bslice 3 1 1 [(.int .i64 0)] [(0, (.const (.int .i64 4)))])), none⟩,
     ⟨(some 11), (.call (.const (.func 14 [] [])) [(.tmp 9), (.tmp 10)]), none⟩,
     ⟨(some 5), (.val (.mov (.const (.int .i64 0)))), none⟩,
     ⟨(some 6), (.val (.mov (.tmp 11))), none⟩])
   (.seq
    (.seq
     (.region [⟨(some 12), (.val (.mov (.tmp 6))), none⟩,
       ⟨(some 13), (.val (.mov (.const (.int .i64 0)))), none⟩])
     (.block 0
      (.loop F_lex_scanner_number_l0)))
    (.seq
     (.region [⟨(some 31), (.val (.mov (.tmp 0))), none⟩,
       ⟨(some 32), (.val (.mov (.tmp 6))), none⟩,
       ⟨(some 33), (.val (.mov (.tmp 5))), none⟩,
       ⟨(some 34), (.call (.const (.func 10 [] [])) [(.tmp 31), (.const (.int .i64 2)), (.tmp 32), (.tmp 33)]), none⟩])
     (.seq
      (.region [⟨(some 4), (.val (.mov (.const (.int .i64 0)))), none⟩])
      .ret))))),
 [.tmp 4]⟩
theorem ok17 : cFun Tryd.prog G Tryd.f17 = some F_lex_scanner_number := by kernel_rfl

/- slices.IndexFunc[[]string,string] -/
abbrev n_slices_IndexFunc_string : Nat := 18
def F_slices_IndexFunc_string_l0 : ICode :=
 (.seq
  (.region [⟨(some 9), (.val (.bin .lss (.tmp 8) (.tmp 7))), none⟩])
  (.seq
   (.cond (.tmp 9)
    .skip
    (.exit 0))
   (.seq
    (.block 1
     (.seq
      (.region [⟨(some 10), (.val (.mov (.tmp 8))), none⟩,
        ⟨(some 5), (.val (.mov (.tmp 10))), none⟩])
      (.seq
       (.region [⟨(some 11), (.val (.mov (.tmp 1))), none⟩,
         ⟨(some 12), (.val (.mov (.tmp 0))), none⟩,
         ⟨(some 13), (.val (.mov (.tmp 5))), none⟩,
         ⟨(some 14), (.val (.iaddr 1 (.tmp 12) (.tmp 13))), none⟩,
         ⟨(some 15), (.val (.load none (.tmp 14))), none⟩,
         ⟨(some 16), (.call (.tmp 11) [(.tmp 15)]), none⟩])
       (.cond (.tmp 16)
        (.seq
         (.region [⟨(some 17), (.val (.mov (.tmp 5))), none⟩,
           ⟨(some 4), (.val (.mov (.tmp 17))), none⟩])
         .ret)
        .skip))))
    (.region [⟨(some 18), (.val (.bin .add (.tmp 8) (.const (.int .i64 1)))), none⟩,
      ⟨(some 8), (.val (.mov (.tmp 18))), none⟩]))))
def F_slices_IndexFunc_string : IFun :=
 ⟨19,
 (.seq
  (.region [⟨(some 4), (.val (.mov (.const (.int .i64 0)))), none⟩])
  (.seq
   (.seq
    (.region [⟨(some 6), (.val (.mov (.tmp 0))), none⟩,
      ⟨(some 7), (.val (.len (.tmp 6))), none⟩,
      ⟨(some 8), (.val (.mov (.const (.int .i64 0)))), none⟩])
    (.block 0
     (.loop F_slices_IndexFunc_string_l0)))
   (.seq
    (.region [⟨(some 4), (.val (.mov (.const (.int .i64 (-1))))), none⟩])
    .ret))),
 [.tmp 4]⟩
theorem ok18 : cFun Tryd.prog G Tryd.f18 = some F_slices_IndexFunc_string := by kernel_rfl

/- (*balustrade/lex.scanner).next$1 -/
abbrev n_lex_scanner_next_1 : Nat := 19
def F_lex_scanner_next_1 : IFun :=
 ⟨7,
 (.seq
  (.region [⟨(some 3), (.val (.mov (.const (.bool false)))), none⟩])
  (.seq
   (.region [⟨(some 4), (.val (.load none (.tmp 1))), none⟩,
     ⟨(some 5), (.val (.mov (.tmp 0))), none⟩,
     ⟨(some 6), (.call (.const (.func 20 [] [])) [(.tmp 4), (.tmp 5)]), none⟩,
     ⟨(some 3), (.val (.mov (.tmp 6))), none⟩])
   .ret)),
 [.tmp 3]⟩
theorem ok19 : cFun Tryd.prog G Tryd.f19 = some F_lex_scanner_next_1 := by kernel_rfl

/- strings.HasPrefix -/
abbrev n_strings_HasPrefix : Nat := 20
def F_strings_HasPrefix : IFun :=
 ⟨8,
 (.seq
  (.region [⟨(some 4), (.val (.mov (.const (.bool false)))), none⟩])
  (.seq
   (.region [⟨(some 5), (.val (.mov (.tmp 0))), none⟩,
     ⟨(some 6), (.val (.mov (.tmp 1))), none⟩,
     ⟨(some 7), (.call (.const (.func 25 [] [])) [(.tmp 5), (.tmp 6)]), none⟩,
     ⟨(some 4), (.val (.mov (.tmp 7))), none⟩])
   .ret)),
 [.tmp 4]⟩
theorem ok20 : cFun Tryd.prog G Tryd.f20 = some F_strings_HasPrefix := by kernel_rfl

/- slices.Index[[]string,string] -/
abbrev n_slices_Index_string : Nat := 21
def F_slices_Index_string_l0 : ICode :=
 (.seq
  (.region [⟨(some 9), (.val (.bin .lss (.tmp 8) (.tmp 7))), none⟩])
  (.seq
   (.cond (.tmp 9)
    .skip
    (.exit 0))
   (.seq
    (.block 1
     (.seq
      (.region [⟨(some 10), (.val (.mov (.tmp 8))), none⟩,
        ⟨(some 5), (.val (.mov (.tmp 10))), none⟩])
      (.seq
       (.region [⟨(some 11), (.val (.mov (.tmp 1))), none⟩,
         ⟨(some 12), (.val (.mov (.tmp 0))), none⟩,
         ⟨(some 13), (.val (.mov (.tmp 5))), none⟩,
         ⟨(some 14), (.val (.iaddr 1 (.tmp 12) (.tmp 13))), none⟩,
         ⟨(some 15), (.val (.load none (.tmp 14))), none⟩,
         ⟨(some 16), (.val (.eq false (.prim 2) (.tmp 11) (.tmp 15))), none⟩])
       (.cond (.tmp 16)
        (.seq
         (.region [⟨(some 17), (.val (.mov (.tmp 5))), none⟩,
           ⟨(some 4), (.val (.mov (.tmp 17))), none⟩])
         .ret)
        .skip))))
    (.region [⟨(some 18), (.val (.bin .add (.tmp 8) (.const (.int .i64 1)))), none⟩,
      ⟨(some 8), (.val (.mov (.tmp 18))), none⟩]))))
def F_slices_Index_string : IFun :=
 ⟨19,
 (.seq
  (.region [⟨(some 4), (.val (.mov (.const (.int .i64 0)))), none⟩])
  (.seq
   (.seq
    (.region [⟨(some 6), (.val (.mov (.tmp 0))), none⟩,
      ⟨(some 7), (.val (.len (.tmp 6))), none⟩,
      ⟨(some 8), (.val (.mov (.const (.int .i64 0)))), none⟩])
    (.block 0
     (.loop F_slices_Index_string_l0)))
   (.seq
    (.region [⟨(some 4), (.val (.mov (.const (.int .i64 (-1))))), none⟩])
    .ret))),
 [.tmp 4]⟩
theorem ok21 : cFun Tryd.prog G Tryd.f21 = some F_slices_Index_string := by kernel_rfl

/- strings.IndexByte -/
abbrev n_strings_IndexByte : Nat := 22
def F_strings_IndexByte : IFun :=
 ⟨8,
 (.seq
  (.region [⟨(some 4), (.val (.mov (.const (.int .i64 0)))), none⟩])
  (.seq
   (.region [⟨(some 5), (.val (.mov (.tmp 0))), none⟩,
     ⟨(some 6), (.val (.mov (.tmp 1))), none⟩,
     ⟨(some 7), (.call (.const (.func 26 [] [])) [(.tmp 5), (.tmp 6)]), none⟩,
     ⟨(some 4), (.val (.mov (.tmp 7))), none⟩])
   .ret)),
 [.tmp 4]⟩
theorem ok22 : cFun Tryd.prog G Tryd.f22 = some F_strings_IndexByte := by kernel_rfl

/- slices.Contains[[]int,int] -/
abbrev n_slices_Contains_int : Nat := 23
def F_slices_Contains_int : IFun :=
 ⟨9,
 (.seq
  (.region [⟨(some 4), (.val (.mov (.const (.bool false)))), none⟩])
  (.seq
   (.region [⟨(some 5), (.val (.mov (.tmp 0))), none⟩,
     ⟨(some 6), (.val (.mov (.tmp 1))), none⟩,
     ⟨(some 7), (.call (.const (.func 27 [] [])) [(.tmp 5), (.tmp 6)]), none⟩,
     ⟨(some 8), (.val (.bin .geq (.tmp 7) (.const (.int .i64 0)))), none⟩,
     ⟨(some 4), (.val (.mov (.tmp 8))), none⟩])
   .ret)),
 [.tmp 4]⟩
theorem ok23 : cFun Tryd.prog G Tryd.f23 = some F_slices_Contains_int := by kernel_rfl

/- internal/stringslite.Cut -/
abbrev n_internal_stringslite_Cut : Nat := 24
def F_internal_stringslite_Cut : IFun :=
 ⟨23,
 (.seq
  (.region [⟨(some 4), (.val (.mov (.const (.str [])))), none⟩,
    ⟨(some 5), (.val (.mov (.const (.str [])))), none⟩,
    ⟨(some 6), (.val (.mov (.const (.bool false)))), none⟩])
  (.seq
   (.seq
    (.region [⟨(some 8), (.val (.mov (.tmp 0))), none⟩,
      ⟨(some 9), (.val (.mov (.tmp 1))), none⟩,
      ⟨(some 10), (.call (.const (.func 28 [] [])) [(.tmp 8), (.tmp 9)]), none⟩,
      ⟨(some 7), (.val (.mov (.tmp 10))), none⟩])
    (.seq
     (.region [⟨(some 11), (.val (.mov (.tmp 7))), none⟩,
       ⟨(some 12), (.val (.bin .geq (.tmp 11) (.const (.int .i64 0)))), none⟩])
     (.cond (.tmp 12)
      (.seq
       (.draw [⟨(some 13), (.val (.mov (.tmp 0))), none⟩,
         ⟨(some 14), (.val (.mov (.tmp 7))), none⟩,
         ⟨(some 15), (.val (.slstr (.tmp 13) none (some (.tmp 14)))), none⟩,
         ⟨(some 16), (.val (.mov (.tmp 0))), none⟩,
         ⟨(some 17), (.val (.mov (.tmp 7))), none⟩,
         ⟨(some 18), (.val (.mov (.tmp 1))), none⟩,
         ⟨(some 19), (.val (.lenstr (.tmp 18))), none⟩,
         ⟨(some 20), (.val (.bin .add (.tmp 17) (.tmp 19))), none⟩,
         ⟨(some 21), (.val (.slstr (.tmp 16) (some (.tmp 20)) none)), none⟩,
         ⟨(some 4), (.val (.mov (.tmp 15))), none⟩,
         ⟨(some 5), (.val (.mov (.tmp 21))), none⟩,
         ⟨(some 6), (.val (.mov (.const (.bool true)))), none⟩] [])
       .ret)
      .skip)))
   (.seq
    (.region [⟨(some 22), (.val (.mov (.tmp 0))), none⟩,
      ⟨(some 4), (.val (.mov (.tmp 22))), none⟩,
      ⟨(some 5), (.val (.mov (.const (.str [])))), none⟩,
      ⟨(some 6), (.val (.mov (.const (.bool false)))), none⟩])
    .ret))),
 [.tmp 4, .tmp 5, .tmp 6]⟩
theorem ok24 : cFun Tryd.prog G Tryd.f24 = some F_internal_stringslite_Cut := by kernel_rfl

/- internal/stringslite.HasPrefix -/
abbrev n_internal_stringslite_HasPrefix : Nat := 25
def F_internal_stringslite_HasPrefix : IFun :=
 ⟨18,
 (.seq
  (.region [⟨(some 4), (.val (.mov (.const (.bool false)))), none⟩])
  (.seq
   (.region [⟨(some 5), (.val (.mov (.tmp 0))), none⟩,
     ⟨(some 6), (.val (.lenstr (.tmp 5))), none⟩,
     ⟨(some 7), (.val (.mov (.tmp 1))), none⟩,
     ⟨(some 8), (.val (.lenstr (.tmp 7))), none⟩,
     ⟨(some 9), (.val (.bin .geq (.tmp 6) (.tmp 8))), none⟩,
     ⟨(some 10), (.val (.mov (.tmp 9))), none⟩,
     ⟨(some 11), (.val (.mov (.tmp 0))), (some (10, true))⟩,
     ⟨(some 12), (.val (.mov (.tmp 1))), (some (10, true))⟩,
     ⟨(some 13), (.val (.lenstr (.tmp 12))), (some (10, true))⟩,
     ⟨(some 14), (.val (.slstr (.tmp 11) none (some (.tmp 13)))), (some (10, true))⟩,
     ⟨(some 15), (.val (.mov (.tmp 1))), (some (10, true))⟩,
     ⟨(some 16), (.val (.eq false (.prim 2) (.tmp 14) (.tmp 15))), (some (10, true))⟩,
     ⟨(some 17), (.val (.pick (.tmp 10) (.tmp 16) (.const (.bool false)))), none⟩,
     ⟨(some 4), (.val (.mov (.tmp 17))), none⟩])
   .ret)),
 [.tmp 4]⟩
theorem ok25 : cFun Tryd.prog G Tryd.f25 = some F_internal_stringslite_HasPrefix := by kernel_rfl

/- internal/stringslite.IndexByte -/
abbrev n_internal_stringslite_IndexByte : Nat := 26
def F_internal_stringslite_IndexByte : IFun :=
 ⟨8,
 (.seq
  (.region [⟨(some 4), (.val (.mov (.const (.int .i64 0)))), none⟩])
  (.seq
   (.region [⟨(some 5), (.val (.mov (.tmp 0))), none⟩,
     ⟨(some 6), (.val (.mov (.tmp 1))), none⟩,
     ⟨(some 7), (.call (.const (.func 29 [] [])) [(.tmp 5), (.tmp 6)]), none⟩,
     ⟨(some 4), (.val (.mov (.tmp 7))), none⟩])
   .ret)),
 [.tmp 4]⟩
theorem ok26 : cFun Tryd.prog G Tryd.f26 = some F_internal_stringslite_IndexByte := by kernel_rfl

/- slices.Index[[]int,int] -/
abbrev n_slices_Index_int : Nat := 27
def F_slices_Index_int_l0 : ICode :=
 (.seq
  (.region [⟨(some 9), (.val (.bin .lss (.tmp 8) (.tmp 7))), none⟩])
  (.seq
   (.cond (.tmp 9)
    .skip
    (.exit 0))
   (.seq
    (.block 1
     (.seq
      (.region [⟨(some 10), (.val (.mov (.tmp 8))), none⟩,
        ⟨(some 5), (.val (.mov (.tmp 10))), none⟩])
      (.seq
       (.region [⟨(some 11), (.val (.mov (.tmp 1))), none⟩,
         ⟨(some 12), (.val (.mov (.tmp 0))), none⟩,
         ⟨(some 13), (.val (.mov (.tmp 5))), none⟩,
         ⟨(some 14), (.val (.iaddr 1 (.tmp 12) (.tmp 13))), none⟩,
         ⟨(some 15), (.val (.load none (.tmp 14))), none⟩,
         ⟨(some 16), (.val (.eq false (.prim 1) (.tmp 11) (.tmp 15))), none⟩])
       (.cond (.tmp 16)
        (.seq
         (.region [⟨(some 17), (.val (.mov (.tmp 5))), none⟩,
           ⟨(some 4), (.val (.mov (.tmp 17))), none⟩])
         .ret)
        .skip))))
    (.region [⟨(some 18), (.val (.bin .add (.tmp 8) (.const (.int .i64 1)))), none⟩,
      ⟨(some 8), (.val (.mov (.tmp 18))), none⟩]))))
def F_slices_Index_int : IFun :=
 ⟨19,
 (.seq
  (.region [⟨(some 4), (.val (.mov (.const (.int .i64 0)))), none⟩])
  (.seq
   (.seq
    (.region [⟨(some 6), (.val (.mov (.tmp 0))), none⟩,
      ⟨(some 7), (.val (.len (.tmp 6))), none⟩,
      ⟨(some 8), (.val (.mov (.const (.int .i64 0)))), none⟩])
    (.block 0
     (.loop F_slices_Index_int_l0)))
   (.seq
    (.region [⟨(some 4), (.val (.mov (.const (.int .i64 (-1))))), none⟩])
    .ret))),
 [.tmp 4]⟩
theorem ok27 : cFun Tryd.prog G Tryd.f27 = some F_slices_Index_int := by kernel_rfl

/- internal/stringslite.Index -/
abbrev n_internal_stringslite_Index : Nat := 28
def F_internal_stringslite_Index_l0 : ICode :=
 (.seq
  (.seq
   (.region [⟨(some 57), (.val (.mov (.tmp 8))), none⟩,
     ⟨(some 58), (.val (.mov (.tmp 9))), none⟩,
     ⟨(some 59), (.val (.bin .lss (.tmp 57) (.tmp 58))), none⟩])
   (.cond (.tmp 59)
    .skip
    (.exit 1)))
  (.block 2
   (.seq
    (.seq
     (.region [⟨(some 60), (.val (.mov (.tmp 0))), none⟩,
       ⟨(some 61), (.val (.mov (.tmp 8))), none⟩,
       ⟨(some 62), (.val (.idxstr (.tmp 60) (.tmp 61))), none⟩,
       ⟨(some 63), (.val (.mov (.tmp 6))), none⟩,
       ⟨(some 64), (.val (.eq true (.prim 1) (.tmp 62) (.tmp 63))), none⟩])
     (.cond (.tmp 64)
      (.seq
       (.region [⟨(some 65), (.val (.mov (.tmp 0))), none⟩,
         ⟨(some 66), (.val (.mov (.tmp 8))), none⟩,
         ⟨(some 67), (.val (.bin .add (.tmp 66) (.const (.int .i64 1)))), none⟩,
         ⟨(some 68), (.val (.mov (.tmp 9))), none⟩,
         ⟨(some 69), (.val (.slstr (.tmp 65) (some (.tmp 67)) (some (.tmp 68)))), none⟩,
         ⟨(some 70), (.val (.mov (.tmp 6))), none⟩,
         ⟨(some 71), (.call (.const (.func 26 [] [])) [(.tmp 69), (.tmp 70)]), none⟩,
         ⟨(some 11), (.val (.mov (.tmp 71))), none⟩])
       (.seq
        (.seq
         (.region [⟨(some 72), (.val (.mov (.tmp 11))), none⟩,
           ⟨(some 73), (.val (.bin .lss (.tmp 72) (.const (.int .i64 0)))), none⟩])
         (.cond (.tmp 73)
          (.seq
           (.region [⟨(some 4), (.val (.mov (.const (.int .i64 (-1))))), none⟩])
           .ret)
          .skip))
        (.region [⟨(some 74), (.val (.mov (.tmp 8))), none⟩,
          ⟨(some 75), (.val (.mov (.tmp 11))), none⟩,
          ⟨(some 76), (.val (.bin .add (.tmp 75) (.const (.int .i64 1)))), none⟩,
          ⟨(some 77), (.val (.bin .add (.tmp 74) (.tmp 76))), none⟩,
          ⟨(some 8), (.val (.mov (.tmp 77))), none⟩])))
      .skip))
    (.seq
     (.seq
      (.region [⟨(some 78), (.val (.mov (.tmp 0))), none⟩,
        ⟨(some 79), (.val (.mov (.tmp 8))), none⟩,
        ⟨(some 80), (.val (.bin .add (.tmp 79) (.const (.int .i64 1)))), none⟩,
        ⟨(some 81), (.val (.idxstr (.tmp 78) (.tmp 80))), none⟩,
        ⟨(some 82), (.val (.mov (.tmp 7))), none⟩,
        ⟨(some 83), (.val (.eq false (.prim 1) (.tmp 81) (.tmp 82))), none⟩,
        ⟨(some 84), (.val (.mov (.tmp 83))), none⟩,
        ⟨(some 85), (.val (.mov (.tmp 0))), (some (84, true))⟩,
        ⟨(some 86), (.val (.mov (.tmp 8))), (some (84, true))⟩,
        ⟨(some 87), (.val (.mov (.tmp 8))), (some (84, true))⟩,
        ⟨(some 88), (.val (.mov (.tmp 5))), (some (84, true))⟩,
        ⟨(some 89), (.val (.bin .add (.tmp 87) (.tmp 88))), (some (84, true))⟩,
        ⟨(some 90), (.val (.slstr (.tmp 85) (some (.tmp 86)) (some (.tmp 89)))), (some (84, true))⟩,
        ⟨(some 91), (.val (.mov (.tmp 1))), (some (84, true))⟩,
        ⟨(some 92), (.val (.eq false (.prim 2) (.tmp 90) (.tmp 91))), (some (84, true))⟩,
        ⟨(some 93), (.val (.pick (.tmp 84) (.tmp 92) (.const (.bool false)))), none⟩])
      (.cond (.tmp 93)
       (.seq
        (.region [⟨(some 94), (.val (.mov (.tmp 8))), none⟩,
          ⟨(some 4), (.val (.mov (.tmp 94))), none⟩])
        .ret)
       .skip))
     (.seq
      (.region [⟨(some 95), (.val (.mov (.tmp 8))), none⟩,
        ⟨(some 96), (.val (.bin .add (.tmp 95) (.const (.int .i64 1)))), none⟩,
        ⟨(some 8), (.val (.mov (.tmp 96))), none⟩])
      (.seq
       (.region [⟨(some 97), (.val (.mov (.tmp 10))), none⟩,
         ⟨(some 98), (.val (.bin .add (.tmp 97) (.const (.int .i64 1)))), none⟩,
         ⟨(some 10), (.val (.mov (.tmp 98))), none⟩])
       (.seq
        (.region [⟨(some 99), (.val (.mov (.tmp 5))), none⟩,
          ⟨(some 100), (.val (.load none (.const (.ptr 2 0)))), none⟩,
          ⟨(some 101), (.val (.bin .leq (.tmp 99) (.tmp 100))), none⟩,
          ⟨(some 102), (.val (.mov (.tmp 101))), none⟩,
          ⟨(some 103), (.val (.mov (.tmp 10))), (some (102, true))⟩,
          ⟨(some 104), (.val (.mov (.tmp 8))), (some (102, true))⟩,
          ⟨(some 105), (.call (.const (.func 31 [] [])) [(.tmp 104)]), (some (102, true))⟩,
          ⟨(some 106), (.val (.bin .gtr (.tmp 103) (.tmp 105))), (some (102, true))⟩,
          ⟨(some 107), (.val (.pick (.tmp 102) (.tmp 106) (.const (.bool false)))), none⟩])
        (.cond (.tmp 107)
         (.seq
          (.region [⟨(some 108), (.val (.mov (.tmp 0))), none⟩,
            ⟨(some 109), (.val (.mov (.tmp 8))), none⟩,
            ⟨(some 110), (.val (.slstr (.tmp 108) (some (.tmp 109)) none)), none⟩,
            ⟨(some 111), (.val (.mov (.tmp 1))), none⟩,
            ⟨(some 112), (.call (.const (.func 30 [] [])) [(.tmp 110), (.tmp 111)]), none⟩,
            ⟨(some 12), (.val (.mov (.tmp 112))), none⟩])
          (.seq
           (.seq
            (.region [⟨(some 113), (.val (.mov (.tmp 12))), none⟩,
              ⟨(some 114), (.val (.bin .geq (.tmp 113) (.const (.int .i64 0)))), none⟩])
            (.cond (.tmp 114)
             (.seq
              (.region [⟨(some 115), (.val (.mov (.tmp 12))), none⟩,
                ⟨(some 116), (.val (.mov (.tmp 8))), none⟩,
                ⟨(some 117), (.val (.bin .add (.tmp 115) (.tmp 116))), none⟩,
                ⟨(some 4), (.val (.mov (.tmp 117))), none⟩])
              .ret)
             .skip))
           (.seq
            (.region [⟨(some 4), (.val (.mov (.const (.int .i64 (-1))))), none⟩])
            .ret)))
         (.seq
          (.region [⟨(some 118), (.val (.mov (.tmp 5))), none⟩,
            ⟨(some 119), (.val (.load none (.const (.ptr 2 0)))), none⟩,
            ⟨(some 120), (.val (.bin .gtr (.tmp 118) (.tmp 119))), none⟩,
            ⟨(some 121), (.val (.mov (.tmp 120))), none⟩,
            ⟨(some 122), (.val (.mov (.tmp 10))), (some (121, true))⟩,
            ⟨(some 123), (.val (.mov (.tmp 8))), (some (121, true))⟩,
            ⟨(some 124), (.val (.bin .shr (.tmp 123) (.const (.int .u64 4)))), (some (121, true))⟩,
            ⟨(some 125), (.val (.bin .add (.const (.int .i64 4)) (.tmp 124))), (some (121, true))⟩,
            ⟨(some 126), (.val (.bin .geq (.tmp 122) (.tmp 125))), (some (121, true))⟩,
            ⟨(some 127), (.val (.pick (.tmp 121) (.tmp 126) (.const (.bool false)))), none⟩,
            ⟨(some 128), (.val (.mov (.tmp 127))), none⟩,
            ⟨(some 129), (.val (.mov (.tmp 8))), (some (128, true))⟩,
            ⟨(some 130), (.val (.mov (.tmp 9))), (some (128, true))⟩,
            ⟨(some 131), (.val (.bin .lss (.tmp 129) (.tmp 130))), (some (128, true))⟩,
            ⟨(some 132), (.val (.pick (.tmp 128) (.tmp 131) (.const (.bool false)))), none⟩])
          (.cond (.tmp 132)
           (.seq
            (.region [⟨(some 133), (.val (.mov (.tmp 0))), none⟩,
              ⟨(some 134), (.val (.mov (.tmp 8))), none⟩,
              ⟨(some 135), (.val (.slstr (.tmp 133) (some (.tmp 134)) none)), none⟩,
              ⟨(some 136), (.val (.mov (.tmp 1))), none⟩,
              ⟨(some 137), (.call (.const (.func 32 [] [])) [(.tmp 135), (.tmp 136)]), none⟩,
              ⟨(some 13), (.val (.mov (.tmp 137))), none⟩])
            (.seq
             (.seq
              (.region [⟨(some 138), (.val (.mov (.tmp 13))), none⟩,
                ⟨(some 139), (.val (.bin .lss (.tmp 138) (.const (.int .i64 0)))), none⟩])
              (.cond (.tmp 139)
               (.seq
                (.region [⟨(some 4), (.val (.mov (.const (.int .i64 (-1))))), none⟩])
                .ret)
               .skip))
             (.seq
              (.region [⟨(some 140), (.val (.mov (.tmp 8))), none⟩,
                ⟨(some 141), (.val (.mov (.tmp 13))), none⟩,
                ⟨(some 142), (.val (.bin .add (.tmp 140) (.tmp 141))), none⟩,
                ⟨(some 4), (.val (.mov (.tmp 142))), none⟩])
              .ret)))
           .skip))))))))))
def F_internal_stringslite_Index : IFun :=
 ⟨143,
 (.seq
  (.region [⟨(some 4), (.val (.mov (.const (.int .i64 0)))), none⟩])
  (.seq
   (.region [⟨(some 14), (.val (.mov (.tmp 1))), none⟩,
     ⟨(some 15), (.val (.lenstr (.tmp 14))), none⟩,
     ⟨(some 5), (.val (.mov (.tmp 15))), none⟩])
   (.seq
    (.block 0
     (.seq
      (.region [⟨(some 17), (.val (.mov (.tmp 5))), none⟩,
        ⟨(some 18), (.val (.eq false (.prim 1) (.tmp 17) (.const (.int .i64 0)))), none⟩,
        ⟨(some 19), (.val (.mov (.tmp 18))), none⟩,
        ⟨(some 20), (.val (.mov (.tmp 1))), (some (19, false))⟩,
        ⟨(some 21), (.val (.mov (.tmp 0))), (some (19, false))⟩,
        ⟨(some 22), (.val (.eq false (.prim 2) (.tmp 20) (.tmp 21))), (some (19, false))⟩,
        ⟨(some 23), (.val (.pick (.tmp 19) (.const (.bool true)) (.tmp 22))), none⟩,
        ⟨(some 16), (.val (.mov (.tmp 23))), none⟩])
      (.cond (.tmp 16)
       (.seq
        (.region [⟨(some 4), (.val (.mov (.const (.int .i64 0)))), none⟩])
        .ret)
       (.seq
        (.region [⟨(some 25), (.val (.mov (.tmp 5))), none⟩,
          ⟨(some 26), (.val (.eq false (.prim 1) (.tmp 25) (.const (.int .i64 1)))), none⟩,
          ⟨(some 24), (.val (.mov (.tmp 26))), none⟩])
        (.cond (.tmp 24)
         (.seq
          (.region [⟨(some 27), (.val (.mov (.tmp 0))), none⟩,
            ⟨(some 28), (.val (.mov (.tmp 1))), none⟩,
            ⟨(some 29), (.val (.idxstr (.tmp 28) (.const (.int .i64 0)))), none⟩,
            ⟨(some 30), (.call (.const (.func 26 [] [])) [(.tmp 27), (.tmp 29)]), none⟩,
            ⟨(some 4), (.val (.mov (.tmp 30))), none⟩])
          .ret)
         (.seq
          (.region [⟨(some 32), (.val (.mov (.tmp 5))), none⟩,
            ⟨(some 33), (.val (.mov (.tmp 0))), none⟩,
            ⟨(some 34), (.val (.lenstr (.tmp 33))), none⟩,
            ⟨(some 35), (.val (.bin .geq (.tmp 32) (.tmp 34))), none⟩,
            ⟨(some 31), (.val (.mov (.tmp 35))), none⟩])
          (.cond (.tmp 31)
           (.seq
            (.region [⟨(some 4), (.val (.mov (.const (.int .i64 (-1))))), none⟩])
            .ret)
           (.seq
            (.region [⟨(some 37), (.val (.mov (.tmp 5))), none⟩,
              ⟨(some 38), (.val (.load none (.const (.ptr 2 0)))), none⟩,
              ⟨(some 39), (.val (.bin .leq (.tmp 37) (.tmp 38))), none⟩,
              ⟨(some 40), (.val (.mov (.tmp 39))), none⟩,
              ⟨(some 41), (.val (.mov (.tmp 0))), (some (40, true))⟩,
              ⟨(some 42), (.val (.lenstr (.tmp 41))), (some (40, true))⟩,
              ⟨(some 43), (.val (.bin .leq (.tmp 42) (.const (.int .i64 64)))), (some (40, true))⟩,
              ⟨(some 44), (.val (.pick (.tmp 40) (.tmp 43) (.const (.bool false)))), none⟩,
              ⟨(some 36), (.val (.mov (.tmp 44))), none⟩])
            (.cond (.tmp 36)
             (.seq
              (.region [⟨(some 45), (.val (.mov (.tmp 0))), none⟩,
                ⟨(some 46), (.val (.mov (.tmp 1))), none⟩,
                ⟨(some 47), (.call (.const (.func 30 [] [])) [(.tmp 45), (.tmp 46)]), none⟩,
                ⟨(some 4), (.val (.mov (.tmp 47))), none⟩])
              .ret)
             .skip)))))))))
    (.seq
     (.region [⟨(some 48), (.val (.mov (.tmp 1))), none⟩,
       ⟨(some 49), (.val (.idxstr (.tmp 48) (.const (.int .i64 0)))), none⟩,
       ⟨(some 6), (.val (.mov (.tmp 49))), none⟩])
     (.seq
      (.region [⟨(some 50), (.val (.mov (.tmp 1))), none⟩,
        ⟨(some 51), (.val (.idxstr (.tmp 50) (.const (.int .i64 1)))), none⟩,
        ⟨(some 7), (.val (.mov (.tmp 51))), none⟩])
      (.seq
       (.region [⟨(some 8), (.val (.mov (.const (.int .i64 0)))), none⟩])
       (.seq
        (.region [⟨(some 52), (.val (.mov (.tmp 0))), none⟩,
          ⟨(some 53), (.val (.lenstr (.tmp 52))), none⟩,
          ⟨(some 54), (.val (.mov (.tmp 5))), none⟩,
          ⟨(some 55), (.val (.bin .sub (.tmp 53) (.tmp 54))), none⟩,
          ⟨(some 56), (.val (.bin .add (.tmp 55) (.const (.int .i64 1)))), none⟩,
          ⟨(some 9), (.val (.mov (.tmp 56))), none⟩])
        (.seq
         (.region [⟨(some 10), (.val (.mov (.const (.int .i64 0)))), none⟩])
         (.seq
          (.block 1
           (.loop F_internal_stringslite_Index_l0))
          (.seq
           (.region [⟨(some 4), (.val (.mov (.const (.int .i64 (-1))))), none⟩])
           .ret)))))))))),
 [.tmp 4]⟩
theorem ok28 : cFun Tryd.prog G Tryd.f28 = some F_internal_stringslite_Index := by kernel_rfl

/- internal/bytealg.Cutover -/
abbrev n_internal_bytealg_Cutover : Nat := 31
def F_internal_bytealg_Cutover : IFun :=
 ⟨6,
 (.seq
  (.region [⟨(some 2), (.val (.mov (.const (.int .i64 0)))), none⟩])
  (.seq
   (.region [⟨(some 3), (.val (.mov (.tmp 0))), none⟩,
     ⟨(some 4), (.val (.bin .add (.tmp 3) (.const (.int .i64 16)))), none⟩,
     ⟨(some 5), (.val (.bin .quo (.tmp 4) (.const (.int .i64 8)))), none⟩,
     ⟨(some 2), (.val (.mov (.tmp 5))), none⟩])
   .ret)),
 [.tmp 2]⟩
theorem ok31 : cFun Tryd.prog G Tryd.f31 = some F_internal_bytealg_Cutover := by kernel_rfl

/- internal/bytealg.IndexRabinKarp[string] -/
abbrev n_internal_bytealg_IndexRabinKarp_string : Nat := 32
def F_internal_bytealg_IndexRabinKarp_string_l0 : ICode :=
 (.seq
  (.seq
   (.region [⟨(some 18), (.val (.mov (.tmp 9))), none⟩,
     ⟨(some 19), (.val (.mov (.tmp 7))), none⟩,
     ⟨(some 20), (.val (.bin .lss (.tmp 18) (.tmp 19))), none⟩])
   (.cond (.tmp 20)
    .skip
    (.exit 0)))
  (.seq
   (.block 1
    (.region [⟨(some 23), (.val (.mov (.tmp 8))), none⟩,
      ⟨(some 24), (.val (.bin .mul (.tmp 23) (.const (.int .u32 16777619)))), none⟩,
      ⟨(some 25), (.val (.mov (.tmp 0))), none⟩,
      ⟨(some 26), (.val (.mov (.tmp 9))), none⟩,
      ⟨(some 27), (.val (.idxstr (.tmp 25) (.tmp 26))), none⟩,
      ⟨(some 28), (.val (.conv (.int .u32) (.tmp 27))), none⟩,
      ⟨(some 29), (.val (.bin .add (.tmp 24) (.tmp 28))), none⟩,
      ⟨(some 8), (.val (.mov (.tmp 29))), none⟩]))
   (.region [⟨(some 21), (.val (.mov (.tmp 9))), none⟩,
     ⟨(some 22), (.val (.bin .add (.tmp 21) (.const (.int .i64 1)))), none⟩,
     ⟨(some 9), (.val (.mov (.tmp 22))), none⟩])))
def F_internal_bytealg_IndexRabinKarp_string_l1 : ICode :=
 (.seq
  (.seq
   (.region [⟨(some 41), (.val (.mov (.tmp 10))), none⟩,
     ⟨(some 42), (.val (.mov (.tmp 0))), none⟩,
     ⟨(some 43), (.val (.lenstr (.tmp 42))), none⟩,
     ⟨(some 44), (.val (.bin .lss (.tmp 41) (.tmp 43))), none⟩])
   (.cond (.tmp 44)
    .skip
    (.exit 2)))
  (.block 3
   (.seq
    (.region [⟨(some 45), (.val (.mov (.tmp 8))), none⟩,
      ⟨(some 46), (.val (.bin .mul (.tmp 45) (.const (.int .u32 16777619)))), none⟩,
      ⟨(some 8), (.val (.mov (.tmp 46))), none⟩])
    (.seq
     (.region [⟨(some 47), (.val (.mov (.tmp 8))), none⟩,
       ⟨(some 48), (.val (.mov (.tmp 0))), none⟩,
       ⟨(some 49), (.val (.mov (.tmp 10))), none⟩,
       ⟨(some 50), (.val (.idxstr (.tmp 48) (.tmp 49))), none⟩,
       ⟨(some 51), (.val (.conv (.int .u32) (.tmp 50))), none⟩,
       ⟨(some 52), (.val (.bin .add (.tmp 47) (.tmp 51))), none⟩,
       ⟨(some 8), (.val (.mov (.tmp 52))), none⟩])
     (.seq
      (.region [⟨(some 53), (.val (.mov (.tmp 8))), none⟩,
        ⟨(some 54), (.val (.mov (.tmp 6))), none⟩,
        ⟨(some 55), (.val (.mov (.tmp 0))), none⟩,
        ⟨(some 56), (.val (.mov (.tmp 10))), none⟩,
        ⟨(some 57), (.val (.mov (.tmp 7))), none⟩,
        ⟨(some 58), (.val (.bin .sub (.tmp 56) (.tmp 57))), none⟩,
        ⟨(some 59), (.val (.idxstr (.tmp 55) (.tmp 58))), none⟩,
        ⟨(some 60), (.val (.conv (.int .u32) (.tmp 59))), none⟩,
        ⟨(some 61), (.val (.bin .mul (.tmp 54) (.tmp 60))), none⟩,
        ⟨(some 62), (.val (.bin .sub (.tmp 53) (.tmp 61))), none⟩,
        ⟨(some 8), (.val (.mov (.tmp 62))), none⟩])
      (.seq
       (.region [⟨(some 63), (.val (.mov (.tmp 10))), none⟩,
         ⟨(some 64), (.val (.bin .add (.tmp 63) (.const (.int .i64 1)))), none⟩,
         ⟨(some 10), (.val (.mov (.tmp 64))), none⟩])
       (.seq
        (.region [⟨(some 65), (.val (.mov (.tmp 8))), none⟩,
          ⟨(some 66), (.val (.mov (.tmp 5))), none⟩,
          ⟨(some 67), (.val (.eq false (.prim 1) (.tmp 65) (.tmp 66))), none⟩,
          ⟨(some 68), (.val (.mov (.tmp 67))), none⟩,
          ⟨(some 69), (.val (.mov (.tmp 0))), (some (68, true))⟩,
          ⟨(some 70), (.val (.mov (.tmp 10))), (some (68, true))⟩,
          ⟨(some 71), (.val (.mov (.tmp 7))), (some (68, true))⟩,
          ⟨(some 72), (.val (.bin .sub (.tmp 70) (.tmp 71))), (some (68, true))⟩,
          ⟨(some 73), (.val (.mov (.tmp 10))), (some (68, true))⟩,
          ⟨(some 74), (.val (.slstr (.tmp 69) (some (.tmp 72)) (some (.tmp 73)))), (some (68, true))⟩,
          ⟨(some 75), (.val (.mov (.tmp 1))), (some (68, true))⟩,
          ⟨(some 76), (.val (.eq false (.prim 2) (.tmp 74) (.tmp 75))), (some (68, true))⟩,
          ⟨(some 77), (.val (.pick (.tmp 68) (.tmp 76) (.const (.bool false)))), none⟩])
        (.cond (.tmp 77)
         (.seq
          (.region [⟨(some 78), (.val (.mov (.tmp 10))), none⟩,
            ⟨(some 79), (.val (.mov (.tmp 7))), none⟩,
            ⟨(some 80), (.val (.bin .sub (.tmp 78) (.tmp 79))), none⟩,
            ⟨(some 4), (.val (.mov (.tmp 80))), none⟩])
          .ret)
         .skip))))))))
def F_internal_bytealg_IndexRabinKarp_string : IFun :=
 ⟨81,
 (.seq
  (.region [⟨(some 4), (.val (.mov (.const (.int .i64 0)))), none⟩])
  (.seq
   (.region [⟨(some 12), (.val (.mov (.tmp 1))), none⟩,
     ⟨(some 13), (.call (.const (.func 33 [] [])) [(.tmp 12)]), none⟩,
     ⟨(some 11), (.val (.mov (.tmp 13))), none⟩,
     ⟨(some 14), (.val (.extract (.tmp 11) 0)), none⟩,
     ⟨(some 15), (.val (.extract (.tmp 11) 1)), none⟩,
     ⟨(some 5), (.val (.mov (.tmp 14))), none⟩,
     ⟨(some 6), (.val (.mov (.tmp 15))), none⟩])
   (.seq
    (.region [⟨(some 16), (.val (.mov (.tmp 1))), none⟩,
      ⟨(some 17), (.val (.lenstr (.tmp 16))), none⟩,
      ⟨(some 7), (.val (.mov (.tmp 17))), none⟩])
    (.seq
     (.region [⟨(some 8), (.val (.mov (.const (.int .u32 0)))), none⟩])
     (.seq
      (.seq
       (.region [⟨(some 9), (.val (.mov (.const (.int .i64 0)))), none⟩])
       (.block 0
        (.loop F_internal_bytealg_IndexRabinKarp_string_l0)))
      (.seq
       (.seq
        (.region [⟨(some 30), (.val (.mov (.tmp 8))), none⟩,
          ⟨(some 31), (.val (.mov (.tmp 5))), none⟩,
          ⟨(some 32), (.val (.eq false (.prim 1) (.tmp 30) (.tmp 31))), none⟩,
          ⟨(some 33), (.val (.mov (.tmp 32))), none⟩,
          ⟨(some 34), (.val (.mov (.tmp 0))), (some (33, true))⟩,
          ⟨(some 35), (.val (.mov (.tmp 7))), (some (33, true))⟩,
          ⟨(some 36), (.val (.slstr (.tmp 34) none (some (.tmp 35)))), (some (33, true))⟩,
          ⟨(some 37), (.val (.mov (.tmp 1))), (some (33, true))⟩,
          ⟨(some 38), (.val (.eq false (.prim 2) (.tmp 36) (.tmp 37))), (some (33, true))⟩,
          ⟨(some 39), (.val (.pick (.tmp 33) (.tmp 38) (.const (.bool false)))), none⟩])
        (.cond (.tmp 39)
         (.seq
          (.region [⟨(some 4), (.val (.mov (.const (.int .i64 0)))), none⟩])
          .ret)
         .skip))
       (.seq
        (.seq
         (.region [⟨(some 40), (.val (.mov (.tmp 7))), none⟩,
           ⟨(some 10), (.val (.mov (.tmp 40))), none⟩])
         (.block 2
          (.loop F_internal_bytealg_IndexRabinKarp_string_l1)))
        (.seq
         (.region [⟨(some 4), (.val (.mov (.const (.int .i64 (-1))))), none⟩])
         .ret)))))))),
 [.tmp 4]⟩
theorem ok32 : cFun Tryd.prog G Tryd.f32 = some F_internal_bytealg_IndexRabinKarp_string := by kernel_rfl

/- internal/bytealg.hashStr[string] -/
abbrev n_internal_bytealg_hashStr_string : Nat := 33
def F_internal_bytealg_hashStr_string_l0 : ICode :=
 (.seq
  (.seq
   (.region [⟨(some 9), (.val (.mov (.tmp 5))), none⟩,
     ⟨(some 10), (.val (.mov (.tmp 0))), none⟩,
     ⟨(some 11), (.val (.lenstr (.tmp 10))), none⟩,
     ⟨(some 12), (.val (.bin .lss (.tmp 9) (.tmp 11))), none⟩])
   (.cond (.tmp 12)
    .skip
    (.exit 0)))
  (.seq
   (.block 1
    (.region [⟨(some 15), (.val (.mov (.tmp 4))), none⟩,
      ⟨(some 16), (.val (.bin .mul (.tmp 15) (.const (.int .u32 16777619)))), none⟩,
      ⟨(some 17), (.val (.mov (.tmp 0))), none⟩,
      ⟨(some 18), (.val (.mov (.tmp 5))), none⟩,
      ⟨(some 19), (.val (.idxstr (.tmp 17) (.tmp 18))), none⟩,
      ⟨(some 20), (.val (.conv (.int .u32) (.tmp 19))), none⟩,
      ⟨(some 21), (.val (.bin .add (.tmp 16) (.tmp 20))), none⟩,
      ⟨(some 4), (.val (.mov (.tmp 21))), none⟩]))
   (.region [⟨(some 13), (.val (.mov (.tmp 5))), none⟩,
     ⟨(some 14), (.val (.bin .add (.tmp 13) (.const (.int .i64 1)))), none⟩,
     ⟨(some 5), (.val (.mov (.tmp 14))), none⟩])))
def F_internal_bytealg_hashStr_string_l1 : ICode :=
 (.seq
  (.seq
   (.region [⟨(some 24), (.val (.mov (.tmp 8))), none⟩,
     ⟨(some 25), (.val (.bin .gtr (.tmp 24) (.const (.int .i64 0)))), none⟩])
   (.cond (.tmp 25)
    .skip
    (.exit 2)))
  (.seq
   (.block 3
    (.seq
     (.seq
      (.region [⟨(some 28), (.val (.mov (.tmp 8))), none⟩,
        ⟨(some 29), (.val (.bin .and (.tmp 28) (.const (.int .i64 1)))), none⟩,
        ⟨(some 30), (.val (.eq true (.prim 1) (.tmp 29) (.const (.int .i64 0)))), none⟩])
      (.cond (.tmp 30)
       (.region [⟨(some 31), (.val (.mov (.tmp 6))), none⟩,
         ⟨(some 32), (.val (.mov (.tmp 7))), none⟩,
         ⟨(some 33), (.val (.bin .mul (.tmp 31) (.tmp 32))), none⟩,
         ⟨(some 6), (.val (.mov (.tmp 33))), none⟩])
       .skip))
     (.region [⟨(some 34), (.val (.mov (.tmp 7))), none⟩,
       ⟨(some 35), (.val (.mov (.tmp 7))), none⟩,
       ⟨(some 36), (.val (.bin .mul (.tmp 34) (.tmp 35))), none⟩,
       ⟨(some 7), (.val (.mov (.tmp 36))), none⟩])))
   (.region [⟨(some 26), (.val (.mov (.tmp 8))), none⟩,
     ⟨(some 27), (.val (.bin .shr (.tmp 26) (.const (.int .u64 1)))), none⟩,
     ⟨(some 8), (.val (.mov (.tmp 27))), none⟩])))
def F_internal_bytealg_hashStr_string : IFun :=
 ⟨39,
 (.seq
  (.region [⟨(some 2), (.val (.mov (.const (.int .u32 0)))), none⟩,
    ⟨(some 3), (.val (.mov (.const (.int .u32 0)))), none⟩])
  (.seq
   (.region [⟨(some 4), (.val (.mov (.const (.int .u32 0)))), none⟩])
   (.seq
    (.seq
     (.region [⟨(some 5), (.val (.mov (.const (.int .i64 0)))), none⟩])
     (.block 0
      (.loop F_internal_bytealg_hashStr_string_l0)))
    (.seq
     (.region [⟨(some 6), (.val (.mov (.const (.int .u32 1)))), none⟩,
       ⟨(some 7), (.val (.mov (.const (.int .u32 16777619)))), none⟩])
     (.seq
      (.seq
       (.region [⟨(some 22), (.val (.mov (.tmp 0))), none⟩,
         ⟨(some 23), (.val (.lenstr (.tmp 22))), none⟩,
         ⟨(some 8), (.val (.mov (.tmp 23))), none⟩])
       (.block 2
        (.loop F_internal_bytealg_hashStr_string_l1)))
      (.seq
       (.region [⟨(some 37), (.val (.mov (.tmp 4))), none⟩,
         ⟨(some 38), (.val (.mov (.tmp 6))), none⟩,
         ⟨(some 2), (.val (.mov (.tmp 37))), none⟩,
         ⟨(some 3), (.val (.mov (.tmp 38))), none⟩])
       .ret)))))),
 [.tmp 2, .tmp 3]⟩
theorem ok33 : cFun Tryd.prog G Tryd.f33 = some F_internal_bytealg_hashStr_string := by kernel_rfl

end Go.Proofs.YtfmokmbbfjbonaaDoor.Ev
end
section
namespace Go.Proofs.YtfmokmbbfjbonaaDoor.Ev
open Go Go.RowKit

/-- A run of a law: the machine's call returns, and what was there stands asx it stood. -/
theorem law_calls {P : Program} {G : List Nat} (hmix : P.follows .mixedOrders = true) {T : Nat → Option Ent} (hT : ∀ f e, T f = some e → EntOk P G f e) {k f : Nat} {F : IFun} (hf : T f = some (.go F))
    {args : List EV} {m m' : Mem} {b : Bool} (h : evFun T k f args m = some (.ret (.bool b) m')) {ρ : Ren} {w : World} {args' : Array Value} (hR : R w.heap.size ρ m w) (hG : Globs G ρ)
    (hro : ∀ b L, ρ b = some L → Live m b → L.ro = true) (hv : VRs ρ args args'.toList) : Calls P f args' w fun e w' => e = .returned (.bool b) ∧ Below w.heap.size w w' := by
  cases k with
  | zero => simp [evFun] at h
  | succ k =>
    simp only [evFun, hf, evEnt] at h
    obtain ⟨fn, h1, h2⟩ := hT f _ hf
    obtain ⟨_, hc⟩ := body_sound hmix (evFun_ok hmix hT k) k h1 h2 h hR hG hv
    refine hc.mono fun e w' hp => ?_
    obtain ⟨ρ', v', rfl, hvv, _, hs⟩ := hp
    cases hvv
    refine ⟨rfl, hs.os, hs.tape, hs.output, hs.size, fun i hi => hs.kept i hi ?_⟩
    rintro ⟨b, L, h1, h2, h3, _⟩
    rw [hro b L h1 h2] at h3
    cases h3

/-- Where a call begins that is given no memory: the globals alone, of which nothing is known. -/
def ren0 (n : Nat) : Ren := fun b => if b < n then some ⟨b, 0, 0, 1, true⟩ else none
def mem0 (n : Nat) : Mem := ⟨n, .leaf⟩
theorem mem0_get (n b : Nat) : (mem0 n).get b = .dead := by unfold Mem.get mem0; simp only [Tr.get_leaf]; rfl
/-! ### More fuel -/
def CallLe (c c' : Call) : Prop := ∀ f a m r, c f a m = some r → c' f a m = some r
theorem evCall_le {c c' : Call} (h : CallLe c c') {f : EV} {a : List EV} {m : Mem} {r : Fin} (e : evCall c f a m = some r) : evCall c' f a m = some r := by
  cases f <;> simp only [evCall, reduceCtorEq] at e ⊢
  exact h _ _ _ _ e
theorem evOps_le {c c' : Call} (h : CallLe c c') : ∀ (ops : List IOper) (fr : Fr) (m : Mem) (r : Out), evOps c ops fr m = some r → evOps c' ops fr m = some r
  | [], fr, m, r, e => e
  | o :: ops, fr, m, r, e => by
    simp only [evOps] at e ⊢
    cases hw : wantedE fr o.guard with
    | none => simp [hw] at e
    | some b =>
    cases b with
    | false => simp only [hw] at e ⊢; exact evOps_le h ops _ _ _ e
    | true =>
      simp only [hw] at e ⊢
      cases ho : o.op with
      | val op =>
        simp only [ho] at e ⊢
        cases hv : evOp fr.eval op m with
        | none => simp [hv] at e
        | some q => obtain ⟨v, m1⟩ := q; simp only [hv] at e ⊢; exact evOps_le h ops _ _ _ e
      | call f args =>
        simp only [ho] at e ⊢
        cases hv : evCall c (fr.eval f) (args.map fr.eval) m with
        | none => simp [hv] at e
        | some q =>
          rw [evCall_le h hv]
          cases q with
          | ret v m1 => simp only [hv] at e ⊢; exact evOps_le h ops _ _ _ e
          | pan v m1 => simp only [hv] at e ⊢; exact e
      | panic x => simp only [ho] at e ⊢; exact e
      | defer f args =>
        simp only [ho] at e ⊢
        split at e
        · exact evOps_le h ops _ _ _ e
        · cases e
theorem evDraw_le {c c' : Call} (h : CallLe c c') {chk : List (Nat × Nat)} {B0 : Nat} : ∀ (ops : List IOper) (i : Nat) (fr : Fr) (m : Mem) (sn : List (Nat × Mem)) (se : List Seen) (r : Out), evDraw c chk B0 ops i fr m sn se = some r → evDraw c' chk B0 ops i fr m sn se = some r
  | [], i, fr, m, sn, se, r, e => e
  | o :: ops, i, fr, m, sn, se, r, e => by
    simp only [evDraw] at e ⊢
    cases hw : wantedE fr o.guard with
    | none => simp [hw] at e
    | some b =>
    cases b with
    | false => simp only [hw] at e ⊢; exact evDraw_le h ops _ _ _ _ _ _ e
    | true =>
      simp only [hw] at e ⊢
      cases ho : o.op with
      | panic x => simp [ho] at e
      | defer f x => simp [ho] at e
      | call f args =>
        simp only [ho] at e ⊢
        cases hv : evCall c (fr.eval f) (args.map fr.eval) m with
        | none => simp [hv] at e
        | some q =>
          rw [evCall_le h hv]
          cases q with
          | pan v m1 => simp [hv] at e
          | ret v m1 =>
            simp only [hv] at e ⊢
            cases hk : checkSeen chk i m1 se <;> simp only [hk, cond_true, cond_false, reduceCtorEq] at e ⊢
            exact evDraw_le h ops _ _ _ _ _ _ e
      | val op =>
        simp only [ho] at e ⊢
        split at e
        · cases hv : evOp fr.eval op m with
          | none => simp [hv] at e
          | some q => obtain ⟨v, m1⟩ := q; simp only [hv] at e ⊢; exact evDraw_le h ops _ _ _ _ _ _ e
        · cases hv : evOp fr.eval op ⟨B0 + i, m.tbl⟩ with
          | none => simp [hv] at e
          | some q => obtain ⟨v, m1⟩ := q; simp only [hv] at e ⊢; exact evDraw_le h ops _ _ _ _ _ _ e
        · split at e
          · rename_i agg x _
            cases hl : m.load agg (fr.eval x) with
            | none => simp [hl] at e
            | some v =>
              simp only [hl] at e ⊢
              cases hf : isF (fr.eval x) <;> simp only [hf, cond_true, cond_false] at e ⊢
              · cases hk : checkSnap chk i agg (fr.eval x) v sn <;> simp only [hk, cond_true, cond_false, reduceCtorEq] at e ⊢
                exact evDraw_le h ops _ _ _ _ _ _ e
              · cases hk : checkOld chk i m.next sn <;> simp only [hk, cond_true, cond_false, reduceCtorEq] at e ⊢
                exact evDraw_le h ops _ _ _ _ _ _ e
          · cases e
        · rename_i h0 h1 h2
          cases hv : evOp fr.eval op m with
          | none => simp [hv] at e
          | some q =>
            obtain ⟨v, m1⟩ := q
            simp only [hv] at e ⊢
            cases hk : checkSeen chk i m1 se <;> simp only [hk, cond_true, cond_false, reduceCtorEq] at e ⊢
            exact evDraw_le h ops _ _ _ _ _ _ e
theorem iter_le {b b' : Fr → Mem → Option Out} (h : ∀ fr m r, b fr m = some r → b' fr m = some r) : ∀ (n n' : Nat), n ≤ n' → ∀ (fr : Fr) (m : Mem) (r : Out), iter b n fr m = some r → iter b' n' fr m = some r
  | 0, n', _, fr, m, r, e => by simp [iter] at e
  | n + 1, 0, hn, fr, m, r, e => by omega
  | n + 1, n' + 1, hn, fr, m, r, e => by
    simp only [iter] at e ⊢
    cases hb : b fr m with
    | none => simp [hb] at e
    | some o =>
      rw [h _ _ _ hb]
      simp only [hb] at e
      cases o with
      | norm fr1 m1 => exact iter_le h n n' (by omega) fr1 m1 r e
      | exit id fr1 m1 => exact e
      | ret fr1 m1 => exact e
      | pan v fr1 m1 => exact e
theorem evCode_le {c c' : Call} (h : CallLe c c') {n n' : Nat} (hn : n ≤ n') : ∀ (x : ICode) (fr : Fr) (m : Mem) (r : Out), evCode c n x fr m = some r → evCode c' n' x fr m = some r
  | .skip, fr, m, r, e => e
  | .ret, fr, m, r, e => e
  | .exit id, fr, m, r, e => e
  | .region ops, fr, m, r, e => by simp only [evCode] at e ⊢; exact evOps_le h _ _ _ _ e
  | .draw ops chk, fr, m, r, e => by simp only [evCode] at e ⊢; exact evDraw_le h _ _ _ _ _ _ _ e
  | .seq a b, fr, m, r, e => by
    simp only [evCode] at e ⊢
    cases ha : evCode c n a fr m with
    | none => simp [ha] at e
    | some o =>
      rw [evCode_le h hn a _ _ _ ha]
      simp only [ha] at e
      cases o with
      | norm fr1 m1 => exact evCode_le h hn b _ _ _ e
      | exit id fr1 m1 => exact e
      | ret fr1 m1 => exact e
      | pan v fr1 m1 => exact e
  | .cond x a b, fr, m, r, e => by
    simp only [evCode] at e ⊢
    split at e
    · rename_i t _
      cases t <;> simp only [cond_true, cond_false] at e ⊢
      · exact evCode_le h hn b _ _ _ e
      · exact evCode_le h hn a _ _ _ e
    · cases e
  | .block id a, fr, m, r, e => by
    simp only [evCode] at e ⊢
    cases ha : evCode c n a fr m with
    | none => simp [ha] at e
    | some o =>
      rw [evCode_le h hn a _ _ _ ha]
      simp only [ha] at e
      exact e
  | .loop a, fr, m, r, e => by
    simp only [evCode] at e ⊢
    exact iter_le (fun fr m r => evCode_le h hn a fr m r) n n' hn fr m r e
theorem evBody_le {c c' : Call} (h : CallLe c c') {n n' : Nat} (hn : n ≤ n') {F : IFun} {args : List EV} {m : Mem} {r : Fin} (e : evBody c n F args m = some r) : evBody c' n' F args m = some r := by
  unfold evBody at e ⊢
  cases hl : args.length.ble F.ntmps <;> simp only [hl, cond_true, cond_false, reduceCtorEq] at e ⊢
  cases hc : evCode c n F.body ⟨args0 args 0 .leaf, []⟩ m with
  | none => simp [hc] at e
  | some o =>
    rw [evCode_le h hn _ _ _ _ hc]
    simp only [hc] at e
    exact e
theorem evFun_le (T : Nat → Option Ent) : ∀ (k k' : Nat), k ≤ k' → CallLe (evFun T k) (evFun T k')
  | 0, k', _ => fun f a m r e => by simp [evFun] at e
  | k + 1, 0, h => by omega
  | k + 1, k' + 1, h => fun f a m r e => by
    simp only [evFun] at e ⊢
    cases hT : T f with
    | none => simp [hT] at e
    | some x =>
      simp only [hT] at e ⊢
      cases x with
      | go F => simp only [evEnt] at e ⊢; exact evBody_le (evFun_le T k k' (by omega)) (by omega) e
      | ext g => exact e
      | pure g => exact e
      | spec g => exact e

/-! ### Calls that keep nothing of the memory -/
mutual
/-- It names no block. -/
def Flat : EV → Bool
  | .ptr _ _ | .slice _ _ _ _ | .map _ | .fz _ _ _ | .fptr _ _ _ _ => false
  | .func _ x y => flats x && flats y
  | .iface _ v => Flat v
  | .agg x | .tuple x => flats x
  | _ => true
def flats : List EV → Bool
  | [] => true
  | v :: x => Flat v && flats x
end
mutual
theorem VR.flat {ρ ρ' : Ren} : ∀ {v : EV} {v' : Value}, VR ρ v v' → Flat v = true → VR ρ' v v'
  | _, _, .undef, _ => .undef
  | _, _, .bool b, _ => .bool b
  | _, _, .int k n, _ => .int k n
  | _, _, .str s, _ => .str s
  | _, _, .nilptr, _ => .nilptr
  | _, _, .ptr _, h => by simp [Flat] at h
  | _, _, .nilslice, _ => .nilslice
  | _, _, .slice _ _ _ _, h => by simp [Flat] at h
  | _, _, .sliceC _ _ _, h => by simp [Flat] at h
  | _, _, .sliceE, h => by simp [Flat] at h
  | _, _, .nilmap, _ => .nilmap
  | _, _, .map _, h => by simp [Flat] at h
  | _, _, .nilfunc, _ => .nilfunc
  | _, _, .func hx hy, h => by simp only [Flat, Bool.and_eq_true] at h; exact .func (VRs.flat hx h.1) (VRs.flat hy h.2)
  | _, _, .niliface, _ => .niliface
  | _, _, .iface hv, h => .iface (VR.flat hv (by simpa only [Flat] using h))
  | _, _, .agg hx hf, h => .agg (VRs.flat hx (by simpa only [Flat] using h)) hf
  | _, _, .tuple hx, h => .tuple (VRs.flat hx (by simpa only [Flat] using h))
theorem VRs.flat {ρ ρ' : Ren} : ∀ {x : List EV} {x' : List Value}, VRs ρ x x' → flats x = true → VRs ρ' x x'
  | _, _, .nil, _ => .nil
  | _, _, .cons hv hs, h => by simp only [flats, Bool.and_eq_true] at h; exact .cons (VR.flat hv h.1) (VRs.flat hs h.2)
end
theorem VR.str_any {ρ ρ' : Ren} {s : List UInt8} {v' : Value} (h : VR ρ' (.str s) v') : VR ρ (.str s) v' := by
  generalize hx : EV.str s = x at h
  cases h <;> cases hx
  exact .str _
theorem VR.of_empty {ρ ρ' : Ren} {b off : Nat} {v' : Value} (h : VR ρ' (.slice b off 0 (some 0)) v') : VR ρ (.slice b off 0 (some 0)) v' := by
  cases h with
  | sliceE => exact .sliceE
  | sliceC h' hc ho => exact .sliceE
mutual
/-- What stood for a value stands for it again, if it names what it named. -/
theorem VR.back {ρ ρ' : Ren} (e : Ext ρ ρ') : ∀ {v : EV} {u v' : Value}, VR ρ v u → VR ρ' v v' → VR ρ v v'
  | _, _, _, .undef, h => by cases h; exact .undef
  | _, _, _, .bool _, h => by cases h; exact .bool _
  | _, _, _, .int _ _, h => by cases h; exact .int _ _
  | _, _, _, .str _, h => h.str_any
  | _, _, _, .nilptr, h => by cases h; exact .nilptr
  | _, _, _, .ptr h, h2 => by cases h2 with | ptr h' => have := e _ _ h; rw [h'] at this; cases this; exact .ptr h
  | _, _, _, .nilslice, h => by cases h; exact .nilslice
  | _, _, _, .slice h _ _ _, h2 => by cases h2 with | slice h' hc ho hr => have := e _ _ h; rw [h'] at this; cases this; exact .slice h hc ho hr
  | _, _, _, .sliceC h _ _, h2 => by
    cases h2 with
    | sliceC h' hc ho => have := e _ _ h; rw [h'] at this; cases this; exact .sliceC h hc ho
    | sliceE => exact .sliceE
  | _, _, _, .sliceE, h2 => h2.of_empty
  | _, _, _, .nilmap, h => by cases h; exact .nilmap
  | _, _, _, .map h, h2 => by cases h2 with | map h' => have := e _ _ h; rw [h'] at this; cases this; exact .map h
  | _, _, _, .nilfunc, h => by cases h; exact .nilfunc
  | _, _, _, .func hx hy, h2 => by cases h2 with | func hx' hy' => exact .func (VRs.back e hx hx') (VRs.back e hy hy')
  | _, _, _, .niliface, h => by cases h; exact .niliface
  | _, _, _, .iface h, h2 => by cases h2 with | iface h' => exact .iface (VR.back e h h')
  | _, _, _, .agg h _, h2 => by cases h2 with | agg h' hf => exact .agg (VRs.back e h h') hf
  | _, _, _, .tuple h, h2 => by cases h2 with | tuple h' => exact .tuple (VRs.back e h h')
theorem VRs.back {ρ ρ' : Ren} (e : Ext ρ ρ') : ∀ {x : List EV} {u v : List Value}, VRs ρ x u → VRs ρ' x v → VRs ρ x v
  | _, _, _, .nil, h => by cases h; exact .nil
  | _, _, _, .cons h hs, h2 => by cases h2 with | cons h' hs' => exact .cons (VR.back e h h') (VRs.back e hs hs')
end
/-- A call that leaves all asx it was, and tells what names no block: what it made is forgotten. -/
def lookG (g : List EV → Mem → Option EV) : List EV → Mem → Option Fin := fun args m => (g args m).map fun v => .ret v m
/-- A table with one entry more. -/
def up (T : Nat → Option Ent) (f : Nat) (e : Ent) : Nat → Option Ent := fun g => bif g.beq f then some e else T g
end Go.Proofs.YtfmokmbbfjbonaaDoor.Ev
end
section
namespace Go.Proofs.YtfmokmbbfjbonaaDoor.Ev
open Go

open Classical in
noncomputable def lim {α : Type} (g : Nat → Option α) : Option α := if h : ∃ r, ∃ k, g k = some r then some (Classical.choose h) else none
def Mono {α : Type} (g : Nat → Option α) : Prop := ∀ k k' r, k ≤ k' → g k = some r → g k' = some r
theorem Mono.uniq {α : Type} {g : Nat → Option α} (h : Mono g) {k k' : Nat} {r r' : α} (e : g k = some r) (e' : g k' = some r') : r = r' := by
  have h1 := h k (max k k') r (Nat.le_max_left _ _) e
  have h2 := h k' (max k k') r' (Nat.le_max_right _ _) e'
  rw [h1] at h2; cases h2; rfl
theorem lim_iff {α : Type} {g : Nat → Option α} (h : Mono g) {r : α} : lim g = some r ↔ ∃ k, g k = some r := by
  unfold lim
  constructor
  · intro e
    split at e
    · rename_i hx
      cases e
      exact Classical.choose_spec hx
    · cases e
  · rintro ⟨k, hk⟩
    have hx : ∃ r, ∃ k, g k = some r := ⟨r, k, hk⟩
    rw [dif_pos hx]
    obtain ⟨k', hk'⟩ := Classical.choose_spec hx
    rw [h.uniq hk hk']
theorem opt_ext {α : Type} {a b : Option α} (h : ∀ r, a = some r ↔ b = some r) : a = b := by
  cases b with
  | some y => exact (h y).2 rfl
  | none =>
    cases a with
    | none => rfl
    | some x => exact absurd ((h x).1 rfl) (by simp)

section
variable (T : Nat → Option Ent)
noncomputable def run (f : Nat) (args : List EV) (m : Mem) : Option Fin := lim fun k => evFun T k f args m
noncomputable def exec (c : ICode) (fr : Fr) (m : Mem) : Option Out := lim fun k => evCode (evFun T k) k c fr m
noncomputable def oprs (l : List IOper) (fr : Fr) (m : Mem) : Option Out := lim fun k => evOps (evFun T k) l fr m
noncomputable def drw (chk : List (Nat × Nat)) (B0 : Nat) (l : List IOper) (i : Nat) (fr : Fr) (m : Mem) (sn : List (Nat × Mem)) (se : List Seen) : Option Out := lim fun k => evDraw (evFun T k) chk B0 l i fr m sn se
end
section
variable {T : Nat → Option Ent}
theorem mono_run {f : Nat} {args : List EV} {m : Mem} : Mono fun k => evFun T k f args m := fun k k' _ h e => evFun_le T k k' h _ _ _ _ e
theorem mono_exec {c : ICode} {fr : Fr} {m : Mem} : Mono fun k => evCode (evFun T k) k c fr m := fun k k' _ h e => evCode_le (evFun_le T k k' h) h _ _ _ _ e
theorem mono_oprs {l : List IOper} {fr : Fr} {m : Mem} : Mono fun k => evOps (evFun T k) l fr m := fun k k' _ h e => evOps_le (evFun_le T k k' h) _ _ _ _ e
theorem mono_drw {chk : List (Nat × Nat)} {B0 : Nat} {l : List IOper} {i : Nat} {fr : Fr} {m : Mem} {sn : List (Nat × Mem)} {se : List Seen} : Mono fun k => evDraw (evFun T k) chk B0 l i fr m sn se := fun k k' _ h e => evDraw_le (evFun_le T k k' h) _ _ _ _ _ _ _ e
theorem run_iff {f : Nat} {args : List EV} {m : Mem} {r : Fin} : run T f args m = some r ↔ ∃ k, evFun T k f args m = some r := lim_iff mono_run
theorem exec_iff {c : ICode} {fr : Fr} {m : Mem} {r : Out} : exec T c fr m = some r ↔ ∃ k, evCode (evFun T k) k c fr m = some r := lim_iff mono_exec
theorem oprs_iff {l : List IOper} {fr : Fr} {m : Mem} {r : Out} : oprs T l fr m = some r ↔ ∃ k, evOps (evFun T k) l fr m = some r := lim_iff mono_oprs
theorem drw_iff {chk : List (Nat × Nat)} {B0 : Nat} {l : List IOper} {i : Nat} {fr : Fr} {m : Mem} {sn : List (Nat × Mem)} {se : List Seen} {r : Out} : drw T chk B0 l i fr m sn se = some r ↔ ∃ k, evDraw (evFun T k) chk B0 l i fr m sn se = some r := lim_iff mono_drw

/-! ### Code -/
theorem exec_skip {fr : Fr} {m : Mem} : exec T .skip fr m = some (.norm fr m) := exec_iff.2 ⟨0, rfl⟩
theorem exec_ret {fr : Fr} {m : Mem} : exec T .ret fr m = some (.ret fr m) := exec_iff.2 ⟨0, rfl⟩
theorem exec_exit {id : Nat} {fr : Fr} {m : Mem} : exec T (.exit id) fr m = some (.exit id fr m) := exec_iff.2 ⟨0, rfl⟩
theorem exec_region {l : List IOper} {fr : Fr} {m : Mem} : exec T (.region l) fr m = oprs T l fr m := rfl
theorem exec_draw {l : List IOper} {chk : List (Nat × Nat)} {fr : Fr} {m : Mem} : exec T (.draw l chk) fr m = drw T chk m.next l 0 fr ⟨m.next + l.length, m.tbl⟩ [] [] := rfl
/-- What follows a piece of code that ended. -/
def thenE (o : Option Out) (k : Fr → Mem → Option Out) : Option Out := match o with
  | some (.norm fr m) => k fr m
  | o => o
theorem exec_seq {a b : ICode} {fr : Fr} {m : Mem} : exec T (.seq a b) fr m = thenE (exec T a fr m) (exec T b) := by
  refine opt_ext fun r => ?_
  rw [exec_iff]
  constructor
  · rintro ⟨k, h⟩
    simp only [evCode] at h
    cases ha : evCode (evFun T k) k a fr m with
    | none => simp [ha] at h
    | some o =>
      rw [exec_iff.2 ⟨k, ha⟩]
      simp only [ha] at h
      cases o with
      | norm fr1 m1 => exact exec_iff.2 ⟨k, h⟩
      | exit id fr1 m1 => exact h
      | ret fr1 m1 => exact h
      | pan v fr1 m1 => exact h
  · intro h
    cases ha : exec T a fr m with
    | none => simp [ha, thenE] at h
    | some o =>
      obtain ⟨k1, h1⟩ := exec_iff.1 ha
      simp only [ha, thenE] at h
      cases o with
      | norm fr1 m1 =>
        obtain ⟨k2, h2⟩ := exec_iff.1 h
        refine ⟨max k1 k2, ?_⟩
        simp only [evCode]
        have e1 := mono_exec _ _ _ (Nat.le_max_left k1 k2) h1
        have e2 := mono_exec _ _ _ (Nat.le_max_right k1 k2) h2
        simp only at e1 e2
        rw [e1]; exact e2
      | exit id fr1 m1 => refine ⟨k1, ?_⟩; simp only [evCode, h1]; exact h
      | ret fr1 m1 => refine ⟨k1, ?_⟩; simp only [evCode, h1]; exact h
      | pan v fr1 m1 => refine ⟨k1, ?_⟩; simp only [evCode, h1]; exact h
theorem exec_cond {c : Opd} {a b : ICode} {fr : Fr} {m : Mem} {t : Bool} (h : fr.eval c = .bool t) : exec T (.cond c a b) fr m = bif t then exec T a fr m else exec T b fr m := by
  refine opt_ext fun r => ?_
  rw [exec_iff]
  simp only [evCode, h]
  cases t
  · simp only [cond_false]; exact exec_iff.symm
  · simp only [cond_true]; exact exec_iff.symm
def leaveE (id : Nat) (o : Option Out) : Option Out := match o with
  | some (.exit j fr m) => bif j.beq id then some (.norm fr m) else some (.exit j fr m)
  | o => o
theorem exec_block {id : Nat} {a : ICode} {fr : Fr} {m : Mem} : exec T (.block id a) fr m = leaveE id (exec T a fr m) := by
  refine opt_ext fun r => ?_
  rw [exec_iff]
  constructor
  · rintro ⟨k, h⟩
    simp only [evCode] at h
    cases ha : evCode (evFun T k) k a fr m with
    | none => simp [ha] at h
    | some o => rw [exec_iff.2 ⟨k, ha⟩]; rw [ha] at h; exact h
  · intro h
    cases ha : exec T a fr m with
    | none => simp [ha, leaveE] at h
    | some o =>
      obtain ⟨k1, h1⟩ := exec_iff.1 ha
      rw [ha] at h
      refine ⟨k1, ?_⟩; simp only [evCode, h1]; exact h
theorem exec_loop {a : ICode} {fr : Fr} {m : Mem} : exec T (.loop a) fr m = thenE (exec T a fr m) (exec T (.loop a)) := by
  refine opt_ext fun r => ?_
  rw [exec_iff]
  constructor
  · rintro ⟨k, h⟩
    simp only [evCode] at h
    cases k with
    | zero => simp [iter] at h
    | succ k =>
      have h' : (match evCode (evFun T (k + 1)) (k + 1) a fr m with | some (.norm fr m) => iter (evCode (evFun T (k + 1)) (k + 1) a) k fr m | o => o) = some r := by
        rw [← h]; rfl
      cases ha : evCode (evFun T (k + 1)) (k + 1) a fr m with
      | none => simp [ha] at h'
      | some o =>
        rw [exec_iff.2 ⟨k + 1, ha⟩]
        simp only [ha] at h'
        cases o with
        | norm fr1 m1 =>
          refine exec_iff.2 ⟨k + 1, ?_⟩
          simp only [evCode]
          exact iter_le (fun fr m r e => e) k (k + 1) (by omega) _ _ _ h'
        | exit id fr1 m1 => exact h'
        | ret fr1 m1 => exact h'
        | pan v fr1 m1 => exact h'
  · intro h
    cases ha : exec T a fr m with
    | none => simp [ha, thenE] at h
    | some o =>
      obtain ⟨k1, h1⟩ := exec_iff.1 ha
      simp only [ha, thenE] at h
      have key : ∀ k2, (∀ r1, iter (evCode (evFun T k2) k2 a) k2 fr m = some r1 → True) → True := fun _ _ => trivial
      cases o with
      | norm fr1 m1 =>
        obtain ⟨k2, h2⟩ := exec_iff.1 h
        simp only [evCode] at h2
        refine ⟨max k1 k2 + 1, ?_⟩
        have e1 := mono_exec _ _ _ (show k1 ≤ max k1 k2 + 1 by omega) h1
        simp only at e1
        simp only [evCode, iter, e1]
        exact iter_le (fun fr m r e => evCode_le (evFun_le T k2 (max k1 k2 + 1) (by omega)) (by omega) a fr m r e) k2 (max k1 k2) (by omega) _ _ _ h2
      | exit id fr1 m1 =>
        refine ⟨k1 + 1, ?_⟩
        have e1 := mono_exec _ _ _ (show k1 ≤ k1 + 1 by omega) h1
        simp only at e1
        simp only [evCode, iter, e1]; exact h
      | ret fr1 m1 =>
        refine ⟨k1 + 1, ?_⟩
        have e1 := mono_exec _ _ _ (show k1 ≤ k1 + 1 by omega) h1
        simp only at e1
        simp only [evCode, iter, e1]; exact h
      | pan v fr1 m1 =>
        refine ⟨k1 + 1, ?_⟩
        have e1 := mono_exec _ _ _ (show k1 ≤ k1 + 1 by omega) h1
        simp only at e1
        simp only [evCode, iter, e1]; exact h

/-! ### Operations -/
theorem oprs_nil {fr : Fr} {m : Mem} : oprs T [] fr m = some (.norm fr m) := oprs_iff.2 ⟨0, rfl⟩
/-- What follows an operation that told a value. -/
def thenV (o : Option R1) (k : EV → Mem → Option Out) : Option Out := match o with
  | some (.val v m) => k v m
  | none => none
def thenC (o : Option Fin) (fr : Fr) (k : EV → Mem → Option Out) : Option Out := match o with
  | some (.ret v m) => k v m
  | some (.pan v m) => some (.pan v fr m)
  | none => none
theorem oprs_val {d : Option Nat} {op : IOp} {l : List IOper} {fr : Fr} {m : Mem} : oprs T (⟨d, .val op, none⟩ :: l) fr m = thenV (evOp fr.eval op m) fun v m => oprs T l (fr.put d v) m := by
  refine opt_ext fun r => ?_
  rw [oprs_iff]
  simp only [evOps, wantedE]
  cases h : evOp fr.eval op m with
  | none => simp [thenV]
  | some q => obtain ⟨v, m1⟩ := q; simp only [thenV]; exact oprs_iff.symm
theorem oprs_guard {d : Option Nat} {op : XOp} {t : Nat} {w : Bool} {l : List IOper} {fr : Fr} {m : Mem} {b : Bool} (h : fr.get t = .bool b) :
    oprs T (⟨d, op, some (t, w)⟩ :: l) fr m = bif b == w then oprs T (⟨d, op, none⟩ :: l) fr m else oprs T l (fr.put d .undef) m := by
  refine opt_ext fun r => ?_
  rw [oprs_iff]
  simp only [evOps, wantedE, h]
  cases hb : b == w
  · simp only [cond_false]; exact oprs_iff.symm
  · simp only [cond_true]
    rw [oprs_iff]
    simp only [evOps, wantedE]
theorem oprs_panic {d : Option Nat} {x : Opd} {l : List IOper} {fr : Fr} {m : Mem} {t : Nat} {v : EV} (h : fr.eval x = .iface t v) : oprs T (⟨d, .panic x, none⟩ :: l) fr m = some (.pan (.iface t v) fr m) := by
  refine oprs_iff.2 ⟨0, ?_⟩
  simp only [evOps, wantedE, h]

/-! ### Calls -/
def resE (F : IFun) (o : Option Out) : Option Fin := match o with
  | some (.norm fr m) | some (.ret fr m) => match fr.defers with
    | [] => (evResults fr m F.results).map fun vs => .ret (one vs) m
    | _ => none
  | some (.pan v fr m) => match fr.defers with
    | [] => some (.pan v m)
    | _ => none
  | _ => none
theorem run_go {f : Nat} {F : IFun} (hf : T f = some (.go F)) {args : List EV} {m : Mem} (hn : args.length ≤ F.ntmps) : run T f args m = resE F (exec T F.body ⟨args0 args 0 .leaf, []⟩ m) := by
  have hb : args.length.ble F.ntmps = true := Nat.ble_eq_true_of_le hn
  refine opt_ext fun r => ?_
  rw [run_iff]
  constructor
  · rintro ⟨k, h⟩
    cases k with
    | zero => simp [evFun] at h
    | succ k =>
      simp only [evFun, hf, evEnt, evBody, hb, cond_true] at h
      cases hc : evCode (evFun T k) k F.body ⟨args0 args 0 .leaf, []⟩ m with
      | none => simp [hc] at h
      | some o =>
        rw [exec_iff.2 ⟨k, hc⟩]
        simp only [hc] at h
        cases o <;> exact h
  · intro h
    cases hc : exec T F.body ⟨args0 args 0 .leaf, []⟩ m with
    | none => simp [hc, resE] at h
    | some o =>
      obtain ⟨k, hk⟩ := exec_iff.1 hc
      rw [hc] at h
      refine ⟨k + 1, ?_⟩
      simp only [evFun, hf, evEnt, evBody, hb, cond_true, hk]
      cases o <;> exact h
theorem run_ext {f : Nat} {g : List EV → Option EV} (hf : T f = some (.ext g)) {args : List EV} {m : Mem} : run T f args m = (g args).map fun v => .ret v m := by
  refine opt_ext fun r => ?_
  rw [run_iff]
  constructor
  · rintro ⟨k, h⟩
    cases k with
    | zero => simp [evFun] at h
    | succ k => simpa only [evFun, hf, evEnt] using h
  · intro h; exact ⟨1, by simpa only [evFun, hf, evEnt] using h⟩
theorem run_spec {f : Nat} {g : List EV → Mem → Option Fin} (hf : T f = some (.spec g)) {args : List EV} {m : Mem} : run T f args m = g args m := by
  refine opt_ext fun r => ?_
  rw [run_iff]
  constructor
  · rintro ⟨k, h⟩
    cases k with
    | zero => simp [evFun] at h
    | succ k => simpa only [evFun, hf, evEnt] using h
  · intro h; exact ⟨1, by simpa only [evFun, hf, evEnt] using h⟩
theorem run_pure {f : Nat} {g : List EV → Option EV} (hf : T f = some (.pure g)) {args : List EV} {m : Mem} : run T f args m = (g args).map fun v => .ret v m := by
  refine opt_ext fun r => ?_
  rw [run_iff]
  constructor
  · rintro ⟨k, h⟩
    cases k with
    | zero => simp [evFun] at h
    | succ k => simpa only [evFun, hf, evEnt] using h
  · intro h; exact ⟨1, by simpa only [evFun, hf, evEnt] using h⟩
end
end Go.Proofs.YtfmokmbbfjbonaaDoor.Ev
end
section
namespace Go.Proofs.YtfmokmbbfjbonaaDoor.Ev
open Go

/-- A frame in which nothing stands. -/
def fr00 : Fr := ⟨.leaf, []⟩
theorem fr00_get (t : Nat) : fr00.get t = .undef := by unfold Fr.get fr00; simp only [Tr.get_leaf]; rfl
theorem fr00_defers : fr00.defers = [] := rfl
def selE (b : Bool) (v r : EV) : EV := bif b then v else r
@[congr] theorem selE_congr {b b' : Bool} {v r : EV} (h : b = b') : selE b v r = selE b' v r := by rw [h]
theorem selE_t {v r : EV} : selE true v r = v := rfl
theorem get_set' (fr : Fr) (d t : Nat) (v : EV) : (fr.set d v).get t = selE (t == d) v (fr.get t) := by
  rw [Fr.get_set]
  by_cases h : t = d
  · simp [selE, h]
  · simp [selE, h, beq_eq_false_iff_ne.2 h]
theorem selE_f {v r : EV} : selE false v r = r := rfl
def argsF : List EV → Nat → Fr → Fr
  | [], _, fr => fr
  | v :: r, i, fr => argsF r (i + 1) (fr.set i v)
theorem argsF_eq : ∀ (l : List EV) (i : Nat) (t : Tr EV), argsF l i ⟨t, []⟩ = ⟨args0 l i t, []⟩
  | [], i, t => rfl
  | v :: l, i, t => by simp only [argsF, args0, Fr.set]; exact argsF_eq l (i + 1) _
theorem put_some (fr : Fr) (d : Nat) (v : EV) : fr.put (some d) v = fr.set d v := rfl
theorem put_none (fr : Fr) (v : EV) : fr.put none v = fr := rfl
theorem set_defers (fr : Fr) (d : Nat) (v : EV) : (fr.set d v).defers = fr.defers := rfl
theorem eval_tmp (fr : Fr) (t : Nat) : fr.eval (.tmp t) = fr.get t := rfl
theorem eval_const (fr : Fr) (v : EV) : fr.eval (.const v) = v := rfl

/-! ### What tells a value -/
theorem ofEV_some (m : Mem) (v : EV) : ofEV m (some v) = some (.val v m) := rfl
theorem ofEM_some (m : Mem) (v : EV) : ofEM (some (v, m)) = some (.val v m) := rfl
theorem ofM_some (m : Mem) : ofM (some m) = some (.val .undef m) := rfl
@[congr] theorem thenV_congr {o o' : Option R1} {k : EV → Mem → Option Out} (h : o = o') : thenV o k = thenV o' k := by rw [h]
@[congr] theorem thenC_congr {o o' : Option Fin} {fr : Fr} {k : EV → Mem → Option Out} (h : o = o') : thenC o fr k = thenC o' fr k := by rw [h]
@[congr] theorem thenE_congr {o o' : Option Out} {k : Fr → Mem → Option Out} (h : o = o') : thenE o k = thenE o' k := by rw [h]
theorem thenV_some {v : EV} {m : Mem} {k : EV → Mem → Option Out} : thenV (some (.val v m)) k = k v m := rfl
theorem thenC_ret {v : EV} {m : Mem} {fr : Fr} {k : EV → Mem → Option Out} : thenC (some (.ret v m)) fr k = k v m := rfl
theorem thenE_norm {fr : Fr} {m : Mem} {k : Fr → Mem → Option Out} : thenE (some (.norm fr m)) k = k fr m := rfl
theorem thenE_ret {fr : Fr} {m : Mem} {k : Fr → Mem → Option Out} : thenE (some (.ret fr m)) k = some (.ret fr m) := rfl
theorem thenE_exit {id : Nat} {fr : Fr} {m : Mem} {k : Fr → Mem → Option Out} : thenE (some (.exit id fr m)) k = some (.exit id fr m) := rfl
theorem leave_norm {id : Nat} {fr : Fr} {m : Mem} : leaveE id (some (.norm fr m)) = some (.norm fr m) := rfl
theorem leave_ret {id : Nat} {fr : Fr} {m : Mem} : leaveE id (some (.ret fr m)) = some (.ret fr m) := rfl
def selO (b : Bool) (x y : Option Out) : Option Out := bif b then x else y
@[congr] theorem selO_congr {b b' : Bool} {x y : Option Out} (h : b = b') : selO b x y = selO b' x y := by rw [h]
theorem selO_t {x y : Option Out} : selO true x y = x := rfl
theorem selO_f {x y : Option Out} : selO false x y = y := rfl
theorem leave_exit {id j : Nat} {fr : Fr} {m : Mem} : leaveE id (some (.exit j fr m)) = selO (j == id) (some (.norm fr m)) (some (.exit j fr m)) := by
  by_cases h : j = id
  · subst h; simp [leaveE, selO]
  · simp [leaveE, selO, beq_ff h, beq_eq_false_iff_ne.2 h]
/-- The results, where nothing waits for the end. -/
def resR (rs : List IRes) (o : Option Out) : Option Fin := match o with
  | some (.norm fr m) | some (.ret fr m) => match fr.defers with
    | [] => (evResults fr m rs).map fun vs => .ret (one vs) m
    | _ => none
  | some (.pan v fr m) => match fr.defers with
    | [] => some (.pan v m)
    | _ => none
  | _ => none
theorem resE_eq (F : IFun) (o : Option Out) : resE F o = resR F.results o := by cases o with | none => rfl | some o => cases o <;> rfl
theorem resR_ret {rs : List IRes} {fr : Fr} {m : Mem} : resR rs (some (.ret fr m)) = match fr.defers with | [] => (evResults fr m rs).map fun vs => .ret (one vs) m | _ => none := rfl
theorem resR_norm {rs : List IRes} {fr : Fr} {m : Mem} : resR rs (some (.norm fr m)) = match fr.defers with | [] => (evResults fr m rs).map fun vs => .ret (one vs) m | _ => none := rfl
theorem resR_pan {rs : List IRes} {fr : Fr} {m : Mem} {v : EV} : resR rs (some (.pan v fr m)) = match fr.defers with | [] => some (.pan v m) | _ => none := rfl
theorem res_nil {fr : Fr} {m : Mem} : evResults fr m [] = some [] := rfl
theorem res_tmp {fr : Fr} {m : Mem} {t : Nat} {rs : List IRes} : evResults fr m (.tmp t :: rs) = (evResults fr m rs).map (fr.get t :: ·) := rfl
theorem one_one (v : EV) : one [v] = v := rfl
theorem one_two (v u : EV) (l : List EV) : one (v :: u :: l) = .tuple (v :: u :: l) := rfl
theorem one_nil : one [] = .tuple [] := rfl
/-! ### Whole numbers -/
section
variable {k l : IntKind} {a b : Int}
def iand (k : IntKind) (x y : Int) : Int := k.wrap (BitVec.ofInt k.bits x &&& BitVec.ofInt k.bits y).toNat
def ior (k : IntKind) (x y : Int) : Int := k.wrap (BitVec.ofInt k.bits x ||| BitVec.ofInt k.bits y).toNat
def ixor (k : IntKind) (x y : Int) : Int := k.wrap (BitVec.ofInt k.bits x ^^^ BitVec.ofInt k.bits y).toNat
def iandNot (k : IntKind) (x y : Int) : Int := k.wrap (BitVec.ofInt k.bits x &&& ~~~BitVec.ofInt k.bits y).toNat
theorem bin_add : evBin .add (.int k a) (.int k b) = some (.int k (k.wrap (a + b))) := by simp only [evBin, beq_self, cond_true, evInt]
theorem bin_sub : evBin .sub (.int k a) (.int k b) = some (.int k (k.wrap (a - b))) := by simp only [evBin, beq_self, cond_true, evInt]
theorem bin_mul : evBin .mul (.int k a) (.int k b) = some (.int k (k.wrap (a * b))) := by simp only [evBin, beq_self, cond_true, evInt]
theorem bin_quo : evBin .quo (.int k a) (.int k b) = if b = 0 then none else some (.int k (k.wrap (a.tdiv b))) := by simp only [evBin, beq_self, cond_true, evInt]
theorem bin_rem : evBin .rem (.int k a) (.int k b) = if b = 0 then none else some (.int k (a.tmod b)) := by simp only [evBin, beq_self, cond_true, evInt]
theorem bin_and : evBin .and (.int k a) (.int k b) = some (.int k (iand k a b)) := by simp only [evBin, beq_self, cond_true, evInt, evBits, Option.map_some, iand]
theorem bin_or : evBin .or (.int k a) (.int k b) = some (.int k (ior k a b)) := by simp only [evBin, beq_self, cond_true, evInt, evBits, Option.map_some, ior]
theorem bin_xor : evBin .xor (.int k a) (.int k b) = some (.int k (ixor k a b)) := by simp only [evBin, beq_self, cond_true, evInt, evBits, Option.map_some, ixor]
theorem bin_andNot : evBin .andNot (.int k a) (.int k b) = some (.int k (iandNot k a b)) := by simp only [evBin, beq_self, cond_true, evInt, evBits, Option.map_some, iandNot]
theorem bin_lss : evBin .lss (.int k a) (.int k b) = some (.bool (decide (a < b))) := by simp only [evBin, beq_self, cond_true, evInt]
theorem bin_leq : evBin .leq (.int k a) (.int k b) = some (.bool (decide (a ≤ b))) := by simp only [evBin, beq_self, cond_true, evInt]
theorem bin_gtr : evBin .gtr (.int k a) (.int k b) = some (.bool (decide (b < a))) := by simp only [evBin, beq_self, cond_true, evInt]
theorem bin_geq : evBin .geq (.int k a) (.int k b) = some (.bool (decide (b ≤ a))) := by simp only [evBin, beq_self, cond_true, evInt]
theorem bin_shl : evBin .shl (.int k a) (.int l b) = if b < 0 then none else some (.int k (k.wrap (a * 2 ^ min b.toNat k.bits))) := by simp only [evBin, evShift]
theorem bin_shr : evBin .shr (.int k a) (.int l b) = if b < 0 then none else some (.int k (a.fdiv (2 ^ min b.toNat k.bits))) := by simp only [evBin, evShift]
theorem bin_shl_i64 (h1 : 0 ≤ b) (h2 : b < 64) : evBin .shl (.int .i64 a) (.int l b) = some (.int .i64 (IntKind.i64.wrap (a * 2 ^ b.toNat))) := by
  rw [bin_shl, if_neg (by omega), show IntKind.i64.bits = 64 from rfl, Nat.min_eq_left (by omega)]
theorem bin_shr_i64 (h1 : 0 ≤ b) (h2 : b < 64) : evBin .shr (.int .i64 a) (.int l b) = some (.int .i64 (a.fdiv (2 ^ b.toNat))) := by
  rw [bin_shr, if_neg (by omega), show IntKind.i64.bits = 64 from rfl, Nat.min_eq_left (by omega)]
theorem bin_shl_u64 (h1 : 0 ≤ b) (h2 : b < 64) : evBin .shl (.int .u64 a) (.int l b) = some (.int .u64 (IntKind.u64.wrap (a * 2 ^ b.toNat))) := by
  rw [bin_shl, if_neg (by omega), show IntKind.u64.bits = 64 from rfl, Nat.min_eq_left (by omega)]
theorem bin_shr_u64 (h1 : 0 ≤ b) (h2 : b < 64) : evBin .shr (.int .u64 a) (.int l b) = some (.int .u64 (a.fdiv (2 ^ b.toNat))) := by
  rw [bin_shr, if_neg (by omega), show IntKind.u64.bits = 64 from rfl, Nat.min_eq_left (by omega)]
theorem bin_cat {a b : List UInt8} : evBin .add (.str a) (.str b) = bif (a.length + b.length).ble 4294967296 then some (.str (a ++ b)) else none := rfl
theorem eq_int : evEq (.prim 1) (.int k a) (.int k b) = some (decide (a = b)) := by simp only [evEq, evEqPrim, beq_self, cond_true]
theorem un_neg : evUn .neg (.int k a) = some (.int k (k.wrap (0 - a))) := rfl
theorem cv_int {m : Mem} : evConv (.int l) m (.int k a) = some (.int l (l.wrap a), m) := rfl
end
/-! ### Operation by operation -/
theorem evOp_mov {ρ : Opd → EV} {m : Mem} (x : Opd) : evOp ρ (.mov x) m = some (.val (ρ x) m) := rfl
theorem evOp_build {ρ : Opd → EV} {m : Mem} (zero : List EV) (parts : List (Nat × Nat × Opd)) : evOp ρ (.build zero parts) m = ofEV m ((fillIn zero (parts.map fun p => (p.1, p.2.1, ρ p.2.2))).map .agg) := rfl
theorem evOp_load {ρ : Opd → EV} {m : Mem} (agg : Option Nat) (a : Opd) : evOp ρ (.load agg a) m = ofEV m (m.load agg (ρ a)) := rfl
theorem evOp_store {ρ : Opd → EV} {m : Mem} (size : Nat) (a x : Opd) : evOp ρ (.store size a x) m = ofM (m.store size (ρ a) (ρ x)) := rfl
theorem evOp_nilck {ρ : Opd → EV} {m : Mem} (x : Opd) : evOp ρ (.nilck x) m = match ρ x with
    | .ptr b off => some (.val (.ptr b off) m)
    | .func f a c => some (.val (.func f a c) m)
    | .iface t v => some (.val (.iface t v) m)
    | .fptr e els i k => some (.val (.fptr e els i k) m)
    | _ => none := rfl
theorem evOp_bin {ρ : Opd → EV} {m : Mem} (op : BinOp) (x y : Opd) : evOp ρ (.bin op x y) m = ofEV m (evBin op (ρ x) (ρ y)) := rfl
theorem evOp_eq {ρ : Opd → EV} {m : Mem} (neg : Bool) (t : EqTy) (x y : Opd) : evOp ρ (.eq neg t x y) m = ofEV m ((evEq t (ρ x) (ρ y)).map fun b => .bool (neg ^^ b)) := rfl
theorem evOp_un {ρ : Opd → EV} {m : Mem} (op : UnOp) (x : Opd) : evOp ρ (.un op x) m = ofEV m (evUn op (ρ x)) := rfl
theorem evOp_conv {ρ : Opd → EV} {m : Mem} (c : Cv) (x : Opd) : evOp ρ (.conv c x) m = ofEM (evConv c m (ρ x)) := rfl
theorem evOp_iface {ρ : Opd → EV} {m : Mem} (t : Nat) (x : Opd) : evOp ρ (.iface t x) m = some (.val (.iface t (ρ x)) m) := rfl
theorem evOp_mkfn {ρ : Opd → EV} {m : Mem} (f : Nat) (a c : List Opd) : evOp ρ (.mkfn f a c) m = some (.val (.func f (a.map ρ) (c.map ρ)) m) := rfl
theorem evOp_mkslice {ρ : Opd → EV} {m : Mem} (elem esz : Nat) (zero : List EV) (len cap : Opd) : evOp ρ (.mkslice elem esz zero len cap) m = match ρ len, ρ cap with
    | .int .i64 (.ofNat l), .int .i64 (.ofNat c) => bif (bif l.ble c then c.ble room else false) then
        some (.val (.slice m.next 0 l (some c)) (m.new (.cells (copies c zero) esz elem false))) else none
    | _, _ => none := rfl
theorem evOp_slstr {ρ : Opd → EV} {m : Mem} (x : Opd) (lo hi : Option Opd) : evOp ρ (.slstr x lo hi) m = match ρ x with
    | .str s => match bound (hi.map ρ) s.length s.length with
      | some h => match bound (lo.map ρ) 0 h with
        | some l => some (.val (.str ((s.take h).drop l)) m)
        | none => none
      | none => none
    | _ => none := rfl
theorem evOp_slarr {ρ : Opd → EV} {m : Mem} (n esz : Nat) (x : Opd) (lo hi max : Option Opd) : evOp ρ (.slarr n esz x lo hi max) m = match ρ x with
    | .ptr b off => ofEV m (evSlice esz b off n (some n) (lo.map ρ) (hi.map ρ) (max.map ρ))
    | _ => none := rfl
theorem evOp_faddr {ρ : Opd → EV} {m : Mem} (off : Nat) (x : Opd) : evOp ρ (.faddr off x) m = match ρ x with
    | .ptr b o => some (.val (.ptr b (o + off)) m)
    | .fptr e els i k => some (.val (.fptr e els i (k + off)) m)
    | _ => none := rfl
theorem evOp_fld {ρ : Opd → EV} {m : Mem} (agg : Option Nat) (off : Nat) (x : Opd) : evOp ρ (.fld agg off x) m = match ρ x with
    | .agg cs => ofEV m (partOf agg cs off)
    | _ => none := rfl
theorem evOp_iaddrArr {ρ : Opd → EV} {m : Mem} (n esz : Nat) (x i : Opd) : evOp ρ (.iaddrArr n esz x i) m = match ρ x with
    | .ptr b off => match idx n (ρ i) with
      | some i => some (.val (.ptr b (off + i * esz)) m)
      | none => none
    | _ => none := rfl
theorem evOp_idxstr {ρ : Opd → EV} {m : Mem} (x i : Opd) : evOp ρ (.idxstr x i) m = match ρ x with
    | .str s => match idx s.length (ρ i) with
      | some i => match s[i]? with
        | some c => some (.val (.int .u8 (c.toNat : Int)) m)
        | none => none
      | none => none
    | _ => none := rfl
theorem evOp_idxagg {ρ : Opd → EV} {m : Mem} (n esz : Nat) (agg : Option Nat) (x i : Opd) : evOp ρ (.idxagg n esz agg x i) m = match ρ x with
    | .agg cs => match idx n (ρ i) with
      | some i => ofEV m (partOf agg cs (i * esz))
      | none => none
    | _ => none := rfl
theorem evOp_lookup {ρ : Opd → EV} {m : Mem} (kt : Nat) (zero : EV) (ok : Bool) (mp k : Opd) : evOp ρ (.lookup kt zero ok mp k) m = match ρ mp with
    | .nilmap => bif keyIs kt (ρ k) then some (.val (bif ok then .tuple [zero, .bool false] else zero) m) else none
    | .map b => match m.get b with
      | .map es => bif keysOk kt (ρ k) es then
          match find (ρ k) es with
          | some v => some (.val (bif ok then .tuple [v, .bool true] else v) m)
          | none => some (.val (bif ok then .tuple [zero, .bool false] else zero) m)
        else none
      | _ => none
    | _ => none := rfl
theorem evOp_mapupd {ρ : Opd → EV} {m : Mem} (kt : Nat) (mp k x : Opd) : evOp ρ (.mapupd kt mp k x) m = match ρ mp with
    | .map b => match m.get b with
      | .map es => bif keysOk kt (ρ k) es then some (.val .undef (m.set b (.map (update (ρ k) (ρ x) es)))) else none
      | _ => none
    | _ => none := rfl
theorem evOp_delete {ρ : Opd → EV} {m : Mem} (kt : Nat) (mp k : Opd) : evOp ρ (.delete kt mp k) m = match ρ mp with
    | .nilmap => bif keyIs kt (ρ k) then some (.val (.tuple []) m) else none
    | .map b => match m.get b with
      | .map es => bif keysOk kt (ρ k) es then some (.val (.tuple []) (m.set b (.map (erase (ρ k) es)))) else none
      | _ => none
    | _ => none := rfl
theorem evOp_lenmap {ρ : Opd → EV} {m : Mem} (mp : Opd) : evOp ρ (.lenmap mp) m = match ρ mp with
    | .nilmap => some (.val (.int .i64 0) m)
    | .map b => match m.get b with
      | .map es => some (.val (.int .i64 (es.length : Int)) m)
      | _ => none
    | _ => none := rfl
theorem evOp_tassert {ρ : Opd → EV} {m : Mem} (t : Nat) (x : Opd) : evOp ρ (.tassert t x) m = match ρ x with
    | .iface u v => bif t.beq u then some (.val v m) else none
    | _ => none := rfl
theorem evOp_extract {ρ : Opd → EV} {m : Mem} (x : Opd) (i : Nat) : evOp ρ (.extract x i) m = match ρ x with
    | .tuple vs => ofEV m vs[i]?
    | _ => none := rfl
theorem evOp_lenstr {ρ : Opd → EV} {m : Mem} (x : Opd) : evOp ρ (.lenstr x) m = match ρ x with
    | .str s => some (.val (.int .i64 (s.length : Int)) m)
    | _ => none := rfl
theorem evOp_lenarr {ρ : Opd → EV} {m : Mem} (n : Nat) : evOp ρ (.lenarr n) m = some (.val (.int .i64 (n : Int)) m) := rfl
theorem evOp_cap {ρ : Opd → EV} {m : Mem} (x : Opd) : evOp ρ (.cap x) m = match ρ x with
    | .nilslice => some (.val (.int .i64 0) m)
    | .slice _ _ _ (some c) => some (.val (.int .i64 (c : Int)) m)
    | _ => none := rfl
theorem evOp_max {ρ : Opd → EV} {m : Mem} (args : List Opd) : evOp ρ (.max args) m = ofEV m (evMax (args.map ρ)) := rfl
theorem evOp_min {ρ : Opd → EV} {m : Mem} (args : List Opd) : evOp ρ (.min args) m = ofEV m (evMin (args.map ρ)) := rfl
theorem evOp_append {ρ : Opd → EV} {m : Mem} (elem esz bytes : Nat) (s x : Opd) : evOp ρ (.append elem esz bytes s x) m = ofEM (evAppend m elem esz (ρ s) (ρ x)) := rfl
theorem evOp_copy {ρ : Opd → EV} {m : Mem} (esz : Nat) (d s : Opd) : evOp ρ (.copy esz d s) m = ofEM (evCopy m esz (ρ d) (ρ s)) := rfl
/-! ### Truths asx statements: 'bo p', 'gv p v' (a value that is there where p holds), 'iF p x y' -/
open Classical in
noncomputable def bo (p : Prop) : EV := .bool (decide p)
open Classical in
noncomputable def gv (p : Prop) (v : EV) : EV := if p then v else .undef
open Classical in
noncomputable def iF {α : Type} (p : Prop) (x y : α) : α := if p then x else y
theorem bo_decide {p : Prop} [h : Decidable p] : EV.bool (decide p) = bo p := by unfold bo; congr
theorem bo_not_decide {p : Prop} [h : Decidable p] : EV.bool (!decide p) = bo (¬ p) := by
  unfold bo; by_cases hp : p <;> simp [hp]
theorem bo_tt : bo True = .bool true := by simp [bo]
theorem bo_ff : bo False = .bool false := by simp [bo]
theorem bo_pos {p : Prop} (h : p) : bo p = .bool true := by simp [bo, h]
theorem bo_neg {p : Prop} (h : ¬ p) : bo p = .bool false := by simp [bo, h]
theorem gv_true {v : EV} : gv True v = v := by simp [gv]
theorem gv_false {v : EV} : gv False v = .undef := by simp [gv]
theorem iF_pos {α : Type} {p : Prop} (h : p) {x y : α} : iF p x y = x := by simp [iF, h]
theorem iF_neg {α : Type} {p : Prop} (h : ¬ p) {x y : α} : iF p x y = y := by simp [iF, h]
@[congr] theorem iF_congr {α : Type} {p p' : Prop} {x x' y y' : α} (h : p = p') (h1 : p' → x = x') (h2 : ¬ p' → y = y') : iF p x y = iF p' x' y' := by
  subst h; by_cases hp : p
  · rw [iF_pos hp, iF_pos hp]; exact h1 hp
  · rw [iF_neg hp, iF_neg hp]; exact h2 hp
/-- By a truth: one of two; nothing else is looked at ahead of it. -/
def cE (v : EV) (x y : Option Out) : Option Out := match v with
  | .bool true => x
  | .bool false => y
  | _ => none
@[congr] theorem cE_congr {v v' : EV} {x y : Option Out} (h : v = v') : cE v x y = cE v' x y := by rw [h]
theorem cE_bo {p : Prop} {x y : Option Out} : cE (bo p) x y = iF p x y := by by_cases h : p <;> simp [bo, iF, cE, h]
theorem cE_t {x y : Option Out} : cE (.bool true) x y = x := rfl
theorem cE_f {x y : Option Out} : cE (.bool false) x y = y := rfl
theorem exec_cond' {T : Nat → Option Ent} {c : Opd} {a b : ICode} {fr : Fr} {m : Mem} : exec T (.cond c a b) fr m = cE (fr.eval c) (exec T a fr m) (exec T b fr m) := by
  cases h : fr.eval c
  case bool t => rw [exec_cond h]; cases t <;> rfl
  all_goals
    refine opt_ext fun r => ?_
    rw [exec_iff]
    simp only [evCode, h, reduceCtorEq, exists_const, cE]
/-! ### Guards: what is skipped tells nothing, and the way is one -/
open Classical in
/-- An operation under a condition. -/
noncomputable def thenG (p : Prop) (m : Mem) (o : Option R1) (k : EV → Mem → Option Out) : Option Out := if p then thenV o k else k .undef m
open Classical in
noncomputable def thenH (p : Prop) (fr : Fr) (m : Mem) (o : Option Fin) (k : EV → Mem → Option Out) : Option Out := if p then thenC o fr k else k .undef m
@[congr] theorem thenG_congr {p p' : Prop} {m : Mem} {o o' : Option R1} {k : EV → Mem → Option Out} (h : p = p') (ho : p' → o = o') : thenG p m o k = thenG p' m o' k := by
  subst h; by_cases hp : p <;> simp only [thenG, hp, if_true, if_false]; rw [ho hp]
@[congr] theorem thenH_congr {p p' : Prop} {fr : Fr} {m : Mem} {o o' : Option Fin} {k : EV → Mem → Option Out} (h : p = p') (ho : p' → o = o') : thenH p fr m o k = thenH p' fr m o' k := by
  subst h; by_cases hp : p <;> simp only [thenH, hp, if_true, if_false]; rw [ho hp]
theorem thenG_val {p : Prop} {m m' : Mem} {v : EV} {k : EV → Mem → Option Out} (he : p → m' = m) : thenG p m (some (.val v m')) k = k (gv p v) m := by
  by_cases h : p
  · rw [he h]; simp [thenG, gv, thenV, h]
  · simp [thenG, gv, h]
theorem thenH_ret {p : Prop} {fr : Fr} {m m' : Mem} {v : EV} {k : EV → Mem → Option Out} (he : p → m' = m) : thenH p fr m (some (.ret v m')) k = k (gv p v) m := by
  by_cases h : p
  · rw [he h]; simp [thenH, gv, thenC, h]
  · simp [thenH, gv, h]
/-- A guard's test. -/
def gE (v : EV) (w : Bool) (x y : Option Out) : Option Out := match v with
  | .bool b => bif b == w then x else y
  | .undef => y
  | _ => none
@[congr] theorem gE_congr {v v' : EV} {w : Bool} {x y : Option Out} (h : v = v') : gE v w x y = gE v' w x y := by rw [h]
/-- A guarded operation that tells a value. -/
def gV (v : EV) (w : Bool) (m : Mem) (o : Option R1) (k : EV → Mem → Option Out) : Option Out := gE v w (thenV o k) (k .undef m)
def gC (v : EV) (w : Bool) (fr : Fr) (m : Mem) (o : Option Fin) (k : EV → Mem → Option Out) : Option Out := gE v w (thenC o fr k) (k .undef m)
@[congr] theorem gV_congr {v v' : EV} {w : Bool} {m : Mem} {o : Option R1} {k : EV → Mem → Option Out} (h : v = v') : gV v w m o k = gV v' w m o k := by rw [h]
@[congr] theorem gC_congr {v v' : EV} {w : Bool} {fr : Fr} {m : Mem} {o : Option Fin} {k : EV → Mem → Option Out} (h : v = v') : gC v w fr m o k = gC v' w fr m o k := by rw [h]
section
variable {p q : Prop} {b : Bool} {w : Bool} {fr : Fr} {m : Mem} {o : Option R1} {c : Option Fin} {k : EV → Mem → Option Out}
theorem gV_undef : gV .undef w m o k = k .undef m := rfl
theorem gC_undef : gC .undef w fr m c k = k .undef m := rfl
theorem gV_bo_t : gV (bo p) true m o k = thenG p m o k := by by_cases h : p <;> simp [gV, gE, bo, thenG, h]
theorem gV_bo_f : gV (bo p) false m o k = thenG (¬ p) m o k := by by_cases h : p <;> simp [gV, gE, bo, thenG, h]
theorem gV_tt : gV (.bool true) true m o k = thenV o k := rfl
theorem gV_tf : gV (.bool true) false m o k = k .undef m := rfl
theorem gV_ft : gV (.bool false) true m o k = k .undef m := rfl
theorem gV_ff : gV (.bool false) false m o k = thenV o k := rfl
theorem gV_gv_t : gV (gv p (bo q)) true m o k = thenG (p ∧ q) m o k := by by_cases h : p <;> by_cases h' : q <;> simp [gV, gE, bo, gv, thenG, h, h']
theorem gV_gv_f : gV (gv p (bo q)) false m o k = thenG (p ∧ ¬ q) m o k := by by_cases h : p <;> by_cases h' : q <;> simp [gV, gE, bo, gv, thenG, h, h']
theorem gV_gt_t : gV (gv p (.bool true)) true m o k = thenG p m o k := by by_cases h : p <;> simp [gV, gE, gv, thenG, h]
theorem gV_gt_f : gV (gv p (.bool true)) false m o k = k .undef m := by by_cases h : p <;> simp [gV, gE, gv, h]
theorem gV_gf_t : gV (gv p (.bool false)) true m o k = k .undef m := by by_cases h : p <;> simp [gV, gE, gv, h]
theorem gV_gf_f : gV (gv p (.bool false)) false m o k = thenG p m o k := by by_cases h : p <;> simp [gV, gE, gv, thenG, h]
theorem gC_bo_t : gC (bo p) true fr m c k = thenH p fr m c k := by by_cases h : p <;> simp [gC, gE, bo, thenH, h]
theorem gC_bo_f : gC (bo p) false fr m c k = thenH (¬ p) fr m c k := by by_cases h : p <;> simp [gC, gE, bo, thenH, h]
theorem gC_tt : gC (.bool true) true fr m c k = thenC c fr k := rfl
theorem gC_tf : gC (.bool true) false fr m c k = k .undef m := rfl
theorem gC_ft : gC (.bool false) true fr m c k = k .undef m := rfl
theorem gC_ff : gC (.bool false) false fr m c k = thenC c fr k := rfl
theorem gC_gv_t : gC (gv p (bo q)) true fr m c k = thenH (p ∧ q) fr m c k := by by_cases h : p <;> by_cases h' : q <;> simp [gC, gE, bo, gv, thenH, h, h']
theorem gC_gv_f : gC (gv p (bo q)) false fr m c k = thenH (p ∧ ¬ q) fr m c k := by by_cases h : p <;> by_cases h' : q <;> simp [gC, gE, bo, gv, thenH, h, h']
theorem gC_gt_t : gC (gv p (.bool true)) true fr m c k = thenH p fr m c k := by by_cases h : p <;> simp [gC, gE, gv, thenH, h]
theorem gC_gt_f : gC (gv p (.bool true)) false fr m c k = k .undef m := by by_cases h : p <;> simp [gC, gE, gv, h]
theorem gC_gf_t : gC (gv p (.bool false)) true fr m c k = k .undef m := by by_cases h : p <;> simp [gC, gE, gv, h]
theorem gC_gf_f : gC (gv p (.bool false)) false fr m c k = thenH p fr m c k := by by_cases h : p <;> simp [gC, gE, gv, thenH, h]
end
theorem oprs_guard' {T : Nat → Option Ent} {d : Option Nat} {op : XOp} {t : Nat} {w : Bool} {l : List IOper} {fr : Fr} {m : Mem} :
    oprs T (⟨d, op, some (t, w)⟩ :: l) fr m = gE (fr.get t) w (oprs T (⟨d, op, none⟩ :: l) fr m) (oprs T l (fr.put d .undef) m) := by
  cases h : fr.get t
  case bool b => rw [oprs_guard h]; rfl
  case undef =>
    refine opt_ext fun r => ?_
    rw [oprs_iff]
    simp only [evOps, wantedE, h, gE]
    exact oprs_iff.symm
  all_goals
    refine opt_ext fun r => ?_
    rw [oprs_iff]
    simp only [evOps, wantedE, h, reduceCtorEq, exists_const, gE]
theorem oprs_gval {T : Nat → Option Ent} {d : Option Nat} {op : IOp} {t : Nat} {w : Bool} {l : List IOper} {fr : Fr} {m : Mem} :
    oprs T (⟨d, .val op, some (t, w)⟩ :: l) fr m = gV (fr.get t) w m (evOp fr.eval op m) (fun v m => oprs T l (fr.put d v) m) := by rw [oprs_guard', oprs_val]; rfl
/-- A call of a function's value. -/
noncomputable def runV (T : Nat → Option Ent) (f : EV) (args : List EV) (m : Mem) : Option Fin := match f with
  | .func g a c => run T g (a ++ args ++ c) m
  | _ => none
theorem runV_func {T : Nat → Option Ent} {g : Nat} {a c args : List EV} {m : Mem} : runV T (.func g a c) args m = run T g (a ++ args ++ c) m := rfl
theorem oprs_callv {T : Nat → Option Ent} {d : Option Nat} {x : Opd} {args : List Opd} {l : List IOper} {fr : Fr} {m : Mem} :
    oprs T (⟨d, .call x args, none⟩ :: l) fr m = thenC (runV T (fr.eval x) (args.map fr.eval) m) fr fun v m => oprs T l (fr.put d v) m := by
  refine opt_ext fun r => ?_
  rw [oprs_iff]
  simp only [evOps, wantedE]
  cases hx : fr.eval x
  case func g a c =>
    simp only [evCall, runV]
    constructor
    · rintro ⟨k, h⟩
      cases hc : evFun T k g (a ++ args.map fr.eval ++ c) m with
      | none => rw [hc] at h; cases h
      | some q =>
        rw [run_iff.2 ⟨k, hc⟩]
        simp only [hc] at h
        cases q with
        | ret v m1 => exact oprs_iff.2 ⟨k, h⟩
        | pan v m1 => exact h
    · intro h
      cases hc : run T g (a ++ args.map fr.eval ++ c) m with
      | none => rw [hc] at h; cases h
      | some q =>
        obtain ⟨k1, h1⟩ := run_iff.1 hc
        rw [hc] at h
        cases q with
        | ret v m1 =>
          simp only [thenC] at h
          obtain ⟨k2, h2⟩ := oprs_iff.1 h
          refine ⟨max k1 k2, ?_⟩
          have e1 := mono_run _ _ _ (Nat.le_max_left k1 k2) h1
          have e2 := mono_oprs _ _ _ (Nat.le_max_right k1 k2) h2
          simp only at e1 e2
          rw [e1]; exact e2
        | pan v m1 => exact ⟨k1, by rw [h1]; exact h⟩
  all_goals simp [evCall, runV, thenC]
theorem oprs_gcallv {T : Nat → Option Ent} {d : Option Nat} {x : Opd} {args : List Opd} {t : Nat} {w : Bool} {l : List IOper} {fr : Fr} {m : Mem} :
    oprs T (⟨d, .call x args, some (t, w)⟩ :: l) fr m = gC (fr.get t) w fr m (runV T (fr.eval x) (args.map fr.eval) m) (fun v m => oprs T l (fr.put d v) m) := by rw [oprs_guard', oprs_callv]; rfl
/-- One of two, by a truth. -/
def pickE (c a b : EV) (m : Mem) : Option R1 := match c with
  | .bool t => some (.val (bif t then a else b) m)
  | _ => none
theorem evOp_pick' {ρ : Opd → EV} {c x y : Opd} {m : Mem} : evOp ρ (.pick c x y) m = pickE (ρ c) (ρ x) (ρ y) m := by
  simp only [evOp]; unfold pickE; cases ρ c <;> rfl
section
variable {p q r : Prop} {a b : EV} {m : Mem} {c d : Bool}
theorem pick_and : pickE (bo p) (gv p (bo q)) (.bool false) m = some (.val (bo (p ∧ q)) m) := by by_cases h : p <;> by_cases h' : q <;> simp [pickE, gv, bo, h, h']
theorem pick_and_t : pickE (bo p) (gv p (.bool true)) (.bool false) m = some (.val (bo p) m) := by by_cases h : p <;> simp [pickE, gv, bo, h]
theorem pick_and_f : pickE (bo p) (gv p (.bool false)) (.bool false) m = some (.val (.bool false) m) := by by_cases h : p <;> simp [pickE, gv, bo, h]
theorem pick_or (hr : r = ¬ p) : pickE (bo p) (.bool true) (gv r (bo q)) m = some (.val (bo (p ∨ q)) m) := by subst hr; by_cases h : p <;> by_cases h' : q <;> simp [pickE, gv, bo, h, h']
theorem pick_or_t (hr : r = ¬ p) : pickE (bo p) (.bool true) (gv r (.bool true)) m = some (.val (.bool true) m) := by subst hr; by_cases h : p <;> simp [pickE, gv, bo, h]
theorem pick_or_f (hr : r = ¬ p) : pickE (bo p) (.bool true) (gv r (.bool false)) m = some (.val (bo p) m) := by subst hr; by_cases h : p <;> simp [pickE, gv, bo, h]
theorem pick_and0 : pickE (bo p) (bo q) (.bool false) m = some (.val (bo (p ∧ q)) m) := by by_cases h : p <;> by_cases h' : q <;> simp [pickE, bo, h, h']
theorem pick_or0 : pickE (bo p) (.bool true) (bo q) m = some (.val (bo (p ∨ q)) m) := by by_cases h : p <;> by_cases h' : q <;> simp [pickE, bo, h, h']
theorem pick_t : pickE (.bool true) a b m = some (.val a m) := rfl
theorem pick_f : pickE (.bool false) a b m = some (.val b m) := rfl
end
theorem un_not_bo {p : Prop} : evUn .not (bo p) = some (bo (¬ p)) := by by_cases h : p <;> simp [evUn, bo, h]
theorem eq_boo {p q : Prop} : evEq (.prim 0) (bo p) (bo q) = some (@decide (p = q) (Classical.propDecidable _)) := by by_cases h : p <;> by_cases h' : q <;> simp [evEq, evEqPrim, bo, h, h']
theorem eq_bo_t {p : Prop} : evEq (.prim 0) (bo p) (.bool true) = some (@decide p (Classical.propDecidable _)) := by by_cases h : p <;> simp [evEq, evEqPrim, bo, h]
theorem eq_bo_f {p : Prop} : evEq (.prim 0) (bo p) (.bool false) = some (@decide (¬ p) (Classical.propDecidable _)) := by by_cases h : p <;> simp [evEq, evEqPrim, bo, h]
theorem eq_t_bo {p : Prop} : evEq (.prim 0) (.bool true) (bo p) = some (@decide p (Classical.propDecidable _)) := by by_cases h : p <;> simp [evEq, evEqPrim, bo, h]
theorem eq_f_bo {p : Prop} : evEq (.prim 0) (.bool false) (bo p) = some (@decide (¬ p) (Classical.propDecidable _)) := by by_cases h : p <;> simp [evEq, evEqPrim, bo, h]
theorem eq_tt : evEq (.prim 0) (.bool true) (.bool true) = some true := rfl
theorem eq_ff : evEq (.prim 0) (.bool false) (.bool false) = some true := rfl
theorem eq_tf : evEq (.prim 0) (.bool true) (.bool false) = some false := rfl
theorem eq_ft : evEq (.prim 0) (.bool false) (.bool true) = some false := rfl
theorem un_not_t : evUn .not (.bool true) = some (.bool false) := rfl
theorem un_not_f : evUn .not (.bool false) = some (.bool true) := rfl
theorem eq_str {a b : List UInt8} : evEq (.prim 2) (.str a) (.str b) = some (decide (a = b)) := by simp only [evEq, evEqPrim, beq_self, cond_true, sameBytes_eq]
theorem thenE_iF {p : Prop} {a b : Option Out} {k : Fr → Mem → Option Out} : thenE (iF p a b) k = iF p (thenE a k) (thenE b k) := by unfold iF; split <;> rfl
theorem leave_iF {id : Nat} {p : Prop} {a b : Option Out} : leaveE id (iF p a b) = iF p (leaveE id a) (leaveE id b) := by unfold iF; split <;> rfl
theorem thenV_iF {p : Prop} {a b : Option R1} {k : EV → Mem → Option Out} : thenV (iF p a b) k = iF p (thenV a k) (thenV b k) := by unfold iF; split <;> rfl
theorem thenC_iF {p : Prop} {a b : Option Fin} {fr : Fr} {k : EV → Mem → Option Out} : thenC (iF p a b) fr k = iF p (thenC a fr k) (thenC b fr k) := by unfold iF; split <;> rfl
theorem resR_iF {rs : List IRes} {p : Prop} {a b : Option Out} : resR rs (iF p a b) = iF p (resR rs a) (resR rs b) := by unfold iF; split <;> rfl
theorem run_go' {T : Nat → Option Ent} {f : Nat} {F : IFun} (hf : T f = some (.go F)) {args : List EV} {m : Mem} (hn : args.length ≤ F.ntmps) : run T f args m = resR F.results (exec T F.body (argsF args 0 fr00) m) := by
  rw [run_go hf hn, resE_eq]; unfold fr00; rw [argsF_eq]
theorem idx_cast {n : Nat} {k : IntKind} {i : Nat} (h : i < n) : idx n (.int k (i : Int)) = some i := by
  have : (i + 1).ble n = true := Nat.ble_eq_true_of_le h
  show (bif (i + 1).ble n then some i else none) = _
  rw [this]; rfl
theorem bound_none {d n : Nat} : bound none d n = some d := rfl
theorem bound_cast {d n i : Nat} {k : IntKind} (h : i ≤ n) : bound (some (.int k (i : Int))) d n = some i := by
  show (bif i.ble n then some i else none) = _
  rw [Nat.ble_eq_true_of_le h]; rfl
theorem i64_wrap (n : Int) : IntKind.i64.wrap n = if n % 18446744073709551616 ≥ 9223372036854775808 then n % 18446744073709551616 - 18446744073709551616 else n % 18446744073709551616 := by
  have e : IntKind.i64.wrap n = if (true && decide (n % 18446744073709551616 ≥ 9223372036854775808)) = true then n % 18446744073709551616 - 18446744073709551616 else n % 18446744073709551616 := rfl
  rw [e]; simp only [Bool.true_and, decide_eq_true_eq]
theorem u8_wrap (n : Int) : IntKind.u8.wrap n = n % 256 := by
  have e : IntKind.u8.wrap n = if (false && decide (n % 256 ≥ 128)) = true then n % 256 - 256 else n % 256 := rfl
  rw [e]; simp
theorem wrap_i64 {n : Int} (h1 : -9223372036854775808 ≤ n) (h2 : n < 9223372036854775808) : IntKind.i64.wrap n = n := by
  rw [i64_wrap]; split <;> omega
/-- A piece of code that stands under a name, and what is known of it. -/
theorem told {T : Nat → Option Ent} {c : ICode} {fr : Fr} {m : Mem} {X : Option Out} (hX : exec T c fr m = X) {α : Type} {o : α → Out} {Q : α → Prop} (h : ∃ x, exec T c fr m = some (o x) ∧ Q x) : ∃ x, X = some (o x) ∧ Q x := by
  rw [hX] at h; exact h
end Go.Proofs.YtfmokmbbfjbonaaDoor.Ev
end
section
namespace Go.Proofs.YtfmokmbbfjbonaaDoor.Ev
open Go

/-- A table, in order. -/
inductive Bt where
  | leaf
  | node (k : Nat) (e : Ent) (l r : Bt)
def Bt.find : Bt → Nat → Option Ent
  | .leaf, _ => none
  | .node k e l r, f => bif f.beq k then some e else bif f.blt k then l.find f else r.find f
def Bt.All (Q : Nat → Ent → Prop) : Bt → Prop
  | .leaf => True
  | .node k e l r => Q k e ∧ l.All Q ∧ r.All Q
theorem Bt.find_of {Q : Nat → Ent → Prop} : ∀ {t : Bt}, t.All Q → ∀ f e, t.find f = some e → Q f e
  | .leaf, _, f, e, h => by simp [Bt.find] at h
  | .node k x l r, ⟨h0, hl, hr⟩, f, e, h => by
    simp only [Bt.find] at h
    cases hk : f.beq k with
    | true =>
      rw [of_beq hk]
      simp only [hk, cond_true, Option.some.injEq] at h
      subst h; exact h0
    | false =>
      simp only [hk, cond_false] at h
      cases hb : f.blt k <;> simp only [hb, cond_true, cond_false] at h
      · exact Bt.find_of hr f e h
      · exact Bt.find_of hl f e h

/-- math/bits.Add64 -/
def xAdd64 : List EV → Option EV
  | [.int .u64 (.ofNat x), .int .u64 (.ofNat y), .int .u64 (.ofNat c)] => bif c.ble 1 then some (.tuple [.int .u64 (.ofNat ((x + y + c) % 18446744073709551616)), .int .u64 (.ofNat ((x + y + c) / 18446744073709551616))]) else none
  | _ => none
/-- internal/bytealg.CountString, IndexByteString -/
def xCount : List EV → Option EV
  | [.str s, .int .u8 c] => some (.int .i64 (Go.Lib.countByte s c.toNat.toUInt8))
  | _ => none
def xIndexByte : List EV → Option EV
  | [.str s, .int .u8 c] => some (.int .i64 (Go.Lib.indexByte s c.toNat.toUInt8))
  | _ => none
theorem ext_indexByte {P : Program} {G : List Nat} {f : Nat} {fn : Func} (hf : P.funcs[f]? = some fn) (hname : (fn.name == "runtime.NumGoroutine") = false) (hb : fn.body.isNone = true) (hn : Extern.findNext fn = none) (he : Extern.find fn = some Extern.BytealgIndexByte.indexByte) :
    EntOk P G f (.ext xIndexByte) := by
  intro base ρ m w args args' v _ hv h
  unfold xIndexByte at h
  split at h
  · rename_i s c
    cases h
    obtain ⟨l⟩ := args'
    cases hv with
    | cons h1 hs =>
    cases hs with
    | cons h2 hs =>
    cases hs
    cases h2
    generalize hx : EV.str s = x at h1
    cases h1 <;> cases hx
    rename_i t
    refine ⟨_, ?_, .int _ _⟩
    rw [run_callFunc_extern hf hname hb hn he]
    have h := Go.Lib.run_indexByteString (P := P) t c w
    rw [h]; rfl
  · cases h

/-- The chapter's examples: a closed call that tells true. -/
def isTrue : Option Fin → Bool
  | some (.ret (.bool true) _) => true
  | _ => false
theorem isTrue_of {r : Option Fin} (h : isTrue r = true) : ∃ m, r = some (.ret (.bool true) m) := by
  unfold isTrue at h
  split at h
  · exact ⟨_, rfl⟩
  · cases h
def xTrue : List EV → Option EV
  | [] => some (.bool true)
  | _ => none
theorem run_true {T : Nat → Option Ent} {f : Nat} (hf : T f = some (.pure xTrue)) {m : Mem} : run T f [] m = some (.ret (.bool true) m) := by rw [run_pure hf]; rfl
end Go.Proofs.YtfmokmbbfjbonaaDoor.Ev
end
section
namespace Go.Proofs.YtfmokmbbfjbonaaDoor.Ev
open Go
theorem mix : Tryd.prog.follows .mixedOrders = true := by kernel_rfl
theorem ltG : ∀ g, G.contains g = true → g < 3 := fun g h => by simp [G] at h; try omega
abbrev n_internal_bytealg_IndexByteString : Nat := 29
def tree : Bt :=
  (.node 18 (.go F_slices_IndexFunc_string) (.node 10 (.go F_lex_scanner_put) (.node 6 (.go F_lex_Tokens) (.node 4 (.go F_l05_LexStands) (.node 3 (.go F_l05_LexAgain) .leaf .leaf) (.node 5 (.go F_l05_works) .leaf .leaf)) (.node 8 (.go F_lex_Word) (.node 7 (.go F_r05_Skip) .leaf .leaf) (.node 9 (.go F_lex_scanner_next) .leaf .leaf))) (.node 14 (.go F_lex_run) (.node 12 (.go F_slices_Contains_string) (.node 11 (.go F_r05_Blank) .leaf .leaf) (.node 13 (.go F_lex_class) .leaf .leaf)) (.node 16 (.go F_lex_scanner_word) (.node 15 (.go F_strings_Cut) .leaf .leaf) (.node 17 (.go F_lex_scanner_number) .leaf .leaf)))) (.node 26 (.go F_internal_stringslite_IndexByte) (.node 22 (.go F_strings_IndexByte) (.node 20 (.go F_strings_HasPrefix) (.node 19 (.go F_lex_scanner_next_1) .leaf .leaf) (.node 21 (.go F_slices_Index_string) .leaf .leaf)) (.node 24 (.go F_internal_stringslite_Cut) (.node 23 (.go F_slices_Contains_int) .leaf .leaf) (.node 25 (.go F_internal_stringslite_HasPrefix) .leaf .leaf))) (.node 31 (.go F_internal_bytealg_Cutover) (.node 28 (.go F_internal_stringslite_Index) (.node 27 (.go F_slices_Index_int) .leaf .leaf) (.node 29 (.ext xIndexByte) .leaf .leaf)) (.node 33 (.go F_internal_bytealg_hashStr_string) (.node 32 (.go F_internal_bytealg_IndexRabinKarp_string) .leaf .leaf) .leaf))))
def T : Nat → Option Ent := tree.find
theorem okT : ∀ f e, T f = some e → EntOk Tryd.prog G f e := Bt.find_of (t := tree)
  ⟨⟨_, Tryd.func18, ok18⟩, ⟨⟨_, Tryd.func10, ok10⟩, ⟨⟨_, Tryd.func6, ok6⟩, ⟨⟨_, Tryd.func4, ok4⟩, ⟨⟨_, Tryd.func3, ok3⟩, trivial, trivial⟩, ⟨⟨_, Tryd.func5, ok5⟩, trivial, trivial⟩⟩, ⟨⟨_, Tryd.func8, ok8⟩, ⟨⟨_, Tryd.func7, ok7⟩, trivial, trivial⟩, ⟨⟨_, Tryd.func9, ok9⟩, trivial, trivial⟩⟩⟩, ⟨⟨_, Tryd.func14, ok14⟩, ⟨⟨_, Tryd.func12, ok12⟩, ⟨⟨_, Tryd.func11, ok11⟩, trivial, trivial⟩, ⟨⟨_, Tryd.func13, ok13⟩, trivial, trivial⟩⟩, ⟨⟨_, Tryd.func16, ok16⟩, ⟨⟨_, Tryd.func15, ok15⟩, trivial, trivial⟩, ⟨⟨_, Tryd.func17, ok17⟩, trivial, trivial⟩⟩⟩⟩, ⟨⟨_, Tryd.func26, ok26⟩, ⟨⟨_, Tryd.func22, ok22⟩, ⟨⟨_, Tryd.func20, ok20⟩, ⟨⟨_, Tryd.func19, ok19⟩, trivial, trivial⟩, ⟨⟨_, Tryd.func21, ok21⟩, trivial, trivial⟩⟩, ⟨⟨_, Tryd.func24, ok24⟩, ⟨⟨_, Tryd.func23, ok23⟩, trivial, trivial⟩, ⟨⟨_, Tryd.func25, ok25⟩, trivial, trivial⟩⟩⟩, ⟨⟨_, Tryd.func31, ok31⟩, ⟨⟨_, Tryd.func28, ok28⟩, ⟨⟨_, Tryd.func27, ok27⟩, trivial, trivial⟩, ⟨ext_indexByte Tryd.func29 (by kernel_rfl) (by kernel_rfl) (by kernel_rfl) (by kernel_rfl), trivial, trivial⟩⟩, ⟨⟨_, Tryd.func33, ok33⟩, ⟨⟨_, Tryd.func32, ok32⟩, trivial, trivial⟩, trivial⟩⟩⟩⟩
theorem at3 : T 3 = some (.go F_l05_LexAgain) := rfl
theorem at4 : T 4 = some (.go F_l05_LexStands) := rfl
theorem at5 : T 5 = some (.go F_l05_works) := rfl
theorem at6 : T 6 = some (.go F_lex_Tokens) := rfl
theorem at7 : T 7 = some (.go F_r05_Skip) := rfl
theorem at8 : T 8 = some (.go F_lex_Word) := rfl
theorem at9 : T 9 = some (.go F_lex_scanner_next) := rfl
theorem at10 : T 10 = some (.go F_lex_scanner_put) := rfl
theorem at11 : T 11 = some (.go F_r05_Blank) := rfl
theorem at12 : T 12 = some (.go F_slices_Contains_string) := rfl
theorem at13 : T 13 = some (.go F_lex_class) := rfl
theorem at14 : T 14 = some (.go F_lex_run) := rfl
theorem at15 : T 15 = some (.go F_strings_Cut) := rfl
theorem at16 : T 16 = some (.go F_lex_scanner_word) := rfl
theorem at17 : T 17 = some (.go F_lex_scanner_number) := rfl
theorem at18 : T 18 = some (.go F_slices_IndexFunc_string) := rfl
theorem at19 : T 19 = some (.go F_lex_scanner_next_1) := rfl
theorem at20 : T 20 = some (.go F_strings_HasPrefix) := rfl
theorem at21 : T 21 = some (.go F_slices_Index_string) := rfl
theorem at22 : T 22 = some (.go F_strings_IndexByte) := rfl
theorem at23 : T 23 = some (.go F_slices_Contains_int) := rfl
theorem at24 : T 24 = some (.go F_internal_stringslite_Cut) := rfl
theorem at25 : T 25 = some (.go F_internal_stringslite_HasPrefix) := rfl
theorem at26 : T 26 = some (.go F_internal_stringslite_IndexByte) := rfl
theorem at27 : T 27 = some (.go F_slices_Index_int) := rfl
theorem at29 : T 29 = some (.ext xIndexByte) := rfl
theorem at31 : T 31 = some (.go F_internal_bytealg_Cutover) := rfl
theorem at32 : T 32 = some (.go F_internal_bytealg_IndexRabinKarp_string) := rfl
theorem at33 : T 33 = some (.go F_internal_bytealg_hashStr_string) := rfl
end Go.Proofs.YtfmokmbbfjbonaaDoor.Ev
end
section
namespace Go.Proofs.YtfmokmbbfjbonaaDoor.Ev
def globIn : List (Nat × List (List UInt8)) → Nat → Option (List (List UInt8))
  | [], _ => none
  | (g, l) :: r, b => if b = g then some l else globIn r b
end Go.Proofs.YtfmokmbbfjbonaaDoor.Ev
end
section
namespace Go.Proofs.YtfmokmbbfjbonaaDoor.Ev
def L_lex_words : List (List UInt8) := [[102, 110], [118, 97, 114], [105, 102], [101, 108, 115, 101], [119, 104, 105, 108, 101], [102, 111, 114], [98, 114, 101, 97, 107], [99, 111, 110, 116, 105, 110, 117, 101], [114, 101, 116, 117, 114, 110], [112, 114, 105, 110, 116], [108, 101, 110], [110, 101, 119], [116, 114, 117, 101], [102, 97, 108, 115, 101], [110, 105, 108], [105, 110, 116], [98, 111, 111, 108], [97, 114, 114]]
def L_lex_signs : List (List UInt8) := [[124, 124], [38, 38], [61, 61], [33, 61], [60, 61], [62, 61], [43, 37], [45, 37], [42, 37], [60], [62], [43], [45], [42], [47], [37], [33], [61], [40], [41], [123], [125], [91], [93], [44], [59]]
/-- The package variables that are told, by number: rows of texts. -/
def globs : List (Nat × List (List UInt8)) := [(0, L_lex_words), (1, L_lex_signs)]
/-- A package variable, by its number. -/
def glob (b : Nat) : Option (List (List UInt8)) := globIn globs b
end Go.Proofs.YtfmokmbbfjbonaaDoor.Ev
end
section
namespace Go.Proofs.YtfmokmbbfjbonaaDoor.Ev
open Go
set_option linter.unusedSimpArgs false

/-! ### Entries of a table, by number -/
class Has (T : Nat → Option Ent) (f : Nat) (e : outParam Ent) : Prop where
  has : T f = some e
/-! ### New blocks -/
def nb (n i : Nat) : Nat := n + i
def ext (m : Mem) (xs : List Blk) : Mem := xs.foldl Mem.new m
theorem new_eq {m : Mem} {x : Blk} : m.new x = ext m [x] := rfl
theorem ext_ext {m : Mem} {xs ys : List Blk} : ext (ext m xs) ys = ext m (xs ++ ys) := by unfold ext; rw [List.foldl_append]
theorem nb_nb {n i j : Nat} : nb (nb n i) j = nb n (i + j) := Nat.add_assoc n i j
theorem next_ext {m : Mem} {xs : List Blk} : (ext m xs).next = nb m.next xs.length := by
  unfold ext nb
  induction xs generalizing m with
  | nil => rfl
  | cons x xs ih => rw [List.foldl_cons, ih]; show m.next + 1 + _ = _; rw [List.length_cons]; omega
theorem next_set {m : Mem} {b : Nat} {x : Blk} : (m.set b x).next = m.next := rfl
theorem next_new {m : Mem} {x : Blk} : (m.new x).next = m.next + 1 := rfl
theorem get_new {m : Mem} {x : Blk} {b : Nat} : (m.new x).get b = if b = m.next then x else m.get b := by
  unfold Mem.get Mem.new; simp only; rw [Tr.get_set]; split <;> rfl
theorem get_set {m : Mem} {x : Blk} {b c : Nat} : (m.set c x).get b = if b = c then x else m.get b := by
  unfold Mem.get Mem.set; simp only; rw [Tr.get_set]; split <;> rfl
theorem get_set_eq {m : Mem} {x : Blk} {b : Nat} : (m.set b x).get b = x := by rw [get_set, if_pos rfl]
theorem get_set_ne {m : Mem} {x : Blk} {b c : Nat} (h : b ≠ c) : (m.set c x).get b = m.get b := by rw [get_set, if_neg h]
theorem get_ext_old {m : Mem} {xs : List Blk} {b : Nat} (h : b < m.next) : (ext m xs).get b = m.get b := by
  unfold ext
  induction xs generalizing m with
  | nil => rfl
  | cons x xs ih => rw [List.foldl_cons, ih (by rw [next_new]; omega), get_new, if_neg (by omega)]
theorem get_ext_nb {m : Mem} {xs : List Blk} {n i : Nat} (hn : m.next = n) (h : i < xs.length) : (ext m xs).get (nb n i) = xs[i]?.getD .dead := by
  subst hn
  unfold ext nb
  induction xs generalizing m i with
  | nil => simp at h
  | cons x xs ih =>
    rw [List.foldl_cons]
    cases i with
    | zero =>
      have := get_ext_old (m := m.new x) (xs := xs) (b := m.next) (by rw [next_new]; omega)
      unfold ext at this
      rw [Nat.add_zero, this, get_new, if_pos rfl]; rfl
    | succ i =>
      have := ih (m := m.new x) (i := i) (by simpa using h)
      rw [next_new, show m.next + 1 + i = m.next + (i + 1) by omega] at this
      rw [this]; rfl
/-- Memories that tell the same. -/
def Keeps (m m' : Mem) : Prop := ∀ b, b < m.next → m'.get b = m.get b
/-! ### Loads and stores -/
def ldB (x : Blk) (agg : Option Nat) (off : Nat) : Option EV := match x with
  | .cells cs _ _ _ => partOf agg cs off
  | _ => none
theorem load_ptr' {m : Mem} {agg : Option Nat} {b off : Nat} : m.load agg (.ptr b off) = ldB (m.get b) agg off := by
  simp only [Mem.load, ldB]; cases m.get b <;> rfl
theorem ldB_cells {cs : List EV} {e t : Nat} {ro : Bool} {agg : Option Nat} {off : Nat} : ldB (.cells cs e t ro) agg off = partOf agg cs off := rfl
theorem part_none {cs : List EV} {off : Nat} : partOf none cs off = cs[off]? := rfl
theorem part_some {cs : List EV} {off n : Nat} (h : off + n ≤ cs.length) : partOf (some n) cs off = some (.agg ((cs.drop off).take n)) := by
  show (bif (off + n).ble cs.length then some (EV.agg ((cs.drop off).take n)) else none) = _
  rw [Nat.ble_eq_true_of_le h]; rfl
def stB (m : Mem) (size b off : Nat) (vs : Option (List EV)) : Option Mem := match vs with
  | some vs => bif vs.length.beq size then m.write b off vs else none
  | none => none
theorem store_ptr' {m : Mem} {size b off : Nat} {x : EV} : m.store size (.ptr b off) x = stB m size b off x.cells := by
  simp only [Mem.store, stB]; cases x.cells <;> rfl
theorem stB_some {m : Mem} {size b off : Nat} {vs : List EV} (h : vs.length = size) : stB m size b off (some vs) = m.write b off vs := by
  show (bif vs.length.beq size then m.write b off vs else none) = _
  rw [h, beq_self]; rfl
def wrB (m : Mem) (b off : Nat) (vs : List EV) (x : Blk) : Option Mem := match x with
  | .cells cs esz elem ro => bif ro then none else (splice cs off vs).map fun cs => m.set b (.cells cs esz elem ro)
  | _ => none
theorem write_eq {m : Mem} {b off : Nat} {vs : List EV} : m.write b off vs = wrB m b off vs (m.get b) := by simp only [Mem.write, wrB]; cases m.get b <;> rfl
theorem wrB_cells {m : Mem} {b off : Nat} {vs cs : List EV} {e t : Nat} (h : off + vs.length ≤ cs.length) : wrB m b off vs (.cells cs e t false) = some (m.set b (.cells (cs.take off ++ vs ++ cs.drop (off + vs.length)) e t false)) := by
  show (bif false then none else (splice cs off vs).map fun cs => m.set b (.cells cs e t false)) = _
  unfold splice; rw [Nat.ble_eq_true_of_le h]; rfl
/-! ### Cells -/
theorem cells_int {k : IntKind} {n : Int} : (EV.int k n).cells = some [.int k n] := rfl
theorem cells_bool {b : Bool} : (EV.bool b).cells = some [.bool b] := rfl
theorem cells_bo {p : Prop} : (bo p).cells = some [bo p] := rfl
theorem cells_str {s : List UInt8} : (EV.str s).cells = some [.str s] := rfl
theorem cells_nilptr : EV.nilptr.cells = some [.nilptr] := rfl
theorem cells_ptr {b o : Nat} : (EV.ptr b o).cells = some [.ptr b o] := rfl
theorem cells_nilslice : EV.nilslice.cells = some [.nilslice] := rfl
theorem cells_slice {b o l : Nat} {c : Option Nat} : (EV.slice b o l c).cells = some [.slice b o l c] := rfl
theorem cells_nilmap : EV.nilmap.cells = some [.nilmap] := rfl
theorem cells_map {b : Nat} : (EV.map b).cells = some [.map b] := rfl
theorem cells_nilfunc : EV.nilfunc.cells = some [.nilfunc] := rfl
theorem cells_func {f : Nat} {x y : List EV} : (EV.func f x y).cells = some [.func f x y] := rfl
theorem cells_niliface : EV.niliface.cells = some [.niliface] := rfl
theorem cells_iface {t : Nat} {v : EV} : (EV.iface t v).cells = some [.iface t v] := rfl
theorem cells_agg {cs : List EV} : (EV.agg cs).cells = some cs := rfl
def fillB (cs : List EV) (off size : Nat) (vs : Option (List EV)) (r : List (Nat × Nat × EV)) : Option (List EV) := match vs with
  | some vs => bif vs.length.beq size then match splice cs off vs with
      | some cs => fillIn cs r
      | none => none
    else none
  | none => none
theorem fill_nil {cs : List EV} : fillIn cs [] = some cs := rfl
theorem fill_cons {cs : List EV} {off size : Nat} {v : EV} {r : List (Nat × Nat × EV)} : fillIn cs ((off, size, v) :: r) = fillB cs off size v.cells r := by simp only [fillB, fillIn]; cases v.cells <;> rfl
theorem fillB_some {cs : List EV} {off size : Nat} {vs : List EV} {r : List (Nat × Nat × EV)} (h : vs.length = size) (h2 : off + vs.length ≤ cs.length) : fillB cs off size (some vs) r = fillIn (cs.take off ++ vs ++ cs.drop (off + vs.length)) r := by
  show (bif vs.length.beq size then match splice cs off vs with | some cs => fillIn cs r | none => none else none) = _
  unfold splice; rw [h, beq_self, Nat.ble_eq_true_of_le (by rw [← h]; exact h2)]; rfl
def boxE (elem : Nat) (m : Mem) (vs : Option (List EV)) : Option R1 := match vs with
  | some cs => some (.val (.ptr (nb m.next 0) 0) (ext m [.cells cs cs.length elem false]))
  | none => none
theorem evOp_box' {ρ : Opd → EV} {m : Mem} {elem : Nat} {x : Opd} : evOp ρ (.box elem x) m = boxE elem m (ρ x).cells := by
  simp only [evOp]; unfold boxE; cases (ρ x).cells <;> rfl
theorem boxE_some {elem : Nat} {m : Mem} {cs : List EV} : boxE elem m (some cs) = some (.val (.ptr (nb m.next 0) 0) (ext m [.cells cs cs.length elem false])) := rfl
theorem evOp_alloc' {ρ : Opd → EV} {m : Mem} {elem : Nat} {zero : List EV} : evOp ρ (.alloc elem zero) m = some (.val (.ptr (nb m.next 0) 0) (ext m [.cells zero zero.length elem false])) := rfl
theorem evOp_mkmap' {ρ : Opd → EV} {m : Mem} : evOp ρ .mkmap m = some (.val (.map (nb m.next 0)) (ext m [.map []])) := rfl

/-! ### Blocks set: in what order does not matter -/
theorem put_same {α : Type} (x y : α) (p : List Bool) : ∀ t : Tr α, (t.put x p).put y p = t.put y p := by
  induction p with
  | nil => intro t; cases t <;> rfl
  | cons b p ih => intro t; cases t <;> cases b <;> simp [Tr.put, ih]
theorem put_comm {α : Type} (x y : α) (p : List Bool) : ∀ (q : List Bool) (t : Tr α), p ≠ q → (t.put x p).put y q = (t.put y q).put x p := by
  induction p with
  | nil =>
    intro q t h
    cases q with
    | nil => exact absurd rfl h
    | cons c q => cases t <;> cases c <;> simp [Tr.put]
  | cons b p ih =>
    intro q t h
    cases q with
    | nil => cases t <;> cases b <;> simp [Tr.put]
    | cons c q =>
      by_cases hbc : b = c
      · subst hbc
        have hpq : p ≠ q := fun e => h (by rw [e])
        cases t <;> cases b <;> simp [Tr.put, ih _ _ hpq]
      · cases t <;> cases b <;> cases c <;> simp [Tr.put] at hbc ⊢
theorem new_set {m : Mem} {b : Nat} {x y : Blk} (h : b < m.next) : (m.new y).set b x = (m.set b x).new y := by
  unfold Mem.set Mem.new Tr.set; simp only; rw [put_comm _ _ _ _ _ (fun e => by have := path_inj e; omega)]
theorem new_set_same {m : Mem} {x y : Blk} : (m.new y).set m.next x = m.new x := by
  unfold Mem.set Mem.new Tr.set; simp only; rw [put_same]
theorem set_ext_old {m : Mem} {xs : List Blk} {b : Nat} {x : Blk} (h : b < m.next) : (ext m xs).set b x = ext (m.set b x) xs := by
  unfold ext
  induction xs generalizing m with
  | nil => rfl
  | cons y ys ih => rw [List.foldl_cons, ih (by rw [next_new]; omega), new_set h]; rfl
theorem set_ext_nb {m : Mem} {xs : List Blk} {n i : Nat} {x : Blk} (hn : m.next = n) (h : i < xs.length) : (ext m xs).set (nb n i) x = ext m (xs.set i x) := by
  subst hn
  induction xs generalizing m i with
  | nil => simp at h
  | cons y ys ih =>
    cases i with
    | zero =>
      have := set_ext_old (m := m.new y) (xs := ys) (b := m.next) (x := x) (by rw [next_new]; omega)
      rw [new_set_same] at this
      exact this
    | succ i =>
      have := ih (m := m.new y) (i := i) (by simpa using h)
      rw [next_new] at this
      unfold nb at this ⊢
      rw [show m.next + (i + 1) = m.next + 1 + i by omega]
      exact this

/-! ### Calls that leave all asx it was -/
open Classical in
noncomputable def lookOf (T : Nat → Option Ent) (f : Nat) : List EV → Mem → Option EV := fun args m => match run T f args m with
  | some (.ret v m') => if Flat v = true ∧ Keeps m m' then some v else none
  | _ => none
end Go.Proofs.YtfmokmbbfjbonaaDoor.Ev
end
