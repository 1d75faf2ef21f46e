/- EvCode, EvLaw, EvLim, EvSym, EvHeap, EvDrw, EvFz, EvFzOp. -/
import Derived.Scope
import Derived.Below
import Derived.Test.YtjegondbhejpcaaMb
section
namespace Go.Proofs.Ytjegondbhejpcaa.Ev
open Go
section
variable {P : Program} {G : List Nat} {n : Nat} {call : Call}

theorem DefsR.nil_of {ρ : Ren} {ds : List Deferred} (h : DefsR ρ [] ds) : ds = [] := by cases h; rfl
theorem wp_loop_fuel {Q : Exit → Act → World → Prop} {a : Act} {w : World} {c : Code} (I : Nat → Act → World → Prop) (j : Nat) (h₀ : I j a w)
    (round : ∀ j a w, I j a w → c.wp P (Exit.then (fun a' w' => ∃ i, i < j ∧ I i a' w') Q) a w) : (Code.loop c).wp P Q a w := by
  intro b k cs
  have key : ∀ j a w, I j a w → ∃ e a' w', Q e a' w' ∧ Arrives P (lone (b.at a (.code c :: .inLoop c :: k)) cs w) b k cs e a' w' := by
    intro j
    induction j using Nat.strongRecOn with
    | _ j ih =>
      intro a w hI
      obtain ⟨e, a₁, w₁, hq, harr⟩ := round j a w hI b (.inLoop c :: k) cs
      cases e with
      | normal =>
        obtain ⟨i, hlt, hI₁⟩ := hq
        obtain ⟨e₂, a₂, w₂, hq₂, harr₂⟩ := ih i hlt a₁ w₁ hI₁
        exact ⟨e₂, a₂, w₂, hq₂, .of_steps (Steps.trans harr (.one step_inLoop)) harr₂⟩
      | exit id => exact ⟨_, a₁, w₁, hq, .pass (x := .inLoop c) rfl (fun _ _ => .inl (by simp)) harr⟩
      | goto l => exact ⟨_, a₁, w₁, hq, .pass (x := .inLoop c) rfl (fun _ _ => .inl (by simp)) harr⟩
      | ret => exact ⟨_, a₁, w₁, hq, .pass (x := .inLoop c) rfl (fun _ _ => .inl (by simp)) harr⟩
      | panic ch => exact ⟨_, a₁, w₁, hq, .pass (x := .inLoop c) rfl (fun _ _ => .inl (by simp)) harr⟩
      | outgrown => exact ⟨_, a₁, w₁, hq, .pass (x := .inLoop c) rfl (fun _ _ => .inl (by simp)) harr⟩
  obtain ⟨e, a', w', hq, harr⟩ := key j a w h₀
  exact ⟨e, a', w', hq, .of_steps (.one step_loop) harr⟩

theorem code_sound (hmix : P.follows .mixedOrders = true) (hcall : CallOk P G call) (k : Nat) {base : Nat} : ∀ (c : Code) (ic : ICode), cCode P G n c = some ic →
    ∀ (ρ : Ren) (m : Mem) (w : World) (fr : Fr) (a : Act) (out : Out), R base ρ m w → Globs G ρ → FrR ρ n fr a → evCode call k ic fr m = some out → c.wp P (Reach base n ρ m w out) a w
  | .skip, ic, hc, ρ, m, w, fr, a, out, hR, hG, hF, h => by
    simp only [cCode, Option.some.injEq] at hc; subst hc
    simp only [evCode, Option.some.injEq] at h; subst h
    exact wp_skip ⟨rfl, ρ, hR, .refl _ _ _, hF⟩
  | .label l, ic, hc, ρ, m, w, fr, a, out, hR, hG, hF, h => by
    simp only [cCode, Option.some.injEq] at hc; subst hc
    simp only [evCode, Option.some.injEq] at h; subst h
    exact wp_label ⟨rfl, ρ, hR, .refl _ _ _, hF⟩
  | .exit id, ic, hc, ρ, m, w, fr, a, out, hR, hG, hF, h => by
    simp only [cCode, Option.some.injEq] at hc; subst hc
    simp only [evCode, Option.some.injEq] at h; subst h
    exact wp_exit ⟨rfl, ρ, hR, .refl _ _ _, hF⟩
  | .ret, ic, hc, ρ, m, w, fr, a, out, hR, hG, hF, h => by
    simp only [cCode, Option.some.injEq] at hc; subst hc
    simp only [evCode, Option.some.injEq] at h; subst h
    exact wp_ret ⟨rfl, ρ, hR, .refl _ _ _, hF⟩
  | .region id ops false, ic, hc, ρ, m, w, fr, a, out, hR, hG, hF, h => by
    simp only [cCode] at hc
    obtain ⟨is, his, rfl⟩ := map_some' hc
    simp only [evCode] at h
    refine wp_region ?_
    obtain ⟨h1, h2⟩ := mapM_some _ his
    refine ops_sound hcall is (List.range ops.size) (by simpa using h1.symm) (fun j i io hj hio => ?_) ρ m w fr a out hR hG hF h
    have hlt : j < ops.size := by
      have := (List.getElem?_eq_some_iff.1 hj).1
      simpa using this
    rw [List.getElem?_range hlt] at hj
    cases hj
    exact ⟨ops[j], Array.getElem?_eq_getElem hlt, h2 j ops[j] io (by simp [hlt]) hio⟩
  | .region id ops true, ic, hc, ρ, m, w, fr, a, out, hR, hG, hF, h => by
    simp only [cCode] at hc
    cases his : ops.toList.mapM (cOper P G n ops) with
    | none => simp [his] at hc
    | some is =>
      simp only [his] at hc
      obtain ⟨chk, hchk, rfl⟩ := map_some' hc
      simp only [evCode] at h
      exact draw_sound hmix hcall his hchk hR hG hF h
  | .seq x y, ic, hc, ρ, m, w, fr, a, out, hR, hG, hF, h => by
    simp only [cCode] at hc
    cases hx : cCode P G n x with
    | none => simp [hx] at hc
    | some ix =>
    cases hy : cCode P G n y with
    | none => simp [hx, hy] at hc
    | some iy =>
    simp only [hx, hy, Option.some.injEq] at hc
    subst hc
    simp only [evCode] at h
    cases h1 : evCode call k ix fr m with
    | none => simp [h1] at h
    | some o1 =>
      simp only [h1] at h
      have hw := code_sound hmix hcall k x ix hx ρ m w fr a o1 hR hG hF h1
      refine wp_seq (wp_mono hw fun e a1 w1 hq => ?_)
      cases o1 with
      | norm fr1 m1 =>
        obtain ⟨rfl, ρ1, hR1, hs, hF1⟩ := hq
        simp only [Exit.then]
        have := code_sound hmix hcall k y iy hy ρ1 m1 w1 fr1 a1 out hR1 (hG.ext hs.ext) hF1 h
        exact wp_mono this fun e a w hq => hq.after hs
      | exit id fr1 m1 =>
        simp only [Option.some.injEq] at h; subst h
        have := hq; obtain ⟨rfl, _⟩ := this; exact hq
      | ret fr1 m1 =>
        simp only [Option.some.injEq] at h; subst h
        have := hq; obtain ⟨rfl, _⟩ := this; exact hq
      | pan v fr1 m1 =>
        simp only [Option.some.injEq] at h; subst h
        have := hq; obtain ⟨_, _, rfl, _⟩ := this; exact hq
  | .cond c x y, ic, hc, ρ, m, w, fr, a, out, hR, hG, hF, h => by
    simp only [cCode] at hc
    cases hcc : cOpd G c with
    | none => simp [hcc] at hc
    | some c' =>
    cases hx : cCode P G n x with
    | none => simp [hcc, hx] at hc
    | some ix =>
    cases hy : cCode P G n y with
    | none => simp [hcc, hx, hy] at hc
    | some iy =>
    simp only [hcc, hx, hy, Option.some.injEq] at hc
    subst hc
    simp only [evCode] at h
    have hcv := cOpd_sound hG hF.tm hcc
    cases hev : fr.eval c' <;> simp only [hev, reduceCtorEq] at h
    rename_i t
    rw [hev] at hcv
    generalize hav : a.eval c = av at hcv
    cases hcv
    refine wp_cond hav ?_
    cases t with
    | true => exact code_sound hmix hcall k x ix hx ρ m w fr a out hR hG hF h
    | false => exact code_sound hmix hcall k y iy hy ρ m w fr a out hR hG hF h
  | .block id x, ic, hc, ρ, m, w, fr, a, out, hR, hG, hF, h => by
    simp only [cCode] at hc
    obtain ⟨ix, hx, rfl⟩ := map_some' hc
    simp only [evCode] at h
    cases h1 : evCode call k ix fr m with
    | none => simp [h1] at h
    | some o1 =>
      simp only [h1] at h
      have hw := code_sound hmix hcall k x ix hx ρ m w fr a o1 hR hG hF h1
      refine wp_block (wp_mono hw fun e a1 w1 hq => ?_)
      cases o1 with
      | norm fr1 m1 =>
        simp only [Option.some.injEq] at h; subst h
        have := hq; obtain ⟨rfl, _⟩ := this; exact hq
      | exit j fr1 m1 =>
        obtain ⟨rfl, hq⟩ := hq
        simp only [Exit.inBlock]
        cases hj : j.beq id <;> simp only [hj, cond_true, cond_false, Option.some.injEq] at h <;> subst h
        · rw [if_neg (of_beq_ff hj)]; exact ⟨rfl, hq⟩
        · rw [if_pos (of_beq hj)]; exact ⟨rfl, hq⟩
      | ret fr1 m1 =>
        simp only [Option.some.injEq] at h; subst h
        have := hq; obtain ⟨rfl, _⟩ := this; exact hq
      | pan v fr1 m1 =>
        simp only [Option.some.injEq] at h; subst h
        have := hq; obtain ⟨_, _, rfl, _⟩ := this; exact hq
  | .loop x, ic, hc, ρ, m, w, fr, a, out, hR, hG, hF, h => by
    simp only [cCode] at hc
    obtain ⟨ix, hx, rfl⟩ := map_some' hc
    simp only [evCode] at h
    refine wp_loop_fuel (fun j a1 w1 => ∃ ρ1 m1 fr1, R base ρ1 m1 w1 ∧ Step ρ m w ρ1 m1 w1 ∧ FrR ρ1 n fr1 a1 ∧ iter (evCode call k ix) j fr1 m1 = some out) k ⟨ρ, m, fr, hR, .refl _ _ _, hF, h⟩ ?_
    rintro j a1 w1 ⟨ρ1, m1, fr1, hR1, hs, hF1, hit⟩
    cases j with
    | zero => simp [iter] at hit
    | succ j =>
      simp only [iter] at hit
      cases h1 : evCode call k ix fr1 m1 with
      | none => simp [h1] at hit
      | some o1 =>
        simp only [h1] at hit
        have hw := code_sound hmix hcall k x ix hx ρ1 m1 w1 fr1 a1 o1 hR1 (hG.ext hs.ext) hF1 h1
        refine wp_mono hw fun e a2 w2 hq => ?_
        cases o1 with
        | norm fr2 m2 =>
          obtain ⟨rfl, ρ2, hR2, hs2, hF2⟩ := hq
          exact ⟨j, Nat.lt_succ_self j, ρ2, m2, fr2, hR2, hs.trans hs2, hF2, hit⟩
        | exit id fr2 m2 =>
          simp only [Option.some.injEq] at hit; subst hit
          have := hq; obtain ⟨rfl, _⟩ := this; exact hq.after hs
        | ret fr2 m2 =>
          simp only [Option.some.injEq] at hit; subst hit
          have := hq; obtain ⟨rfl, _⟩ := this; exact hq.after hs
        | pan v fr2 m2 =>
          simp only [Option.some.injEq] at hit; subst hit
          have := hq; obtain ⟨_, _, rfl, _⟩ := this; exact hq.after hs
  | .scope x, ic, hc, ρ, m, w, fr, a, out, hR, hG, hF, h => by
    simp only [cCode] at hc
    refine wp_scope_straight (wp_mono (code_sound hmix hcall k x ic hc ρ m w fr a out hR hG hF h) fun e a1 w1 hq => ?_)
    cases out with
    | norm fr1 m1 => have := hq; obtain ⟨rfl, _⟩ := this; exact hq
    | exit id fr1 m1 => have := hq; obtain ⟨rfl, _⟩ := this; exact hq
    | ret fr1 m1 => have := hq; obtain ⟨rfl, _⟩ := this; exact hq
    | pan v fr1 m1 => have := hq; obtain ⟨_, _, rfl, _⟩ := this; exact hq
  | .goto l, ic, hc, ρ, m, w, fr, a, out, hR, hG, hF, h => by simp [cCode] at hc
  | .refuse l, ic, hc, ρ, m, w, fr, a, out, hR, hG, hF, h => by simp [cCode] at hc
  | .rangeFunc f ps s b, ic, hc, ρ, m, w, fr, a, out, hR, hG, hF, h => by simp [cCode] at hc

/-! ### Functions -/
theorem args0_get : ∀ (l : List EV) (i : Nat) (t : Tr EV) (k : Nat), (args0 l i t).get k = if i ≤ k ∧ k < i + l.length then l[k - i]? else t.get k
  | [], i, t, k => by rw [if_neg (fun h => by have := h.2; simp at this; omega)]; rfl
  | v :: l, i, t, k => by
    simp only [args0]
    rw [args0_get l (i + 1) (t.set i v) k, Tr.get_set]
    by_cases h : k = i
    · subst h
      rw [if_neg (by omega), if_pos rfl, if_pos (by simp)]
      simp
    · by_cases h2 : i + 1 ≤ k ∧ k < i + 1 + l.length
      · rw [if_pos h2, if_pos (by simp; omega), show k - i = (k - (i + 1)) + 1 by omega]
        simp
      · rw [if_neg h2, if_neg h, if_neg (by simp; omega)]
theorem frame_start {ρ : Ren} {args : List EV} {args' : Array Value} (hv : VRs ρ args args'.toList) (hn : args'.size ≤ n) : FrR ρ n ⟨args0 args 0 .leaf, []⟩ { tmps := args' ++ Array.replicate (n - args'.size) undef, defers := [] } := by
  have hl := hv.length
  simp at hl
  refine ⟨⟨by simp; omega, fun t => ?_⟩, .nil⟩
  unfold Fr.get
  simp only
  rw [args0_get, Tr.get_leaf]
  by_cases h : 0 ≤ t ∧ t < 0 + args.length
  · rw [if_pos h]
    have hlt : t < args.length := by omega
    obtain ⟨v', g1, g2⟩ := hv.get t args[t] (List.getElem?_eq_getElem hlt)
    rw [show t - 0 = t by omega, List.getElem?_eq_getElem hlt]
    rw [Array.getD_eq_getD_getElem?, Array.getElem?_append_left (by omega)]
    rw [Array.getElem?_toList] at g1
    rw [g1]
    exact g2
  · rw [if_neg h]
    have hlt : args'.size ≤ t := by omega
    have e : (args' ++ Array.replicate (n - args'.size) undef).getD t undef = undef := by
      rw [Array.getD_eq_getD_getElem?, Array.getElem?_append_right hlt, Array.getElem?_replicate]
      split <;> rfl
    rw [e]
    exact .undef
theorem results_sound {base : Nat} {ρ : Ren} {m : Mem} {w : World} {fr : Fr} {a : Act} (hR : R base ρ m w) (hF : FR ρ n fr a) : ∀ (rs : List ResultVar) (irs : List IRes) (vs : List EV), rs.mapM (cRes P) = some irs → evResults fr m irs = some vs →
    ∃ vs', (rs.mapM fun r => (match r with | .tmp t => pure (a.tmps.getD t undef) | .cell ad t => do loadVar t (← asAddr (a.tmps.getD ad undef)) : Sem Value)).run P w = .ok vs' w ∧ VRs ρ vs vs'
  | [], irs, vs, hc, h => by
    simp at hc; subst hc
    simp [evResults] at h; subst h
    exact ⟨[], rfl, .nil⟩
  | r :: rs, irs, vs, hc, h => by
    rw [List.mapM_cons] at hc
    cases hr : cRes P r with
    | none => simp [hr] at hc
    | some ir =>
    cases hrs : rs.mapM (cRes P) with
    | none => simp [hr, hrs] at hc
    | some irs' =>
    simp [hr, hrs] at hc
    subst hc
    simp only [evResults] at h
    cases hv : evRes fr m ir with
    | none => simp [hv] at h
    | some v =>
    simp only [hv] at h
    obtain ⟨vs0, h0, rfl⟩ := map_some' h
    obtain ⟨vs', r1, r2⟩ := results_sound hR hF rs irs' vs0 hrs h0
    cases r with
    | tmp t =>
      simp only [cRes, Option.some.injEq] at hr; subst hr
      simp only [evRes, Option.some.injEq] at hv; subst hv
      exact ⟨a.tmps.getD t undef :: vs', by simp only [List.mapM_cons, Sem.run_bind, Sem.run_pure, Result.andThen_ok, r1], .cons (hF.tmp t) r2⟩
    | cell ad t =>
      simp only [cRes] at hr
      obtain ⟨g, hg, rfl⟩ := map_some' hr
      simp only [evRes] at hv
      obtain ⟨ad', v', e1, e2, e3⟩ := loadVar_sound (P := P) hR hg (hF.tmp ad) hv
      have ea : (asAddr (a.tmps.getD ad undef)).run P w = .ok ad' w := by rw [e1]; rfl
      exact ⟨v' :: vs', by simp only [List.mapM_cons, Sem.run_bind, ea, Sem.run_pure, Result.andThen_ok, e2, r1], .cons e3 r2⟩
theorem one_sound {ρ : Ren} {vs : List EV} {vs' : List Value} (h : VRs ρ vs vs') : VR ρ (one vs) (if hh : (⟨vs'⟩ : Array Value).size = 1 then (⟨vs'⟩ : Array Value)[0] else .tuple ⟨vs'⟩) := by
  cases h with
  | nil => exact .tuple .nil
  | cons hx hs =>
    cases hs with
    | nil => simpa [one] using hx
    | cons hy hs =>
      simp only [one]
      rw [dif_neg (by simp)]
      exact .tuple (.cons hx (.cons hy hs))
/-- A table that fits the program. -/
def EntOk (P : Program) (G : List Nat) (f : Nat) : Ent → Prop
  | .go F => ∃ fn, P.funcs[f]? = some fn ∧ cFun P G fn = some F
  | .ext g => ∀ base ρ m w args (args' : Array Value) v, R base ρ m w → VRs ρ args args'.toList → g args = some v → ∃ v', (callFunc f args').run P w = .ok (.value v') w ∧ VR ρ v v'
  | .pure g => ∀ base ρ m w args (args' : Array Value) v, R base ρ m w → VRs ρ args args'.toList → g args = some v → (callFunc f args').run P w = .ok (.enter f args') w ∧ Calls P f args' w (CallPost base ρ m w (.ret v m))
  | .spec g => ∀ base ρ m w args (args' : Array Value) fin, R base ρ m w → Globs G ρ → VRs ρ args args'.toList → g args m = some fin → (callFunc f args').run P w = .ok (.enter f args') w ∧ Calls P f args' w (CallPost base ρ m w fin)
theorem body_sound (hmix : P.follows .mixedOrders = true) (hcall : CallOk P G call) (k : Nat) {base : Nat} {f : Nat} {fn : Func} (hf : P.funcs[f]? = some fn) {F : IFun} (hc : cFun P G fn = some F) {args : List EV} {m : Mem} {fin : Fin} (h : evBody call k F args m = some fin)
    {ρ : Ren} {w : World} {args' : Array Value} (hR : R base ρ m w) (hG : Globs G ρ) (hv : VRs ρ args args'.toList) :
    (callFunc f args').run P w = .ok (.enter f args') w ∧ Calls P f args' w (CallPost base ρ m w fin) := by
  unfold cFun at hc
  cases hb : fn.body with
  | none => simp [hb] at hc
  | some c =>
  simp only [hb] at hc
  cases hnm : fn.name == "runtime.NumGoroutine" <;> simp only [hnm, cond_true, cond_false, reduceCtorEq] at hc
  cases hcc : cCode P G fn.ntmps c with
  | none => simp [hcc] at hc
  | some b =>
  cases hrr : fn.results.toList.mapM (cRes P) with
  | none => simp [hcc, hrr] at hc
  | some r =>
  simp only [hcc, hrr, Option.some.injEq] at hc
  subst hc
  refine ⟨?_, ?_⟩
  · simp [callFunc, hf, hb]
    simpa using hnm
  · have hl := hv.length
    simp at hl
    unfold evBody at h
    cases hargs : args.length.ble fn.ntmps with
    | false => simp [hargs] at h
    | true =>
    simp only [hargs, cond_true] at h
    have hn : args'.size ≤ fn.ntmps := by have := Nat.le_of_ble_eq_true hargs; omega
    refine calls_of_wp hf hb ?_
    cases h1 : evCode call k b ⟨args0 args 0 .leaf, []⟩ m with
    | none => simp [h1] at h
    | some o1 =>
      simp only [h1] at h
      have hw := code_sound hmix hcall k c b hcc ρ m w _ _ o1 hR hG (frame_start hv hn) h1
      refine wp_mono hw fun e a1 w1 hq => ?_
      have done : ∀ {fr1 : Fr} {m1 : Mem} {ρ1 : Ren}, R base ρ1 m1 w1 → Step ρ m w ρ1 m1 w1 → FrR ρ1 fn.ntmps fr1 a1 → (match fr1.defers with | [] => (evResults fr1 m1 r).map fun vs => Fin.ret (one vs) m1 | _ => none) = some fin →
          a1.defers = [] ∧ ∃ v, (results fn a1.tmps).run P w1 = .ok v w1 ∧ CallPost base ρ m w fin (.returned v) w1 := by
        intro fr1 m1 ρ1 hR1 hs hF1 hfin
        have hd := hF1.defs
        cases hdf : fr1.defers with
        | cons x l => simp [hdf] at hfin
        | nil =>
          rw [hdf] at hd
          simp only [hdf] at hfin
          obtain ⟨vs, hvs, rfl⟩ := map_some' hfin
          obtain ⟨vs', r1, r2⟩ := results_sound (P := P) hR1 hF1.tm fn.results.toList r vs hrr hvs
          refine ⟨hd.nil_of, _, ?_, ρ1, _, rfl, one_sound r2, hR1, hs⟩
          simp only [results, Sem.run_bind]
          rw [Array.mapM_eq_mapM_toList, Sem.run_map]
          erw [r1]
          rfl
      cases o1 with
      | norm fr1 m1 =>
        obtain ⟨rfl, ρ1, hR1, hs, hF1⟩ := hq
        exact done hR1 hs hF1 h
      | ret fr1 m1 =>
        obtain ⟨rfl, ρ1, hR1, hs, hF1⟩ := hq
        exact done hR1 hs hF1 h
      | exit id fr1 m1 => simp at h
      | pan v fr1 m1 =>
        obtain ⟨ρ1, v', rfl, hvv, hR1, hs, hF1⟩ := hq
        simp only at h
        have hd := hF1.defs
        cases hdf : fr1.defers with
        | cons x l => simp [hdf] at h
        | nil =>
          rw [hdf] at hd
          simp only [hdf, Option.some.injEq] at h
          subst h
          exact ⟨hd.nil_of, ρ1, v', rfl, hvv, hR1, hs⟩
/-- The evaluator is sound, at whatever fuel. -/
theorem evFun_ok (hmix : P.follows .mixedOrders = true) {T : Nat → Option Ent} (hT : ∀ f e, T f = some e → EntOk P G f e) : ∀ k, CallOk P G (evFun T k)
  | 0 => fun f args m fin h => by simp [evFun] at h
  | k + 1 => fun f args m fin h base ρ w args' hR hG hv => by
    simp only [evFun] at h
    cases he : T f with
    | none => simp [he] at h
    | some e =>
      simp only [he] at h
      have hok := hT f e he
      cases e with
      | go F =>
        obtain ⟨fn, hf, hc⟩ := hok
        exact .inl (body_sound hmix (evFun_ok hmix hT k) k hf hc h hR hG hv)
      | ext g =>
        simp only [evEnt] at h
        obtain ⟨v, hg, rfl⟩ := map_some' h
        obtain ⟨v', h1, h2⟩ := hok base ρ m w args args' v hR hv hg
        exact .inr ⟨v, v', rfl, h1, h2⟩
      | pure g =>
        simp only [evEnt] at h
        obtain ⟨v, hg, rfl⟩ := map_some' h
        exact .inl (hok base ρ m w args args' v hR hv hg)
      | spec g =>
        simp only [evEnt] at h
        exact .inl (hok base ρ m w args args' fin hR hG hv h)
end
end Go.Proofs.Ytjegondbhejpcaa.Ev
end
section
namespace Go.Proofs.Ytjegondbhejpcaa.Ev
open Go Go.RowKit

/-- A run of a law: the machine's call returns, and what was there stands asx it stood. -/
theorem law_calls {P : Program} {G : List Nat} (hmix : P.follows .mixedOrders = true) {T : Nat → Option Ent} (hT : ∀ f e, T f = some e → EntOk P G f e) {k f : Nat} {F : IFun} (hf : T f = some (.go F))
    {args : List EV} {m m' : Mem} {b : Bool} (h : evFun T k f args m = some (.ret (.bool b) m')) {ρ : Ren} {w : World} {args' : Array Value} (hR : R w.heap.size ρ m w) (hG : Globs G ρ)
    (hro : ∀ b L, ρ b = some L → Live m b → L.ro = true) (hv : VRs ρ args args'.toList) : Calls P f args' w fun e w' => e = .returned (.bool b) ∧ Below w.heap.size w w' := by
  cases k with
  | zero => simp [evFun] at h
  | succ k =>
    simp only [evFun, hf, evEnt] at h
    obtain ⟨fn, h1, h2⟩ := hT f _ hf
    obtain ⟨_, hc⟩ := body_sound hmix (evFun_ok hmix hT k) k h1 h2 h hR hG hv
    refine hc.mono fun e w' hp => ?_
    obtain ⟨ρ', v', rfl, hvv, _, hs⟩ := hp
    cases hvv
    refine ⟨rfl, hs.os, hs.tape, hs.output, hs.size, fun i hi => hs.kept i hi ?_⟩
    rintro ⟨b, L, h1, h2, h3, _⟩
    rw [hro b L h1 h2] at h3
    cases h3

/-- Where a call begins that is given no memory: the globals alone, of which nothing is known. -/
def ren0 (n : Nat) : Ren := fun b => if b < n then some ⟨b, 0, 0, 1, true⟩ else none
def mem0 (n : Nat) : Mem := ⟨n, .leaf⟩
theorem mem0_get (n b : Nat) : (mem0 n).get b = .dead := by unfold Mem.get mem0; simp only [Tr.get_leaf]; rfl
theorem start_R (n : Nat) (w : World) : R w.heap.size (ren0 n) (mem0 n) w := by
  refine ⟨fun b L hb => ?_, fun b L hb => ?_, fun b c L L' _ _ h3 => absurd (mem0_get n b) h3, Nat.le_refl _, fun b _ => mem0_get n b⟩
  · unfold ren0 at hb; split at hb
    · assumption
    · cases hb
  · rw [mem0_get]; trivial
theorem start_G {n : Nat} {G : List Nat} (h : ∀ g, G.contains g = true → g < n) : Globs G (ren0 n) := fun g hg => ⟨⟨g, 0, 0, 1, true⟩, by unfold ren0; rw [if_pos (h g hg)], rfl, rfl⟩
/-! ### More fuel -/
def CallLe (c c' : Call) : Prop := ∀ f a m r, c f a m = some r → c' f a m = some r
theorem evCall_le {c c' : Call} (h : CallLe c c') {f : EV} {a : List EV} {m : Mem} {r : Fin} (e : evCall c f a m = some r) : evCall c' f a m = some r := by
  cases f <;> simp only [evCall, reduceCtorEq] at e ⊢
  exact h _ _ _ _ e
theorem evOps_le {c c' : Call} (h : CallLe c c') : ∀ (ops : List IOper) (fr : Fr) (m : Mem) (r : Out), evOps c ops fr m = some r → evOps c' ops fr m = some r
  | [], fr, m, r, e => e
  | o :: ops, fr, m, r, e => by
    simp only [evOps] at e ⊢
    cases hw : wantedE fr o.guard with
    | none => simp [hw] at e
    | some b =>
    cases b with
    | false => simp only [hw] at e ⊢; exact evOps_le h ops _ _ _ e
    | true =>
      simp only [hw] at e ⊢
      cases ho : o.op with
      | val op =>
        simp only [ho] at e ⊢
        cases hv : evOp fr.eval op m with
        | none => simp [hv] at e
        | some q => obtain ⟨v, m1⟩ := q; simp only [hv] at e ⊢; exact evOps_le h ops _ _ _ e
      | call f args =>
        simp only [ho] at e ⊢
        cases hv : evCall c (fr.eval f) (args.map fr.eval) m with
        | none => simp [hv] at e
        | some q =>
          rw [evCall_le h hv]
          cases q with
          | ret v m1 => simp only [hv] at e ⊢; exact evOps_le h ops _ _ _ e
          | pan v m1 => simp only [hv] at e ⊢; exact e
      | panic x => simp only [ho] at e ⊢; exact e
      | defer f args =>
        simp only [ho] at e ⊢
        split at e
        · exact evOps_le h ops _ _ _ e
        · cases e
theorem evDraw_le {c c' : Call} (h : CallLe c c') {chk : List (Nat × Nat)} {B0 : Nat} : ∀ (ops : List IOper) (i : Nat) (fr : Fr) (m : Mem) (sn : List (Nat × Mem)) (se : List Seen) (r : Out), evDraw c chk B0 ops i fr m sn se = some r → evDraw c' chk B0 ops i fr m sn se = some r
  | [], i, fr, m, sn, se, r, e => e
  | o :: ops, i, fr, m, sn, se, r, e => by
    simp only [evDraw] at e ⊢
    cases hw : wantedE fr o.guard with
    | none => simp [hw] at e
    | some b =>
    cases b with
    | false => simp only [hw] at e ⊢; exact evDraw_le h ops _ _ _ _ _ _ e
    | true =>
      simp only [hw] at e ⊢
      cases ho : o.op with
      | panic x => simp [ho] at e
      | defer f x => simp [ho] at e
      | call f args =>
        simp only [ho] at e ⊢
        cases hv : evCall c (fr.eval f) (args.map fr.eval) m with
        | none => simp [hv] at e
        | some q =>
          rw [evCall_le h hv]
          cases q with
          | pan v m1 => simp [hv] at e
          | ret v m1 =>
            simp only [hv] at e ⊢
            cases hk : checkSeen chk i m1 se <;> simp only [hk, cond_true, cond_false, reduceCtorEq] at e ⊢
            exact evDraw_le h ops _ _ _ _ _ _ e
      | val op =>
        simp only [ho] at e ⊢
        split at e
        · cases hv : evOp fr.eval op m with
          | none => simp [hv] at e
          | some q => obtain ⟨v, m1⟩ := q; simp only [hv] at e ⊢; exact evDraw_le h ops _ _ _ _ _ _ e
        · cases hv : evOp fr.eval op ⟨B0 + i, m.tbl⟩ with
          | none => simp [hv] at e
          | some q => obtain ⟨v, m1⟩ := q; simp only [hv] at e ⊢; exact evDraw_le h ops _ _ _ _ _ _ e
        · split at e
          · rename_i agg x _
            cases hl : m.load agg (fr.eval x) with
            | none => simp [hl] at e
            | some v =>
              simp only [hl] at e ⊢
              cases hf : isF (fr.eval x) <;> simp only [hf, cond_true, cond_false] at e ⊢
              · cases hk : checkSnap chk i agg (fr.eval x) v sn <;> simp only [hk, cond_true, cond_false, reduceCtorEq] at e ⊢
                exact evDraw_le h ops _ _ _ _ _ _ e
              · cases hk : checkOld chk i m.next sn <;> simp only [hk, cond_true, cond_false, reduceCtorEq] at e ⊢
                exact evDraw_le h ops _ _ _ _ _ _ e
          · cases e
        · rename_i h0 h1 h2
          cases hv : evOp fr.eval op m with
          | none => simp [hv] at e
          | some q =>
            obtain ⟨v, m1⟩ := q
            simp only [hv] at e ⊢
            cases hk : checkSeen chk i m1 se <;> simp only [hk, cond_true, cond_false, reduceCtorEq] at e ⊢
            exact evDraw_le h ops _ _ _ _ _ _ e
theorem iter_le {b b' : Fr → Mem → Option Out} (h : ∀ fr m r, b fr m = some r → b' fr m = some r) : ∀ (n n' : Nat), n ≤ n' → ∀ (fr : Fr) (m : Mem) (r : Out), iter b n fr m = some r → iter b' n' fr m = some r
  | 0, n', _, fr, m, r, e => by simp [iter] at e
  | n + 1, 0, hn, fr, m, r, e => by omega
  | n + 1, n' + 1, hn, fr, m, r, e => by
    simp only [iter] at e ⊢
    cases hb : b fr m with
    | none => simp [hb] at e
    | some o =>
      rw [h _ _ _ hb]
      simp only [hb] at e
      cases o with
      | norm fr1 m1 => exact iter_le h n n' (by omega) fr1 m1 r e
      | exit id fr1 m1 => exact e
      | ret fr1 m1 => exact e
      | pan v fr1 m1 => exact e
theorem evCode_le {c c' : Call} (h : CallLe c c') {n n' : Nat} (hn : n ≤ n') : ∀ (x : ICode) (fr : Fr) (m : Mem) (r : Out), evCode c n x fr m = some r → evCode c' n' x fr m = some r
  | .skip, fr, m, r, e => e
  | .ret, fr, m, r, e => e
  | .exit id, fr, m, r, e => e
  | .region ops, fr, m, r, e => by simp only [evCode] at e ⊢; exact evOps_le h _ _ _ _ e
  | .draw ops chk, fr, m, r, e => by simp only [evCode] at e ⊢; exact evDraw_le h _ _ _ _ _ _ _ e
  | .seq a b, fr, m, r, e => by
    simp only [evCode] at e ⊢
    cases ha : evCode c n a fr m with
    | none => simp [ha] at e
    | some o =>
      rw [evCode_le h hn a _ _ _ ha]
      simp only [ha] at e
      cases o with
      | norm fr1 m1 => exact evCode_le h hn b _ _ _ e
      | exit id fr1 m1 => exact e
      | ret fr1 m1 => exact e
      | pan v fr1 m1 => exact e
  | .cond x a b, fr, m, r, e => by
    simp only [evCode] at e ⊢
    split at e
    · rename_i t _
      cases t <;> simp only [cond_true, cond_false] at e ⊢
      · exact evCode_le h hn b _ _ _ e
      · exact evCode_le h hn a _ _ _ e
    · cases e
  | .block id a, fr, m, r, e => by
    simp only [evCode] at e ⊢
    cases ha : evCode c n a fr m with
    | none => simp [ha] at e
    | some o =>
      rw [evCode_le h hn a _ _ _ ha]
      simp only [ha] at e
      exact e
  | .loop a, fr, m, r, e => by
    simp only [evCode] at e ⊢
    exact iter_le (fun fr m r => evCode_le h hn a fr m r) n n' hn fr m r e
theorem evBody_le {c c' : Call} (h : CallLe c c') {n n' : Nat} (hn : n ≤ n') {F : IFun} {args : List EV} {m : Mem} {r : Fin} (e : evBody c n F args m = some r) : evBody c' n' F args m = some r := by
  unfold evBody at e ⊢
  cases hl : args.length.ble F.ntmps <;> simp only [hl, cond_true, cond_false, reduceCtorEq] at e ⊢
  cases hc : evCode c n F.body ⟨args0 args 0 .leaf, []⟩ m with
  | none => simp [hc] at e
  | some o =>
    rw [evCode_le h hn _ _ _ _ hc]
    simp only [hc] at e
    exact e
theorem evFun_le (T : Nat → Option Ent) : ∀ (k k' : Nat), k ≤ k' → CallLe (evFun T k) (evFun T k')
  | 0, k', _ => fun f a m r e => by simp [evFun] at e
  | k + 1, 0, h => by omega
  | k + 1, k' + 1, h => fun f a m r e => by
    simp only [evFun] at e ⊢
    cases hT : T f with
    | none => simp [hT] at e
    | some x =>
      simp only [hT] at e ⊢
      cases x with
      | go F => simp only [evEnt] at e ⊢; exact evBody_le (evFun_le T k k' (by omega)) (by omega) e
      | ext g => exact e
      | pure g => exact e
      | spec g => exact e

/-! ### Calls that keep nothing of the memory -/
mutual
/-- It names no block. -/
def Flat : EV → Bool
  | .ptr _ _ | .slice _ _ _ _ | .map _ | .fz _ _ _ | .fptr _ _ _ _ => false
  | .func _ x y => flats x && flats y
  | .iface _ v => Flat v
  | .agg x | .tuple x => flats x
  | _ => true
def flats : List EV → Bool
  | [] => true
  | v :: x => Flat v && flats x
end
mutual
theorem VR.flat {ρ ρ' : Ren} : ∀ {v : EV} {v' : Value}, VR ρ v v' → Flat v = true → VR ρ' v v'
  | _, _, .undef, _ => .undef
  | _, _, .bool b, _ => .bool b
  | _, _, .int k n, _ => .int k n
  | _, _, .str s, _ => .str s
  | _, _, .nilptr, _ => .nilptr
  | _, _, .ptr _, h => by simp [Flat] at h
  | _, _, .nilslice, _ => .nilslice
  | _, _, .slice _ _ _ _, h => by simp [Flat] at h
  | _, _, .sliceC _ _ _, h => by simp [Flat] at h
  | _, _, .sliceE, h => by simp [Flat] at h
  | _, _, .nilmap, _ => .nilmap
  | _, _, .map _, h => by simp [Flat] at h
  | _, _, .nilfunc, _ => .nilfunc
  | _, _, .func hx hy, h => by simp only [Flat, Bool.and_eq_true] at h; exact .func (VRs.flat hx h.1) (VRs.flat hy h.2)
  | _, _, .niliface, _ => .niliface
  | _, _, .iface hv, h => .iface (VR.flat hv (by simpa only [Flat] using h))
  | _, _, .agg hx hf, h => .agg (VRs.flat hx (by simpa only [Flat] using h)) hf
  | _, _, .tuple hx, h => .tuple (VRs.flat hx (by simpa only [Flat] using h))
theorem VRs.flat {ρ ρ' : Ren} : ∀ {x : List EV} {x' : List Value}, VRs ρ x x' → flats x = true → VRs ρ' x x'
  | _, _, .nil, _ => .nil
  | _, _, .cons hv hs, h => by simp only [flats, Bool.and_eq_true] at h; exact .cons (VR.flat hv h.1) (VRs.flat hs h.2)
end
/-- A call with plain arguments and a plain result, shown where nothing else is: the same everywhere, and the rest stands. -/
theorem pure_ok {P : Program} {G : List Nat} (hmix : P.follows .mixedOrders = true) {T : Nat → Option Ent} (hT : ∀ f e, T f = some e → EntOk P G f e) {f : Nat} {F : IFun} (hf : T f = some (.go F)) {n0 : Nat} (hG : ∀ g, G.contains g = true → g < n0)
    {g : List EV → Option EV} (hg : ∀ args v, g args = some v → flats args = true ∧ Flat v = true ∧ ∃ k m', evFun T k f args (mem0 n0) = some (.ret v m')) : EntOk P G f (.pure g) := by
  intro base ρ m w args args' v hR hv h
  obtain ⟨h1, h2, k, m', hrun⟩ := hg args v h
  cases k with
  | zero => simp [evFun] at hrun
  | succ k =>
    simp only [evFun, hf, evEnt] at hrun
    obtain ⟨fn, q1, q2⟩ := hT f _ hf
    obtain ⟨hent, hc⟩ := body_sound hmix (evFun_ok hmix hT k) k q1 q2 hrun (start_R n0 w) (start_G hG) (hv.flat h1)
    refine ⟨hent, hc.mono fun e w' hp => ?_⟩
    obtain ⟨ρ', v', rfl, hvv, _, hs⟩ := hp
    have kept : ∀ i, i < w.heap.size → w'.heap[i]? = w.heap[i]? := fun i hi => hs.kept i hi (by
      rintro ⟨b, L, _, p2, _⟩
      exact p2 (mem0_get n0 b))
    refine ⟨ρ, v', rfl, hvv.flat h2, ⟨hR.lt, fun b L hb => ?_, hR.inj, Nat.le_trans hR.base hs.size, hR.clean⟩, ⟨.refl ρ, fun _ h h' => absurd h h', Nat.le_refl _, fun _ _ _ => rfl, fun _ _ h => h, hs.size, fun _ _ h => h, fun i hi _ => kept i hi, hs.os, hs.tape, hs.output⟩⟩
    have hB := hR.blk b L hb
    by_cases hd : m.get b = .dead
    · rw [hd]; trivial
    · exact hB.of_heap (.refl ρ) (kept _ (hB.lt hd))
theorem VR.str_any {ρ ρ' : Ren} {s : List UInt8} {v' : Value} (h : VR ρ' (.str s) v') : VR ρ (.str s) v' := by
  generalize hx : EV.str s = x at h
  cases h <;> cases hx
  exact .str _
theorem VR.of_empty {ρ ρ' : Ren} {b off : Nat} {v' : Value} (h : VR ρ' (.slice b off 0 (some 0)) v') : VR ρ (.slice b off 0 (some 0)) v' := by
  cases h with
  | sliceE => exact .sliceE
  | sliceC h' hc ho => exact .sliceE
mutual
/-- What stood for a value stands for it again, if it names what it named. -/
theorem VR.back {ρ ρ' : Ren} (e : Ext ρ ρ') : ∀ {v : EV} {u v' : Value}, VR ρ v u → VR ρ' v v' → VR ρ v v'
  | _, _, _, .undef, h => by cases h; exact .undef
  | _, _, _, .bool _, h => by cases h; exact .bool _
  | _, _, _, .int _ _, h => by cases h; exact .int _ _
  | _, _, _, .str _, h => h.str_any
  | _, _, _, .nilptr, h => by cases h; exact .nilptr
  | _, _, _, .ptr h, h2 => by cases h2 with | ptr h' => have := e _ _ h; rw [h'] at this; cases this; exact .ptr h
  | _, _, _, .nilslice, h => by cases h; exact .nilslice
  | _, _, _, .slice h _ _ _, h2 => by cases h2 with | slice h' hc ho hr => have := e _ _ h; rw [h'] at this; cases this; exact .slice h hc ho hr
  | _, _, _, .sliceC h _ _, h2 => by
    cases h2 with
    | sliceC h' hc ho => have := e _ _ h; rw [h'] at this; cases this; exact .sliceC h hc ho
    | sliceE => exact .sliceE
  | _, _, _, .sliceE, h2 => h2.of_empty
  | _, _, _, .nilmap, h => by cases h; exact .nilmap
  | _, _, _, .map h, h2 => by cases h2 with | map h' => have := e _ _ h; rw [h'] at this; cases this; exact .map h
  | _, _, _, .nilfunc, h => by cases h; exact .nilfunc
  | _, _, _, .func hx hy, h2 => by cases h2 with | func hx' hy' => exact .func (VRs.back e hx hx') (VRs.back e hy hy')
  | _, _, _, .niliface, h => by cases h; exact .niliface
  | _, _, _, .iface h, h2 => by cases h2 with | iface h' => exact .iface (VR.back e h h')
  | _, _, _, .agg h _, h2 => by cases h2 with | agg h' hf => exact .agg (VRs.back e h h') hf
  | _, _, _, .tuple h, h2 => by cases h2 with | tuple h' => exact .tuple (VRs.back e h h')
theorem VRs.back {ρ ρ' : Ren} (e : Ext ρ ρ') : ∀ {x : List EV} {u v : List Value}, VRs ρ x u → VRs ρ' x v → VRs ρ x v
  | _, _, _, .nil, h => by cases h; exact .nil
  | _, _, _, .cons h hs, h2 => by cases h2 with | cons h' hs' => exact .cons (VR.back e h h') (VRs.back e hs hs')
end
/-- A call that leaves all asx it was, and tells what names no block: what it made is forgotten. -/
def lookG (g : List EV → Mem → Option EV) : List EV → Mem → Option Fin := fun args m => (g args m).map fun v => .ret v m
/-- A table with one entry more. -/
def up (T : Nat → Option Ent) (f : Nat) (e : Ent) : Nat → Option Ent := fun g => bif g.beq f then some e else T g
theorem up_ok {P : Program} {G : List Nat} {T : Nat → Option Ent} (hT : ∀ f e, T f = some e → EntOk P G f e) {f : Nat} {e : Ent} (he : EntOk P G f e) : ∀ g x, up T f e g = some x → EntOk P G g x := by
  intro g x h
  unfold up at h
  cases hb : g.beq f <;> simp only [hb, cond_true, cond_false] at h
  · exact hT g x h
  · rw [of_beq hb]; cases h; exact he
end Go.Proofs.Ytjegondbhejpcaa.Ev
end
section
namespace Go.Proofs.Ytjegondbhejpcaa.Ev
open Go

open Classical in
noncomputable def lim {α : Type} (g : Nat → Option α) : Option α := if h : ∃ r, ∃ k, g k = some r then some (Classical.choose h) else none
def Mono {α : Type} (g : Nat → Option α) : Prop := ∀ k k' r, k ≤ k' → g k = some r → g k' = some r
theorem Mono.uniq {α : Type} {g : Nat → Option α} (h : Mono g) {k k' : Nat} {r r' : α} (e : g k = some r) (e' : g k' = some r') : r = r' := by
  have h1 := h k (max k k') r (Nat.le_max_left _ _) e
  have h2 := h k' (max k k') r' (Nat.le_max_right _ _) e'
  rw [h1] at h2; cases h2; rfl
theorem lim_iff {α : Type} {g : Nat → Option α} (h : Mono g) {r : α} : lim g = some r ↔ ∃ k, g k = some r := by
  unfold lim
  constructor
  · intro e
    split at e
    · rename_i hx
      cases e
      exact Classical.choose_spec hx
    · cases e
  · rintro ⟨k, hk⟩
    have hx : ∃ r, ∃ k, g k = some r := ⟨r, k, hk⟩
    rw [dif_pos hx]
    obtain ⟨k', hk'⟩ := Classical.choose_spec hx
    rw [h.uniq hk hk']
theorem opt_ext {α : Type} {a b : Option α} (h : ∀ r, a = some r ↔ b = some r) : a = b := by
  cases b with
  | some y => exact (h y).2 rfl
  | none =>
    cases a with
    | none => rfl
    | some x => exact absurd ((h x).1 rfl) (by simp)

section
variable (T : Nat → Option Ent)
noncomputable def run (f : Nat) (args : List EV) (m : Mem) : Option Fin := lim fun k => evFun T k f args m
noncomputable def exec (c : ICode) (fr : Fr) (m : Mem) : Option Out := lim fun k => evCode (evFun T k) k c fr m
noncomputable def oprs (l : List IOper) (fr : Fr) (m : Mem) : Option Out := lim fun k => evOps (evFun T k) l fr m
noncomputable def drw (chk : List (Nat × Nat)) (B0 : Nat) (l : List IOper) (i : Nat) (fr : Fr) (m : Mem) (sn : List (Nat × Mem)) (se : List Seen) : Option Out := lim fun k => evDraw (evFun T k) chk B0 l i fr m sn se
end
section
variable {T : Nat → Option Ent}
theorem mono_run {f : Nat} {args : List EV} {m : Mem} : Mono fun k => evFun T k f args m := fun k k' _ h e => evFun_le T k k' h _ _ _ _ e
theorem mono_exec {c : ICode} {fr : Fr} {m : Mem} : Mono fun k => evCode (evFun T k) k c fr m := fun k k' _ h e => evCode_le (evFun_le T k k' h) h _ _ _ _ e
theorem mono_oprs {l : List IOper} {fr : Fr} {m : Mem} : Mono fun k => evOps (evFun T k) l fr m := fun k k' _ h e => evOps_le (evFun_le T k k' h) _ _ _ _ e
theorem mono_drw {chk : List (Nat × Nat)} {B0 : Nat} {l : List IOper} {i : Nat} {fr : Fr} {m : Mem} {sn : List (Nat × Mem)} {se : List Seen} : Mono fun k => evDraw (evFun T k) chk B0 l i fr m sn se := fun k k' _ h e => evDraw_le (evFun_le T k k' h) _ _ _ _ _ _ _ e
theorem run_iff {f : Nat} {args : List EV} {m : Mem} {r : Fin} : run T f args m = some r ↔ ∃ k, evFun T k f args m = some r := lim_iff mono_run
theorem exec_iff {c : ICode} {fr : Fr} {m : Mem} {r : Out} : exec T c fr m = some r ↔ ∃ k, evCode (evFun T k) k c fr m = some r := lim_iff mono_exec
theorem oprs_iff {l : List IOper} {fr : Fr} {m : Mem} {r : Out} : oprs T l fr m = some r ↔ ∃ k, evOps (evFun T k) l fr m = some r := lim_iff mono_oprs
theorem drw_iff {chk : List (Nat × Nat)} {B0 : Nat} {l : List IOper} {i : Nat} {fr : Fr} {m : Mem} {sn : List (Nat × Mem)} {se : List Seen} {r : Out} : drw T chk B0 l i fr m sn se = some r ↔ ∃ k, evDraw (evFun T k) chk B0 l i fr m sn se = some r := lim_iff mono_drw

/-! ### Code -/
theorem exec_skip {fr : Fr} {m : Mem} : exec T .skip fr m = some (.norm fr m) := exec_iff.2 ⟨0, rfl⟩
theorem exec_ret {fr : Fr} {m : Mem} : exec T .ret fr m = some (.ret fr m) := exec_iff.2 ⟨0, rfl⟩
theorem exec_exit {id : Nat} {fr : Fr} {m : Mem} : exec T (.exit id) fr m = some (.exit id fr m) := exec_iff.2 ⟨0, rfl⟩
theorem exec_region {l : List IOper} {fr : Fr} {m : Mem} : exec T (.region l) fr m = oprs T l fr m := rfl
theorem exec_draw {l : List IOper} {chk : List (Nat × Nat)} {fr : Fr} {m : Mem} : exec T (.draw l chk) fr m = drw T chk m.next l 0 fr ⟨m.next + l.length, m.tbl⟩ [] [] := rfl
/-- What follows a piece of code that ended. -/
def thenE (o : Option Out) (k : Fr → Mem → Option Out) : Option Out := match o with
  | some (.norm fr m) => k fr m
  | o => o
theorem exec_seq {a b : ICode} {fr : Fr} {m : Mem} : exec T (.seq a b) fr m = thenE (exec T a fr m) (exec T b) := by
  refine opt_ext fun r => ?_
  rw [exec_iff]
  constructor
  · rintro ⟨k, h⟩
    simp only [evCode] at h
    cases ha : evCode (evFun T k) k a fr m with
    | none => simp [ha] at h
    | some o =>
      rw [exec_iff.2 ⟨k, ha⟩]
      simp only [ha] at h
      cases o with
      | norm fr1 m1 => exact exec_iff.2 ⟨k, h⟩
      | exit id fr1 m1 => exact h
      | ret fr1 m1 => exact h
      | pan v fr1 m1 => exact h
  · intro h
    cases ha : exec T a fr m with
    | none => simp [ha, thenE] at h
    | some o =>
      obtain ⟨k1, h1⟩ := exec_iff.1 ha
      simp only [ha, thenE] at h
      cases o with
      | norm fr1 m1 =>
        obtain ⟨k2, h2⟩ := exec_iff.1 h
        refine ⟨max k1 k2, ?_⟩
        simp only [evCode]
        have e1 := mono_exec _ _ _ (Nat.le_max_left k1 k2) h1
        have e2 := mono_exec _ _ _ (Nat.le_max_right k1 k2) h2
        simp only at e1 e2
        rw [e1]; exact e2
      | exit id fr1 m1 => refine ⟨k1, ?_⟩; simp only [evCode, h1]; exact h
      | ret fr1 m1 => refine ⟨k1, ?_⟩; simp only [evCode, h1]; exact h
      | pan v fr1 m1 => refine ⟨k1, ?_⟩; simp only [evCode, h1]; exact h
theorem exec_cond {c : Opd} {a b : ICode} {fr : Fr} {m : Mem} {t : Bool} (h : fr.eval c = .bool t) : exec T (.cond c a b) fr m = bif t then exec T a fr m else exec T b fr m := by
  refine opt_ext fun r => ?_
  rw [exec_iff]
  simp only [evCode, h]
  cases t
  · simp only [cond_false]; exact exec_iff.symm
  · simp only [cond_true]; exact exec_iff.symm
def leaveE (id : Nat) (o : Option Out) : Option Out := match o with
  | some (.exit j fr m) => bif j.beq id then some (.norm fr m) else some (.exit j fr m)
  | o => o
theorem exec_block {id : Nat} {a : ICode} {fr : Fr} {m : Mem} : exec T (.block id a) fr m = leaveE id (exec T a fr m) := by
  refine opt_ext fun r => ?_
  rw [exec_iff]
  constructor
  · rintro ⟨k, h⟩
    simp only [evCode] at h
    cases ha : evCode (evFun T k) k a fr m with
    | none => simp [ha] at h
    | some o => rw [exec_iff.2 ⟨k, ha⟩]; rw [ha] at h; exact h
  · intro h
    cases ha : exec T a fr m with
    | none => simp [ha, leaveE] at h
    | some o =>
      obtain ⟨k1, h1⟩ := exec_iff.1 ha
      rw [ha] at h
      refine ⟨k1, ?_⟩; simp only [evCode, h1]; exact h
theorem exec_loop {a : ICode} {fr : Fr} {m : Mem} : exec T (.loop a) fr m = thenE (exec T a fr m) (exec T (.loop a)) := by
  refine opt_ext fun r => ?_
  rw [exec_iff]
  constructor
  · rintro ⟨k, h⟩
    simp only [evCode] at h
    cases k with
    | zero => simp [iter] at h
    | succ k =>
      have h' : (match evCode (evFun T (k + 1)) (k + 1) a fr m with | some (.norm fr m) => iter (evCode (evFun T (k + 1)) (k + 1) a) k fr m | o => o) = some r := by
        rw [← h]; rfl
      cases ha : evCode (evFun T (k + 1)) (k + 1) a fr m with
      | none => simp [ha] at h'
      | some o =>
        rw [exec_iff.2 ⟨k + 1, ha⟩]
        simp only [ha] at h'
        cases o with
        | norm fr1 m1 =>
          refine exec_iff.2 ⟨k + 1, ?_⟩
          simp only [evCode]
          exact iter_le (fun fr m r e => e) k (k + 1) (by omega) _ _ _ h'
        | exit id fr1 m1 => exact h'
        | ret fr1 m1 => exact h'
        | pan v fr1 m1 => exact h'
  · intro h
    cases ha : exec T a fr m with
    | none => simp [ha, thenE] at h
    | some o =>
      obtain ⟨k1, h1⟩ := exec_iff.1 ha
      simp only [ha, thenE] at h
      have key : ∀ k2, (∀ r1, iter (evCode (evFun T k2) k2 a) k2 fr m = some r1 → True) → True := fun _ _ => trivial
      cases o with
      | norm fr1 m1 =>
        obtain ⟨k2, h2⟩ := exec_iff.1 h
        simp only [evCode] at h2
        refine ⟨max k1 k2 + 1, ?_⟩
        have e1 := mono_exec _ _ _ (show k1 ≤ max k1 k2 + 1 by omega) h1
        simp only at e1
        simp only [evCode, iter, e1]
        exact iter_le (fun fr m r e => evCode_le (evFun_le T k2 (max k1 k2 + 1) (by omega)) (by omega) a fr m r e) k2 (max k1 k2) (by omega) _ _ _ h2
      | exit id fr1 m1 =>
        refine ⟨k1 + 1, ?_⟩
        have e1 := mono_exec _ _ _ (show k1 ≤ k1 + 1 by omega) h1
        simp only at e1
        simp only [evCode, iter, e1]; exact h
      | ret fr1 m1 =>
        refine ⟨k1 + 1, ?_⟩
        have e1 := mono_exec _ _ _ (show k1 ≤ k1 + 1 by omega) h1
        simp only at e1
        simp only [evCode, iter, e1]; exact h
      | pan v fr1 m1 =>
        refine ⟨k1 + 1, ?_⟩
        have e1 := mono_exec _ _ _ (show k1 ≤ k1 + 1 by omega) h1
        simp only at e1
        simp only [evCode, iter, e1]; exact h

/-! ### Operations -/
theorem oprs_nil {fr : Fr} {m : Mem} : oprs T [] fr m = some (.norm fr m) := oprs_iff.2 ⟨0, rfl⟩
/-- What follows an operation that told a value. -/
def thenV (o : Option R1) (k : EV → Mem → Option Out) : Option Out := match o with
  | some (.val v m) => k v m
  | none => none
def thenC (o : Option Fin) (fr : Fr) (k : EV → Mem → Option Out) : Option Out := match o with
  | some (.ret v m) => k v m
  | some (.pan v m) => some (.pan v fr m)
  | none => none
theorem oprs_val {d : Option Nat} {op : IOp} {l : List IOper} {fr : Fr} {m : Mem} : oprs T (⟨d, .val op, none⟩ :: l) fr m = thenV (evOp fr.eval op m) fun v m => oprs T l (fr.put d v) m := by
  refine opt_ext fun r => ?_
  rw [oprs_iff]
  simp only [evOps, wantedE]
  cases h : evOp fr.eval op m with
  | none => simp [thenV]
  | some q => obtain ⟨v, m1⟩ := q; simp only [thenV]; exact oprs_iff.symm
theorem oprs_guard {d : Option Nat} {op : XOp} {t : Nat} {w : Bool} {l : List IOper} {fr : Fr} {m : Mem} {b : Bool} (h : fr.get t = .bool b) :
    oprs T (⟨d, op, some (t, w)⟩ :: l) fr m = bif b == w then oprs T (⟨d, op, none⟩ :: l) fr m else oprs T l (fr.put d .undef) m := by
  refine opt_ext fun r => ?_
  rw [oprs_iff]
  simp only [evOps, wantedE, h]
  cases hb : b == w
  · simp only [cond_false]; exact oprs_iff.symm
  · simp only [cond_true]
    rw [oprs_iff]
    simp only [evOps, wantedE]
theorem oprs_panic {d : Option Nat} {x : Opd} {l : List IOper} {fr : Fr} {m : Mem} {t : Nat} {v : EV} (h : fr.eval x = .iface t v) : oprs T (⟨d, .panic x, none⟩ :: l) fr m = some (.pan (.iface t v) fr m) := by
  refine oprs_iff.2 ⟨0, ?_⟩
  simp only [evOps, wantedE, h]

/-! ### Calls -/
def resE (F : IFun) (o : Option Out) : Option Fin := match o with
  | some (.norm fr m) | some (.ret fr m) => match fr.defers with
    | [] => (evResults fr m F.results).map fun vs => .ret (one vs) m
    | _ => none
  | some (.pan v fr m) => match fr.defers with
    | [] => some (.pan v m)
    | _ => none
  | _ => none
theorem run_go {f : Nat} {F : IFun} (hf : T f = some (.go F)) {args : List EV} {m : Mem} (hn : args.length ≤ F.ntmps) : run T f args m = resE F (exec T F.body ⟨args0 args 0 .leaf, []⟩ m) := by
  have hb : args.length.ble F.ntmps = true := Nat.ble_eq_true_of_le hn
  refine opt_ext fun r => ?_
  rw [run_iff]
  constructor
  · rintro ⟨k, h⟩
    cases k with
    | zero => simp [evFun] at h
    | succ k =>
      simp only [evFun, hf, evEnt, evBody, hb, cond_true] at h
      cases hc : evCode (evFun T k) k F.body ⟨args0 args 0 .leaf, []⟩ m with
      | none => simp [hc] at h
      | some o =>
        rw [exec_iff.2 ⟨k, hc⟩]
        simp only [hc] at h
        cases o <;> exact h
  · intro h
    cases hc : exec T F.body ⟨args0 args 0 .leaf, []⟩ m with
    | none => simp [hc, resE] at h
    | some o =>
      obtain ⟨k, hk⟩ := exec_iff.1 hc
      rw [hc] at h
      refine ⟨k + 1, ?_⟩
      simp only [evFun, hf, evEnt, evBody, hb, cond_true, hk]
      cases o <;> exact h
theorem run_ext {f : Nat} {g : List EV → Option EV} (hf : T f = some (.ext g)) {args : List EV} {m : Mem} : run T f args m = (g args).map fun v => .ret v m := by
  refine opt_ext fun r => ?_
  rw [run_iff]
  constructor
  · rintro ⟨k, h⟩
    cases k with
    | zero => simp [evFun] at h
    | succ k => simpa only [evFun, hf, evEnt] using h
  · intro h; exact ⟨1, by simpa only [evFun, hf, evEnt] using h⟩
theorem run_spec {f : Nat} {g : List EV → Mem → Option Fin} (hf : T f = some (.spec g)) {args : List EV} {m : Mem} : run T f args m = g args m := by
  refine opt_ext fun r => ?_
  rw [run_iff]
  constructor
  · rintro ⟨k, h⟩
    cases k with
    | zero => simp [evFun] at h
    | succ k => simpa only [evFun, hf, evEnt] using h
  · intro h; exact ⟨1, by simpa only [evFun, hf, evEnt] using h⟩
theorem run_pure {f : Nat} {g : List EV → Option EV} (hf : T f = some (.pure g)) {args : List EV} {m : Mem} : run T f args m = (g args).map fun v => .ret v m := by
  refine opt_ext fun r => ?_
  rw [run_iff]
  constructor
  · rintro ⟨k, h⟩
    cases k with
    | zero => simp [evFun] at h
    | succ k => simpa only [evFun, hf, evEnt] using h
  · intro h; exact ⟨1, by simpa only [evFun, hf, evEnt] using h⟩
end
end Go.Proofs.Ytjegondbhejpcaa.Ev
end
section
namespace Go.Proofs.Ytjegondbhejpcaa.Ev
open Go

/-- A frame in which nothing stands. -/
def fr00 : Fr := ⟨.leaf, []⟩
theorem fr00_get (t : Nat) : fr00.get t = .undef := by unfold Fr.get fr00; simp only [Tr.get_leaf]; rfl
theorem fr00_defers : fr00.defers = [] := rfl
def selE (b : Bool) (v r : EV) : EV := bif b then v else r
@[congr] theorem selE_congr {b b' : Bool} {v r : EV} (h : b = b') : selE b v r = selE b' v r := by rw [h]
theorem selE_t {v r : EV} : selE true v r = v := rfl
theorem get_set' (fr : Fr) (d t : Nat) (v : EV) : (fr.set d v).get t = selE (t == d) v (fr.get t) := by
  rw [Fr.get_set]
  by_cases h : t = d
  · simp [selE, h]
  · simp [selE, h, beq_eq_false_iff_ne.2 h]
theorem selE_f {v r : EV} : selE false v r = r := rfl
def argsF : List EV → Nat → Fr → Fr
  | [], _, fr => fr
  | v :: r, i, fr => argsF r (i + 1) (fr.set i v)
theorem argsF_eq : ∀ (l : List EV) (i : Nat) (t : Tr EV), argsF l i ⟨t, []⟩ = ⟨args0 l i t, []⟩
  | [], i, t => rfl
  | v :: l, i, t => by simp only [argsF, args0, Fr.set]; exact argsF_eq l (i + 1) _
theorem put_some (fr : Fr) (d : Nat) (v : EV) : fr.put (some d) v = fr.set d v := rfl
theorem put_none (fr : Fr) (v : EV) : fr.put none v = fr := rfl
theorem set_defers (fr : Fr) (d : Nat) (v : EV) : (fr.set d v).defers = fr.defers := rfl
theorem eval_tmp (fr : Fr) (t : Nat) : fr.eval (.tmp t) = fr.get t := rfl
theorem eval_const (fr : Fr) (v : EV) : fr.eval (.const v) = v := rfl

/-! ### What tells a value -/
theorem ofEV_some (m : Mem) (v : EV) : ofEV m (some v) = some (.val v m) := rfl
theorem ofEM_some (m : Mem) (v : EV) : ofEM (some (v, m)) = some (.val v m) := rfl
theorem ofM_some (m : Mem) : ofM (some m) = some (.val .undef m) := rfl
@[congr] theorem thenV_congr {o o' : Option R1} {k : EV → Mem → Option Out} (h : o = o') : thenV o k = thenV o' k := by rw [h]
@[congr] theorem thenC_congr {o o' : Option Fin} {fr : Fr} {k : EV → Mem → Option Out} (h : o = o') : thenC o fr k = thenC o' fr k := by rw [h]
@[congr] theorem thenE_congr {o o' : Option Out} {k : Fr → Mem → Option Out} (h : o = o') : thenE o k = thenE o' k := by rw [h]
theorem thenV_some {v : EV} {m : Mem} {k : EV → Mem → Option Out} : thenV (some (.val v m)) k = k v m := rfl
theorem thenC_ret {v : EV} {m : Mem} {fr : Fr} {k : EV → Mem → Option Out} : thenC (some (.ret v m)) fr k = k v m := rfl
theorem thenE_norm {fr : Fr} {m : Mem} {k : Fr → Mem → Option Out} : thenE (some (.norm fr m)) k = k fr m := rfl
theorem thenE_ret {fr : Fr} {m : Mem} {k : Fr → Mem → Option Out} : thenE (some (.ret fr m)) k = some (.ret fr m) := rfl
theorem thenE_exit {id : Nat} {fr : Fr} {m : Mem} {k : Fr → Mem → Option Out} : thenE (some (.exit id fr m)) k = some (.exit id fr m) := rfl
theorem leave_norm {id : Nat} {fr : Fr} {m : Mem} : leaveE id (some (.norm fr m)) = some (.norm fr m) := rfl
theorem leave_ret {id : Nat} {fr : Fr} {m : Mem} : leaveE id (some (.ret fr m)) = some (.ret fr m) := rfl
def selO (b : Bool) (x y : Option Out) : Option Out := bif b then x else y
@[congr] theorem selO_congr {b b' : Bool} {x y : Option Out} (h : b = b') : selO b x y = selO b' x y := by rw [h]
theorem selO_t {x y : Option Out} : selO true x y = x := rfl
theorem selO_f {x y : Option Out} : selO false x y = y := rfl
theorem leave_exit {id j : Nat} {fr : Fr} {m : Mem} : leaveE id (some (.exit j fr m)) = selO (j == id) (some (.norm fr m)) (some (.exit j fr m)) := by
  by_cases h : j = id
  · subst h; simp [leaveE, selO]
  · simp [leaveE, selO, beq_ff h, beq_eq_false_iff_ne.2 h]
/-- The results, where nothing waits for the end. -/
def resR (rs : List IRes) (o : Option Out) : Option Fin := match o with
  | some (.norm fr m) | some (.ret fr m) => match fr.defers with
    | [] => (evResults fr m rs).map fun vs => .ret (one vs) m
    | _ => none
  | some (.pan v fr m) => match fr.defers with
    | [] => some (.pan v m)
    | _ => none
  | _ => none
theorem resE_eq (F : IFun) (o : Option Out) : resE F o = resR F.results o := by cases o with | none => rfl | some o => cases o <;> rfl
theorem resR_ret {rs : List IRes} {fr : Fr} {m : Mem} : resR rs (some (.ret fr m)) = match fr.defers with | [] => (evResults fr m rs).map fun vs => .ret (one vs) m | _ => none := rfl
theorem resR_norm {rs : List IRes} {fr : Fr} {m : Mem} : resR rs (some (.norm fr m)) = match fr.defers with | [] => (evResults fr m rs).map fun vs => .ret (one vs) m | _ => none := rfl
theorem resR_pan {rs : List IRes} {fr : Fr} {m : Mem} {v : EV} : resR rs (some (.pan v fr m)) = match fr.defers with | [] => some (.pan v m) | _ => none := rfl
theorem res_nil {fr : Fr} {m : Mem} : evResults fr m [] = some [] := rfl
theorem res_tmp {fr : Fr} {m : Mem} {t : Nat} {rs : List IRes} : evResults fr m (.tmp t :: rs) = (evResults fr m rs).map (fr.get t :: ·) := rfl
theorem one_one (v : EV) : one [v] = v := rfl
theorem one_two (v u : EV) (l : List EV) : one (v :: u :: l) = .tuple (v :: u :: l) := rfl
theorem one_nil : one [] = .tuple [] := rfl
/-! ### Whole numbers -/
section
variable {k l : IntKind} {a b : Int}
def iand (k : IntKind) (x y : Int) : Int := k.wrap (BitVec.ofInt k.bits x &&& BitVec.ofInt k.bits y).toNat
def ior (k : IntKind) (x y : Int) : Int := k.wrap (BitVec.ofInt k.bits x ||| BitVec.ofInt k.bits y).toNat
def ixor (k : IntKind) (x y : Int) : Int := k.wrap (BitVec.ofInt k.bits x ^^^ BitVec.ofInt k.bits y).toNat
def iandNot (k : IntKind) (x y : Int) : Int := k.wrap (BitVec.ofInt k.bits x &&& ~~~BitVec.ofInt k.bits y).toNat
theorem bin_add : evBin .add (.int k a) (.int k b) = some (.int k (k.wrap (a + b))) := by simp only [evBin, beq_self, cond_true, evInt]
theorem bin_sub : evBin .sub (.int k a) (.int k b) = some (.int k (k.wrap (a - b))) := by simp only [evBin, beq_self, cond_true, evInt]
theorem bin_mul : evBin .mul (.int k a) (.int k b) = some (.int k (k.wrap (a * b))) := by simp only [evBin, beq_self, cond_true, evInt]
theorem bin_quo : evBin .quo (.int k a) (.int k b) = if b = 0 then none else some (.int k (k.wrap (a.tdiv b))) := by simp only [evBin, beq_self, cond_true, evInt]
theorem bin_rem : evBin .rem (.int k a) (.int k b) = if b = 0 then none else some (.int k (a.tmod b)) := by simp only [evBin, beq_self, cond_true, evInt]
theorem bin_and : evBin .and (.int k a) (.int k b) = some (.int k (iand k a b)) := by simp only [evBin, beq_self, cond_true, evInt, evBits, Option.map_some, iand]
theorem bin_or : evBin .or (.int k a) (.int k b) = some (.int k (ior k a b)) := by simp only [evBin, beq_self, cond_true, evInt, evBits, Option.map_some, ior]
theorem bin_xor : evBin .xor (.int k a) (.int k b) = some (.int k (ixor k a b)) := by simp only [evBin, beq_self, cond_true, evInt, evBits, Option.map_some, ixor]
theorem bin_andNot : evBin .andNot (.int k a) (.int k b) = some (.int k (iandNot k a b)) := by simp only [evBin, beq_self, cond_true, evInt, evBits, Option.map_some, iandNot]
theorem bin_lss : evBin .lss (.int k a) (.int k b) = some (.bool (decide (a < b))) := by simp only [evBin, beq_self, cond_true, evInt]
theorem bin_leq : evBin .leq (.int k a) (.int k b) = some (.bool (decide (a ≤ b))) := by simp only [evBin, beq_self, cond_true, evInt]
theorem bin_gtr : evBin .gtr (.int k a) (.int k b) = some (.bool (decide (b < a))) := by simp only [evBin, beq_self, cond_true, evInt]
theorem bin_geq : evBin .geq (.int k a) (.int k b) = some (.bool (decide (b ≤ a))) := by simp only [evBin, beq_self, cond_true, evInt]
theorem bin_shl : evBin .shl (.int k a) (.int l b) = if b < 0 then none else some (.int k (k.wrap (a * 2 ^ min b.toNat k.bits))) := by simp only [evBin, evShift]
theorem bin_shr : evBin .shr (.int k a) (.int l b) = if b < 0 then none else some (.int k (a.fdiv (2 ^ min b.toNat k.bits))) := by simp only [evBin, evShift]
theorem bin_shl_i64 (h1 : 0 ≤ b) (h2 : b < 64) : evBin .shl (.int .i64 a) (.int l b) = some (.int .i64 (IntKind.i64.wrap (a * 2 ^ b.toNat))) := by
  rw [bin_shl, if_neg (by omega), show IntKind.i64.bits = 64 from rfl, Nat.min_eq_left (by omega)]
theorem bin_shr_i64 (h1 : 0 ≤ b) (h2 : b < 64) : evBin .shr (.int .i64 a) (.int l b) = some (.int .i64 (a.fdiv (2 ^ b.toNat))) := by
  rw [bin_shr, if_neg (by omega), show IntKind.i64.bits = 64 from rfl, Nat.min_eq_left (by omega)]
theorem bin_shl_u64 (h1 : 0 ≤ b) (h2 : b < 64) : evBin .shl (.int .u64 a) (.int l b) = some (.int .u64 (IntKind.u64.wrap (a * 2 ^ b.toNat))) := by
  rw [bin_shl, if_neg (by omega), show IntKind.u64.bits = 64 from rfl, Nat.min_eq_left (by omega)]
theorem bin_shr_u64 (h1 : 0 ≤ b) (h2 : b < 64) : evBin .shr (.int .u64 a) (.int l b) = some (.int .u64 (a.fdiv (2 ^ b.toNat))) := by
  rw [bin_shr, if_neg (by omega), show IntKind.u64.bits = 64 from rfl, Nat.min_eq_left (by omega)]
theorem eq_int : evEq (.prim 1) (.int k a) (.int k b) = some (decide (a = b)) := by simp only [evEq, evEqPrim, beq_self, cond_true]
theorem un_neg : evUn .neg (.int k a) = some (.int k (k.wrap (0 - a))) := rfl
theorem cv_int {m : Mem} : evConv (.int l) m (.int k a) = some (.int l (l.wrap a), m) := rfl
end
/-! ### Operation by operation -/
theorem evOp_mov {ρ : Opd → EV} {m : Mem} (x : Opd) : evOp ρ (.mov x) m = some (.val (ρ x) m) := rfl
theorem evOp_build {ρ : Opd → EV} {m : Mem} (zero : List EV) (parts : List (Nat × Nat × Opd)) : evOp ρ (.build zero parts) m = ofEV m ((fillIn zero (parts.map fun p => (p.1, p.2.1, ρ p.2.2))).map .agg) := rfl
theorem evOp_load {ρ : Opd → EV} {m : Mem} (agg : Option Nat) (a : Opd) : evOp ρ (.load agg a) m = ofEV m (m.load agg (ρ a)) := rfl
theorem evOp_store {ρ : Opd → EV} {m : Mem} (size : Nat) (a x : Opd) : evOp ρ (.store size a x) m = ofM (m.store size (ρ a) (ρ x)) := rfl
theorem evOp_nilck {ρ : Opd → EV} {m : Mem} (x : Opd) : evOp ρ (.nilck x) m = match ρ x with
    | .ptr b off => some (.val (.ptr b off) m)
    | .func f a c => some (.val (.func f a c) m)
    | .iface t v => some (.val (.iface t v) m)
    | .fptr e els i k => some (.val (.fptr e els i k) m)
    | _ => none := rfl
theorem evOp_bin {ρ : Opd → EV} {m : Mem} (op : BinOp) (x y : Opd) : evOp ρ (.bin op x y) m = ofEV m (evBin op (ρ x) (ρ y)) := rfl
theorem evOp_eq {ρ : Opd → EV} {m : Mem} (neg : Bool) (t : EqTy) (x y : Opd) : evOp ρ (.eq neg t x y) m = ofEV m ((evEq t (ρ x) (ρ y)).map fun b => .bool (neg ^^ b)) := rfl
theorem evOp_un {ρ : Opd → EV} {m : Mem} (op : UnOp) (x : Opd) : evOp ρ (.un op x) m = ofEV m (evUn op (ρ x)) := rfl
theorem evOp_conv {ρ : Opd → EV} {m : Mem} (c : Cv) (x : Opd) : evOp ρ (.conv c x) m = ofEM (evConv c m (ρ x)) := rfl
theorem evOp_iface {ρ : Opd → EV} {m : Mem} (t : Nat) (x : Opd) : evOp ρ (.iface t x) m = some (.val (.iface t (ρ x)) m) := rfl
theorem evOp_mkfn {ρ : Opd → EV} {m : Mem} (f : Nat) (a c : List Opd) : evOp ρ (.mkfn f a c) m = some (.val (.func f (a.map ρ) (c.map ρ)) m) := rfl
theorem evOp_mkslice {ρ : Opd → EV} {m : Mem} (elem esz : Nat) (zero : List EV) (len cap : Opd) : evOp ρ (.mkslice elem esz zero len cap) m = match ρ len, ρ cap with
    | .int .i64 (.ofNat l), .int .i64 (.ofNat c) => bif (bif l.ble c then c.ble room else false) then
        some (.val (.slice m.next 0 l (some c)) (m.new (.cells (copies c zero) esz elem false))) else none
    | _, _ => none := rfl
theorem evOp_slstr {ρ : Opd → EV} {m : Mem} (x : Opd) (lo hi : Option Opd) : evOp ρ (.slstr x lo hi) m = match ρ x with
    | .str s => match bound (hi.map ρ) s.length s.length with
      | some h => match bound (lo.map ρ) 0 h with
        | some l => some (.val (.str ((s.take h).drop l)) m)
        | none => none
      | none => none
    | _ => none := rfl
theorem evOp_slarr {ρ : Opd → EV} {m : Mem} (n esz : Nat) (x : Opd) (lo hi max : Option Opd) : evOp ρ (.slarr n esz x lo hi max) m = match ρ x with
    | .ptr b off => ofEV m (evSlice esz b off n (some n) (lo.map ρ) (hi.map ρ) (max.map ρ))
    | _ => none := rfl
theorem evOp_faddr {ρ : Opd → EV} {m : Mem} (off : Nat) (x : Opd) : evOp ρ (.faddr off x) m = match ρ x with
    | .ptr b o => some (.val (.ptr b (o + off)) m)
    | .fptr e els i k => some (.val (.fptr e els i (k + off)) m)
    | _ => none := rfl
theorem evOp_fld {ρ : Opd → EV} {m : Mem} (agg : Option Nat) (off : Nat) (x : Opd) : evOp ρ (.fld agg off x) m = match ρ x with
    | .agg cs => ofEV m (partOf agg cs off)
    | _ => none := rfl
theorem evOp_iaddrArr {ρ : Opd → EV} {m : Mem} (n esz : Nat) (x i : Opd) : evOp ρ (.iaddrArr n esz x i) m = match ρ x with
    | .ptr b off => match idx n (ρ i) with
      | some i => some (.val (.ptr b (off + i * esz)) m)
      | none => none
    | _ => none := rfl
theorem evOp_idxstr {ρ : Opd → EV} {m : Mem} (x i : Opd) : evOp ρ (.idxstr x i) m = match ρ x with
    | .str s => match idx s.length (ρ i) with
      | some i => match s[i]? with
        | some c => some (.val (.int .u8 (c.toNat : Int)) m)
        | none => none
      | none => none
    | _ => none := rfl
theorem evOp_idxagg {ρ : Opd → EV} {m : Mem} (n esz : Nat) (agg : Option Nat) (x i : Opd) : evOp ρ (.idxagg n esz agg x i) m = match ρ x with
    | .agg cs => match idx n (ρ i) with
      | some i => ofEV m (partOf agg cs (i * esz))
      | none => none
    | _ => none := rfl
theorem evOp_lookup {ρ : Opd → EV} {m : Mem} (kt : Nat) (zero : EV) (ok : Bool) (mp k : Opd) : evOp ρ (.lookup kt zero ok mp k) m = match ρ mp with
    | .nilmap => bif keyIs kt (ρ k) then some (.val (bif ok then .tuple [zero, .bool false] else zero) m) else none
    | .map b => match m.get b with
      | .map es => bif keysOk kt (ρ k) es then
          match find (ρ k) es with
          | some v => some (.val (bif ok then .tuple [v, .bool true] else v) m)
          | none => some (.val (bif ok then .tuple [zero, .bool false] else zero) m)
        else none
      | _ => none
    | _ => none := rfl
theorem evOp_mapupd {ρ : Opd → EV} {m : Mem} (kt : Nat) (mp k x : Opd) : evOp ρ (.mapupd kt mp k x) m = match ρ mp with
    | .map b => match m.get b with
      | .map es => bif keysOk kt (ρ k) es then some (.val .undef (m.set b (.map (update (ρ k) (ρ x) es)))) else none
      | _ => none
    | _ => none := rfl
theorem evOp_delete {ρ : Opd → EV} {m : Mem} (kt : Nat) (mp k : Opd) : evOp ρ (.delete kt mp k) m = match ρ mp with
    | .nilmap => bif keyIs kt (ρ k) then some (.val (.tuple []) m) else none
    | .map b => match m.get b with
      | .map es => bif keysOk kt (ρ k) es then some (.val (.tuple []) (m.set b (.map (erase (ρ k) es)))) else none
      | _ => none
    | _ => none := rfl
theorem evOp_lenmap {ρ : Opd → EV} {m : Mem} (mp : Opd) : evOp ρ (.lenmap mp) m = match ρ mp with
    | .nilmap => some (.val (.int .i64 0) m)
    | .map b => match m.get b with
      | .map es => some (.val (.int .i64 (es.length : Int)) m)
      | _ => none
    | _ => none := rfl
theorem evOp_tassert {ρ : Opd → EV} {m : Mem} (t : Nat) (x : Opd) : evOp ρ (.tassert t x) m = match ρ x with
    | .iface u v => bif t.beq u then some (.val v m) else none
    | _ => none := rfl
theorem evOp_extract {ρ : Opd → EV} {m : Mem} (x : Opd) (i : Nat) : evOp ρ (.extract x i) m = match ρ x with
    | .tuple vs => ofEV m vs[i]?
    | _ => none := rfl
theorem evOp_lenstr {ρ : Opd → EV} {m : Mem} (x : Opd) : evOp ρ (.lenstr x) m = match ρ x with
    | .str s => some (.val (.int .i64 (s.length : Int)) m)
    | _ => none := rfl
theorem evOp_lenarr {ρ : Opd → EV} {m : Mem} (n : Nat) : evOp ρ (.lenarr n) m = some (.val (.int .i64 (n : Int)) m) := rfl
theorem evOp_cap {ρ : Opd → EV} {m : Mem} (x : Opd) : evOp ρ (.cap x) m = match ρ x with
    | .nilslice => some (.val (.int .i64 0) m)
    | .slice _ _ _ (some c) => some (.val (.int .i64 (c : Int)) m)
    | _ => none := rfl
theorem evOp_max {ρ : Opd → EV} {m : Mem} (args : List Opd) : evOp ρ (.max args) m = ofEV m (evMax (args.map ρ)) := rfl
theorem evOp_min {ρ : Opd → EV} {m : Mem} (args : List Opd) : evOp ρ (.min args) m = ofEV m (evMin (args.map ρ)) := rfl
theorem evOp_append {ρ : Opd → EV} {m : Mem} (elem esz bytes : Nat) (s x : Opd) : evOp ρ (.append elem esz bytes s x) m = ofEM (evAppend m elem esz (ρ s) (ρ x)) := rfl
theorem evOp_copy {ρ : Opd → EV} {m : Mem} (esz : Nat) (d s : Opd) : evOp ρ (.copy esz d s) m = ofEM (evCopy m esz (ρ d) (ρ s)) := rfl
/-! ### Truths asx statements: 'bo p', 'gv p v' (a value that is there where p holds), 'iF p x y' -/
open Classical in
noncomputable def bo (p : Prop) : EV := .bool (decide p)
open Classical in
noncomputable def gv (p : Prop) (v : EV) : EV := if p then v else .undef
open Classical in
noncomputable def iF {α : Type} (p : Prop) (x y : α) : α := if p then x else y
theorem bo_decide {p : Prop} [h : Decidable p] : EV.bool (decide p) = bo p := by unfold bo; congr
theorem bo_not_decide {p : Prop} [h : Decidable p] : EV.bool (!decide p) = bo (¬ p) := by
  unfold bo; by_cases hp : p <;> simp [hp]
theorem bo_tt : bo True = .bool true := by simp [bo]
theorem bo_ff : bo False = .bool false := by simp [bo]
theorem gv_true {v : EV} : gv True v = v := by simp [gv]
theorem gv_false {v : EV} : gv False v = .undef := by simp [gv]
theorem iF_pos {α : Type} {p : Prop} (h : p) {x y : α} : iF p x y = x := by simp [iF, h]
theorem iF_neg {α : Type} {p : Prop} (h : ¬ p) {x y : α} : iF p x y = y := by simp [iF, h]
@[congr] theorem iF_congr {α : Type} {p p' : Prop} {x x' y y' : α} (h : p = p') (h1 : p' → x = x') (h2 : ¬ p' → y = y') : iF p x y = iF p' x' y' := by
  subst h; by_cases hp : p
  · rw [iF_pos hp, iF_pos hp]; exact h1 hp
  · rw [iF_neg hp, iF_neg hp]; exact h2 hp
/-- By a truth: one of two; nothing else is looked at ahead of it. -/
def cE (v : EV) (x y : Option Out) : Option Out := match v with
  | .bool true => x
  | .bool false => y
  | _ => none
@[congr] theorem cE_congr {v v' : EV} {x y : Option Out} (h : v = v') : cE v x y = cE v' x y := by rw [h]
theorem cE_bo {p : Prop} {x y : Option Out} : cE (bo p) x y = iF p x y := by by_cases h : p <;> simp [bo, iF, cE, h]
theorem cE_t {x y : Option Out} : cE (.bool true) x y = x := rfl
theorem cE_f {x y : Option Out} : cE (.bool false) x y = y := rfl
theorem exec_cond' {T : Nat → Option Ent} {c : Opd} {a b : ICode} {fr : Fr} {m : Mem} : exec T (.cond c a b) fr m = cE (fr.eval c) (exec T a fr m) (exec T b fr m) := by
  cases h : fr.eval c
  case bool t => rw [exec_cond h]; cases t <;> rfl
  all_goals
    refine opt_ext fun r => ?_
    rw [exec_iff]
    simp only [evCode, h, reduceCtorEq, exists_const, cE]
/-! ### Guards: what is skipped tells nothing, and the way is one -/
open Classical in
/-- An operation under a condition. -/
noncomputable def thenG (p : Prop) (m : Mem) (o : Option R1) (k : EV → Mem → Option Out) : Option Out := if p then thenV o k else k .undef m
open Classical in
noncomputable def thenH (p : Prop) (fr : Fr) (m : Mem) (o : Option Fin) (k : EV → Mem → Option Out) : Option Out := if p then thenC o fr k else k .undef m
@[congr] theorem thenG_congr {p p' : Prop} {m : Mem} {o o' : Option R1} {k : EV → Mem → Option Out} (h : p = p') (ho : p' → o = o') : thenG p m o k = thenG p' m o' k := by
  subst h; by_cases hp : p <;> simp only [thenG, hp, if_true, if_false]; rw [ho hp]
@[congr] theorem thenH_congr {p p' : Prop} {fr : Fr} {m : Mem} {o o' : Option Fin} {k : EV → Mem → Option Out} (h : p = p') (ho : p' → o = o') : thenH p fr m o k = thenH p' fr m o' k := by
  subst h; by_cases hp : p <;> simp only [thenH, hp, if_true, if_false]; rw [ho hp]
theorem thenG_val {p : Prop} {m m' : Mem} {v : EV} {k : EV → Mem → Option Out} (he : p → m' = m) : thenG p m (some (.val v m')) k = k (gv p v) m := by
  by_cases h : p
  · rw [he h]; simp [thenG, gv, thenV, h]
  · simp [thenG, gv, h]
theorem thenH_ret {p : Prop} {fr : Fr} {m m' : Mem} {v : EV} {k : EV → Mem → Option Out} (he : p → m' = m) : thenH p fr m (some (.ret v m')) k = k (gv p v) m := by
  by_cases h : p
  · rw [he h]; simp [thenH, gv, thenC, h]
  · simp [thenH, gv, h]
/-- A guard's test. -/
def gE (v : EV) (w : Bool) (x y : Option Out) : Option Out := match v with
  | .bool b => bif b == w then x else y
  | .undef => y
  | _ => none
@[congr] theorem gE_congr {v v' : EV} {w : Bool} {x y : Option Out} (h : v = v') : gE v w x y = gE v' w x y := by rw [h]
/-- A guarded operation that tells a value. -/
def gV (v : EV) (w : Bool) (m : Mem) (o : Option R1) (k : EV → Mem → Option Out) : Option Out := gE v w (thenV o k) (k .undef m)
def gC (v : EV) (w : Bool) (fr : Fr) (m : Mem) (o : Option Fin) (k : EV → Mem → Option Out) : Option Out := gE v w (thenC o fr k) (k .undef m)
@[congr] theorem gV_congr {v v' : EV} {w : Bool} {m : Mem} {o : Option R1} {k : EV → Mem → Option Out} (h : v = v') : gV v w m o k = gV v' w m o k := by rw [h]
@[congr] theorem gC_congr {v v' : EV} {w : Bool} {fr : Fr} {m : Mem} {o : Option Fin} {k : EV → Mem → Option Out} (h : v = v') : gC v w fr m o k = gC v' w fr m o k := by rw [h]
section
variable {p q : Prop} {b : Bool} {w : Bool} {fr : Fr} {m : Mem} {o : Option R1} {c : Option Fin} {k : EV → Mem → Option Out}
theorem gV_undef : gV .undef w m o k = k .undef m := rfl
theorem gC_undef : gC .undef w fr m c k = k .undef m := rfl
theorem gV_bo_t : gV (bo p) true m o k = thenG p m o k := by by_cases h : p <;> simp [gV, gE, bo, thenG, h]
theorem gV_bo_f : gV (bo p) false m o k = thenG (¬ p) m o k := by by_cases h : p <;> simp [gV, gE, bo, thenG, h]
theorem gV_tt : gV (.bool true) true m o k = thenV o k := rfl
theorem gV_tf : gV (.bool true) false m o k = k .undef m := rfl
theorem gV_ft : gV (.bool false) true m o k = k .undef m := rfl
theorem gV_ff : gV (.bool false) false m o k = thenV o k := rfl
theorem gV_gv_t : gV (gv p (bo q)) true m o k = thenG (p ∧ q) m o k := by by_cases h : p <;> by_cases h' : q <;> simp [gV, gE, bo, gv, thenG, h, h']
theorem gV_gv_f : gV (gv p (bo q)) false m o k = thenG (p ∧ ¬ q) m o k := by by_cases h : p <;> by_cases h' : q <;> simp [gV, gE, bo, gv, thenG, h, h']
theorem gV_gt_t : gV (gv p (.bool true)) true m o k = thenG p m o k := by by_cases h : p <;> simp [gV, gE, gv, thenG, h]
theorem gV_gt_f : gV (gv p (.bool true)) false m o k = k .undef m := by by_cases h : p <;> simp [gV, gE, gv, h]
theorem gV_gf_t : gV (gv p (.bool false)) true m o k = k .undef m := by by_cases h : p <;> simp [gV, gE, gv, h]
theorem gV_gf_f : gV (gv p (.bool false)) false m o k = thenG p m o k := by by_cases h : p <;> simp [gV, gE, gv, thenG, h]
theorem gC_bo_t : gC (bo p) true fr m c k = thenH p fr m c k := by by_cases h : p <;> simp [gC, gE, bo, thenH, h]
theorem gC_bo_f : gC (bo p) false fr m c k = thenH (¬ p) fr m c k := by by_cases h : p <;> simp [gC, gE, bo, thenH, h]
theorem gC_tt : gC (.bool true) true fr m c k = thenC c fr k := rfl
theorem gC_tf : gC (.bool true) false fr m c k = k .undef m := rfl
theorem gC_ft : gC (.bool false) true fr m c k = k .undef m := rfl
theorem gC_ff : gC (.bool false) false fr m c k = thenC c fr k := rfl
theorem gC_gv_t : gC (gv p (bo q)) true fr m c k = thenH (p ∧ q) fr m c k := by by_cases h : p <;> by_cases h' : q <;> simp [gC, gE, bo, gv, thenH, h, h']
theorem gC_gv_f : gC (gv p (bo q)) false fr m c k = thenH (p ∧ ¬ q) fr m c k := by by_cases h : p <;> by_cases h' : q <;> simp [gC, gE, bo, gv, thenH, h, h']
theorem gC_gt_t : gC (gv p (.bool true)) true fr m c k = thenH p fr m c k := by by_cases h : p <;> simp [gC, gE, gv, thenH, h]
theorem gC_gt_f : gC (gv p (.bool true)) false fr m c k = k .undef m := by by_cases h : p <;> simp [gC, gE, gv, h]
theorem gC_gf_t : gC (gv p (.bool false)) true fr m c k = k .undef m := by by_cases h : p <;> simp [gC, gE, gv, h]
theorem gC_gf_f : gC (gv p (.bool false)) false fr m c k = thenH p fr m c k := by by_cases h : p <;> simp [gC, gE, gv, thenH, h]
end
theorem oprs_guard' {T : Nat → Option Ent} {d : Option Nat} {op : XOp} {t : Nat} {w : Bool} {l : List IOper} {fr : Fr} {m : Mem} :
    oprs T (⟨d, op, some (t, w)⟩ :: l) fr m = gE (fr.get t) w (oprs T (⟨d, op, none⟩ :: l) fr m) (oprs T l (fr.put d .undef) m) := by
  cases h : fr.get t
  case bool b => rw [oprs_guard h]; rfl
  case undef =>
    refine opt_ext fun r => ?_
    rw [oprs_iff]
    simp only [evOps, wantedE, h, gE]
    exact oprs_iff.symm
  all_goals
    refine opt_ext fun r => ?_
    rw [oprs_iff]
    simp only [evOps, wantedE, h, reduceCtorEq, exists_const, gE]
theorem oprs_gval {T : Nat → Option Ent} {d : Option Nat} {op : IOp} {t : Nat} {w : Bool} {l : List IOper} {fr : Fr} {m : Mem} :
    oprs T (⟨d, .val op, some (t, w)⟩ :: l) fr m = gV (fr.get t) w m (evOp fr.eval op m) (fun v m => oprs T l (fr.put d v) m) := by rw [oprs_guard', oprs_val]; rfl
/-- A call of a function's value. -/
noncomputable def runV (T : Nat → Option Ent) (f : EV) (args : List EV) (m : Mem) : Option Fin := match f with
  | .func g a c => run T g (a ++ args ++ c) m
  | _ => none
theorem runV_func {T : Nat → Option Ent} {g : Nat} {a c args : List EV} {m : Mem} : runV T (.func g a c) args m = run T g (a ++ args ++ c) m := rfl
theorem oprs_callv {T : Nat → Option Ent} {d : Option Nat} {x : Opd} {args : List Opd} {l : List IOper} {fr : Fr} {m : Mem} :
    oprs T (⟨d, .call x args, none⟩ :: l) fr m = thenC (runV T (fr.eval x) (args.map fr.eval) m) fr fun v m => oprs T l (fr.put d v) m := by
  refine opt_ext fun r => ?_
  rw [oprs_iff]
  simp only [evOps, wantedE]
  cases hx : fr.eval x
  case func g a c =>
    simp only [evCall, runV]
    constructor
    · rintro ⟨k, h⟩
      cases hc : evFun T k g (a ++ args.map fr.eval ++ c) m with
      | none => rw [hc] at h; cases h
      | some q =>
        rw [run_iff.2 ⟨k, hc⟩]
        simp only [hc] at h
        cases q with
        | ret v m1 => exact oprs_iff.2 ⟨k, h⟩
        | pan v m1 => exact h
    · intro h
      cases hc : run T g (a ++ args.map fr.eval ++ c) m with
      | none => rw [hc] at h; cases h
      | some q =>
        obtain ⟨k1, h1⟩ := run_iff.1 hc
        rw [hc] at h
        cases q with
        | ret v m1 =>
          simp only [thenC] at h
          obtain ⟨k2, h2⟩ := oprs_iff.1 h
          refine ⟨max k1 k2, ?_⟩
          have e1 := mono_run _ _ _ (Nat.le_max_left k1 k2) h1
          have e2 := mono_oprs _ _ _ (Nat.le_max_right k1 k2) h2
          simp only at e1 e2
          rw [e1]; exact e2
        | pan v m1 => exact ⟨k1, by rw [h1]; exact h⟩
  all_goals simp [evCall, runV, thenC]
theorem oprs_gcallv {T : Nat → Option Ent} {d : Option Nat} {x : Opd} {args : List Opd} {t : Nat} {w : Bool} {l : List IOper} {fr : Fr} {m : Mem} :
    oprs T (⟨d, .call x args, some (t, w)⟩ :: l) fr m = gC (fr.get t) w fr m (runV T (fr.eval x) (args.map fr.eval) m) (fun v m => oprs T l (fr.put d v) m) := by rw [oprs_guard', oprs_callv]; rfl
/-- One of two, by a truth. -/
def pickE (c a b : EV) (m : Mem) : Option R1 := match c with
  | .bool t => some (.val (bif t then a else b) m)
  | _ => none
theorem evOp_pick' {ρ : Opd → EV} {c x y : Opd} {m : Mem} : evOp ρ (.pick c x y) m = pickE (ρ c) (ρ x) (ρ y) m := by
  simp only [evOp]; unfold pickE; cases ρ c <;> rfl
section
variable {p q r : Prop} {a b : EV} {m : Mem} {c d : Bool}
theorem pick_and : pickE (bo p) (gv p (bo q)) (.bool false) m = some (.val (bo (p ∧ q)) m) := by by_cases h : p <;> by_cases h' : q <;> simp [pickE, gv, bo, h, h']
theorem pick_and_t : pickE (bo p) (gv p (.bool true)) (.bool false) m = some (.val (bo p) m) := by by_cases h : p <;> simp [pickE, gv, bo, h]
theorem pick_and_f : pickE (bo p) (gv p (.bool false)) (.bool false) m = some (.val (.bool false) m) := by by_cases h : p <;> simp [pickE, gv, bo, h]
theorem pick_or (hr : r = ¬ p) : pickE (bo p) (.bool true) (gv r (bo q)) m = some (.val (bo (p ∨ q)) m) := by subst hr; by_cases h : p <;> by_cases h' : q <;> simp [pickE, gv, bo, h, h']
theorem pick_or_t (hr : r = ¬ p) : pickE (bo p) (.bool true) (gv r (.bool true)) m = some (.val (.bool true) m) := by subst hr; by_cases h : p <;> simp [pickE, gv, bo, h]
theorem pick_or_f (hr : r = ¬ p) : pickE (bo p) (.bool true) (gv r (.bool false)) m = some (.val (bo p) m) := by subst hr; by_cases h : p <;> simp [pickE, gv, bo, h]
theorem pick_and0 : pickE (bo p) (bo q) (.bool false) m = some (.val (bo (p ∧ q)) m) := by by_cases h : p <;> by_cases h' : q <;> simp [pickE, bo, h, h']
theorem pick_or0 : pickE (bo p) (.bool true) (bo q) m = some (.val (bo (p ∨ q)) m) := by by_cases h : p <;> by_cases h' : q <;> simp [pickE, bo, h, h']
theorem pick_t : pickE (.bool true) a b m = some (.val a m) := rfl
theorem pick_f : pickE (.bool false) a b m = some (.val b m) := rfl
end
theorem un_not_bo {p : Prop} : evUn .not (bo p) = some (bo (¬ p)) := by by_cases h : p <;> simp [evUn, bo, h]
theorem eq_boo {p q : Prop} : evEq (.prim 0) (bo p) (bo q) = some (@decide (p = q) (Classical.propDecidable _)) := by by_cases h : p <;> by_cases h' : q <;> simp [evEq, evEqPrim, bo, h, h']
theorem eq_bo_t {p : Prop} : evEq (.prim 0) (bo p) (.bool true) = some (@decide p (Classical.propDecidable _)) := by by_cases h : p <;> simp [evEq, evEqPrim, bo, h]
theorem eq_bo_f {p : Prop} : evEq (.prim 0) (bo p) (.bool false) = some (@decide (¬ p) (Classical.propDecidable _)) := by by_cases h : p <;> simp [evEq, evEqPrim, bo, h]
theorem eq_t_bo {p : Prop} : evEq (.prim 0) (.bool true) (bo p) = some (@decide p (Classical.propDecidable _)) := by by_cases h : p <;> simp [evEq, evEqPrim, bo, h]
theorem eq_f_bo {p : Prop} : evEq (.prim 0) (.bool false) (bo p) = some (@decide (¬ p) (Classical.propDecidable _)) := by by_cases h : p <;> simp [evEq, evEqPrim, bo, h]
theorem eq_tt : evEq (.prim 0) (.bool true) (.bool true) = some true := rfl
theorem eq_ff : evEq (.prim 0) (.bool false) (.bool false) = some true := rfl
theorem eq_tf : evEq (.prim 0) (.bool true) (.bool false) = some false := rfl
theorem eq_ft : evEq (.prim 0) (.bool false) (.bool true) = some false := rfl
theorem un_not_t : evUn .not (.bool true) = some (.bool false) := rfl
theorem un_not_f : evUn .not (.bool false) = some (.bool true) := rfl
theorem eq_str {a b : List UInt8} : evEq (.prim 2) (.str a) (.str b) = some (decide (a = b)) := by simp only [evEq, evEqPrim, beq_self, cond_true, sameBytes_eq]
theorem thenE_iF {p : Prop} {a b : Option Out} {k : Fr → Mem → Option Out} : thenE (iF p a b) k = iF p (thenE a k) (thenE b k) := by unfold iF; split <;> rfl
theorem leave_iF {id : Nat} {p : Prop} {a b : Option Out} : leaveE id (iF p a b) = iF p (leaveE id a) (leaveE id b) := by unfold iF; split <;> rfl
theorem thenV_iF {p : Prop} {a b : Option R1} {k : EV → Mem → Option Out} : thenV (iF p a b) k = iF p (thenV a k) (thenV b k) := by unfold iF; split <;> rfl
theorem thenC_iF {p : Prop} {a b : Option Fin} {fr : Fr} {k : EV → Mem → Option Out} : thenC (iF p a b) fr k = iF p (thenC a fr k) (thenC b fr k) := by unfold iF; split <;> rfl
theorem resR_iF {rs : List IRes} {p : Prop} {a b : Option Out} : resR rs (iF p a b) = iF p (resR rs a) (resR rs b) := by unfold iF; split <;> rfl
theorem run_go' {T : Nat → Option Ent} {f : Nat} {F : IFun} (hf : T f = some (.go F)) {args : List EV} {m : Mem} (hn : args.length ≤ F.ntmps) : run T f args m = resR F.results (exec T F.body (argsF args 0 fr00) m) := by
  rw [run_go hf hn, resE_eq]; unfold fr00; rw [argsF_eq]
theorem idx_cast {n : Nat} {k : IntKind} {i : Nat} (h : i < n) : idx n (.int k (i : Int)) = some i := by
  have : (i + 1).ble n = true := Nat.ble_eq_true_of_le h
  show (bif (i + 1).ble n then some i else none) = _
  rw [this]; rfl
theorem bound_none {d n : Nat} : bound none d n = some d := rfl
theorem bound_cast {d n i : Nat} {k : IntKind} (h : i ≤ n) : bound (some (.int k (i : Int))) d n = some i := by
  show (bif i.ble n then some i else none) = _
  rw [Nat.ble_eq_true_of_le h]; rfl
theorem i64_wrap (n : Int) : IntKind.i64.wrap n = if n % 18446744073709551616 ≥ 9223372036854775808 then n % 18446744073709551616 - 18446744073709551616 else n % 18446744073709551616 := by
  have e : IntKind.i64.wrap n = if (true && decide (n % 18446744073709551616 ≥ 9223372036854775808)) = true then n % 18446744073709551616 - 18446744073709551616 else n % 18446744073709551616 := rfl
  rw [e]; simp only [Bool.true_and, decide_eq_true_eq]
theorem wrap_i64 {n : Int} (h1 : -9223372036854775808 ≤ n) (h2 : n < 9223372036854775808) : IntKind.i64.wrap n = n := by
  rw [i64_wrap]; split <;> omega
/-- A piece of code that stands under a name, and what is known of it. -/
theorem told {T : Nat → Option Ent} {c : ICode} {fr : Fr} {m : Mem} {X : Option Out} (hX : exec T c fr m = X) {α : Type} {o : α → Out} {Q : α → Prop} (h : ∃ x, exec T c fr m = some (o x) ∧ Q x) : ∃ x, X = some (o x) ∧ Q x := by
  rw [hX] at h; exact h
end Go.Proofs.Ytjegondbhejpcaa.Ev
end
section
namespace Go.Proofs.Ytjegondbhejpcaa.Ev
open Go
set_option linter.unusedSimpArgs false

/-! ### Entries of a table, by number -/
class Has (T : Nat → Option Ent) (f : Nat) (e : outParam Ent) : Prop where
  has : T f = some e
/-! ### New blocks -/
def nb (n i : Nat) : Nat := n + i
def ext (m : Mem) (xs : List Blk) : Mem := xs.foldl Mem.new m
theorem new_eq {m : Mem} {x : Blk} : m.new x = ext m [x] := rfl
theorem ext_ext {m : Mem} {xs ys : List Blk} : ext (ext m xs) ys = ext m (xs ++ ys) := by unfold ext; rw [List.foldl_append]
theorem nb_nb {n i j : Nat} : nb (nb n i) j = nb n (i + j) := Nat.add_assoc n i j
theorem next_ext {m : Mem} {xs : List Blk} : (ext m xs).next = nb m.next xs.length := by
  unfold ext nb
  induction xs generalizing m with
  | nil => rfl
  | cons x xs ih => rw [List.foldl_cons, ih]; show m.next + 1 + _ = _; rw [List.length_cons]; omega
theorem next_set {m : Mem} {b : Nat} {x : Blk} : (m.set b x).next = m.next := rfl
theorem next_new {m : Mem} {x : Blk} : (m.new x).next = m.next + 1 := rfl
theorem get_new {m : Mem} {x : Blk} {b : Nat} : (m.new x).get b = if b = m.next then x else m.get b := by
  unfold Mem.get Mem.new; simp only; rw [Tr.get_set]; split <;> rfl
theorem get_set {m : Mem} {x : Blk} {b c : Nat} : (m.set c x).get b = if b = c then x else m.get b := by
  unfold Mem.get Mem.set; simp only; rw [Tr.get_set]; split <;> rfl
theorem get_set_eq {m : Mem} {x : Blk} {b : Nat} : (m.set b x).get b = x := by rw [get_set, if_pos rfl]
theorem get_set_ne {m : Mem} {x : Blk} {b c : Nat} (h : b ≠ c) : (m.set c x).get b = m.get b := by rw [get_set, if_neg h]
theorem get_ext_old {m : Mem} {xs : List Blk} {b : Nat} (h : b < m.next) : (ext m xs).get b = m.get b := by
  unfold ext
  induction xs generalizing m with
  | nil => rfl
  | cons x xs ih => rw [List.foldl_cons, ih (by rw [next_new]; omega), get_new, if_neg (by omega)]
theorem get_ext_nb {m : Mem} {xs : List Blk} {n i : Nat} (hn : m.next = n) (h : i < xs.length) : (ext m xs).get (nb n i) = xs[i]?.getD .dead := by
  subst hn
  unfold ext nb
  induction xs generalizing m i with
  | nil => simp at h
  | cons x xs ih =>
    rw [List.foldl_cons]
    cases i with
    | zero =>
      have := get_ext_old (m := m.new x) (xs := xs) (b := m.next) (by rw [next_new]; omega)
      unfold ext at this
      rw [Nat.add_zero, this, get_new, if_pos rfl]; rfl
    | succ i =>
      have := ih (m := m.new x) (i := i) (by simpa using h)
      rw [next_new, show m.next + 1 + i = m.next + (i + 1) by omega] at this
      rw [this]; rfl
/-- Memories that tell the same. -/
def Keeps (m m' : Mem) : Prop := ∀ b, b < m.next → m'.get b = m.get b
theorem keeps_refl {m : Mem} : Keeps m m := fun _ _ => rfl
theorem keeps_ext {m : Mem} {xs : List Blk} : Keeps m (ext m xs) := fun _ h => get_ext_old h

/-! ### Loads and stores -/
def ldB (x : Blk) (agg : Option Nat) (off : Nat) : Option EV := match x with
  | .cells cs _ _ _ => partOf agg cs off
  | _ => none
theorem load_ptr' {m : Mem} {agg : Option Nat} {b off : Nat} : m.load agg (.ptr b off) = ldB (m.get b) agg off := by
  simp only [Mem.load, ldB]; cases m.get b <;> rfl
theorem ldB_cells {cs : List EV} {e t : Nat} {ro : Bool} {agg : Option Nat} {off : Nat} : ldB (.cells cs e t ro) agg off = partOf agg cs off := rfl
theorem part_none {cs : List EV} {off : Nat} : partOf none cs off = cs[off]? := rfl
theorem part_some {cs : List EV} {off n : Nat} (h : off + n ≤ cs.length) : partOf (some n) cs off = some (.agg ((cs.drop off).take n)) := by
  show (bif (off + n).ble cs.length then some (EV.agg ((cs.drop off).take n)) else none) = _
  rw [Nat.ble_eq_true_of_le h]; rfl
def stB (m : Mem) (size b off : Nat) (vs : Option (List EV)) : Option Mem := match vs with
  | some vs => bif vs.length.beq size then m.write b off vs else none
  | none => none
theorem store_ptr' {m : Mem} {size b off : Nat} {x : EV} : m.store size (.ptr b off) x = stB m size b off x.cells := by
  simp only [Mem.store, stB]; cases x.cells <;> rfl
theorem stB_some {m : Mem} {size b off : Nat} {vs : List EV} (h : vs.length = size) : stB m size b off (some vs) = m.write b off vs := by
  show (bif vs.length.beq size then m.write b off vs else none) = _
  rw [h, beq_self]; rfl
def wrB (m : Mem) (b off : Nat) (vs : List EV) (x : Blk) : Option Mem := match x with
  | .cells cs esz elem ro => bif ro then none else (splice cs off vs).map fun cs => m.set b (.cells cs esz elem ro)
  | _ => none
theorem write_eq {m : Mem} {b off : Nat} {vs : List EV} : m.write b off vs = wrB m b off vs (m.get b) := by simp only [Mem.write, wrB]; cases m.get b <;> rfl
theorem wrB_cells {m : Mem} {b off : Nat} {vs cs : List EV} {e t : Nat} (h : off + vs.length ≤ cs.length) : wrB m b off vs (.cells cs e t false) = some (m.set b (.cells (cs.take off ++ vs ++ cs.drop (off + vs.length)) e t false)) := by
  show (bif false then none else (splice cs off vs).map fun cs => m.set b (.cells cs e t false)) = _
  unfold splice; rw [Nat.ble_eq_true_of_le h]; rfl
/-! ### Cells -/
theorem cells_int {k : IntKind} {n : Int} : (EV.int k n).cells = some [.int k n] := rfl
theorem cells_bool {b : Bool} : (EV.bool b).cells = some [.bool b] := rfl
theorem cells_bo {p : Prop} : (bo p).cells = some [bo p] := rfl
theorem cells_str {s : List UInt8} : (EV.str s).cells = some [.str s] := rfl
theorem cells_nilptr : EV.nilptr.cells = some [.nilptr] := rfl
theorem cells_ptr {b o : Nat} : (EV.ptr b o).cells = some [.ptr b o] := rfl
theorem cells_nilslice : EV.nilslice.cells = some [.nilslice] := rfl
theorem cells_slice {b o l : Nat} {c : Option Nat} : (EV.slice b o l c).cells = some [.slice b o l c] := rfl
theorem cells_nilmap : EV.nilmap.cells = some [.nilmap] := rfl
theorem cells_map {b : Nat} : (EV.map b).cells = some [.map b] := rfl
theorem cells_nilfunc : EV.nilfunc.cells = some [.nilfunc] := rfl
theorem cells_func {f : Nat} {x y : List EV} : (EV.func f x y).cells = some [.func f x y] := rfl
theorem cells_niliface : EV.niliface.cells = some [.niliface] := rfl
theorem cells_iface {t : Nat} {v : EV} : (EV.iface t v).cells = some [.iface t v] := rfl
theorem cells_agg {cs : List EV} : (EV.agg cs).cells = some cs := rfl
def fillB (cs : List EV) (off size : Nat) (vs : Option (List EV)) (r : List (Nat × Nat × EV)) : Option (List EV) := match vs with
  | some vs => bif vs.length.beq size then match splice cs off vs with
      | some cs => fillIn cs r
      | none => none
    else none
  | none => none
theorem fill_nil {cs : List EV} : fillIn cs [] = some cs := rfl
theorem fill_cons {cs : List EV} {off size : Nat} {v : EV} {r : List (Nat × Nat × EV)} : fillIn cs ((off, size, v) :: r) = fillB cs off size v.cells r := by simp only [fillB, fillIn]; cases v.cells <;> rfl
theorem fillB_some {cs : List EV} {off size : Nat} {vs : List EV} {r : List (Nat × Nat × EV)} (h : vs.length = size) (h2 : off + vs.length ≤ cs.length) : fillB cs off size (some vs) r = fillIn (cs.take off ++ vs ++ cs.drop (off + vs.length)) r := by
  show (bif vs.length.beq size then match splice cs off vs with | some cs => fillIn cs r | none => none else none) = _
  unfold splice; rw [h, beq_self, Nat.ble_eq_true_of_le (by rw [← h]; exact h2)]; rfl
def boxE (elem : Nat) (m : Mem) (vs : Option (List EV)) : Option R1 := match vs with
  | some cs => some (.val (.ptr (nb m.next 0) 0) (ext m [.cells cs cs.length elem false]))
  | none => none
theorem evOp_box' {ρ : Opd → EV} {m : Mem} {elem : Nat} {x : Opd} : evOp ρ (.box elem x) m = boxE elem m (ρ x).cells := by
  simp only [evOp]; unfold boxE; cases (ρ x).cells <;> rfl
theorem boxE_some {elem : Nat} {m : Mem} {cs : List EV} : boxE elem m (some cs) = some (.val (.ptr (nb m.next 0) 0) (ext m [.cells cs cs.length elem false])) := rfl
theorem evOp_alloc' {ρ : Opd → EV} {m : Mem} {elem : Nat} {zero : List EV} : evOp ρ (.alloc elem zero) m = some (.val (.ptr (nb m.next 0) 0) (ext m [.cells zero zero.length elem false])) := rfl
theorem evOp_mkmap' {ρ : Opd → EV} {m : Mem} : evOp ρ .mkmap m = some (.val (.map (nb m.next 0)) (ext m [.map []])) := rfl

/-! ### Blocks set: in what order does not matter -/
theorem put_same {α : Type} (x y : α) (p : List Bool) : ∀ t : Tr α, (t.put x p).put y p = t.put y p := by
  induction p with
  | nil => intro t; cases t <;> rfl
  | cons b p ih => intro t; cases t <;> cases b <;> simp [Tr.put, ih]
theorem put_comm {α : Type} (x y : α) (p : List Bool) : ∀ (q : List Bool) (t : Tr α), p ≠ q → (t.put x p).put y q = (t.put y q).put x p := by
  induction p with
  | nil =>
    intro q t h
    cases q with
    | nil => exact absurd rfl h
    | cons c q => cases t <;> cases c <;> simp [Tr.put]
  | cons b p ih =>
    intro q t h
    cases q with
    | nil => cases t <;> cases b <;> simp [Tr.put]
    | cons c q =>
      by_cases hbc : b = c
      · subst hbc
        have hpq : p ≠ q := fun e => h (by rw [e])
        cases t <;> cases b <;> simp [Tr.put, ih _ _ hpq]
      · cases t <;> cases b <;> cases c <;> simp [Tr.put] at hbc ⊢
theorem new_set {m : Mem} {b : Nat} {x y : Blk} (h : b < m.next) : (m.new y).set b x = (m.set b x).new y := by
  unfold Mem.set Mem.new Tr.set; simp only; rw [put_comm _ _ _ _ _ (fun e => by have := path_inj e; omega)]
theorem new_set_same {m : Mem} {x y : Blk} : (m.new y).set m.next x = m.new x := by
  unfold Mem.set Mem.new Tr.set; simp only; rw [put_same]
theorem set_ext_old {m : Mem} {xs : List Blk} {b : Nat} {x : Blk} (h : b < m.next) : (ext m xs).set b x = ext (m.set b x) xs := by
  unfold ext
  induction xs generalizing m with
  | nil => rfl
  | cons y ys ih => rw [List.foldl_cons, ih (by rw [next_new]; omega), new_set h]; rfl
theorem set_ext_nb {m : Mem} {xs : List Blk} {n i : Nat} {x : Blk} (hn : m.next = n) (h : i < xs.length) : (ext m xs).set (nb n i) x = ext m (xs.set i x) := by
  subst hn
  induction xs generalizing m i with
  | nil => simp at h
  | cons y ys ih =>
    cases i with
    | zero =>
      have := set_ext_old (m := m.new y) (xs := ys) (b := m.next) (x := x) (by rw [next_new]; omega)
      rw [new_set_same] at this
      exact this
    | succ i =>
      have := ih (m := m.new y) (i := i) (by simpa using h)
      rw [next_new] at this
      unfold nb at this ⊢
      rw [show m.next + (i + 1) = m.next + 1 + i by omega]
      exact this

/-! ### Calls that leave all asx it was -/
open Classical in
noncomputable def lookOf (T : Nat → Option Ent) (f : Nat) : List EV → Mem → Option EV := fun args m => match run T f args m with
  | some (.ret v m') => if Flat v = true ∧ Keeps m m' then some v else none
  | _ => none
end Go.Proofs.Ytjegondbhejpcaa.Ev
end
section
namespace Go.Proofs.Ytjegondbhejpcaa.Ev
open Go
set_option linter.unusedSimpArgs false
theorem srt_mov (x : Opd) : srt (.mov x) = 0 := rfl
theorem srt_alloc (elem : Nat) (zero : List EV) : srt (.alloc elem zero) = 1 := rfl
theorem srt_box (elem : Nat) (x : Opd) : srt (.box elem x) = 1 := rfl
theorem srt_build (zero : List EV) (parts : List (Nat × Nat × Opd)) : srt (.build zero parts) = 0 := rfl
theorem srt_bslice (elem esz len : Nat) (zero : List EV) (parts : List (Nat × Opd)) : srt (.bslice elem esz len zero parts) = 1 := rfl
theorem srt_store (size : Nat) (a x : Opd) : srt (.store size a x) = 3 := rfl
theorem srt_nilck (x : Opd) : srt (.nilck x) = 0 := rfl
theorem srt_bin (op : BinOp) (x y : Opd) : srt (.bin op x y) = 0 := rfl
theorem srt_eq (neg : Bool) (t : EqTy) (x y : Opd) : srt (.eq neg t x y) = 0 := rfl
theorem srt_un (op : UnOp) (x : Opd) : srt (.un op x) = 0 := rfl
theorem srt_iface (t : Nat) (x : Opd) : srt (.iface t x) = 0 := rfl
theorem srt_mkfn (f : Nat) (a c : List Opd) : srt (.mkfn f a c) = 0 := rfl
theorem srt_mkmap  : srt (.mkmap ) = 1 := rfl
theorem srt_mkslice (elem esz : Nat) (zero : List EV) (len cap : Opd) : srt (.mkslice elem esz zero len cap) = 1 := rfl
theorem srt_slstr (x : Opd) (lo hi : Option Opd) : srt (.slstr x lo hi) = 0 := rfl
theorem srt_slsl (esz : Nat) (x : Opd) (lo hi max : Option Opd) : srt (.slsl esz x lo hi max) = 3 := rfl
theorem srt_slarr (n esz : Nat) (x : Opd) (lo hi max : Option Opd) : srt (.slarr n esz x lo hi max) = 0 := rfl
theorem srt_faddr (off : Nat) (x : Opd) : srt (.faddr off x) = 0 := rfl
theorem srt_fld (agg : Option Nat) (off : Nat) (x : Opd) : srt (.fld agg off x) = 0 := rfl
theorem srt_iaddr (esz : Nat) (x i : Opd) : srt (.iaddr esz x i) = 0 := rfl
theorem srt_iaddrArr (n esz : Nat) (x i : Opd) : srt (.iaddrArr n esz x i) = 0 := rfl
theorem srt_idxstr (x i : Opd) : srt (.idxstr x i) = 0 := rfl
theorem srt_idxagg (n esz : Nat) (agg : Option Nat) (x i : Opd) : srt (.idxagg n esz agg x i) = 0 := rfl
theorem srt_lookup (kt : Nat) (zero : EV) (ok : Bool) (mp k : Opd) : srt (.lookup kt zero ok mp k) = 3 := rfl
theorem srt_mapupd (kt : Nat) (mp k x : Opd) : srt (.mapupd kt mp k x) = 3 := rfl
theorem srt_delete (kt : Nat) (mp k : Opd) : srt (.delete kt mp k) = 3 := rfl
theorem srt_lenmap (mp : Opd) : srt (.lenmap mp) = 3 := rfl
theorem srt_tassert (t : Nat) (x : Opd) : srt (.tassert t x) = 0 := rfl
theorem srt_extract (x : Opd) (i : Nat) : srt (.extract x i) = 0 := rfl
theorem srt_len (x : Opd) : srt (.len x) = 0 := rfl
theorem srt_lenstr (x : Opd) : srt (.lenstr x) = 0 := rfl
theorem srt_lenarr (n : Nat) : srt (.lenarr n) = 0 := rfl
theorem srt_cap (x : Opd) : srt (.cap x) = 0 := rfl
theorem srt_max (args : List Opd) : srt (.max args) = 0 := rfl
theorem srt_min (args : List Opd) : srt (.min args) = 0 := rfl
theorem srt_append (elem esz bytes : Nat) (s x : Opd) : srt (.append elem esz bytes s x) = 3 := rfl
theorem srt_copy (esz : Nat) (d s : Opd) : srt (.copy esz d s) = 3 := rfl
theorem srt_pick {x y z : Opd} : srt (.pick x y z) = 0 := rfl
theorem srt_cv_int {k : IntKind} {x : Opd} : srt (.conv (.int k) x) = 0 := rfl
theorem srt_cv_same {x : Opd} : srt (.conv .same x) = 0 := rfl
theorem srt_cv_bytes {e : Nat} {x : Opd} : srt (.conv (.bytes e) x) = 1 := rfl
theorem srt_cv_text {x : Opd} : srt (.conv .text x) = 3 := rfl
/-! ### Room set aside -/
def bump (m : Mem) (k : Nat) : Mem := ⟨m.next + k, m.tbl⟩
theorem get_bump {m : Mem} {k b : Nat} : (bump m k).get b = m.get b := rfl
theorem next_bump {m : Mem} {k : Nat} : (bump m k).next = nb m.next k := rfl
theorem set_bump {m : Mem} {k b : Nat} {x : Blk} : (bump m k).set b x = bump (m.set b x) k := rfl
theorem load_bump {m : Mem} {k : Nat} {agg : Option Nat} {a : EV} : (bump m k).load agg a = m.load agg a := rfl
theorem nb_lt {n i j : Nat} : nb n i < nb n j ↔ i < j := by unfold nb; omega
theorem nb_inj {n i j : Nat} : nb n i = nb n j ↔ i = j := by unfold nb; omega
theorem lt_nb {b n i : Nat} (h : b < n) : b < nb n i := by unfold nb; omega
theorem get_ext_nb' {m : Mem} {xs : List Blk} {n i j : Nat} (hn : m.next = nb n j) (h : j ≤ i) (h2 : i - j < xs.length) : (ext m xs).get (nb n i) = xs[i - j]?.getD .dead := by
  have := get_ext_nb (m := m) (xs := xs) (n := nb n j) (i := i - j) hn h2
  rw [nb_nb, show j + (i - j) = i by omega] at this; exact this
theorem set_ext_nb' {m : Mem} {xs : List Blk} {n i j : Nat} {x : Blk} (hn : m.next = nb n j) (h : j ≤ i) (h2 : i - j < xs.length) : (ext m xs).set (nb n i) x = ext m (xs.set (i - j) x) := by
  have := set_ext_nb (m := m) (xs := xs) (n := nb n j) (i := i - j) (x := x) hn h2
  rw [nb_nb, show j + (i - j) = i by omega] at this; exact this
theorem keeps_bump {m m' : Mem} {k : Nat} (h : Keeps m m') : Keeps m (bump m' k) := h
theorem keeps_ext' {m m' : Mem} {xs : List Blk} (h : Keeps m m') (hn : m.next ≤ m'.next) : Keeps m (ext m' xs) := fun c hc => by rw [get_ext_old (by omega)]; exact h c hc
theorem le_nb {n i : Nat} : n ≤ nb n i := by unfold nb; omega

/-! ### Values that are the same -/
mutual
/-- Which row it is, is told. -/
def Told : EV → Bool
  | .fz t _ els => !(t.beq 0) && Toldss els
  | .fptr _ _ _ _ => false
  | .func _ x y => Tolds x && Tolds y
  | .iface _ v => Told v
  | .agg x | .tuple x => Tolds x
  | _ => true
def Tolds : List EV → Bool
  | [] => true
  | v :: x => Told v && Tolds x
def Toldss : List (List EV) → Bool
  | [] => true
  | v :: x => Tolds v && Toldss x
end
mutual
theorem same_refl : ∀ v : EV, Told v = true → EV.same v v = true
  | .undef, _ | .nilptr, _ | .nilslice, _ | .nilmap, _ | .nilfunc, _ | .niliface, _ => rfl
  | .bool b, _ => by cases b <;> rfl
  | .int k n, _ => by
    have h1 : (kindNo k).beq (kindNo k) = true := Nat.beq_refl _
    have h2 : sameInt n n = true := by cases n <;> exact Nat.beq_refl _
    simp only [EV.same, h1, cond_true, h2]
  | .str s, _ => by simp only [EV.same, sameBytes_eq, decide_true]
  | .ptr a i, _ => by simp only [EV.same, Nat.beq_refl, cond_true]
  | .slice a i n c, _ => by
    have h : sameOpt c c = true := by cases c <;> simp [sameOpt]
    simp only [EV.same, Nat.beq_refl, cond_true, h]
  | .map a, _ => by simp only [EV.same, Nat.beq_refl]
  | .func f x y, h => by
    simp only [Told, Bool.and_eq_true] at h
    simp only [EV.same, Nat.beq_refl, cond_true, sames_refl x h.1, sames_refl y h.2]
  | .iface t v, h => by simp only [EV.same, Nat.beq_refl, cond_true, same_refl v (by simpa only [Told] using h)]
  | .agg x, h => by simp only [EV.same, sames_refl x (by simpa only [Told] using h)]
  | .tuple x, h => by simp only [EV.same, sames_refl x (by simpa only [Told] using h)]
  | .fz t e els, h => by
    simp only [Told, Bool.and_eq_true, Bool.not_eq_true'] at h
    simp only [EV.same, h.1, cond_false, Nat.beq_refl, cond_true, samess_refl els h.2]
  | .fptr _ _ _ _, h => by simp [Told] at h
theorem sames_refl : ∀ x : List EV, Tolds x = true → EV.sames x x = true
  | [], _ => rfl
  | v :: x, h => by
    simp only [Tolds, Bool.and_eq_true] at h
    simp only [EV.sames, same_refl v h.1, cond_true, sames_refl x h.2]
theorem samess_refl : ∀ x : List (List EV), Toldss x = true → EV.samess x x = true
  | [], _ => rfl
  | v :: x, h => by
    simp only [Toldss, Bool.and_eq_true] at h
    simp only [EV.samess, sames_refl v h.1, cond_true, samess_refl x h.2]
end

/-! ### Regions whose order is open -/
section
variable {T : Nat → Option Ent} {chk : List (Nat × Nat)} {B0 i : Nat} {l : List IOper} {fr : Fr} {m : Mem} {sn : List (Nat × Mem)} {se : List Seen} {d : Option Nat}
theorem exec_draw' : exec T (.draw l chk) fr m = drw T chk m.next l 0 fr (bump m l.length) [] [] := rfl
theorem drw_nil : drw T chk B0 [] i fr m sn se = some (.norm fr m) := drw_iff.2 ⟨0, rfl⟩
def thenL (o : Option EV) (k : EV → Option Out) : Option Out := match o with
  | some v => k v
  | none => none
@[congr] theorem thenL_congr {o o' : Option EV} {k : EV → Option Out} (h : o = o') : thenL o k = thenL o' k := by rw [h]
theorem thenL_some {v : EV} {k : EV → Option Out} : thenL (some v) k = k v := rfl
def ifB (b : Bool) (o : Option Out) : Option Out := bif b then o else none
@[congr] theorem ifB_congr {b b' : Bool} {o : Option Out} (h : b = b') : ifB b o = ifB b' o := by rw [h]
theorem ifB_true {o : Option Out} : ifB true o = o := rfl
theorem drw_v0 {op : IOp} (h : srt op = 0) : drw T chk B0 (⟨d, .val op, none⟩ :: l) i fr m sn se = thenV (evOp fr.eval op m) fun v _ => drw T chk B0 l (i + 1) (fr.put d v) m sn se := by
  refine opt_ext fun r => ?_
  rw [drw_iff]
  simp only [evDraw, wantedE, h]
  cases evOp fr.eval op m with
  | none => simp [thenV]
  | some q => obtain ⟨v, m1⟩ := q; simp only [thenV]; exact drw_iff.symm
theorem drw_v1 {op : IOp} (h : srt op = 1) : drw T chk B0 (⟨d, .val op, none⟩ :: l) i fr m sn se = thenV (evOp fr.eval op ⟨B0 + i, m.tbl⟩) fun v m1 => drw T chk B0 l (i + 1) (fr.put d v) ⟨m.next, m1.tbl⟩ sn se := by
  refine opt_ext fun r => ?_
  rw [drw_iff]
  simp only [evDraw, wantedE, h]
  cases evOp fr.eval op ⟨B0 + i, m.tbl⟩ with
  | none => simp [thenV]
  | some q => obtain ⟨v, m1⟩ := q; simp only [thenV]; exact drw_iff.symm
theorem drw_v3 {op : IOp} (h : srt op = 3) : drw T chk B0 (⟨d, .val op, none⟩ :: l) i fr m sn se = thenV (evOp fr.eval op m) fun v m' => ifB (checkSeen chk i m' se) (drw T chk B0 l (i + 1) (fr.put d v) m' ((i, m) :: sn) se) := by
  refine opt_ext fun r => ?_
  rw [drw_iff]
  simp only [evDraw, wantedE, h]
  cases evOp fr.eval op m with
  | none => simp [thenV]
  | some q =>
    obtain ⟨v, m1⟩ := q
    simp only [thenV]
    cases checkSeen chk i m1 se
    · simp [ifB]
    · simp only [ifB, cond_true]; exact drw_iff.symm
def ifF (a : EV) (x y : Option Out) : Option Out := bif isF a then x else y
@[congr] theorem ifF_congr {a a' : EV} {x y : Option Out} (h : a = a') : ifF a x y = ifF a' x y := by rw [h]
theorem ifF_ptr {b o : Nat} {x y : Option Out} : ifF (.ptr b o) x y = y := rfl
theorem ifF_fptr {e i k : Nat} {els : List (List EV)} {x y : Option Out} : ifF (.fptr e els i k) x y = x := rfl
theorem drw_load {agg : Option Nat} {a : Opd} : drw T chk B0 (⟨d, .val (.load agg a), none⟩ :: l) i fr m sn se = thenL (m.load agg (fr.eval a)) fun v => ifF (fr.eval a) (ifB (checkOld chk i m.next sn) (drw T chk B0 l (i + 1) (fr.put d v) m sn se)) (ifB (checkSnap chk i agg (fr.eval a) v sn) (drw T chk B0 l (i + 1) (fr.put d v) m sn (⟨i, agg, fr.eval a, v⟩ :: se))) := by
  refine opt_ext fun r => ?_
  rw [drw_iff]
  simp only [evDraw, wantedE, srt]
  cases m.load agg (fr.eval a) with
  | none => simp [thenL]
  | some v =>
    simp only [thenL, ifF]
    cases isF (fr.eval a)
    · simp only [cond_false]
      cases checkSnap chk i agg (fr.eval a) v sn
      · simp [ifB]
      · simp only [ifB, cond_true]; exact drw_iff.symm
    · simp only [cond_true]
      cases checkOld chk i m.next sn
      · simp [ifB]
      · simp only [ifB, cond_true]; exact drw_iff.symm
def thenD (o : Option Fin) (k : EV → Mem → Option Out) : Option Out := match o with
  | some (.ret v m) => k v m
  | _ => none
@[congr] theorem thenD_congr {o o' : Option Fin} {k : EV → Mem → Option Out} (h : o = o') : thenD o k = thenD o' k := by rw [h]
theorem thenD_ret {v : EV} {m : Mem} {k : EV → Mem → Option Out} : thenD (some (.ret v m)) k = k v m := rfl
theorem drw_call {x : Opd} {args : List Opd} : drw T chk B0 (⟨d, .call x args, none⟩ :: l) i fr m sn se = thenD (runV T (fr.eval x) (args.map fr.eval) m) fun v m' => ifB (checkSeen chk i m' se) (drw T chk B0 l (i + 1) (fr.put d v) m' ((i, m) :: sn) se) := by
  refine opt_ext fun r => ?_
  rw [drw_iff]
  simp only [evDraw, wantedE]
  cases hx : fr.eval x
  case func g a c =>
    simp only [evCall, runV]
    constructor
    · rintro ⟨k, h⟩
      cases hc : evFun T k g (a ++ args.map fr.eval ++ c) m with
      | none => rw [hc] at h; cases h
      | some q =>
        rw [run_iff.2 ⟨k, hc⟩]
        simp only [hc] at h
        cases q with
        | ret v m1 =>
          simp only [thenD]
          cases hk : checkSeen chk i m1 se
          · simp [hk] at h
          · simp only [hk, cond_true] at h
            simp only [ifB, cond_true]; exact drw_iff.2 ⟨k, h⟩
        | pan v m1 => simp at h
    · intro h
      cases hc : run T g (a ++ args.map fr.eval ++ c) m with
      | none => rw [hc] at h; cases h
      | some q =>
        obtain ⟨k1, h1⟩ := run_iff.1 hc
        rw [hc] at h
        cases q with
        | ret v m1 =>
          simp only [thenD] at h
          cases hk : checkSeen chk i m1 se
          · simp [hk, ifB] at h
          · simp only [hk, ifB, cond_true] at h
            obtain ⟨k2, h2⟩ := drw_iff.1 h
            refine ⟨max k1 k2, ?_⟩
            have e1 := mono_run _ _ _ (Nat.le_max_left k1 k2) h1
            have e2 := mono_drw _ _ _ (Nat.le_max_right k1 k2) h2
            simp only at e1 e2
            simp only [e1, hk, cond_true]; exact e2
        | pan v m1 => cases h
  all_goals simp [evCall, runV, thenD]
/-- No pair speaks of this load; of this act. -/
def noL (i : Nat) (chk : List (Nat × Nat)) : Bool := chk.all fun p => p.1 != i
def noA (j : Nat) (chk : List (Nat × Nat)) : Bool := chk.all fun p => p.2 != j
theorem noL_nil : noL i [] = true := rfl
theorem noL_cons {a b : Nat} : noL i ((a, b) :: chk) = (a != i && noL i chk) := rfl
theorem noA_nil : noA i [] = true := rfl
theorem noA_cons {a b : Nat} : noA i ((a, b) :: chk) = (b != i && noA i chk) := rfl
theorem noL_pair {j : Nat} : ∀ {chk : List (Nat × Nat)}, noL i chk = true → hasPair i j chk = false
  | [], _ => rfl
  | (a, b) :: chk, h => by
    simp only [noL_cons, Bool.and_eq_true, bne_iff_ne, ne_eq] at h
    simp only [hasPair, beq_ff h.1, cond_false]
    exact noL_pair h.2
theorem noA_pair {j : Nat} : ∀ {chk : List (Nat × Nat)}, noA j chk = true → hasPair i j chk = false
  | [], _ => rfl
  | (a, b) :: chk, h => by
    simp only [noA_cons, Bool.and_eq_true, bne_iff_ne, ne_eq] at h
    simp only [hasPair, beq_ff h.1, cond_false]
    rw [noA_pair h.2]; cases a.beq i <;> rfl
theorem snap_noL {agg : Option Nat} {a v : EV} (h : noL i chk = true) : ∀ sn, checkSnap chk i agg a v sn = true
  | [] => rfl
  | (j, m1) :: sn => by simp only [checkSnap, noL_pair h, cond_false]; exact snap_noL h sn
theorem old_noL {n : Nat} (h : noL i chk = true) : ∀ sn, checkOld chk i n sn = true
  | [] => rfl
  | (j, m1) :: sn => by simp only [checkOld, noL_pair h, cond_false]; exact old_noL h sn
theorem seen_noA {m : Mem} (h : noA i chk = true) : ∀ se, checkSeen chk i m se = true
  | [] => rfl
  | x :: se => by simp only [checkSeen, noA_pair h, cond_false]; exact seen_noA h se
/-- What is seen, but for what no pair speaks of. -/
def Same1 (chk : List (Nat × Nat)) (se se' : List Seen) : Prop := ∀ j m, checkSeen chk j m se = checkSeen chk j m se'
def Same2 (chk : List (Nat × Nat)) (sn sn' : List (Nat × Mem)) : Prop := (∀ i agg a v, checkSnap chk i agg a v sn = checkSnap chk i agg a v sn') ∧ ∀ i n, checkOld chk i n sn = checkOld chk i n sn'
theorem Same1.cons {se se' : List Seen} (h : Same1 chk se se') (x : Seen) : Same1 chk (x :: se) (x :: se') := fun j m => by simp only [checkSeen, h j m]
theorem Same2.cons {sn sn' : List (Nat × Mem)} (h : Same2 chk sn sn') (x : Nat × Mem) : Same2 chk (x :: sn) (x :: sn') := ⟨fun i agg a v => by obtain ⟨j, m⟩ := x; simp only [checkSnap, h.1 i agg a v], fun i n => by obtain ⟨j, m⟩ := x; simp only [checkOld, h.2 i n]⟩
theorem evDraw_same {call : Call} : ∀ (l : List IOper) (i : Nat) (fr : Fr) (m : Mem) (sn sn' : List (Nat × Mem)) (se se' : List Seen), Same2 chk sn sn' → Same1 chk se se' → evDraw call chk B0 l i fr m sn se = evDraw call chk B0 l i fr m sn' se'
  | [], i, fr, m, sn, sn', se, se', _, _ => rfl
  | o :: r, i, fr, m, sn, sn', se, se', h2, h1 => by
    have ih := fun i fr m sn sn' se se' h2 h1 => evDraw_same (call := call) r i fr m sn sn' se se' h2 h1
    simp only [evDraw]
    cases wantedE fr o.guard with
    | none => rfl
    | some b =>
    cases b with
    | false => exact ih _ _ _ _ _ _ _ h2 h1
    | true =>
      simp only
      cases o.op with
      | val op =>
        simp only
        split
        · cases evOp fr.eval op m with
          | none => rfl
          | some q => obtain ⟨v, m1⟩ := q; exact ih _ _ _ _ _ _ _ h2 h1
        · cases evOp fr.eval op ⟨B0 + i, m.tbl⟩ with
          | none => rfl
          | some q => obtain ⟨v, m1⟩ := q; exact ih _ _ _ _ _ _ _ h2 h1
        · split
          · rename_i agg x _
            cases m.load agg (fr.eval x) with
            | none => rfl
            | some v =>
              simp only [h2.1 i agg (fr.eval x) v, h2.2 i m.next]
              cases isF (fr.eval x)
              · simp only [cond_false]
                cases checkSnap chk i agg (fr.eval x) v sn'
                · rfl
                · simp only [cond_true]; exact ih _ _ _ _ _ _ _ h2 (h1.cons _)
              · simp only [cond_true]
                cases checkOld chk i m.next sn'
                · rfl
                · simp only [cond_true]; exact ih _ _ _ _ _ _ _ h2 h1
          · rfl
        · cases evOp fr.eval op m with
          | none => rfl
          | some q =>
            obtain ⟨v, m1⟩ := q
            simp only [h1 i m1]
            cases checkSeen chk i m1 se'
            · rfl
            · simp only [cond_true]; exact ih _ _ _ _ _ _ _ (h2.cons _) h1
      | call f args =>
        simp only
        cases evCall call (fr.eval f) (args.map fr.eval) m with
        | none => rfl
        | some q =>
          cases q with
          | ret v m1 =>
            simp only [h1 i m1]
            cases checkSeen chk i m1 se'
            · rfl
            · simp only [cond_true]; exact ih _ _ _ _ _ _ _ (h2.cons _) h1
          | pan v m1 => rfl
      | panic x => rfl
      | defer f x => rfl
theorem drw_same {sn' : List (Nat × Mem)} {se' : List Seen} (h2 : Same2 chk sn sn') (h1 : Same1 chk se se') : drw T chk B0 l i fr m sn se = drw T chk B0 l i fr m sn' se' := by
  unfold drw; congr 1; funext k; exact evDraw_same l i fr m sn sn' se se' h2 h1
theorem drw_seen {j : Nat} {agg : Option Nat} {a v : EV} (h : noL j chk = true) : drw T chk B0 l i fr m sn (⟨j, agg, a, v⟩ :: se) = drw T chk B0 l i fr m sn se :=
  drw_same ⟨fun _ _ _ _ => rfl, fun _ _ => rfl⟩ fun k m => by simp only [checkSeen, noL_pair h, cond_false]
theorem drw_snap {j : Nat} {m1 : Mem} (h : noA j chk = true) : drw T chk B0 l i fr m ((j, m1) :: sn) se = drw T chk B0 l i fr m sn se :=
  drw_same ⟨fun i agg a v => by simp only [checkSnap, noA_pair h, cond_false], fun i n => by simp only [checkOld, noA_pair h, cond_false]⟩ fun _ _ => rfl
theorem drw_load0 {agg : Option Nat} {a : Opd} (h : noL i chk = true) : drw T chk B0 (⟨d, .val (.load agg a), none⟩ :: l) i fr m sn se = thenL (m.load agg (fr.eval a)) fun v => drw T chk B0 l (i + 1) (fr.put d v) m sn se := by
  rw [drw_load]; cases m.load agg (fr.eval a) with
  | none => rfl
  | some v => simp only [thenL, snap_noL h, old_noL h, ifB_true, drw_seen h, ifF]; cases isF (fr.eval a) <;> rfl
theorem drw_load1 {agg : Option Nat} {a : Opd} (_h : noL i chk = false) : drw T chk B0 (⟨d, .val (.load agg a), none⟩ :: l) i fr m sn se = thenL (m.load agg (fr.eval a)) fun v => ifF (fr.eval a) (ifB (checkOld chk i m.next sn) (drw T chk B0 l (i + 1) (fr.put d v) m sn se)) (ifB (checkSnap chk i agg (fr.eval a) v sn) (drw T chk B0 l (i + 1) (fr.put d v) m sn (⟨i, agg, fr.eval a, v⟩ :: se))) := drw_load
theorem drw_v30 {op : IOp} (h : srt op = 3) (h0 : noA i chk = true) : drw T chk B0 (⟨d, .val op, none⟩ :: l) i fr m sn se = thenV (evOp fr.eval op m) fun v m' => drw T chk B0 l (i + 1) (fr.put d v) m' sn se := by
  rw [drw_v3 h]; cases evOp fr.eval op m with
  | none => rfl
  | some q => obtain ⟨v, m1⟩ := q; simp only [thenV, seen_noA h0, ifB_true, drw_snap h0]
theorem drw_v31 {op : IOp} (h : srt op = 3) (_h0 : noA i chk = false) : drw T chk B0 (⟨d, .val op, none⟩ :: l) i fr m sn se = thenV (evOp fr.eval op m) fun v m' => ifB (checkSeen chk i m' se) (drw T chk B0 l (i + 1) (fr.put d v) m' ((i, m) :: sn) se) := drw_v3 h
theorem drw_call0 {x : Opd} {args : List Opd} (h0 : noA i chk = true) : drw T chk B0 (⟨d, .call x args, none⟩ :: l) i fr m sn se = thenD (runV T (fr.eval x) (args.map fr.eval) m) fun v m' => drw T chk B0 l (i + 1) (fr.put d v) m' sn se := by
  rw [drw_call]; cases runV T (fr.eval x) (args.map fr.eval) m with
  | none => rfl
  | some q => cases q with
    | ret v m1 => simp only [thenD, seen_noA h0, ifB_true, drw_snap h0]
    | pan v m1 => rfl
theorem drw_call1 {x : Opd} {args : List Opd} (_h0 : noA i chk = false) : drw T chk B0 (⟨d, .call x args, none⟩ :: l) i fr m sn se = thenD (runV T (fr.eval x) (args.map fr.eval) m) fun v m' => ifB (checkSeen chk i m' se) (drw T chk B0 l (i + 1) (fr.put d v) m' ((i, m) :: sn) se) := drw_call
theorem drw_guard {op : XOp} {t : Nat} {w : Bool} : drw T chk B0 (⟨d, op, some (t, w)⟩ :: l) i fr m sn se = gE (fr.get t) w (drw T chk B0 (⟨d, op, none⟩ :: l) i fr m sn se) (drw T chk B0 l (i + 1) (fr.put d .undef) m sn se) := by
  cases h : fr.get t
  case bool b =>
    refine opt_ext fun r => ?_
    rw [drw_iff]
    simp only [evDraw, wantedE, h, gE]
    cases hb : b == w
    · simp only [cond_false]; exact drw_iff.symm
    · simp only [cond_true]
      rw [drw_iff]
      simp only [evDraw, wantedE]
  case undef =>
    refine opt_ext fun r => ?_
    rw [drw_iff]
    simp only [evDraw, wantedE, h, gE]
    exact drw_iff.symm
  all_goals
    refine opt_ext fun r => ?_
    rw [drw_iff]
    simp only [evDraw, wantedE, h, reduceCtorEq, exists_const, gE]
def retO (o : Option Fin) : Option R1 := match o with
  | some (.ret v m) => some (.val v m)
  | _ => none
theorem retO_ret {v : EV} {m : Mem} : retO (some (.ret v m)) = some (.val v m) := rfl
theorem thenD_eq {o : Option Fin} {k : EV → Mem → Option Out} : thenD o k = thenV (retO o) k := by cases o with | none => rfl | some q => cases q <;> rfl
theorem drw_gv0 {op : IOp} {t : Nat} {w : Bool} (h : srt op = 0) : drw T chk B0 (⟨d, .val op, some (t, w)⟩ :: l) i fr m sn se = gV (fr.get t) w m (evOp fr.eval op m) fun v _ => drw T chk B0 l (i + 1) (fr.put d v) m sn se := by rw [drw_guard, drw_v0 h]; rfl
theorem drw_gv1 {op : IOp} {t : Nat} {w : Bool} (h : srt op = 1) : drw T chk B0 (⟨d, .val op, some (t, w)⟩ :: l) i fr m sn se = gE (fr.get t) w (thenV (evOp fr.eval op ⟨B0 + i, m.tbl⟩) fun v m1 => drw T chk B0 l (i + 1) (fr.put d v) ⟨m.next, m1.tbl⟩ sn se) (drw T chk B0 l (i + 1) (fr.put d .undef) m sn se) := by rw [drw_guard, drw_v1 h]
theorem drw_gld0 {agg : Option Nat} {a : Opd} {t : Nat} {w : Bool} (h : noL i chk = true) : drw T chk B0 (⟨d, .val (.load agg a), some (t, w)⟩ :: l) i fr m sn se = gV (fr.get t) w m (ofEV m (m.load agg (fr.eval a))) fun v _ => drw T chk B0 l (i + 1) (fr.put d v) m sn se := by
  rw [drw_guard, drw_load0 h]; unfold gV
  cases m.load agg (fr.eval a) <;> rfl
theorem drw_gld1 {agg : Option Nat} {a : Opd} {t : Nat} {w : Bool} (_h : noL i chk = false) : drw T chk B0 (⟨d, .val (.load agg a), some (t, w)⟩ :: l) i fr m sn se = gE (fr.get t) w (thenL (m.load agg (fr.eval a)) fun v => ifF (fr.eval a) (ifB (checkOld chk i m.next sn) (drw T chk B0 l (i + 1) (fr.put d v) m sn se)) (ifB (checkSnap chk i agg (fr.eval a) v sn) (drw T chk B0 l (i + 1) (fr.put d v) m sn (⟨i, agg, fr.eval a, v⟩ :: se)))) (drw T chk B0 l (i + 1) (fr.put d .undef) m sn se) := by rw [drw_guard, drw_load]
theorem drw_gv30 {op : IOp} {t : Nat} {w : Bool} (h : srt op = 3) (h0 : noA i chk = true) : drw T chk B0 (⟨d, .val op, some (t, w)⟩ :: l) i fr m sn se = gV (fr.get t) w m (evOp fr.eval op m) fun v m' => drw T chk B0 l (i + 1) (fr.put d v) m' sn se := by rw [drw_guard, drw_v30 h h0]; rfl
theorem drw_gv31 {op : IOp} {t : Nat} {w : Bool} (h : srt op = 3) (_h0 : noA i chk = false) : drw T chk B0 (⟨d, .val op, some (t, w)⟩ :: l) i fr m sn se = gE (fr.get t) w (thenV (evOp fr.eval op m) fun v m' => ifB (checkSeen chk i m' se) (drw T chk B0 l (i + 1) (fr.put d v) m' ((i, m) :: sn) se)) (drw T chk B0 l (i + 1) (fr.put d .undef) m sn se) := by rw [drw_guard, drw_v3 h]
theorem drw_gcall0 {x : Opd} {args : List Opd} {t : Nat} {w : Bool} (h0 : noA i chk = true) : drw T chk B0 (⟨d, .call x args, some (t, w)⟩ :: l) i fr m sn se = gV (fr.get t) w m (retO (runV T (fr.eval x) (args.map fr.eval) m)) fun v m' => drw T chk B0 l (i + 1) (fr.put d v) m' sn se := by rw [drw_guard, drw_call0 h0, thenD_eq]; rfl
theorem drw_gcall1 {x : Opd} {args : List Opd} {t : Nat} {w : Bool} (_h0 : noA i chk = false) : drw T chk B0 (⟨d, .call x args, some (t, w)⟩ :: l) i fr m sn se = gE (fr.get t) w (thenD (runV T (fr.eval x) (args.map fr.eval) m) fun v m' => ifB (checkSeen chk i m' se) (drw T chk B0 l (i + 1) (fr.put d v) m' ((i, m) :: sn) se)) (drw T chk B0 l (i + 1) (fr.put d .undef) m sn se) := by rw [drw_guard, drw_call]
section
variable {p q : Prop} {x y : Option Out}
theorem gE_bo_t : gE (bo p) true x y = iF p x y := by by_cases h : p <;> simp [gE, bo, iF, h]
theorem gE_bo_f : gE (bo p) false x y = iF p y x := by by_cases h : p <;> simp [gE, bo, iF, h]
theorem gE_tt : gE (.bool true) true x y = x := rfl
theorem gE_tf : gE (.bool true) false x y = y := rfl
theorem gE_ft : gE (.bool false) true x y = y := rfl
theorem gE_ff : gE (.bool false) false x y = x := rfl
theorem gE_undef {w : Bool} : gE .undef w x y = y := rfl
theorem gE_gv_t : gE (gv p (bo q)) true x y = iF (p ∧ q) x y := by by_cases h : p <;> by_cases h' : q <;> simp [gE, bo, gv, iF, h, h']
theorem gE_gv_f : gE (gv p (bo q)) false x y = iF (p ∧ ¬ q) x y := by by_cases h : p <;> by_cases h' : q <;> simp [gE, bo, gv, iF, h, h']
theorem gE_gt_t : gE (gv p (.bool true)) true x y = iF p x y := by by_cases h : p <;> simp [gE, gv, iF, h]
theorem gE_gt_f : gE (gv p (.bool true)) false x y = y := by by_cases h : p <;> simp [gE, gv, h]
theorem gE_gf_t : gE (gv p (.bool false)) true x y = y := by by_cases h : p <;> simp [gE, gv, h]
theorem gE_gf_f : gE (gv p (.bool false)) false x y = iF p x y := by by_cases h : p <;> simp [gE, gv, iF, h]
end
theorem chk_nil {j : Nat} : checkSeen chk j m [] = true := rfl
theorem chk_cons {j : Nat} {s : Seen} : checkSeen chk j m (s :: se) = ((!hasPair s.i j chk || m.stands s.agg s.a s.v) && checkSeen chk j m se) := by
  simp only [checkSeen]; cases hasPair s.i j chk <;> simp
theorem snap_nil {agg : Option Nat} {a v : EV} : checkSnap chk i agg a v [] = true := rfl
theorem snap_cons {agg : Option Nat} {a v : EV} {j : Nat} {m1 : Mem} : checkSnap chk i agg a v ((j, m1) :: sn) = ((!hasPair i j chk || m1.stands agg a v) && checkSnap chk i agg a v sn) := by
  simp only [checkSnap]; cases hasPair i j chk <;> simp
theorem old_nil {n : Nat} : checkOld chk i n [] = true := rfl
theorem old_cons {n j : Nat} {m1 : Mem} : checkOld chk i n ((j, m1) :: sn) = ((!hasPair i j chk || m1.next.beq n) && checkOld chk i n sn) := by
  simp only [checkOld]; cases hasPair i j chk <;> cases m1.next.beq n <;> simp
theorem pair_nil {j : Nat} : hasPair i j [] = false := rfl
theorem pair_cons {j a b : Nat} : hasPair i j ((a, b) :: chk) = ((a == i && b == j) || hasPair i j chk) := by
  simp only [hasPair]
  have e : ∀ x y : Nat, x.beq y = (x == y) := fun x y => by
    by_cases h : x = y
    · subst h; simp
    · rw [beq_ff h]; simp [h]
  rw [e, e]
  cases a == i <;> cases b == j <;> simp
def standE (o : Option EV) (v : EV) : Bool := match o with
  | some x => EV.same x v
  | none => false
theorem stands_eq {agg : Option Nat} {a v : EV} : m.stands agg a v = standE (m.load agg a) v := by simp only [Mem.stands, standE]; cases m.load agg a <;> rfl
theorem standE_self {v : EV} (h : Told v = true) : standE (some v) v = true := same_refl v h
theorem told_bool {b : Bool} : Told (.bool b) = true := rfl
theorem told_bo {p : Prop} : Told (bo p) = true := rfl
theorem told_int {k : IntKind} {n : Int} : Told (.int k n) = true := rfl
theorem told_str {s : List UInt8} : Told (.str s) = true := rfl
theorem told_nilptr : Told .nilptr = true := rfl
theorem told_ptr {b o : Nat} : Told (.ptr b o) = true := rfl
theorem told_nilslice : Told .nilslice = true := rfl
theorem told_slice {b o l : Nat} {c : Option Nat} : Told (.slice b o l c) = true := rfl
theorem told_nilmap : Told .nilmap = true := rfl
theorem told_map {b : Nat} : Told (.map b) = true := rfl
theorem told_nilfunc : Told .nilfunc = true := rfl
theorem told_niliface : Told .niliface = true := rfl
theorem told_undef : Told .undef = true := rfl
theorem told_agg {x : List EV} : Told (.agg x) = Tolds x := by simp only [Told]
theorem told_tuple {x : List EV} : Told (.tuple x) = Tolds x := by simp only [Told]
theorem told_iface {t : Nat} {v : EV} : Told (.iface t v) = Told v := by simp only [Told]
theorem told_func {f : Nat} {x y : List EV} : Told (.func f x y) = (Tolds x && Tolds y) := by simp only [Told]
theorem tolds_nil : Tolds [] = true := rfl
theorem tolds_cons {v : EV} {x : List EV} : Tolds (v :: x) = (Told v && Tolds x) := by simp only [Tolds]
end

/-! ### Values of several cells -/
theorem eq_agg {fs : List (Option Nat × Nat × EqTy)} {a b : List EV} : evEq (.agg fs) (.agg a) (.agg b) = evEqs fs a b := rfl
def andO (o r : Option Bool) : Option Bool := match o with
  | some true => r
  | o => o
def eqsE (t : EqTy) (x y : Option EV) (r : Option Bool) : Option Bool := match x, y with
  | some x, some y => andO (evEq t x y) r
  | _, _ => none
theorem eqs_nil {a b : List EV} : evEqs [] a b = some true := rfl
theorem eqs_cons {g : Option Nat} {off : Nat} {t : EqTy} {r : List (Option Nat × Nat × EqTy)} {a b : List EV} : evEqs ((g, off, t) :: r) a b = eqsE t (partOf g a off) (partOf g b off) (evEqs r a b) := by
  simp only [evEqs, eqsE, andO]
  cases partOf g a off <;> cases partOf g b off <;> rfl
theorem eqsE_some {t : EqTy} {x y : EV} {r : Option Bool} : eqsE t (some x) (some y) r = andO (evEq t x y) r := rfl
theorem andO_true {r : Option Bool} : andO (some true) r = r := rfl
theorem andO_false {r : Option Bool} : andO (some false) r = some false := rfl
theorem andO_t {p : Prop} [Decidable p] : andO (some (decide p)) (some true) = some (decide p) := by by_cases h : p <;> simp [andO, h]
theorem andO_f {p : Prop} [Decidable p] : andO (some (decide p)) (some false) = some false := by by_cases h : p <;> simp [andO, h]
theorem andO_dec {p q : Prop} [Decidable p] [Decidable q] : andO (some (decide p)) (some (decide q)) = some (decide (p ∧ q)) := by by_cases h : p <;> by_cases h' : q <;> simp [andO, h, h']
def rcE (o : Option EV) (r : Option (List EV)) : Option (List EV) := match o with
  | some v => r.map (v :: ·)
  | none => none
theorem res_cell {fr : Fr} {m : Mem} {t : Nat} {agg : Option Nat} {rs : List IRes} : evResults fr m (.cell t agg :: rs) = rcE (m.load agg (fr.get t)) (evResults fr m rs) := by
  simp only [evResults, evRes, rcE]; cases m.load agg (fr.get t) <;> rfl
theorem rcE_some {v : EV} {r : Option (List EV)} : rcE (some v) r = r.map (v :: ·) := rfl

theorem eq_pn {b o : Nat} : evEq (.prim 3) (.ptr b o) .nilptr = some false := rfl
theorem eq_np {b o : Nat} : evEq (.prim 3) .nilptr (.ptr b o) = some false := rfl
theorem eq_nn : evEq (.prim 3) .nilptr .nilptr = some true := rfl
theorem eq_sn {b o l : Nat} {c : Option Nat} : evEq (.prim 4) (.slice b o l c) .nilslice = some false := rfl
theorem eq_ns {b o l : Nat} {c : Option Nat} : evEq (.prim 4) .nilslice (.slice b o l c) = some false := rfl
theorem eq_nsns : evEq (.prim 4) .nilslice .nilslice = some true := rfl
/-! ### What a call tells, whatever it leaves behind -/
def Tells (m : Mem) (o : Option Fin) (v : EV) : Prop := ∃ m', o = some (.ret v m') ∧ Keeps m m'
/-- A slice of one element, or of none, made anew. -/
def bsE (e esz : Nat) (m : Mem) (vs : Option (List EV)) : Option R1 := match vs with
  | some vs => bif vs.length.beq esz then some (.val (.slice (nb m.next 0) 0 1 (some 1)) (Ev.ext m [.cells vs esz e false])) else none
  | none => none
theorem bsE_some {e esz : Nat} {m : Mem} {vs : List EV} (h : vs.length = esz) : bsE e esz m (some vs) = some (.val (.slice (nb m.next 0) 0 1 (some 1)) (Ev.ext m [.cells vs esz e false])) := by
  show (bif vs.length.beq esz then _ else _) = _
  rw [h, beq_self]; rfl
theorem evOp_bslice1 {ρ : Opd → EV} {m : Mem} {e esz : Nat} {zero : List EV} {x : Opd} (hz : zero.length = esz) : evOp ρ (.bslice e esz 1 zero [(0, x)]) m = bsE e esz m (ρ x).cells := by
  simp only [evOp, List.map_cons, List.map_nil, fill_cons, Nat.zero_mul]
  have hc : copies 1 zero = zero := by simp [copies]
  rw [hc]
  cases hx : (ρ x).cells with
  | none => rfl
  | some vs =>
    by_cases hl : vs.length = esz
    · rw [bsE_some hl, fillB_some hl (by omega)]
      simp only [fill_nil, List.take_zero, List.nil_append, Nat.zero_add]
      rw [List.drop_eq_nil_of_le (by omega), List.append_nil]; rfl
    · simp only [bsE, fillB, beq_ff hl, cond_false]
theorem evOp_bslice0 {ρ : Opd → EV} {m : Mem} {e esz : Nat} {zero : List EV} : evOp ρ (.bslice e esz 0 zero []) m = some (.val (.slice (nb m.next 0) 0 0 (some 0)) (Ev.ext m [.cells [] esz e false])) := by
  simp only [evOp, List.map_nil, fill_nil, copies, List.replicate_zero, List.flatten_nil]; rfl
end Go.Proofs.Ytjegondbhejpcaa.Ev
end
section
namespace Go.Proofs.Ytjegondbhejpcaa.Ev
open Go
set_option linter.unusedSimpArgs false

/-- How two runs stand to each other: which block stands for which; which row a number tells; which blocks stay asx they are. -/
structure Tie where
  ren : Nat → Option Nat
  tag : Nat → Option (Nat × Nat × Option Nat)
  sta : Nat → Option Blk

/-- What holds within rows: no block that may be written, no numbers of rows. -/
def Tie.low (θ : Tie) : Tie := ⟨fun _ => none, fun _ => none, θ.sta⟩
mutual
inductive SV : Tie → EV → EV → Prop
  | undef {θ : Tie} : SV θ .undef .undef
  | bool {θ : Tie} (b : Bool) : SV θ (.bool b) (.bool b)
  | int {θ : Tie} (k : IntKind) (n : Int) : SV θ (.int k n) (.int k n)
  | str {θ : Tie} (s : List UInt8) : SV θ (.str s) (.str s)
  | nilptr {θ : Tie} : SV θ .nilptr .nilptr
  | ptr {θ : Tie} {b c off : Nat} (h : θ.ren b = some c) : SV θ (.ptr b off) (.ptr c off)
  | nilslice {θ : Tie} : SV θ .nilslice .nilslice
  | slice {θ : Tie} {b c off len : Nat} {cap : Option Nat} (h : θ.ren b = some c) : SV θ (.slice b off len cap) (.slice c off len cap)
  | nilmap {θ : Tie} : SV θ .nilmap .nilmap
  | map {θ : Tie} {b c : Nat} (h : θ.ren b = some c) : SV θ (.map b) (.map c)
  | nilfunc {θ : Tie} : SV θ .nilfunc .nilfunc
  | func {θ : Tie} {f : Nat} {x y x' y' : List EV} (hx : SVs θ x x') (hy : SVs θ y y') : SV θ (.func f x y) (.func f x' y')
  | niliface {θ : Tie} : SV θ .niliface .niliface
  | iface {θ : Tie} {t : Nat} {v v' : EV} (h : SV θ v v') : SV θ (.iface t v) (.iface t v')
  | agg {θ : Tie} {x x' : List EV} (h : SVs θ x x') : SV θ (.agg x) (.agg x')
  | tuple {θ : Tie} {x x' : List EV} (h : SVs θ x x') : SV θ (.tuple x) (.tuple x')
  | fz {θ : Tie} {t esz : Nat} {els : List (List EV)} {b off : Nat} {cap : Option Nat} (h : SR θ esz els b off) (ht : t = 0 ∨ θ.tag t = some (b, off, cap)) (hc : ∀ c, cap = some c → els.length ≤ c) : SV θ (.fz t esz els) (.slice b off els.length cap)
  | fz0 {θ : Tie} {t esz b off : Nat} (ht : t = 0 ∨ θ.tag t = some (b, off, some 0)) : SV θ (.fz t esz []) (.slice b off 0 (some 0))
  | fptr {θ : Tie} {esz : Nat} {els : List (List EV)} {b off i k o : Nat} (h : SR θ esz els b off) (hi : i < els.length) (ho : o = off + i * esz + k) : SV θ (.fptr esz els i k) (.ptr b o)
inductive SVs : Tie → List EV → List EV → Prop
  | nil {θ : Tie} : SVs θ [] []
  | cons {θ : Tie} {v v' : EV} {x x' : List EV} (h : SV θ v v') (hs : SVs θ x x') : SVs θ (v :: x) (v' :: x')
inductive SR : Tie → Nat → List (List EV) → Nat → Nat → Prop
  | mk {θ : Tie} {esz : Nat} {els : List (List EV)} {b off k : Nat} {cs : List EV} {ro : Bool} (hs : θ.sta b = some (.cells cs esz k ro)) (hl : ∀ el ∈ els, el.length = esz) (hn : off + els.length * esz ≤ cs.length)
      (hx : SVs θ.low els.flatten ((cs.drop off).take (els.length * esz))) : SR θ esz els b off
end

structure Tie.Ext (θ θ' : Tie) : Prop where
  ren : ∀ b c, θ.ren b = some c → θ'.ren b = some c
  tag : ∀ t x, θ.tag t = some x → θ'.tag t = some x
  sta : ∀ b B, θ.sta b = some B → θ'.sta b = some B
theorem Tie.Ext.refl (θ : Tie) : Tie.Ext θ θ := ⟨fun _ _ h => h, fun _ _ h => h, fun _ _ h => h⟩
theorem Tie.Ext.trans {θ θ' θ'' : Tie} (h : Tie.Ext θ θ') (k : Tie.Ext θ' θ'') : Tie.Ext θ θ'' := ⟨fun b c e => k.ren b c (h.ren b c e), fun t x e => k.tag t x (h.tag t x e), fun b B e => k.sta b B (h.sta b B e)⟩
theorem Tie.Ext.low {θ θ' : Tie} (e : Tie.Ext θ θ') : Tie.Ext θ.low θ'.low := ⟨fun _ _ h => h, fun _ _ h => h, e.sta⟩
theorem Tie.low_ext (θ : Tie) : Tie.Ext θ.low θ := ⟨fun _ _ h => (by simp [Tie.low] at h), fun _ _ h => (by simp [Tie.low] at h), fun _ _ h => h⟩
mutual
theorem SV.ext : ∀ {θ θ' : Tie}, Tie.Ext θ θ' → ∀ {v v' : EV}, SV θ v v' → SV θ' v v'
  | _, _, _, _, _, .undef => .undef
  | _, _, _, _, _, .bool b => .bool b
  | _, _, _, _, _, .int k n => .int k n
  | _, _, _, _, _, .str s => .str s
  | _, _, _, _, _, .nilptr => .nilptr
  | _, _, e, _, _, .ptr h => .ptr (e.ren _ _ h)
  | _, _, _, _, _, .nilslice => .nilslice
  | _, _, e, _, _, .slice h => .slice (e.ren _ _ h)
  | _, _, _, _, _, .nilmap => .nilmap
  | _, _, e, _, _, .map h => .map (e.ren _ _ h)
  | _, _, _, _, _, .nilfunc => .nilfunc
  | _, _, e, _, _, .func hx hy => .func (SVs.ext e hx) (SVs.ext e hy)
  | _, _, _, _, _, .niliface => .niliface
  | _, _, e, _, _, .iface h => .iface (SV.ext e h)
  | _, _, e, _, _, .agg h => .agg (SVs.ext e h)
  | _, _, e, _, _, .tuple h => .tuple (SVs.ext e h)
  | _, _, e, _, _, .fz h ht hc => .fz (SR.ext e h) (ht.imp id (e.tag _ _)) hc
  | _, _, e, _, _, .fz0 ht => .fz0 (ht.imp id (e.tag _ _))
  | _, _, e, _, _, .fptr h hi ho => .fptr (SR.ext e h) hi ho
theorem SVs.ext : ∀ {θ θ' : Tie}, Tie.Ext θ θ' → ∀ {v v' : List EV}, SVs θ v v' → SVs θ' v v'
  | _, _, _, _, _, .nil => .nil
  | _, _, e, _, _, .cons h hs => .cons (SV.ext e h) (SVs.ext e hs)
theorem SR.ext : ∀ {θ θ' : Tie}, Tie.Ext θ θ' → ∀ {esz : Nat} {els : List (List EV)} {b off : Nat}, SR θ esz els b off → SR θ' esz els b off
  | _, _, e, _, _, _, _, .mk hs hl hn hx => .mk (e.sta _ _ hs) hl hn (SVs.ext e.low hx)
end

section
variable {θ : Tie}
theorem SVs.length : ∀ {x x' : List EV}, SVs θ x x' → x.length = x'.length
  | _, _, .nil => rfl
  | _, _, .cons _ hs => by simp [SVs.length hs]
theorem SVs.get : ∀ {x x' : List EV}, SVs θ x x' → ∀ {i : Nat} {v : EV}, x[i]? = some v → ∃ v', x'[i]? = some v' ∧ SV θ v v'
  | _, _, .nil, i, v, h => by simp at h
  | _, _, .cons (v' := a') h0 hs, i, v, h => by
    cases i with
    | zero => simp at h; subst h; exact ⟨a', rfl, h0⟩
    | succ i => simp at h; obtain ⟨v', hv, hr⟩ := SVs.get hs h; exact ⟨v', by simpa using hv, hr⟩
theorem SVs.of_get : ∀ {x x' : List EV}, x.length = x'.length → (∀ (i : Nat) (v v' : EV), x[i]? = some v → x'[i]? = some v' → SV θ v v') → SVs θ x x'
  | [], [], _, _ => .nil
  | [], _ :: _, h, _ => by simp at h
  | _ :: _, [], h, _ => by simp at h
  | a :: x, a' :: x', h, hg => .cons (hg 0 a a' rfl rfl) (SVs.of_get (by simpa using h) fun i v v' hv hv' => hg (i + 1) v v' (by simpa using hv) (by simpa using hv'))
theorem SVs.append : ∀ {x y x' y' : List EV}, SVs θ x x' → SVs θ y y' → SVs θ (x ++ y) (x' ++ y')
  | _, _, _, _, .nil, h => h
  | _, _, _, _, .cons h hs, k => .cons h (SVs.append hs k)
theorem SVs.take {x x' : List EV} (h : SVs θ x x') (n : Nat) : SVs θ (x.take n) (x'.take n) := by
  refine SVs.of_get (by simp [h.length]) fun i v v' hv hv' => ?_
  rw [List.getElem?_take] at hv hv'
  split at hv
  · rename_i hlt
    obtain ⟨u, hu, hr⟩ := h.get hv
    rw [if_pos hlt, hu] at hv'; cases hv'; exact hr
  · cases hv
theorem SVs.drop {x x' : List EV} (h : SVs θ x x') (n : Nat) : SVs θ (x.drop n) (x'.drop n) := by
  refine SVs.of_get (by simp [h.length]) fun i v v' hv hv' => ?_
  rw [List.getElem?_drop] at hv hv'
  obtain ⟨u, hu, hr⟩ := h.get hv
  rw [hu] at hv'; cases hv'; exact hr
theorem SVs.map {α : Type} (f g : α → EV) : ∀ {l : List α}, (∀ a ∈ l, SV θ (f a) (g a)) → SVs θ (l.map f) (l.map g)
  | [], _ => .nil
  | a :: l, h => .cons (h a (by simp)) (SVs.map f g fun b hb => h b (by simp [hb]))
theorem SVs.replicate {v v' : EV} (h : SV θ v v') : ∀ n : Nat, SVs θ (List.replicate n v) (List.replicate n v')
  | 0 => .nil
  | n + 1 => .cons h (SVs.replicate h n)
mutual
theorem SV.of_flat : ∀ {v : EV}, Flat v = true → SV θ v v
  | .undef, _ => .undef
  | .bool b, _ => .bool b
  | .int k n, _ => .int k n
  | .str s, _ => .str s
  | .nilptr, _ => .nilptr
  | .ptr _ _, h => by simp [Flat] at h
  | .nilslice, _ => .nilslice
  | .slice _ _ _ _, h => by simp [Flat] at h
  | .nilmap, _ => .nilmap
  | .map _, h => by simp [Flat] at h
  | .nilfunc, _ => .nilfunc
  | .func f x y, h => by simp only [Flat, Bool.and_eq_true] at h; exact .func (SVs.of_flat h.1) (SVs.of_flat h.2)
  | .niliface, _ => .niliface
  | .iface t v, h => .iface (SV.of_flat (by simpa only [Flat] using h))
  | .agg x, h => .agg (SVs.of_flat (by simpa only [Flat] using h))
  | .tuple x, h => .tuple (SVs.of_flat (by simpa only [Flat] using h))
  | .fz _ _ _, h => by simp [Flat] at h
  | .fptr _ _ _ _, h => by simp [Flat] at h
theorem SVs.of_flat : ∀ {x : List EV}, flats x = true → SVs θ x x
  | [], _ => .nil
  | v :: x, h => by simp only [flats, Bool.and_eq_true] at h; exact .cons (SV.of_flat h.1) (SVs.of_flat h.2)
end
mutual
theorem SV.flat : ∀ {v v' : EV}, SV θ v v' → Flat v = true → v' = v
  | _, _, .undef, _ | _, _, .bool _, _ | _, _, .int _ _, _ | _, _, .str _, _ | _, _, .nilptr, _ | _, _, .nilslice, _ | _, _, .nilmap, _ | _, _, .nilfunc, _ | _, _, .niliface, _ => rfl
  | _, _, .ptr _, h => by simp [Flat] at h
  | _, _, .slice _, h => by simp [Flat] at h
  | _, _, .map _, h => by simp [Flat] at h
  | _, _, .func hx hy, h => by simp only [Flat, Bool.and_eq_true] at h; rw [SVs.flat hx h.1, SVs.flat hy h.2]
  | _, _, .iface hv, h => by rw [SV.flat hv (by simpa only [Flat] using h)]
  | _, _, .agg hx, h => by rw [SVs.flat hx (by simpa only [Flat] using h)]
  | _, _, .tuple hx, h => by rw [SVs.flat hx (by simpa only [Flat] using h)]
  | _, _, .fz _ _ _, h => by simp [Flat] at h
  | _, _, .fz0 _, h => by simp [Flat] at h
  | _, _, .fptr _ _ _, h => by simp [Flat] at h
theorem SVs.flat : ∀ {x x' : List EV}, SVs θ x x' → flats x = true → x' = x
  | _, _, .nil, _ => rfl
  | _, _, .cons h hs, k => by simp only [flats, Bool.and_eq_true] at k; rw [SV.flat h k.1, SVs.flat hs k.2]
end
mutual
/-- What stands for one thing is one thing. -/
theorem SV.fn : ∀ {a b c : EV}, SV θ a b → SV θ a c → Told a = true → b = c
  | _, _, _, .undef, h, _ => by cases h; rfl
  | _, _, _, .bool _, h, _ => by cases h; rfl
  | _, _, _, .int _ _, h, _ => by cases h; rfl
  | _, _, _, .str _, h, _ => by cases h; rfl
  | _, _, _, .nilptr, h, _ => by cases h; rfl
  | _, _, _, .ptr h, k, _ => by cases k with | ptr k => rw [h] at k; cases k; rfl
  | _, _, _, .nilslice, h, _ => by cases h; rfl
  | _, _, _, .slice h, k, _ => by cases k with | slice k => rw [h] at k; cases k; rfl
  | _, _, _, .nilmap, h, _ => by cases h; rfl
  | _, _, _, .map h, k, _ => by cases k with | map k => rw [h] at k; cases k; rfl
  | _, _, _, .nilfunc, h, _ => by cases h; rfl
  | _, _, _, .func hx hy, k, t => by
    simp only [Told, Bool.and_eq_true] at t
    cases k with | func kx ky => rw [SVs.fn hx kx t.1, SVs.fn hy ky t.2]
  | _, _, _, .niliface, h, _ => by cases h; rfl
  | _, _, _, .iface h, k, t => by cases k with | iface k => rw [SV.fn h k (by simpa only [Told] using t)]
  | _, _, _, .agg h, k, t => by cases k with | agg k => rw [SVs.fn h k (by simpa only [Told] using t)]
  | _, _, _, .tuple h, k, t => by cases k with | tuple k => rw [SVs.fn h k (by simpa only [Told] using t)]
  | _, _, _, .fz _ ht _, k, t => by
    simp only [Told, Bool.and_eq_true, Bool.not_eq_true'] at t
    have hne := of_beq_ff t.1
    cases k with
    | fz _ kt _ =>
      rcases ht with ht | ht
      · exact absurd ht hne
      · rcases kt with kt | kt
        · exact absurd kt hne
        · rw [ht] at kt; cases kt; rfl
    | fz0 kt =>
      rcases ht with ht | ht
      · exact absurd ht hne
      · rcases kt with kt | kt
        · exact absurd kt hne
        · rw [ht] at kt; cases kt; rfl
  | _, _, _, .fz0 ht, k, t => by
    simp only [Told, Bool.and_eq_true, Bool.not_eq_true'] at t
    have hne := of_beq_ff t.1
    generalize hn : ([] : List (List EV)) = els at k
    cases k with
    | fz _ kt _ =>
      subst hn
      rcases ht with ht | ht
      · exact absurd ht hne
      · rcases kt with kt | kt
        · exact absurd kt hne
        · rw [ht] at kt; cases kt; rfl
    | fz0 kt =>
      rcases ht with ht | ht
      · exact absurd ht hne
      · rcases kt with kt | kt
        · exact absurd kt hne
        · rw [ht] at kt; cases kt; rfl
  | _, _, _, .fptr _ _ _, _, t => by simp [Told] at t
theorem SVs.fn : ∀ {a b c : List EV}, SVs θ a b → SVs θ a c → Tolds a = true → b = c
  | _, _, _, .nil, h, _ => by cases h; rfl
  | _, _, _, .cons h hs, k, t => by
    simp only [Tolds, Bool.and_eq_true] at t
    cases k with | cons k ks => rw [SV.fn h k t.1, SVs.fn hs ks t.2]
end
mutual
/-- The other run knows no rows told by their elements. -/
theorem SV.told : ∀ {a b : EV}, SV θ a b → Told b = true
  | _, _, .undef | _, _, .bool _ | _, _, .int _ _ | _, _, .str _ | _, _, .nilptr | _, _, .ptr _ | _, _, .nilslice | _, _, .slice _ | _, _, .nilmap | _, _, .map _ | _, _, .nilfunc | _, _, .niliface | _, _, .fz _ _ _ | _, _, .fz0 _ | _, _, .fptr _ _ _ => rfl
  | _, _, .func hx hy => by simp only [Told, SVs.told hx, SVs.told hy, Bool.and_self]
  | _, _, .iface h => by simp only [Told]; exact SV.told h
  | _, _, .agg h => by simp only [Told]; exact SVs.told h
  | _, _, .tuple h => by simp only [Told]; exact SVs.told h
theorem SVs.told : ∀ {a b : List EV}, SVs θ a b → Tolds b = true
  | _, _, .nil => rfl
  | _, _, .cons h hs => by simp only [Tolds, SV.told h, SVs.told hs, Bool.and_self]
end
mutual
theorem told_of_same : ∀ {a : EV}, EV.same a a = true → Told a = true
  | .undef, _ | .bool _, _ | .int _ _, _ | .str _, _ | .nilptr, _ | .ptr _ _, _ | .nilslice, _ | .slice _ _ _ _, _ | .nilmap, _ | .map _, _ | .nilfunc, _ | .niliface, _ => rfl
  | .func f x y, h => by
    simp only [EV.same, Nat.beq_refl, cond_true] at h
    cases hx : EV.sames x x <;> simp only [hx, cond_true, cond_false, Bool.false_eq_true] at h
    simp only [Told, tolds_of_sames hx, tolds_of_sames h, Bool.and_self]
  | .iface t v, h => by simp only [EV.same, Nat.beq_refl, cond_true] at h; simp only [Told]; exact told_of_same h
  | .agg x, h => by simp only [EV.same] at h; simp only [Told]; exact tolds_of_sames h
  | .tuple x, h => by simp only [EV.same] at h; simp only [Told]; exact tolds_of_sames h
  | .fz t e els, h => by
    simp only [EV.same, Nat.beq_refl, cond_true] at h
    cases ht : t.beq 0 <;> simp only [ht, cond_true, cond_false, Bool.false_eq_true] at h
    simp only [Told, ht, Bool.not_false, Bool.true_and]
    exact toldss_of_samess h
  | .fptr _ _ _ _, h => by simp [EV.same] at h
theorem tolds_of_sames : ∀ {a : List EV}, EV.sames a a = true → Tolds a = true
  | [], _ => rfl
  | v :: x, h => by
    simp only [EV.sames] at h
    cases hx : EV.same v v <;> simp only [hx, cond_true, cond_false, Bool.false_eq_true] at h
    simp only [Tolds, told_of_same hx, tolds_of_sames h, Bool.and_self]
theorem toldss_of_samess : ∀ {a : List (List EV)}, EV.samess a a = true → Toldss a = true
  | [], _ => rfl
  | v :: x, h => by
    simp only [EV.samess] at h
    cases hx : EV.sames v v <;> simp only [hx, cond_true, cond_false, Bool.false_eq_true] at h
    simp only [Toldss, tolds_of_sames hx, toldss_of_samess h, Bool.and_self]
end
theorem SV.same {a b a' b' : EV} (ha : SV θ a a') (hb : SV θ b b') (h : EV.same a b = true) : EV.same a' b' = true := by
  have e := same_eq h
  subst e
  rw [SV.fn ha hb (told_of_same h)]
  exact same_refl _ hb.told
theorem SV.cells {v v' : EV} {cs : List EV} (h : SV θ v v') (hc : v.cells = some cs) : ∃ cs', v'.cells = some cs' ∧ SVs θ cs cs' := by
  cases h <;> simp only [EV.cells, reduceCtorEq, Option.some.injEq] at hc <;> subst hc
  case agg h => exact ⟨_, rfl, h⟩
  case fz0 h => exact ⟨_, rfl, .cons (.fz0 h) .nil⟩
  all_goals exact ⟨_, rfl, .cons (by constructor <;> assumption) .nil⟩
theorem SVs.part {x x' : List EV} (h : SVs θ x x') {g : Option Nat} {off : Nat} {v : EV} (hp : partOf g x off = some v) : ∃ v', partOf g x' off = some v' ∧ SV θ v v' := by
  cases g with
  | none => exact h.get hp
  | some n =>
    simp only [partOf] at hp ⊢
    rw [← h.length]
    cases hb : (off + n).ble x.length <;> simp only [hb, cond_true, cond_false, reduceCtorEq, Option.some.injEq] at hp ⊢
    subst hp
    exact ⟨_, rfl, .agg ((h.drop off).take n)⟩
theorem SVs.splice {x x' vs vs' r : List EV} (h : SVs θ x x') (hv : SVs θ vs vs') {off : Nat} (hp : Ev.splice x off vs = some r) : ∃ r', Ev.splice x' off vs' = some r' ∧ SVs θ r r' := by
  unfold Ev.splice at hp ⊢
  rw [← h.length, ← hv.length]
  cases hb : (off + vs.length).ble x.length <;> simp only [hb, cond_true, cond_false, reduceCtorEq, Option.some.injEq] at hp ⊢
  subst hp
  exact ⟨_, rfl, ((h.take off).append hv).append (h.drop _)⟩
end

/-! ### Blocks -/
inductive EntsS (θ : Tie) : List (EV × EV) → List (EV × EV) → Prop
  | nil : EntsS θ [] []
  | cons {k v k' v' : EV} {x x' : List (EV × EV)} (hk : SV θ k k') (hv : SV θ v v') (h : EntsS θ x x') : EntsS θ ((k, v) :: x) ((k', v') :: x')
theorem EntsS.ext {θ θ' : Tie} (e : Tie.Ext θ θ') : ∀ {x x' : List (EV × EV)}, EntsS θ x x' → EntsS θ' x x'
  | _, _, .nil => .nil
  | _, _, .cons hk hv h => .cons (hk.ext e) (hv.ext e) (EntsS.ext e h)
def BlkS (θ : Tie) : Blk → Blk → Prop
  | .dead, _ => True
  | .cells cs e k ro, B => ∃ cs', B = .cells cs' e k ro ∧ SVs θ cs cs'
  | .map es, B => ∃ es', B = .map es' ∧ EntsS θ es es'
theorem BlkS.ext {θ θ' : Tie} (e : Tie.Ext θ θ') {B B' : Blk} (h : BlkS θ B B') : BlkS θ' B B' := by
  cases B with
  | dead => trivial
  | cells cs k t ro => obtain ⟨cs', h1, h2⟩ := h; exact ⟨cs', h1, h2.ext e⟩
  | map es => obtain ⟨es', h1, h2⟩ := h; exact ⟨es', h1, h2.ext e⟩
structure MemB (θ : Tie) (m m' : Mem) : Prop where
  blk : ∀ b c, θ.ren b = some c → BlkS θ (m.get b) (m'.get c)
  cl : ∀ b, θ.ren b = none → m.get b = .dead
structure MemS (θ : Tie) (m m' : Mem) : Prop extends MemB θ m m' where
  sta : ∀ b B, θ.sta b = some B → m'.get b = B
structure TieOk (θ : Tie) (n n' : Nat) : Prop where
  ren : ∀ b c, θ.ren b = some c → b < n ∧ c < n'
  inj : ∀ a b c, θ.ren a = some c → θ.ren b = some c → a = b
  off : ∀ b c, θ.ren b = some c → θ.sta c = none
  sta : ∀ b B, θ.sta b = some B → b < n'
structure GoodS (θ : Tie) (m m' : Mem) : Prop extends MemS θ m m' where
  ok : TieOk θ m.next m'.next
theorem MemB.ext {θ θ' : Tie} {m m' : Mem} (h : MemB θ m m') (e : Tie.Ext θ θ') (hd : ∀ b c, θ.ren b = none → θ'.ren b = some c → m.get b = .dead) : MemB θ' m m' := by
  refine ⟨fun b c hb => ?_, fun b hb => ?_⟩
  · cases hr : θ.ren b with
    | none => rw [h.cl b hr]; trivial
    | some d =>
      have := e.ren b d hr
      rw [hb] at this; cases this
      exact (h.blk b c hr).ext e
  · cases hr : θ.ren b with
    | none => exact h.cl b hr
    | some d => rw [e.ren b d hr] at hb; cases hb

/-- A tie with one block more. -/
def Tie.more (θ : Tie) (b c : Nat) : Tie := ⟨fun x => if x = b then some c else θ.ren x, θ.tag, θ.sta⟩
structure Fresh (θ : Tie) (b c : Nat) : Prop where
  l : θ.ren b = none
  r : ∀ a, θ.ren a ≠ some c
  s : θ.sta c = none
theorem TieOk.fresh {θ : Tie} {n n' : Nat} (h : TieOk θ n n') {b c : Nat} (hb : n ≤ b) (hc : n' ≤ c) : Fresh θ b c := by
  refine ⟨?_, fun a ha => ?_, ?_⟩
  · cases e : θ.ren b with
    | none => rfl
    | some d => have := (h.ren b d e).1; omega
  · have := (h.ren a c ha).2; omega
  · cases e : θ.sta c with
    | none => rfl
    | some d => have := h.sta c d e; omega
theorem Fresh.ext {θ : Tie} {b c : Nat} (h : Fresh θ b c) : Tie.Ext θ (θ.more b c) := by
  refine ⟨fun x y e => ?_, fun _ _ e => e, fun _ _ e => e⟩
  show (if x = b then some c else θ.ren x) = some y
  by_cases hx : x = b
  · subst hx; rw [h.l] at e; cases e
  · rw [if_neg hx]; exact e
theorem more_at {θ : Tie} {b c : Nat} : (θ.more b c).ren b = some c := if_pos rfl
theorem TieOk.more {θ : Tie} {n n' b c : Nat} (h : TieOk θ n n') (f : Fresh θ b c) {k k' : Nat} (hb : b < k) (hc : c < k') (hk : n ≤ k) (hk' : n' ≤ k') : TieOk (θ.more b c) k k' := by
  have ren : ∀ x y, (θ.more b c).ren x = some y → (x = b ∧ y = c) ∨ θ.ren x = some y := by
    intro x y e
    have e' : (if x = b then some c else θ.ren x) = some y := e
    by_cases hx : x = b
    · rw [if_pos hx] at e'; cases e'; exact .inl ⟨hx, rfl⟩
    · rw [if_neg hx] at e'; exact .inr e'
  refine ⟨fun x y e => ?_, fun x y z e1 e2 => ?_, fun x y e => ?_, fun x B e => ?_⟩
  · rcases ren x y e with ⟨rfl, rfl⟩ | e
    · exact ⟨hb, hc⟩
    · have := h.ren x y e; omega
  · rcases ren x z e1 with ⟨rfl, rfl⟩ | e1 <;> rcases ren y _ e2 with ⟨h1, h2⟩ | e2
    · exact h1.symm
    · exact absurd e2 (f.r y)
    · exact absurd e1 (h2 ▸ f.r x)
    · exact h.inj x y z e1 e2
  · rcases ren x y e with ⟨rfl, rfl⟩ | e
    · exact f.s
    · exact h.off x y e
  · have := h.sta x B e; omega
/-- A block more in both. -/
theorem MemS.more {θ : Tie} {m m' : Mem} {b c : Nat} (h : MemS θ m m') (f : Fresh θ b c) {B B' : Blk} (hB : BlkS (θ.more b c) B B') : MemS (θ.more b c) (Mem.new ⟨b, m.tbl⟩ B) (Mem.new ⟨c, m'.tbl⟩ B') := by
  have g1 : ∀ x, (Mem.new ⟨b, m.tbl⟩ B).get x = if x = b then B else m.get x := fun x => get_new
  have g2 : ∀ x, (Mem.new ⟨c, m'.tbl⟩ B').get x = if x = c then B' else m'.get x := fun x => get_new
  refine ⟨⟨fun x y e => ?_, fun x e => ?_⟩, fun x C e => ?_⟩
  · have e' : (if x = b then some c else θ.ren x) = some y := e
    by_cases hx : x = b
    · rw [if_pos hx] at e'; cases e'
      rw [g1, g2, if_pos hx, if_pos rfl]; exact hB
    · rw [if_neg hx] at e'
      have hy : y ≠ c := fun q => f.r x (q ▸ e')
      rw [g1, g2, if_neg hx, if_neg hy]; exact (h.blk x y e').ext f.ext
  · have e' : (if x = b then some c else θ.ren x) = none := e
    by_cases hx : x = b
    · rw [if_pos hx] at e'; cases e'
    · rw [if_neg hx] at e'; rw [g1, if_neg hx]; exact h.cl x e'
  · have hx : x ≠ c := fun q => by
      have e' : θ.sta x = some C := e
      subst q; rw [f.s] at e'; cases e'
    rw [g2, if_neg hx]; exact h.sta x C e
/-- A block written anew in both. -/
theorem MemS.set {θ : Tie} {m m' : Mem} {n n' b c : Nat} (h : MemS θ m m') (k : TieOk θ n n') (hb : θ.ren b = some c) {B B' : Blk} (hB : BlkS θ B B') : MemS θ (m.set b B) (m'.set c B') := by
  refine ⟨⟨fun x y e => ?_, fun x e => ?_⟩, fun x C e => ?_⟩
  · by_cases hx : x = b
    · subst hx; rw [hb] at e; cases e
      rw [get_set_eq, get_set_eq]; exact hB
    · have hy : y ≠ c := fun q => hx (k.inj x b c (q ▸ e) hb)
      rw [get_set_ne hx, get_set_ne hy]; exact h.blk x y e
  · have hx : x ≠ b := fun q => by subst q; rw [hb] at e; cases e
    rw [get_set_ne hx]; exact h.cl x e
  · have hx : x ≠ c := fun q => by subst q; rw [k.off b x hb] at e; cases e
    rw [get_set_ne hx]; exact h.sta x C e
end Go.Proofs.Ytjegondbhejpcaa.Ev
end
section
namespace Go.Proofs.Ytjegondbhejpcaa.Ev
open Go
set_option linter.unusedSimpArgs false

def okOpd : Opd → Bool
  | .tmp _ => true
  | .const v => Flat v
def okZero : IOp → Bool
  | .alloc _ z | .build z _ | .bslice _ _ _ z _ | .mkslice _ _ z _ _ => flats z
  | .lookup _ z _ _ _ => Flat z
  | _ => true
def okOp (op : IOp) : Bool := (opds op).all okOpd && okZero op
def OpsS (θ : Tie) (ρ ρ' : Opd → EV) : Prop := ∀ x, okOpd x = true → SV θ (ρ x) (ρ' x)
/-- What an operation does in the other run. -/
def OpS (θ : Tie) (m m' : Mem) (v : EV) (m1 : Mem) (o : Option R1) : Prop :=
  ∃ v' m1', o = some (.val v' m1') ∧
    ((SV θ v v' ∧ MemS θ m1 m1' ∧ m1.next = m.next ∧ m1'.next = m'.next) ∨
      (SV (θ.more m.next m'.next) v v' ∧ MemS (θ.more m.next m'.next) m1 m1' ∧ m1.next = m.next + 1 ∧ m1'.next = m'.next + 1)) ∧
    (∀ c, c ≠ m'.next → (∀ b, θ.ren b ≠ some c) → m1'.get c = m'.get c)
section
variable {θ : Tie} {m m' m1 : Mem} {v : EV} {o : Option R1} {n n' : Nat} {ρ ρ' : Opd → EV}
theorem OpS.here (hm : MemS θ m m') (h1 : m1 = m) {v' : EV} (hv : SV θ v v') : OpS θ m m' v m1 (some (.val v' m')) := by
  subst h1; exact ⟨v', m', rfl, .inl ⟨hv, hm, rfl, rfl⟩, fun _ _ _ => rfl⟩
theorem OpS.new (hm : MemS θ m m') (f : Fresh θ m.next m'.next) {B B' : Blk} {v' : EV} (hB : BlkS (θ.more m.next m'.next) B B') (hv : SV (θ.more m.next m'.next) v v') : OpS θ m m' v (m.new B) (some (.val v' (m'.new B'))) :=
  ⟨v', _, rfl, .inr ⟨hv, hm.more f hB, rfl, rfl⟩, fun c hc _ => by rw [get_new, if_neg hc]⟩
theorem bool_of {b : Bool} {v' : EV} (h : SV θ (.bool b) v') : v' = .bool b := by cases h; rfl
theorem int_of {k : IntKind} {i : Int} {v' : EV} (h : SV θ (.int k i) v') : v' = .int k i := by cases h; rfl
theorem idx_sim {N i : Nat} {x x' : EV} (hx : SV θ x x') (h : idx N x = some i) : idx N x' = some i := by
  cases hx <;> first | exact h | simp [idx] at h
theorem bound_sim {lo : Option Opd} (hl : ∀ x, lo = some x → SV θ (ρ x) (ρ' x)) {d N i : Nat} (h : bound (lo.map ρ) d N = some i) : bound (lo.map ρ') d N = some i := by
  cases lo with
  | none => exact h
  | some x =>
    have hx := hl x rfl
    simp only [Option.map_some] at h ⊢
    generalize ρ x = a at hx h
    generalize ρ' x = a' at hx
    cases hx <;> first | exact h | simp [bound] at h
theorem fill_sim : ∀ (ps : List (Nat × Nat × EV)) (ps' : List (Nat × Nat × EV)) (cs cs' r : List EV), ps.map (fun p => (p.1, p.2.1)) = ps'.map (fun p => (p.1, p.2.1)) → SVs θ (ps.map (·.2.2)) (ps'.map (·.2.2)) → SVs θ cs cs' → fillIn cs ps = some r → ∃ r', fillIn cs' ps' = some r' ∧ SVs θ r r'
  | [], [], cs, cs', r, _, _, hcs, h => by simp only [fillIn, Option.some.injEq] at h ⊢; subst h; exact ⟨_, rfl, hcs⟩
  | [], _ :: _, _, _, _, he, _, _, _ => by simp at he
  | _ :: _, [], _, _, _, he, _, _, _ => by simp at he
  | (off, size, v) :: ps, (off', size', v') :: ps', cs, cs', r, he, hv, hcs, h => by
    simp only [List.map_cons, List.cons.injEq, Prod.mk.injEq] at he
    obtain ⟨⟨rfl, rfl⟩, he⟩ := he
    cases hv with
    | cons hv hvs =>
    simp only [fillIn] at h ⊢
    cases hc : v.cells with
    | none => simp [hc] at h
    | some vs =>
      obtain ⟨vs', hc', hs⟩ := hv.cells hc
      simp only [hc, hc', ← hs.length] at h ⊢
      cases hb : vs.length.beq size <;> simp only [hb, cond_true, cond_false, reduceCtorEq] at h ⊢
      cases hp : splice cs off vs with
      | none => simp [hp] at h
      | some q =>
        obtain ⟨q', hp', hq⟩ := hcs.splice hs hp
        simp only [hp, hp'] at h ⊢
        exact fill_sim ps ps' _ _ _ he hvs hq h
theorem flat_flatten {z : List EV} (hz : flats z = true) : ∀ n : Nat, flats (copies n z) = true := by
  have app : ∀ a b : List EV, flats a = true → flats b = true → flats (a ++ b) = true := by
    intro a b ha hb
    induction a with
    | nil => exact hb
    | cons x a ih => simp only [flats, Bool.and_eq_true] at ha; simp only [List.cons_append, flats, ha.1, ih ha.2, Bool.and_self]
  intro n
  induction n with
  | zero => rfl
  | succ n ih => unfold copies at ih ⊢; rw [List.replicate_succ, List.flatten_cons]; exact app _ _ hz ih
theorem load_f {esz i k : Nat} {els : List (List EV)} {a' : EV} (ha : SV θ (.fptr esz els i k) a') {g : Option Nat} (h : m.load g (.fptr esz els i k) = some v) : ∃ v', SV θ v v' ∧ ∀ q : Mem, (∀ c B, θ.sta c = some B → q.get c = B) → q.load g a' = some v' := by
  cases ha with
  | @fptr _ _ _ b off _ _ o hr hi ho =>
    simp only [Mem.load] at h
    cases hr with
    | @mk _ _ _ _ _ kk cs ro hsta hl hn hx0 =>
    have hx := hx0.ext θ.low_ext
    rw [List.getElem?_eq_getElem hi] at h
    simp only at h
    have hel : els[i].length = esz := hl _ (List.getElem_mem hi)
    -- the element's cells, in the row
    have key : ∀ (L : List (List EV)) (i : Nat) (hi : i < L.length), (∀ el ∈ L, el.length = esz) → (L.flatten.drop (i * esz)).take esz = L[i] := by
      intro L
      induction L with
      | nil => intro i hi; simp at hi
      | cons e L ih =>
        intro i hi hl
        have he : e.length = esz := hl e (by simp)
        cases i with
        | zero => simp [he]
        | succ i =>
          have := ih i (by simpa using hi) (fun el h => hl el (by simp [h]))
          rw [List.flatten_cons, Nat.succ_mul, Nat.add_comm, ← List.drop_drop, show (e ++ L.flatten).drop esz = L.flatten by rw [← he]; simp]
          simpa using this
    have hseg : SVs θ els[i] ((cs.drop (off + i * esz)).take esz) := by
      have h1 := ((hx.drop (i * esz)).take esz)
      rw [key els i hi hl] at h1
      have h2 : (((cs.drop off).take (els.length * esz)).drop (i * esz)).take esz = (cs.drop (off + i * esz)).take esz := by
        have : i * esz + esz ≤ els.length * esz := by rw [← Nat.succ_mul]; exact Nat.mul_le_mul_right _ hi
        rw [List.drop_take, List.drop_drop, List.take_take, Nat.min_eq_left (by omega)]
      rw [h2] at h1; exact h1
    obtain ⟨v', hp, hv⟩ := hseg.part h
    refine ⟨v', hv, fun Q hQ => ?_⟩
    have hg' := hQ _ _ hsta
    simp only [Mem.load, hg']
    subst ho
    have hlen : off + i * esz + esz ≤ cs.length := by
      have : i * esz + esz ≤ els.length * esz := by rw [← Nat.succ_mul]; exact Nat.mul_le_mul_right _ hi
      omega
    cases g with
    | none =>
      simp only [partOf] at hp ⊢
      rw [List.getElem?_take] at hp
      split at hp
      · rw [List.getElem?_drop] at hp; exact hp
      · cases hp
    | some q =>
      simp only [partOf] at hp ⊢
      have hl2 : ((cs.drop (off + i * esz)).take esz).length = esz := by rw [List.length_take, List.length_drop]; omega
      rw [hl2] at hp
      cases hb : (k + q).ble esz <;> simp only [hb, cond_true, cond_false, reduceCtorEq, Option.some.injEq] at hp
      have := Nat.le_of_ble_eq_true hb
      rw [Nat.ble_eq_true_of_le (show off + i * esz + k + q ≤ cs.length by omega)]
      simp only [cond_true, Option.some.injEq]
      rw [← hp, List.drop_take, List.drop_drop, List.take_take, Nat.min_eq_left (by omega)]
theorem load_b (hm : MemB θ m m') {a a' : EV} (ha : SV θ a a') (hf : isF a = false) {g : Option Nat} (h : m.load g a = some v) : ∃ v', m'.load g a' = some v' ∧ SV θ v v' := by
  cases ha <;> simp only [Mem.load, reduceCtorEq] at h
  case fptr => simp [isF] at hf
  case ptr b c off hb =>
    have hB := hm.blk b c hb
    cases hg : m.get b with
    | dead => simp [hg] at h
    | map es => simp [hg] at h
    | cells cs e k ro =>
      rw [hg] at hB h
      obtain ⟨cs', hg', hs⟩ := hB
      simp only [Mem.load, hg']
      exact hs.part h
theorem load_sim (hm : MemS θ m m') {a a' : EV} (ha : SV θ a a') {g : Option Nat} (h : m.load g a = some v) : ∃ v', m'.load g a' = some v' ∧ SV θ v v' := by
  cases hf : isF a with
  | false => exact load_b hm.toMemB ha hf h
  | true =>
    cases a <;> simp only [isF, Bool.false_eq_true] at hf
    obtain ⟨v', h1, h2⟩ := load_f ha h
    exact ⟨v', h2 m' hm.sta, h1⟩
theorem row_sim (hm : MemS θ m m') {b c : Nat} (hb : θ.ren b = some c) {off N : Nat} {xs : List EV} (h : m.row b off N = some xs) : ∃ xs', m'.row c off N = some xs' ∧ SVs θ xs xs' := by
  by_cases h0 : N = 0
  · subst h0; rw [Mem.row_none] at h; cases h; exact ⟨_, Mem.row_none, .nil⟩
  · rw [Mem.row_pos h0] at h ⊢
    have hB := hm.blk b c hb
    unfold Mem.row1 at h ⊢
    cases hg : m.get b with
    | dead => simp [hg] at h
    | map es => simp [hg] at h
    | cells cs e k ro =>
      rw [hg] at hB
      obtain ⟨cs', hg', hs⟩ := hB
      simp only [hg, hg', ← hs.length] at h ⊢
      cases hbb : (off + N).ble cs.length <;> simp only [hbb, cond_true, cond_false, reduceCtorEq, Option.some.injEq] at h ⊢
      subst h
      exact ⟨_, rfl, (hs.drop off).take N⟩
theorem source_sim (hm : MemS θ m m') {x x' : EV} (hx : SV θ x x') {esz N : Nat} {xs : List EV} (h : m.source esz x = some (N, xs)) : ∃ xs', m'.source esz x' = some (N, xs') ∧ SVs θ xs xs' := by
  cases hx <;> simp only [Mem.source, reduceCtorEq] at h
  case str s =>
    refine ⟨xs, h, ?_⟩
    cases hb : esz.beq 1 <;> simp only [hb, cond_true, cond_false, reduceCtorEq, Option.some.injEq, Prod.mk.injEq] at h
    rw [← h.2]
    exact SVs.map _ _ fun a _ => .int _ _
  case nilslice => simp only [Option.some.injEq, Prod.mk.injEq] at h; obtain ⟨rfl, rfl⟩ := h; exact ⟨[], rfl, .nil⟩
  case slice b c off len cap hb =>
    obtain ⟨r, hr, he⟩ := Option.map_eq_some_iff.1 h
    obtain ⟨r', hr', hs⟩ := row_sim hm hb hr
    simp only [Prod.mk.injEq] at he
    obtain ⟨rfl, rfl⟩ := he
    exact ⟨r', by simp only [Mem.source, hr', Option.map_some], hs⟩
  case fz0 t e b off ht =>
    cases hb : e.beq esz <;> simp only [hb, cond_true, cond_false, reduceCtorEq, Option.some.injEq, Prod.mk.injEq] at h
    obtain ⟨rfl, rfl⟩ := h
    refine ⟨[], ?_, .nil⟩
    simp only [Mem.source, Nat.zero_mul, Mem.row_none, Option.map_some, List.length_nil]
  case fz t e els b off cap hc hr ht =>
    cases hb : e.beq esz <;> simp only [hb, cond_true, cond_false, reduceCtorEq, Option.some.injEq, Prod.mk.injEq] at h
    obtain ⟨rfl, rfl⟩ := h
    obtain rfl := of_beq hb
    cases hr with
    | mk hsta hl hn hx0 =>
    have hx := hx0.ext θ.low_ext
    rename_i cs ro
    refine ⟨(cs.drop off).take (els.length * e), ?_, hx⟩
    simp only [Mem.source]
    by_cases h0 : els.length * e = 0
    · rw [h0, Mem.row_none, List.take_zero]; rfl
    · rw [Mem.row_pos h0, Mem.row1, hm.sta _ _ hsta]
      simp only [Nat.ble_eq_true_of_le hn, cond_true, Option.map_some]
theorem write_sim (hm : MemS θ m m') (k : TieOk θ n n') {b c : Nat} (hb : θ.ren b = some c) {off : Nat} {vs vs' : List EV} (hv : SVs θ vs vs') (h : m.write b off vs = some m1) : ∃ m1', m'.write c off vs' = some m1' ∧ MemS θ m1 m1' ∧ m1.next = m.next ∧ m1'.next = m'.next ∧ ∀ d, d ≠ c → m1'.get d = m'.get d := by
  have hB := hm.blk b c hb
  unfold Mem.write at h ⊢
  cases hg : m.get b with
  | dead => simp [hg] at h
  | map es => simp [hg] at h
  | cells cs e t ro =>
    rw [hg] at hB
    obtain ⟨cs', hg', hs⟩ := hB
    simp only [hg, hg'] at h ⊢
    cases ro <;> simp only [cond_true, cond_false, reduceCtorEq] at h ⊢
    obtain ⟨r, hr, rfl⟩ := Option.map_eq_some_iff.1 h
    obtain ⟨r', hr', hq⟩ := hs.splice hv hr
    exact ⟨_, by rw [hr']; rfl, hm.set k hb ⟨r', rfl, hq⟩, rfl, rfl, fun d hd => get_set_ne hd⟩
theorem store_sim (hm : MemS θ m m') (k : TieOk θ n n') {size : Nat} {a a' x x' : EV} (ha : SV θ a a') (hx : SV θ x x') (h : m.store size a x = some m1) : ∃ m1', m'.store size a' x' = some m1' ∧ MemS θ m1 m1' ∧ m1.next = m.next ∧ m1'.next = m'.next ∧ ∀ d, (∀ b, θ.ren b ≠ some d) → m1'.get d = m'.get d := by
  unfold Mem.store at h
  cases hc : x.cells with
  | none => rw [hc] at h; cases a <;> simp at h
  | some vs =>
    obtain ⟨vs', hc', hs⟩ := hx.cells hc
    rw [hc] at h
    cases ha <;> simp only [reduceCtorEq] at h
    case ptr b c off hb =>
      cases hl : vs.length.beq size <;> simp only [hl, cond_true, cond_false, reduceCtorEq] at h
      obtain ⟨m1', h1, h2, h3, h4, h5⟩ := write_sim hm k hb hs h
      refine ⟨m1', ?_, h2, h3, h4, fun d hd => h5 d fun e => hd b (e ▸ hb)⟩
      simp only [Mem.store, hc', ← hs.length, hl, cond_true]; exact h1

/-! ### What is reckoned of plain values -/
theorem bin_flat {op : BinOp} {x y : EV} (h : evBin op x y = some v) : Flat x = true ∧ Flat y = true ∧ Flat v = true := by
  cases x <;> cases y <;> simp only [evBin, reduceCtorEq] at h
  case int.int k a l b =>
    refine ⟨rfl, rfl, ?_⟩
    have sh : ∀ op, evShift op k a b = some v → Flat v = true := by
      intro op h
      unfold evShift at h
      split at h
      · cases h
      · cases op <;> simp at h <;> subst h <;> rfl
    have it : ∀ op, (bif (kindNo k).beq (kindNo l) then evInt op k a b else none) = some v → Flat v = true := by
      intro op h
      cases hk : (kindNo k).beq (kindNo l) <;> simp only [hk, cond_true, cond_false, reduceCtorEq] at h
      cases op <;> simp only [evInt, evBits, Option.map_some, Option.some.injEq, reduceCtorEq] at h <;> first | (subst h; rfl) | (split at h <;> simp at h; subst h; rfl)
    cases op <;> first | exact sh _ h | exact it _ h
  case str.str a b =>
    refine ⟨rfl, rfl, ?_⟩
    cases op <;> simp only [reduceCtorEq, Option.some.injEq] at h <;> first | (subst h; rfl) | skip
    cases hb : (a.length + b.length).ble 4294967296 <;> simp only [hb, cond_true, cond_false, reduceCtorEq, Option.some.injEq] at h
    subst h; rfl
theorem un_flat {op : UnOp} {x : EV} (h : evUn op x = some v) : Flat x = true ∧ Flat v = true := by
  cases op <;> cases x <;> simp only [evUn, reduceCtorEq, Option.some.injEq, evBits, Option.map_some] at h <;> subst h <;> exact ⟨rfl, rfl⟩
theorem eqPrim_sim {t : Nat} {x y x' y' : EV} (hx : SV θ x x') (hy : SV θ y y') {b : Bool} (h : evEqPrim t x y = some b) : evEqPrim t x' y' = some b := by
  cases hx <;> cases hy <;> first | exact h | (simp only [evEqPrim, reduceCtorEq] at h ⊢ <;> done) | (simp only [evEqPrim] at h ⊢; exact h)
theorem eq_agg_inv {fs : List (Option Nat × Nat × EqTy)} {x y : EV} {b : Bool} (h : evEq (.agg fs) x y = some b) : ∃ a c, x = .agg a ∧ y = .agg c ∧ evEqs fs a c = some b := by
  rw [evEq.eq_def] at h
  cases x <;> cases y <;> first | exact ⟨_, _, rfl, rfl, h⟩ | cases h
theorem agg_inv {a : List EV} {x' : EV} (h : SV θ (.agg a) x') : ∃ a', x' = .agg a' ∧ SVs θ a a' := by
  cases h with | agg h => exact ⟨_, rfl, h⟩
mutual
theorem eq_sim : ∀ (t : EqTy) {x y x' y' : EV}, SV θ x x' → SV θ y y' → ∀ {b : Bool}, evEq t x y = some b → evEq t x' y' = some b
  | .prim t, _, _, _, _, hx, hy, b, h => by simp only [evEq] at h ⊢; exact eqPrim_sim hx hy h
  | .agg fs, _, _, _, _, hx, hy, b, h => by
    obtain ⟨a, c, rfl, rfl, h⟩ := eq_agg_inv h
    obtain ⟨a', rfl, ha⟩ := agg_inv hx
    obtain ⟨c', rfl, hc⟩ := agg_inv hy
    simp only [evEq]
    exact eqs_sim fs ha hc h
theorem eqs_sim : ∀ (fs : List (Option Nat × Nat × EqTy)) {x y x' y' : List EV}, SVs θ x x' → SVs θ y y' → ∀ {b : Bool}, evEqs fs x y = some b → evEqs fs x' y' = some b
  | [], _, _, _, _, _, _, _, h => by simp only [evEqs] at h ⊢; exact h
  | (g, off, t) :: r, x, y, x', y', hx, hy, b, h => by
    simp only [evEqs] at h ⊢
    cases hp : partOf g x off with
    | none => simp [hp] at h
    | some p =>
      cases hq : partOf g y off with
      | none => simp [hp, hq] at h
      | some q =>
        obtain ⟨p', hp', sp⟩ := hx.part hp
        obtain ⟨q', hq', sq⟩ := hy.part hq
        simp only [hp, hq, hp', hq'] at h ⊢
        cases he : evEq t p q with
        | none => simp [he] at h
        | some c =>
          rw [eq_sim t sp sq he]
          cases c
          · simpa [he] using h
          · simp only [he] at h ⊢; exact eqs_sim r hx hy h
end
theorem bytes_flat : ∀ {xs : List EV} {s : List UInt8}, bytesOf xs = some s → flats xs = true
  | [], _, _ => rfl
  | v :: xs, s, h => by
    unfold bytesOf at h
    split at h
    · rename_i hh; cases hh
    · rename_i hh; cases hh
      obtain ⟨r, hr, _⟩ := Option.map_eq_some_iff.1 h
      simp only [flats, Flat, bytes_flat hr, Bool.and_self]
    · cases h
theorem max_flat : ∀ {l : List EV}, evMax l = some v → flats l = true ∧ Flat v = true := by
  have go : ∀ (k : IntKind) (l : List EV) (x : Int), maxFrom k x l = some v → flats l = true ∧ Flat v = true := by
    intro k l
    induction l with
    | nil => intro x h; simp only [maxFrom, Option.some.injEq] at h; subst h; exact ⟨rfl, rfl⟩
    | cons a l ih =>
      intro x h
      cases a <;> simp only [maxFrom, reduceCtorEq] at h
      rename_i k' y
      cases hk : (kindNo k).beq (kindNo k') <;> simp only [hk, cond_true, cond_false, reduceCtorEq] at h
      obtain ⟨h1, h2⟩ := ih _ h
      exact ⟨by simp only [flats, Flat, h1, Bool.and_self], h2⟩
  intro l h
  cases l with
  | nil => simp [evMax] at h
  | cons a l =>
    cases a <;> simp only [evMax, reduceCtorEq] at h
    obtain ⟨h1, h2⟩ := go _ _ _ h
    exact ⟨by simp only [flats, Flat, h1, Bool.and_self], h2⟩
theorem min_flat : ∀ {l : List EV}, evMin l = some v → flats l = true ∧ Flat v = true := by
  have go : ∀ (k : IntKind) (l : List EV) (x : Int), minFrom k x l = some v → flats l = true ∧ Flat v = true := by
    intro k l
    induction l with
    | nil => intro x h; simp only [minFrom, Option.some.injEq] at h; subst h; exact ⟨rfl, rfl⟩
    | cons a l ih =>
      intro x h
      cases a <;> simp only [minFrom, reduceCtorEq] at h
      rename_i k' y
      cases hk : (kindNo k).beq (kindNo k') <;> simp only [hk, cond_true, cond_false, reduceCtorEq] at h
      obtain ⟨h1, h2⟩ := ih _ h
      exact ⟨by simp only [flats, Flat, h1, Bool.and_self], h2⟩
  intro l h
  cases l with
  | nil => simp [evMin] at h
  | cons a l =>
    cases a <;> simp only [evMin, reduceCtorEq] at h
    obtain ⟨h1, h2⟩ := go _ _ _ h
    exact ⟨by simp only [flats, Flat, h1, Bool.and_self], h2⟩
theorem OpsS.list (hρ : OpsS θ ρ ρ') : ∀ {l : List Opd}, l.all okOpd = true → SVs θ (l.map ρ) (l.map ρ')
  | [], _ => .nil
  | x :: l, h => by simp only [List.all_cons, Bool.and_eq_true] at h; exact .cons (hρ x h.1) (OpsS.list hρ h.2)

/-! ### Maps -/
theorem sort_flat {k : EV} (h : sortOf k ≠ 99) : Flat k = true := by cases k <;> first | rfl | exact absurd rfl h
theorem key_sort {kt : Nat} {k : EV} (h : keyIs kt k = true) : sortOf k ≠ 99 := by
  cases k <;> simp only [keyIs, Bool.false_eq_true] at h <;> simp [sortOf]
  rename_i kk n; cases kk <;> simp [kindNo]
theorem sorts_sim {k : EV} (hk : sortOf k ≠ 99) : ∀ {es es' : List (EV × EV)}, EntsS θ es es' → sortsOk k es = true → es'.map (·.1) = es.map (·.1) ∧ sortsOk k es' = true
  | _, _, .nil, _ => ⟨rfl, rfl⟩
  | _, _, .cons (k := a) ha hv hs, h => by
    simp only [sortsOk] at h
    cases hb : (sortOf a).beq (sortOf k) <;> simp only [hb, cond_true, cond_false, Bool.false_eq_true] at h
    have hf : Flat a = true := sort_flat (by rw [of_beq hb]; exact hk)
    have := ha.flat hf
    subst this
    obtain ⟨h1, h2⟩ := sorts_sim hk hs h
    exact ⟨by simp [h1], by simp only [sortsOk, hb, cond_true, h2]⟩
theorem find_sim {k : EV} : ∀ {es es' : List (EV × EV)}, EntsS θ es es' → es'.map (·.1) = es.map (·.1) → (∀ v, find k es = some v → ∃ v', find k es' = some v' ∧ SV θ v v') ∧ (find k es = none → find k es' = none)
  | _, _, .nil, _ => ⟨fun v h => by simp [find] at h, fun _ => rfl⟩
  | _, _, .cons (k' := a) (v := w) (v' := w') ha hv hs, h => by
    simp only [List.map_cons, List.cons.injEq] at h
    obtain ⟨rfl, h⟩ := h
    obtain ⟨h1, h2⟩ := find_sim (k := k) hs h
    simp only [find]
    cases EV.same k a <;> simp only [cond_true, cond_false]
    · exact ⟨h1, h2⟩
    · exact ⟨fun v hh => by cases hh; exact ⟨w', rfl, hv⟩, fun hh => by cases hh⟩
theorem update_sim {k k' x x' : EV} (hk : SV θ k k') (hx : SV θ x x') (he : k' = k) : ∀ {es es' : List (EV × EV)}, EntsS θ es es' → es'.map (·.1) = es.map (·.1) → EntsS θ (update k x es) (update k' x' es')
  | _, _, .nil, _ => .cons hk hx .nil
  | _, _, .cons (k' := a) ha hv hs, h => by
    simp only [List.map_cons, List.cons.injEq] at h
    obtain ⟨rfl, h⟩ := h
    have ih := update_sim hk hx he hs h
    subst he
    simp only [update]
    cases EV.same k' a <;> simp only [cond_true, cond_false]
    · exact .cons ha hv ih
    · exact .cons hk hx hs
theorem erase_sim {k : EV} : ∀ {es es' : List (EV × EV)}, EntsS θ es es' → es'.map (·.1) = es.map (·.1) → EntsS θ (erase k es) (erase k es')
  | _, _, .nil, _ => .nil
  | _, _, .cons (k' := a) ha hv hs, h => by
    simp only [List.map_cons, List.cons.injEq] at h
    obtain ⟨rfl, h⟩ := h
    have ih := erase_sim (k := k) hs h
    simp only [erase]
    cases EV.same k a <;> simp only [cond_true, cond_false]
    · exact .cons ha hv ih
    · exact hs
theorem EntsS.len : ∀ {es es' : List (EV × EV)}, EntsS θ es es' → es.length = es'.length
  | _, _, .nil => rfl
  | _, _, .cons _ _ h => by simp [EntsS.len h]
end
end Go.Proofs.Ytjegondbhejpcaa.Ev
end
