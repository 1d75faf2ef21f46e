/- EvCode, EvF0, EvF1, EvF2. -/
import Derived.Scope
import Derived.Recover
import Derived.KernelRfl
import Derived.Test.YtdiccmapankckaaDoorChecked
import Derived.Test.YtdiccmapankckaaDoorMb
set_option linter.unusedSimpArgs false
set_option linter.unusedVariables false
set_option linter.unusedSectionVars false
set_option linter.defProp false
set_option maxRecDepth 20000
set_option maxHeartbeats 8000000
namespace Go.Proofs.YtdiccmapankckaaDoor.Ev
open Go
section
section
variable {P : Program} {G : List Nat} {n : Nat} {call : Call}
theorem xw.K5 {ρ : ep} {ds : List Deferred} (h : xw ρ [] ds) : ds = [] := by cases h; rfl
theorem GN {Q : Exit -> Act -> World -> Prop} {a : Act} {w : World} {c : Code} (I : Nat -> Act -> World -> Prop) (j : Nat) (h₀ : I j a w)
  (round : ∀ j a w, I j a w -> c.wp P (Exit.then (fun a' w' => ∃ i, i < j /\ I i a' w') Q) a w) : (Code.loop c).wp P Q a w := by
 intro b k cs
 have key : ∀ j a w, I j a w -> ∃ e a' w', Q e a' w' /\ Arrives P (lone (b.at a (.code c :: .inLoop c :: k)) cs w) b k cs e a' w' := by
  intro j
  induction j using Nat.strongRecOn with
  | _ j ih =>
   intro a w hI
   obtain ⟨e, a₁, w₁, hq, rM⟩ := round j a w hI b (.inLoop c :: k) cs
   cases e with
   | normal =>
    obtain ⟨i, bt, hI₁⟩ := hq
    obtain ⟨e₂, a₂, w₂, hq₂, XT⟩ := ih i bt a₁ w₁ hI₁
    exact ⟨e₂, a₂, w₂, hq₂, .of_steps (Steps.trans rM (.one step_inLoop)) XT⟩
   | exit id => exact ⟨_, a₁, w₁, hq, .pass (x := .inLoop c) rfl (fun _ _ => .inl (by simp)) rM⟩
   | goto l => exact ⟨_, a₁, w₁, hq, .pass (x := .inLoop c) rfl (fun _ _ => .inl (by simp)) rM⟩
   | ret => exact ⟨_, a₁, w₁, hq, .pass (x := .inLoop c) rfl (fun _ _ => .inl (by simp)) rM⟩
   | panic ch => exact ⟨_, a₁, w₁, hq, .pass (x := .inLoop c) rfl (fun _ _ => .inl (by simp)) rM⟩
   | outgrown => exact ⟨_, a₁, w₁, hq, .pass (x := .inLoop c) rfl (fun _ _ => .inl (by simp)) rM⟩
 obtain ⟨e, a', w', hq, rM⟩ := key j a w h₀
 exact ⟨e, a', w', hq, .of_steps (.one step_loop) rM⟩
theorem ie (iv : P.follows .mixedOrders = true) (bF : pB P G call) (k : Nat) {base : Nat} : ∀ (c : Code) (ic : aH), fX P G n c = some ic ->
  ∀ (ρ : ep) (m : Mem) (w : World) (fr : Fr) (a : Act) (out : Out), R base ρ m w -> jt G ρ -> BN ρ n fr a -> ao call k ic fr m = some out -> c.wp P (Reach base n ρ m w out) a w
 | .skip, ic, hc, ρ, m, w, fr, a, out, hR, hG, hF, h => by
  simp only [fX, bc] at hc; subst hc
  simp only [ao, bc] at h; subst h
  exact wp_skip ⟨rfl, ρ, hR, .refl _ _ _, hF⟩
 | .label l, ic, hc, ρ, m, w, fr, a, out, hR, hG, hF, h => by
  simp only [fX, bc] at hc; subst hc
  simp only [ao, bc] at h; subst h
  exact wp_label ⟨rfl, ρ, hR, .refl _ _ _, hF⟩
 | .exit id, ic, hc, ρ, m, w, fr, a, out, hR, hG, hF, h => by
  simp only [fX, bc] at hc; subst hc
  simp only [ao, bc] at h; subst h
  exact wp_exit ⟨rfl, ρ, hR, .refl _ _ _, hF⟩
 | .ret, ic, hc, ρ, m, w, fr, a, out, hR, hG, hF, h => by
  simp only [fX, bc] at hc; subst hc
  simp only [ao, bc] at h; subst h
  exact wp_ret ⟨rfl, ρ, hR, .refl _ _ _, hF⟩
 | .region id ops false, ic, hc, ρ, m, w, fr, a, out, hR, hG, hF, h => by
  simp only [fX] at hc;obtain ⟨is, Tv, rfl⟩ := ag hc
  simp only [ao] at h;refine wp_region ?_
  obtain ⟨h1, h2⟩ := mapM_some _ Tv
  refine F9 bF is (List.range ops.size) (by simpa using h1.symm) (fun j i io hj BH => ?_) ρ m w fr a out hR hG hF h
  have bt : j < ops.size := by
   have := (rc.1 hj).1
   simpa using this
  rw [List.getElem?_range bt] at hj
  cases hj
  exact ⟨ops[j], Array.getElem?_eq_getElem bt, h2 j ops[j] io (by simp [bt]) BH⟩
 | .region id ops true, ic, hc, ρ, m, w, fr, a, out, hR, hG, hF, h => by
  simp only [fX] at hc
  cases Tv : ops.toList.mapM (uj P G n ops) with
  | none => simp [Tv] at hc
  | some is =>
   simp only [Tv] at hc;obtain ⟨chk, VK, rfl⟩ := ag hc
   simp only [ao] at h;exact LN iv bF Tv VK hR hG hF h
 | .seq x y, ic, hc, ρ, m, w, fr, a, out, hR, hG, hF, h => by
  simp only [fX] at hc
  cases hx : fX P G n x with
  | none => simp [hx] at hc
  | some ix =>
  cases hy : fX P G n y with
  | none => simp [hx, hy] at hc
  | some iy =>
  simp only [hx, hy, bc] at hc;subst hc;simp only [ao] at h
  cases h1 : ao call k ix fr m with
  | none => simp [h1] at h
  | some o1 =>
   simp only [h1] at h;have hw := ie iv bF k x ix hx ρ m w fr a o1 hR hG hF h1
   refine wp_seq (wp_mono hw fun e a1 w1 hq => ?_)
   cases o1 with
   | norm fT m1 =>
    obtain ⟨rfl, ρ1, lr, hs, wy⟩ := hq
    simp only [Exit.then];have := ie iv bF k y iy hy ρ1 m1 w1 fT a1 out lr (hG.ext hs.ext) wy h
    exact wp_mono this fun e a w hq => hq.after hs
   | exit id fT m1 =>
    simp only [bc] at h; subst h
    have := hq; obtain ⟨rfl, _⟩ := this; exact hq
   | ret fT m1 =>
    simp only [bc] at h; subst h
    have := hq; obtain ⟨rfl, _⟩ := this; exact hq
   | gD v fT m1 =>
    simp only [bc] at h; subst h
    have := hq; obtain ⟨_, _, rfl, _⟩ := this; exact hq
 | .cond c x y, ic, hc, ρ, m, w, fr, a, out, hR, hG, hF, h => by
  simp only [fX] at hc
  cases uY : eZ G c with
  | none => simp [uY] at hc
  | some c' =>
  cases hx : fX P G n x with
  | none => simp [uY, hx] at hc
  | some ix =>
  cases hy : fX P G n y with
  | none => simp [uY, hx, hy] at hc
  | some iy =>
  simp only [uY, hx, hy, bc] at hc;subst hc;simp only [ao] at h;have LD := ig hG hF.tm uY
  cases rL : fr.eval c' <;> simp only [rL, reduceCtorEq] at h
  rename_i t
  rw [rL] at LD;generalize HE : a.eval c = av at LD
  cases LD
  refine wp_cond HE ?_
  cases t with
  | true => exact ie iv bF k x ix hx ρ m w fr a out hR hG hF h
  | false => exact ie iv bF k y iy hy ρ m w fr a out hR hG hF h
 | .block id x, ic, hc, ρ, m, w, fr, a, out, hR, hG, hF, h => by
  simp only [fX] at hc;obtain ⟨ix, hx, rfl⟩ := ag hc
  simp only [ao] at h
  cases h1 : ao call k ix fr m with
  | none => simp [h1] at h
  | some o1 =>
   simp only [h1] at h;have hw := ie iv bF k x ix hx ρ m w fr a o1 hR hG hF h1
   refine wp_block (wp_mono hw fun e a1 w1 hq => ?_)
   cases o1 with
   | norm fT m1 =>
    simp only [bc] at h; subst h
    have := hq; obtain ⟨rfl, _⟩ := this; exact hq
   | exit j fT m1 =>
    obtain ⟨rfl, hq⟩ := hq
    simp only [Exit.inBlock]
    cases hj : j.beq id <;> simp only [hj, cond_true, cond_false, bc] at h <;> subst h
    ·rw [if_neg (jY hj)]; exact ⟨rfl, hq⟩
    ·rw [if_pos (aR hj)]; exact ⟨rfl, hq⟩
   | ret fT m1 =>
    simp only [bc] at h; subst h
    have := hq; obtain ⟨rfl, _⟩ := this; exact hq
   | gD v fT m1 =>
    simp only [bc] at h; subst h
    have := hq; obtain ⟨_, _, rfl, _⟩ := this; exact hq
 | .loop x, ic, hc, ρ, m, w, fr, a, out, hR, hG, hF, h => by
  simp only [fX] at hc;obtain ⟨ix, hx, rfl⟩ := ag hc
  simp only [ao] at h;refine GN (fun j a1 w1 => ∃ ρ1 m1 fT, R base ρ1 m1 w1 /\ Step ρ m w ρ1 m1 w1 /\ BN ρ1 n fT a1 /\ iter (ao call k ix) j fT m1 = some out) k ⟨ρ, m, fr, hR, .refl _ _ _, hF, h⟩ ?_
  rintro j a1 w1 ⟨ρ1, m1, fT, lr, hs, wy, hit⟩
  cases j with
  | zero => simp [iter] at hit
  | succ j =>
   simp only [iter] at hit
   cases h1 : ao call k ix fT m1 with
   | none => simp [h1] at hit
   | some o1 =>
    simp only [h1] at hit;have hw := ie iv bF k x ix hx ρ1 m1 w1 fT a1 o1 lr (hG.ext hs.ext) wy h1
    refine wp_mono hw fun e a2 w2 hq => ?_
    cases o1 with
    | norm YZ m2 =>
     obtain ⟨rfl, ρ2, hR2, Su, hF2⟩ := hq
     exact ⟨j, Nat.lt_succ_self j, ρ2, m2, YZ, hR2, hs.trans Su, hF2, hit⟩
    | exit id YZ m2 =>
     simp only [bc] at hit; subst hit
     have := hq; obtain ⟨rfl, _⟩ := this; exact hq.after hs
    | ret YZ m2 =>
     simp only [bc] at hit; subst hit
     have := hq; obtain ⟨rfl, _⟩ := this; exact hq.after hs
    | gD v YZ m2 =>
     simp only [bc] at hit; subst hit
     have := hq; obtain ⟨_, _, rfl, _⟩ := this; exact hq.after hs
 | .scope x, ic, hc, ρ, m, w, fr, a, out, hR, hG, hF, h => by
  simp only [fX] at hc;refine wp_scope_straight (wp_mono (ie iv bF k x ic hc ρ m w fr a out hR hG hF h) fun e a1 w1 hq => ?_)
  cases out with
  | norm fT m1 => have := hq; obtain ⟨rfl, _⟩ := this; exact hq
  | exit id fT m1 => have := hq; obtain ⟨rfl, _⟩ := this; exact hq
  | ret fT m1 => have := hq; obtain ⟨rfl, _⟩ := this; exact hq
  | gD v fT m1 => have := hq; obtain ⟨_, _, rfl, _⟩ := this; exact hq
 | .goto l, ic, hc, ρ, m, w, fr, a, out, hR, hG, hF, h => by simp [fX] at hc
 | .refuse l, ic, hc, ρ, m, w, fr, a, out, hR, hG, hF, h => by simp [fX] at hc
 | .rangeFunc f ps s b, ic, hc, ρ, m, w, fr, a, out, hR, hG, hF, h => by simp [fX] at hc
theorem GL : ∀ (l : List EV) (i : Nat) (t : Tr EV) (k : Nat), (cJ l i t).get k = if i <= k /\ k < i + l.length then l[k - i]? else t.get k
 | [], i, t, k => by rw [if_neg (fun h => by have := h.2; simp at this; omega)]; rfl
 | v :: l, i, t, k => by
  simp only [cJ];rw [GL l (i + 1) (t.set i v) k, Tr.bW];by_cases h : k = i
  ·subst h
   rw [if_neg (by omega), if_pos rfl, if_pos (by simp)];simp
  ·by_cases h2 : i + 1 <= k /\ k < i + 1 + l.length
   ·rw [if_pos h2, if_pos (by simp; omega), show k - i = (k - (i + 1)) + 1 by omega]
    simp
   ·rw [if_neg h2, if_neg h, if_neg (by simp; omega)]
theorem u6 {ρ : ep} {args : List EV} {aw : Array Value} (hv : ft ρ args aw.toList) (hn : aw.size <= n) : BN ρ n ⟨cJ args 0 .leaf, []⟩ { tmps := aw ++ Array.replicate (n - aw.size) undef, defers := [] } := by
 have hl := hv.length
 simp at hl
 refine ⟨⟨by simp; omega, fun t => ?_⟩, .nil⟩
 unfold Fr.get;simp only
 rw [GL, Tr.zp];by_cases h : 0 <= t /\ t < 0 + args.length
 ·rw [if_pos h]
  have bt : t < args.length := by omega
  obtain ⟨v', g1, g2⟩ := hv.get t args[t] (mZ bt)
  rw [show t - 0 = t by omega, mZ bt];rw [Array.getD_eq_getD_getElem?, Array.getElem?_append_left (by omega)];rw [Array.getElem?_toList] at g1;rw [g1];exact g2
 ·rw [if_neg h]
  have bt : aw.size <= t := by omega
  have e : (aw ++ Array.replicate (n - aw.size) undef).getD t undef = undef := by
   rw [Array.getD_eq_getD_getElem?, Array.getElem?_append_right bt, Array.getElem?_replicate]
   split <;> rfl
  rw [e];exact .undef
theorem xl {base : Nat} {ρ : ep} {m : Mem} {w : World} {fr : Fr} {a : Act} (hR : R base ρ m w) (hF : FR ρ n fr a) : ∀ (rs : List ResultVar) (Vk : List lV) (vs : List EV), rs.mapM (Ac P) = some Vk -> bN fr m Vk = some vs ->
  ∃ uz, (rs.mapM fun r => (match r with | .tmp t => pure (a.tmps.getD t undef) | .cell ad t => do loadVar t (<- asAddr (a.tmps.getD ad undef)) : Sem Value)).run P w = .ok uz w /\ ft ρ vs uz
 | [], Vk, vs, hc, h => by
  simp at hc; subst hc
  simp [bN] at h; subst h
  exact ⟨[], rfl, .nil⟩
 | r :: rs, Vk, vs, hc, h => by
  rw [List.mapM_cons] at hc
  cases hr : Ac P r with
  | none => simp [hr] at hc
  | some ir =>
  cases Xs : rs.mapM (Ac P) with
  | none => simp [hr, Xs] at hc
  | some aaN =>
  simp [hr, Xs] at hc
  subst hc;simp only [bN] at h
  cases hv : zH fr m ir with
  | none => simp [hv] at h
  | some v =>
  simp only [hv] at h;obtain ⟨vs0, h0, rfl⟩ := ag h
  obtain ⟨uz, r1, r2⟩ := xl hR hF rs aaN vs0 Xs h0
  cases r with
  | tmp t =>
   simp only [Ac, bc] at hr; subst hr
   simp only [zH, bc] at hv; subst hv
   exact ⟨a.tmps.getD t undef :: uz, by simp only [List.mapM_cons, Sem.run_bind, Sem.run_pure, Result.andThen_ok, r1], .cons (hF.tmp t) r2⟩
  | cell ad t =>
   simp only [Ac] at hr;obtain ⟨g, hg, rfl⟩ := ag hr
   simp only [zH] at hv;obtain ⟨ad', v', e1, e2, e3⟩ := xp (P := P) hR hg (hF.tmp ad) hv
   have ea : (asAddr (a.tmps.getD ad undef)).run P w = .ok ad' w := by rw [e1]; rfl
   exact ⟨v' :: uz, by simp only [List.mapM_cons, Sem.run_bind, ea, Sem.run_pure, Result.andThen_ok, e2, r1], .cons e3 r2⟩
theorem Oj {ρ : ep} {vs : List EV} {uz : List Value} (h : ft ρ vs uz) : VR ρ (one vs) (if hh : (⟨uz⟩ : Array Value).size = 1 then (⟨uz⟩ : Array Value)[0] else .tuple ⟨uz⟩) := by
 cases h with
 | nil => exact .tuple .nil
 | cons hx hs =>
  cases hs with
  | nil => simpa [one] using hx
  | cons hy hs =>
   simp only [one];rw [dif_neg (by simp)];exact .tuple (.cons hx (.cons hy hs))
def Sf (P : Program) (G : List Nat) (g : Nat) (b : Option Nat) (FD : ax) : Prop := ∃ fn, P.funcs[g]? = some fn /\ match b with
 | none => cd P G fn = some FD
 | some d => ND P G fn = some (d, FD)
def Ki (P : Program) (G : List Nat) (f : Nat) : iz -> Prop
 | .go F => ∃ fn, P.funcs[f]? = some fn /\ cd P G fn = some F
 | .ext g => ∀ base ρ m w args (aw : Array Value) v, R base ρ m w -> ft ρ args aw.toList -> g args = some v -> ∃ v', (callFunc f aw).run P w = .ok (.value v') w /\ VR ρ v v'
 | .pure g => ∀ base ρ m w args (aw : Array Value) v, R base ρ m w -> ft ρ args aw.toList -> g args = some v -> (callFunc f aw).run P w = .ok (.enter f aw) w /\ Calls P f aw w (nG base ρ m w (.ret v m))
 | .spec g => ∀ base ρ m w args (aw : Array Value) fin, R base ρ m w -> jt G ρ -> ft ρ args aw.toList -> g args m = some fin -> (callFunc f aw).run P w = .ok (.enter f aw) w /\ Calls P f aw w (nG base ρ m w fin)
 | .NA F D => (∃ fn, P.funcs[f]? = some fn /\ cd P G fn = some F) /\ ∀ g b FD, mh g D = some (b, FD) -> Sf P G g b FD
theorem xU {base : Nat} {ρ : ep} {m : Mem} {w : World} {fr : Fr} {a : Act} {fn : Func} {r : List lV} (CF : fn.results.toList.mapM (Ac P) = some r) (hR : R base ρ m w) (hF : FR ρ n fr a) {vs : List EV} (x8 : bN fr m r = some vs) :
  ∃ v, (results fn a.tmps).run P w = .ok v w /\ VR ρ (one vs) v := by
 obtain ⟨uz, r1, r2⟩ := xl (P := P) hR hF fn.results.toList r vs CF x8
 refine ⟨_, ?_, Oj r2⟩
 simp only [results, Sem.run_bind];rw [Array.mapM_eq_mapM_toList, Sem.run_map]
 erw [r1]
 rfl
theorem ES {fn : Func} {F : ax} (hc : cd P G fn = some F) : ∃ c b r, fn.body = some c /\ (fn.name == "runtime.NumGoroutine") = false /\ fX P G fn.ntmps c = some b /\ fn.results.toList.mapM (Ac P) = some r /\ F = ⟨fn.ntmps, b, r⟩ := by
 unfold cd at hc
 cases hb : fn.body with
 | none => simp [hb] at hc
 | some c =>
 simp only [hb] at hc
 cases Js : fn.name == "runtime.NumGoroutine" <;> simp only [Js, cond_true, cond_false, reduceCtorEq] at hc
 cases uY : fX P G fn.ntmps c with
 | none => simp [uY] at hc
 | some b =>
 cases CF : fn.results.toList.mapM (Ac P) with
 | none => simp [uY, CF] at hc
 | some r =>
 simp only [uY, CF, bc] at hc;exact ⟨c, b, r, rfl, rfl, uY, rfl, hc.symm⟩
theorem Pj {fn : Func} {d : Nat} {F : ax} (hc : ND P G fn = some (d, F)) : ∃ c b r, fn.body = some c /\ (fn.name == "runtime.NumGoroutine") = false /\ iP P G fn.ntmps c = some (d, b) /\ fn.results.toList.mapM (Ac P) = some r /\ F = ⟨fn.ntmps, b, r⟩ := by
 unfold ND at hc
 cases hb : fn.body with
 | none => simp [hb] at hc
 | some c =>
 simp only [hb] at hc
 cases Js : fn.name == "runtime.NumGoroutine" <;> simp only [Js, cond_true, cond_false, reduceCtorEq] at hc
 cases uY : iP P G fn.ntmps c with
 | none => simp [uY] at hc
 | some q =>
 obtain ⟨d', b⟩ := q
 cases CF : fn.results.toList.mapM (Ac P) with
 | none => simp [uY, CF] at hc
 | some r =>
 simp only [uY, CF, bc, eM] at hc;obtain ⟨rfl, rfl⟩ := hc
 exact ⟨c, b, r, rfl, rfl, uY, rfl, rfl⟩
theorem wK {f : Nat} {fn : Func} (hf : P.funcs[f]? = some fn) {c : Code} (hb : fn.body = some c) (Js : (fn.name == "runtime.NumGoroutine") = false) {aw : Array Value} {w : World} : (callFunc f aw).run P w = .ok (.enter f aw) w := by
 simp [callFunc, hf, hb]
 simpa using Js
theorem NF (iv : P.follows .mixedOrders = true) (bF : pB P G call) (k : Nat) {base : Nat} {fn : Func} {c : Code} {b : aH} {r : List lV} (uY : fX P G fn.ntmps c = some b) (CF : fn.results.toList.mapM (Ac P) = some r) {args : List EV} {m : Mem} {fin : Fin} (h : dr call k ⟨fn.ntmps, b, r⟩ args m = some fin)
  {ρ : ep} {w : World} {aw : Array Value} (hR : R base ρ m w) (hG : jt G ρ) (hv : ft ρ args aw.toList) :
  c.wp P (bodyPost P fn (nG base ρ m w fin)) { tmps := aw ++ Array.replicate (fn.ntmps - aw.size) undef, defers := [] } w := by
 have hl := hv.length
 simp at hl
 unfold dr at h
 cases hargs : args.length.ble fn.ntmps with
 | false => simp [hargs] at h
 | true =>
 simp only [hargs, cond_true] at h;have hn : aw.size <= fn.ntmps := by have := qP hargs; omega
 cases h1 : ao call k b ⟨cJ args 0 .leaf, []⟩ m with
 | none => simp [h1] at h
 | some o1 =>
  simp only [h1] at h;have hw := ie iv bF k c b uY ρ m w _ _ o1 hR hG (u6 hv hn) h1
  refine wp_mono hw fun e a1 w1 hq => ?_
  have done : ∀ {fT : Fr} {m1 : Mem} {ρ1 : ep}, R base ρ1 m1 w1 -> Step ρ m w ρ1 m1 w1 -> BN ρ1 fn.ntmps fT a1 -> (match fT.defers with | [] => (bN fT m1 r).map fun vs => Fin.ret (one vs) m1 | _ => none) = some fin ->
    a1.defers = [] /\ ∃ v, (results fn a1.tmps).run P w1 = .ok v w1 /\ nG base ρ m w fin (.returned v) w1 := by
   intro fT m1 ρ1 lr hs wy xL
   have hd := wy.FM
   cases FF : fT.defers with
   | cons x l => simp [FF] at xL
   | nil =>
    rw [FF] at hd;simp only [FF] at xL;obtain ⟨vs, x8, rfl⟩ := ag xL
    obtain ⟨v, r1, r2⟩ := xU CF lr wy.tm x8
    exact ⟨hd.K5, v, r1, ρ1, v, rfl, r2, lr, hs⟩
  cases o1 with
  | norm fT m1 =>
   obtain ⟨rfl, ρ1, lr, hs, wy⟩ := hq
   exact done lr hs wy h
  | ret fT m1 =>
   obtain ⟨rfl, ρ1, lr, hs, wy⟩ := hq
   exact done lr hs wy h
  | exit id fT m1 => simp at h
  | gD v fT m1 =>
   obtain ⟨ρ1, v', rfl, zh, lr, hs, wy⟩ := hq
   simp only at h
   have hd := wy.FM
   cases FF : fT.defers with
   | cons x l => simp [FF] at h
   | nil =>
    rw [FF] at hd;simp only [FF, bc] at h;subst h;exact ⟨hd.K5, ρ1, v', rfl, zh, lr, hs⟩
theorem EY (iv : P.follows .mixedOrders = true) (bF : pB P G call) (k : Nat) {base : Nat} {f : Nat} {fn : Func} (hf : P.funcs[f]? = some fn) {F : ax} (hc : cd P G fn = some F) {args : List EV} {m : Mem} {fin : Fin} (h : dr call k F args m = some fin)
  {ρ : ep} {w : World} {aw : Array Value} (hR : R base ρ m w) (hG : jt G ρ) (hv : ft ρ args aw.toList) :
  (callFunc f aw).run P w = .ok (.enter f aw) w /\ Calls P f aw w (nG base ρ m w fin) := by
 obtain ⟨c, b, r, hb, Js, uY, CF, rfl⟩ := ES hc
 exact ⟨wK hf hb Js, calls_of_wp hf hb (NF iv bF k uY CF h hR hG hv)⟩
def uk (ρ : ep) (u : Option EV) (md : FrameMode) : Prop := match u with
 | none => md = .returning
 | some v => ∃ v', md = .panicking [{ v := v', recovered := false }] /\ VR ρ v v'
theorem uk.ext {ρ ρ' : ep} (e : Ext ρ ρ') {u : Option EV} {md : FrameMode} (h : uk ρ u md) : uk ρ' u md := by
 cases u with
 | none => exact h
 | some v => obtain ⟨v', h1, h2⟩ := h; exact ⟨v', h1, h2.ext e⟩
theorem uk.run {ρ : ep} {u : Option EV} {md : FrameMode} (h : uk ρ u md) : md ≠ .run := by
 cases u with
 | none => cases h; simp
 | some v => obtain ⟨v', rfl, _⟩ := h; simp
theorem uk.settle {ρ : ep} {u : Option EV} {md : FrameMode} (h : uk ρ u md) : Go.settle md = md := by
 cases u with
 | none => cases h; rfl
 | some v => obtain ⟨v', rfl, _⟩ := h; rfl
theorem uk.got {ρ : ep} {u : Option EV} {md : FrameMode} (h : uk ρ u md) (c₀ : Frame) (cs : List Frame) (hm : c₀.mode = md) : ∃ v' u', VR ρ (u.getD .aC) v' /\ Go.settle u' = .returning /\
  ((recoverD (c₀ :: cs) = none /\ v' = .nilIface /\ ({ c₀ with mode := u' } : Frame) = c₀) \/ recoverD (c₀ :: cs) = some (v', { c₀ with mode := u' } :: cs)) := by
 cases u with
 | none =>
  cases h
  refine ⟨.nilIface, .returning, .aC, rfl, .inl ⟨by simp [recoverD, hm], rfl, ?_⟩⟩
  cases c₀; cases hm; rfl
 | some v =>
  obtain ⟨v', rfl, hv⟩ := h
  exact ⟨v', .panicking [{ v := v', recovered := true }], hv, rfl, .inr (by simp [recoverD, hm])⟩
theorem Iv {c : Code} {Q Q' : Exit -> Act -> List Frame -> World -> Prop} {a : Act} {cs : List Frame} {w : World} (h : c.wpS P Q a cs w) (hq : ∀ e a cs w, Q e a cs w -> Q' e a cs w) : c.wpS P Q' a cs w :=
 fun b k h1 h2 => let ⟨e, a', lQ, w', q, r⟩ := h b k h1 h2; ⟨e, a', lQ, w', hq _ _ _ _ q, r⟩
theorem OL {o : Oper} (h : MO o = true) : o.guard = none /\ ∃ ts, o.op = .call ⟨.builtin .recover, #[], ts⟩ := by
 unfold MO at h
 split at h
 ·rename_i xs ts h1 h2
  have : xs = #[] := by simpa using h
  subst this;exact ⟨h2, ts, h1⟩
 ·cases h
theorem Bs (iv : P.follows .mixedOrders = true) (bF : pB P G call) (k : Nat) {base : Nat} {u : Option EV} {md : FrameMode} {ρ : ep} {m : Mem} {w : World} (hR : R base ρ m w) (hG : jt G ρ) (hu : uk ρ u md) (c₀ : Frame) (cs : List Frame) (hm : c₀.mode = md) :
  ∀ (c : Code) (d : Nat) (ic : aH), iP P G n c = some (d, ic) -> ∀ (fr : Fr) (a : Act) (out : Out), BN ρ n fr a -> ao call k ic (fr.set d (u.getD .aC)) m = some out ->
   c.wpS P (fun e a' lQ w' => (∃ u', lQ = { c₀ with mode := u' } :: cs /\ Go.settle u' = .returning) /\ Reach base n ρ m w out e a' w') a (c₀ :: cs) w
 | .region id ops false, d, ic, hc, fr, a, out, hF, h => by
  simp only [iP] at hc
  cases Ri : ops.toList with
  | nil => simp [Ri] at hc
  | cons o r =>
   simp only [Ri] at hc
   cases Xw : MO o <;> simp only [Xw, cond_true, cond_false, reduceCtorEq] at hc
   cases ny : o.dst with
   | none => simp [ny] at hc
   | some d' =>
   simp only [ny] at hc
   cases bt : Nat.ble (d' + 1) n <;> simp only [bt, cond_true, cond_false, reduceCtorEq] at hc
   obtain ⟨is, Tv, xi⟩ := ag hc
   simp only [eM] at xi;obtain ⟨rfl, rfl⟩ := xi
   obtain ⟨nP, ts, lq⟩ := OL Xw
   obtain ⟨v', u', hv, Ra, abi⟩ := hu.got c₀ cs hm
   simp only [ao] at h;have wy : BN ρ n (fr.set d' (u.getD .aC)) (a.put o.dst v') := by
    rw [ny];exact hF.put (d := some d') (fun x hx => by cases hx; exact qP bt) hv
   have Xq : ops.size = r.length + 1 := by rw [<- Array.length_toList, Ri]; rfl
   have ho : ops[0]? = some o := by rw [<- Array.getElem?_toList, Ri]; rfl
   obtain ⟨h1, h2⟩ := mapM_some _ Tv
   have XA : wpOps P ops (Reach base n ρ m w out) ((List.range r.length).map Nat.succ) (a.put o.dst v') w := by
    refine F9 bF is _ (by simpa using h1.symm) (fun j i io hj BH => ?_) ρ m w _ _ out hR hG wy h
    have bt : j < r.length := by
     have := (rc.1 hj).1
     simpa using this
    rw [List.getElem?_map, List.getElem?_range bt] at hj
    cases hj
    have hrj : r[j]? = some r[j] := mZ bt
    refine ⟨r[j], ?_, h2 j r[j] io hrj BH⟩
    rw [<- Array.getElem?_toList, Ri, List.getElem?_cons_succ, hrj]
   intro b kk hb qW
   have hg := stepG_op (P := P) (b := b) (k := kk) (cs := c₀ :: cs) (w := w) (a := a) (rest := (List.range r.length).map Nat.succ) ho (by simp [Region.wanted, nP])
   have hr : (execOp a.eval o).run P w = .ok .recover w := by
    unfold execOp;rw [lq]
    rfl
   have xL : ∀ v, (b.at a (.inRegion ops (0 :: (List.range r.length).map Nat.succ) :: kk)).finish v = b.at (a.put o.dst v) (.inRegion ops ((List.range r.length).map Nat.succ) :: kk) := by
    intro v; rw [Frame.finish_at, ho]; rfl
   have hk : (b.at a (.inRegion ops (0 :: (List.range r.length).map Nat.succ) :: kk)).kind = .deferred := hb
   have YK := tryRecover_deferred hk (c₀ :: cs)
   have Xp : step P (lone (b.at a (.inRegion ops (0 :: (List.range r.length).map Nat.succ) :: kk)) (c₀ :: cs) w) = .next (lone (b.at (a.put o.dst v') (.inRegion ops ((List.range r.length).map Nat.succ) :: kk)) ({ c₀ with mode := u' } :: cs) w) := by
    refine step_lone_go ?_
    rw [hg, <- xL];rcases abi with ⟨g1, rfl, g3⟩ | g1
    ·rw [g3]
     simp only [Frame.at] at YK ⊢
     simp [stepG.apply, hr, YK, g1]
    ·simp only [Frame.at] at YK ⊢
     simp [stepG.apply, hr, YK, g1]
   obtain ⟨e, a', w', hq, rM⟩ := wp_ops _ _ _ XA b kk ({ c₀ with mode := u' } :: cs)
   refine ⟨e, a', _, w', ⟨⟨u', rfl, Ra⟩, hq⟩, .of_steps (.head step_region ?_) rM⟩
   rw [Xq, List.range_succ_eq_map];exact .one Xp
 | .seq x y, d, ic, hc, fr, a, out, hF, h => by
  simp only [iP] at hc
  cases hx : iP P G n x with
  | none => simp [hx] at hc
  | some q =>
  obtain ⟨d', ix⟩ := q
  cases hy : fX P G n y with
  | none => simp [hx, hy] at hc
  | some iy =>
  simp only [hx, hy, bc, eM] at hc;obtain ⟨rfl, rfl⟩ := hc
  simp only [ao] at h
  cases h1 : ao call k ix (fr.set d' (u.getD .aC)) m with
  | none => simp [h1] at h
  | some o1 =>
   simp only [h1] at h;have hw := Bs iv bF k hR hG hu c₀ cs hm x d' ix hx fr a o1 hF h1
   refine wpS_seq (Iv hw fun e a1 cs1 w1 ⟨mg, hq⟩ => ?_)
   cases o1 with
   | norm fT m1 =>
    obtain ⟨rfl, ρ1, lr, hs, wy⟩ := hq
    have := ie iv bF k y iy hy ρ1 m1 w1 fT a1 out lr (hG.ext hs.ext) wy h
    exact wpS_of_wp (wp_mono this fun e a w hq => ⟨mg, hq.after hs⟩)
   | exit id fT m1 =>
    simp only [bc] at h; subst h
    have := hq; obtain ⟨rfl, _⟩ := this; exact ⟨mg, hq⟩
   | ret fT m1 =>
    simp only [bc] at h; subst h
    have := hq; obtain ⟨rfl, _⟩ := this; exact ⟨mg, hq⟩
   | gD v fT m1 =>
    simp only [bc] at h; subst h
    have := hq; obtain ⟨_, _, rfl, _⟩ := this; exact ⟨mg, hq⟩
 | .region id ops true, d, ic, hc, _, _, _, _, _ => by simp [iP] at hc
 | .skip, d, ic, hc, _, _, _, _, _ => by simp [iP] at hc
 | .label _, d, ic, hc, _, _, _, _, _ => by simp [iP] at hc
 | .exit _, d, ic, hc, _, _, _, _, _ => by simp [iP] at hc
 | .ret, d, ic, hc, _, _, _, _, _ => by simp [iP] at hc
 | .cond _ _ _, d, ic, hc, _, _, _, _, _ => by simp [iP] at hc
 | .block _ _, d, ic, hc, _, _, _, _, _ => by simp [iP] at hc
 | .loop _, d, ic, hc, _, _, _, _, _ => by simp [iP] at hc
 | .scope _, d, ic, hc, _, _, _, _, _ => by simp [iP] at hc
 | .goto _, d, ic, hc, _, _, _, _, _ => by simp [iP] at hc
 | .refuse _, d, ic, hc, _, _, _, _, _ => by simp [iP] at hc
 | .rangeFunc _ _ _ _, d, ic, hc, _, _, _, _, _ => by simp [iP] at hc
theorem J6 (iv : P.follows .mixedOrders = true) (bF : pB P G call) (k : Nat) {base : Nat} {f : Nat} {fn : Func} (hf : P.funcs[f]? = some fn) {d : Nat} {F : ax} (hc : ND P G fn = some (d, F)) {args : List EV} {m m' : Mem} {u : Option EV} {md : FrameMode} (h : fC call k d F args u m = some m')
  {ρ : ep} {w : World} {aw : Array Value} (hR : R base ρ m w) (hG : jt G ρ) (hv : ft ρ args aw.toList) (hu : uk ρ u md) :
  (callFunc f aw).run P w = .ok (.enter f aw) w /\ CallsD P f aw md w fun e u' w' => Go.settle u' = .returning /\ ∃ v ρ', e = .returned v /\ R base ρ' m' w' /\ Step ρ m w ρ' m' w' := by
 obtain ⟨c, b, r, hb, Js, uY, CF, rfl⟩ := Pj hc
 refine ⟨wK hf hb Js, callsD_of_wpS hf hb fun c₀ cs hm => ?_⟩
 have hl := hv.length
 simp at hl
 unfold fC at h
 cases hargs : args.length.ble fn.ntmps with
 | false => simp [hargs] at h
 | true =>
 simp only [hargs, cond_true] at h;have hn : aw.size <= fn.ntmps := by have := qP hargs; omega
 cases h1 : ao call k b (Fr.set ⟨cJ args 0 .leaf, []⟩ d (u.getD .aC)) m with
 | none => simp [h1] at h
 | some o1 =>
  simp only [h1] at h;have hw := Bs iv bF k hR hG hu c₀ cs hm c d b uY _ _ o1 (u6 hv hn) h1
  refine Iv hw fun e a1 cs1 w1 ⟨⟨u', mg, Ra⟩, hq⟩ => ?_
  have done : ∀ {fT : Fr} {m1 : Mem} {ρ1 : ep}, R base ρ1 m1 w1 -> Step ρ m w ρ1 m1 w1 -> BN ρ1 fn.ntmps fT a1 -> (match fT.defers with | [] => (bN fT m1 r).map fun _ => m1 | _ => none) = some m' ->
    a1.defers = [] /\ ∃ u', cs1 = { c₀ with mode := u' } :: cs /\ ∃ v, (results fn a1.tmps).run P w1 = .ok v w1 /\ Go.settle u' = .returning /\ ∃ v2 ρ', Ending.returned v = .returned v2 /\ R base ρ' m' w1 /\ Step ρ m w ρ' m' w1 := by
   intro fT m1 ρ1 lr hs wy xL
   have hd := wy.FM
   cases FF : fT.defers with
   | cons x l => simp [FF] at xL
   | nil =>
    rw [FF] at hd;simp only [FF] at xL;obtain ⟨vs, x8, rfl⟩ := ag xL
    obtain ⟨v, r1, r2⟩ := xU CF lr wy.tm x8
    exact ⟨hd.K5, u', mg, v, r1, Ra, v, ρ1, rfl, lr, hs⟩
  cases o1 with
  | norm fT m1 =>
   obtain ⟨rfl, ρ1, lr, hs, wy⟩ := hq
   exact done lr hs wy h
  | ret fT m1 =>
   obtain ⟨rfl, ρ1, lr, hs, wy⟩ := hq
   exact done lr hs wy h
  | exit id fT m1 => simp at h
  | gD v fT m1 => simp at h
theorem lc (iv : P.follows .mixedOrders = true) (bF : pB P G call) (k : Nat) {base : Nat} {fn : Func} {Vk : List lV} (CF : fn.results.toList.mapM (Ac P) = some Vk) {D : List (Nat × Option Nat × ax)} (hD : ∀ g b FD, mh g D = some (b, FD) -> Sf P G g b FD) {fr : Fr} {a : Act} {ρ0 : ep} {m0 : Mem} {w0 : World} {fin : Fin} :
  ∀ (ds : List (Nat × List EV)) (vc : List Deferred) (u : Option EV) (md : FrameMode) (ρ : ep) (m : Mem) (w : World), xw ρ ds vc -> uk ρ u md -> R base ρ m w -> jt G ρ -> FR ρ n fr a -> Step ρ0 m0 w0 ρ m w -> cN call k Vk D fr ds u m = some fin -> Leaves P fn a.tmps (nG base ρ0 m0 w0 fin) vc md w
 | [], vc, u, md, ρ, m, w, Ez, hu, hR, hG, hF, hs, h => by
  cases Ez
  cases u with
  | none =>
   cases hu
   simp only [cN] at h;obtain ⟨vs, x8, rfl⟩ := ag h
   obtain ⟨v, r1, r2⟩ := xU CF hR hF x8
   exact ⟨v, r1, ρ, v, rfl, r2, hR, hs⟩
  | some v =>
   obtain ⟨v', rfl, hv⟩ := hu
   simp only [cN, bc] at h;subst h;exact ⟨ρ, v', rfl, hv, hR, hs⟩
 | (g, args) :: ds, vc, u, md, ρ, m, w, Ez, hu, hR, hG, hF, hs, h => by
  cases Ez with
  | @cons _ dd _ TS VJ Ez =>
  obtain ⟨c', Tm, hargs⟩ := VJ
  simp only at Tm hargs
  have Rv : ft ρ args (dd.args ++ c').toList := by rw [Array.toList_append]; exact hargs
  have hinv : ∀ {w : World}, (callFunc g (dd.args ++ c')).run P w = .ok (.enter g (dd.args ++ c')) w -> (invoke dd.target dd.args).run P w = .ok (.enter g (dd.args ++ c')) w := by
   intro w hh
   rw [Tm];exact hh
  simp only [cN] at h
  cases FF : mh g D with
  | none => simp [FF] at h
  | some q =>
  obtain ⟨b, FD⟩ := q
  obtain ⟨fn2, VH, Ku⟩ := hD g b FD FF
  cases b with
  | some d =>
   simp only [FF] at h;simp only at Ku
   cases hb : fC call k d FD args u m with
   | none => simp [hb] at h
   | some m1 =>
    simp only [hb] at h;obtain ⟨abl, LF⟩ := J6 iv bF k VH Ku hb hR hG Rv hu
    refine ⟨hu.run, _, _, g, _, Tm, hinv abl, LF.mono fun e u' w' hq => ?_⟩
    obtain ⟨Ra, v, ρ', rfl, lr, rK⟩ := hq
    show Leaves P fn a.tmps _ TS (Go.settle u') w'
    rw [Ra];exact lc iv bF k CF hD ds TS none .returning ρ' m1 w' (Ez.ext rK.ext) rfl lr (hG.ext rK.ext) (hF.ext rK.ext) (hs.trans rK) h
  | none =>
   simp only [FF] at h;simp only at Ku
   obtain ⟨c, b, r, UC, Js, uY, aa1, rfl⟩ := ES Ku
   cases hb : dr call k ⟨fn2.ntmps, b, r⟩ args m with
   | none => simp [hb] at h
   | some X7 =>
    simp only [hb] at h;have LF := callsD_of_wp (u := md) VH UC (NF iv bF k uY aa1 hb hR hG Rv)
    refine ⟨hu.run, _, _, g, _, Tm, hinv (wK VH UC Js), LF.mono fun e u' w' hq => ?_⟩
    obtain ⟨rfl, hq⟩ := hq
    cases X7 with
    | ret v m1 =>
     obtain ⟨ρ', v', rfl, zh, lr, rK⟩ := hq
     show Leaves P fn a.tmps _ TS (Go.settle u') w'
     rw [hu.settle];exact lc iv bF k CF hD ds TS u u' ρ' m1 w' (Ez.ext rK.ext) (hu.ext rK.ext) lr (hG.ext rK.ext) (hF.ext rK.ext) (hs.trans rK) h
    | gD v m1 =>
     cases u with
     | some x => cases h
     | none =>
      obtain ⟨ρ', v', rfl, zh, lr, rK⟩ := hq
      cases hu
      exact lc iv bF k CF hD ds TS (some v) _ ρ' m1 w' (Ez.ext rK.ext) ⟨v', rfl, zh⟩ lr (hG.ext rK.ext) (hF.ext rK.ext) (hs.trans rK) h
theorem J9 (iv : P.follows .mixedOrders = true) (bF : pB P G call) (k : Nat) {base : Nat} {f : Nat} {fn : Func} (hf : P.funcs[f]? = some fn) {F : ax} (hc : cd P G fn = some F) {D : List (Nat × Option Nat × ax)} (hD : ∀ g b FD, mh g D = some (b, FD) -> Sf P G g b FD) {args : List EV} {m : Mem} {fin : Fin} (h : jn call k F D args m = some fin)
  {ρ : ep} {w : World} {aw : Array Value} (hR : R base ρ m w) (hG : jt G ρ) (hv : ft ρ args aw.toList) :
  (callFunc f aw).run P w = .ok (.enter f aw) w /\ Calls P f aw w (nG base ρ m w fin) := by
 obtain ⟨c, b, r, hb, Js, uY, CF, rfl⟩ := ES hc
 refine ⟨wK hf hb Js, calls_of_wp_defers hf hb ?_⟩
 have hl := hv.length
 simp at hl
 unfold jn at h
 cases hargs : args.length.ble fn.ntmps with
 | false => simp [hargs] at h
 | true =>
 simp only [hargs, cond_true] at h;have hn : aw.size <= fn.ntmps := by have := qP hargs; omega
 cases h1 : ao call k b ⟨cJ args 0 .leaf, []⟩ m with
 | none => simp [h1] at h
 | some o1 =>
  simp only [h1] at h;have hw := ie iv bF k c b uY ρ m w _ _ o1 hR hG (u6 hv hn) h1
  refine wp_mono hw fun e a1 w1 hq => ?_
  cases o1 with
  | norm fT m1 =>
   obtain ⟨rfl, ρ1, lr, hs, wy⟩ := hq
   exact lc iv bF k CF hD _ _ none .returning ρ1 m1 w1 wy.FM rfl lr (hG.ext hs.ext) wy.tm hs h
  | ret fT m1 =>
   obtain ⟨rfl, ρ1, lr, hs, wy⟩ := hq
   exact lc iv bF k CF hD _ _ none .returning ρ1 m1 w1 wy.FM rfl lr (hG.ext hs.ext) wy.tm hs h
  | exit id fT m1 => simp at h
  | gD v fT m1 =>
   obtain ⟨ρ1, v', rfl, zh, lr, hs, wy⟩ := hq
   exact lc iv bF k CF hD _ _ (some v) _ ρ1 m1 w1 wy.FM ⟨v', rfl, zh⟩ lr (hG.ext hs.ext) wy.tm hs h
theorem EJ (iv : P.follows .mixedOrders = true) {T : Nat -> Option iz} (hT : ∀ f e, T f = some e -> Ki P G f e) : ∀ k, pB P G (aS T k)
 | 0 => fun f args m fin h => by simp [aS] at h
 | k + 1 => fun f args m fin h base ρ w aw hR hG hv => by
  simp only [aS] at h
  cases he : T f with
  | none => simp [he] at h
  | some e =>
   simp only [he] at h;have ee := hT f e he
   cases e with
   | go F =>
    obtain ⟨fn, hf, hc⟩ := ee
    exact .inl (EY iv (EJ iv hT k) k hf hc h hR hG hv)
   | ext g =>
    simp only [iq] at h;obtain ⟨v, hg, rfl⟩ := ag h
    obtain ⟨v', h1, h2⟩ := ee base ρ m w args aw v hR hv hg
    exact .inr ⟨v, v', rfl, h1, h2⟩
   | pure g =>
    simp only [iq] at h;obtain ⟨v, hg, rfl⟩ := ag h
    exact .inl (ee base ρ m w args aw v hR hv hg)
   | spec g =>
    simp only [iq] at h;exact .inl (ee base ρ m w args aw fin hR hG hv h)
   | NA F D =>
    obtain ⟨⟨fn, hf, hc⟩, hD⟩ := ee
    exact .inl (J9 iv (EJ iv hT k) k hf hc hD h hR hG hv)
end
end
section
def G : List Nat := [0, 1, 2]
abbrev iV (d : Nat) (o : ls) : aY := ⟨some d, .val o, none⟩
abbrev iN (o : ls) : aY := ⟨none, .val o, none⟩
abbrev iG (d : Nat) (o : ls) (g : Nat) (b : Bool) : aY := ⟨some d, .val o, some (g, b)⟩
abbrev iC (d f : Nat) (a : List aV) : aY := ⟨some d, .call (.const (.func f [] [])) a, none⟩
abbrev iH (d f : Nat) (a : List aV) (g : Nat) (b : Bool) : aY := ⟨some d, .call (.const (.func f [] [])) a, some (g, b)⟩
abbrev tm (t : Nat) : aV := .tmp t
abbrev kI (n : Int) : aV := .const (.int .i64 n)
abbrev kS (s : List UInt8) : aV := .const (.str s)
abbrev Yz : Nat := 2
abbrev bn : Nat := 3
abbrev Ze : Nat := 4
abbrev Yy : Nat := 5
abbrev Im : Nat := 6
abbrev Il : Nat := 8
abbrev dI : Nat := 9
abbrev Ik : Nat := 10
abbrev Iz : Nat := 11
abbrev Wc : Nat := 12
abbrev By : Nat := 14
abbrev Az : Nat := 15
abbrev Fh : Nat := 16
abbrev SH : Nat := 17
abbrev DQ : Nat := 19
abbrev YA : Nat := 21
abbrev Ud : Nat := 22
abbrev SG : Nat := 23
abbrev bI : Nat := 25
abbrev Sk : Nat := 31
abbrev YB : Nat := 34
abbrev aB : Nat := 36
abbrev aW : Nat := 39
abbrev Pz : Nat := 42
abbrev ah : Nat := 45
abbrev Py : Nat := 57
abbrev eS : Nat := 59
abbrev ai : Nat := 63
abbrev UW : Nat := 81
abbrev Wd : Nat := 86
abbrev P2 : Nat := 89
abbrev cM : Nat := 93
abbrev Zd : Nat := 99
abbrev WU : Nat := 101
abbrev kY : Nat := 105
abbrev Bz : Nat := 108
abbrev FY : Nat := 111
abbrev Ue : Nat := 112
abbrev UU : Nat := 113
abbrev We : Nat := 115
abbrev Sj : Nat := 116
abbrev Si : Nat := 117
abbrev US : Nat := 119
abbrev N6 : Nat := 120
/- balustrade/balustradelaw08.ParseDeep -/
abbrev nN : Nat := 3
def eL : aH :=
 (.seq
 (.seq
 (.region [iV 36 (.ab (tm 10)),
 iV 37 (.ab (tm 9)),
 iV 38 (.bin .lss (tm 36) (tm 37))])
 (.cond (.tmp 38)
 .skip
 (.exit 3)))
 (.seq
 (.block 4
 (.seq
 (.region [iV 41 (.ab (tm 5)),
 iV 42 (.bin .add (tm 41) (kS [105, 102, 32, 97, 32, 123])),
 iV 5 (.ab (tm 42))])
 (.region [iV 43 (.ab (tm 6)),
 iV 44 (.bin .add (tm 43) (kS [125])),
 iV 6 (.ab (tm 44))])))
 (.region [iV 39 (.ab (tm 10)),
 iV 40 (.bin .add (tm 39) (kI 1)),
 iV 10 (.ab (tm 40))])))
def dW : aH :=
 (.seq
 (.seq
 (.region [iV 51 (.ab (tm 11)),
 iV 52 (.ab (tm 9)),
 iV 53 (.bin .lss (tm 51) (tm 52))])
 (.cond (.tmp 53)
 .skip
 (.exit 5)))
 (.seq
 (.block 6
 (.seq
 (.seq
 (.region [iV 56 (.ab (tm 11)),
 iV 57 (.bin .gtr (tm 56) (kI 0))])
 (.cond (.tmp 57)
 (.region [iV 58 (.ab (tm 5)),
 iV 59 (.bin .add (tm 58) (kS [44])),
 iV 5 (.ab (tm 59))])
 .skip))
 (.region [iV 60 (.ab (tm 5)),
 iV 61 (.bin .add (tm 60) (kS [97, 32, 105, 110, 116])),
 iV 5 (.ab (tm 61))])))
 (.region [iV 54 (.ab (tm 11)),
 iV 55 (.bin .add (tm 54) (kI 1)),
 iV 11 (.ab (tm 55))])))
def eK : aH :=
 (.seq
 (.seq
 (.region [iV 21 (.ab (tm 12)),
 iV 22 (.ab (tm 9)),
 iV 23 (.bin .lss (tm 21) (tm 22))])
 (.cond (.tmp 23)
 .skip
 (.exit 1)))
 (.seq
 (.block 2
 (.region [iV 26 (.ab (tm 5)),
 iV 27 (.bin .add (tm 26) (kS [102, 110, 32, 102, 40, 41, 32, 105, 110, 116, 32, 123, 125])),
 iV 5 (.ab (tm 27))]))
 (.region [iV 24 (.ab (tm 12)),
 iV 25 (.bin .add (tm 24) (kI 1)),
 iV 12 (.ab (tm 25))])))
def dv : ax :=
 ⟨96,
 (.seq
 (.region [iV 4 (.ab (.const (.bool false)))])
 (.seq
 (.region [iV 5 (.ab (kS [102, 110, 32, 102, 40])),
 iV 6 (.ab (kS [125])),
 iV 7 (.ab (kI 0)),
 iV 8 (.ab (kI 3))])
 (.seq
 (.region [iV 9 (.ab (kI 0))])
 (.seq
 (.seq
 (.region [iV 15 (.ab (tm 0)),
 iV 16 (.bin .rem (tm 15) (.const (.int .u8 3)))])
 (.block 0
 (.seq
 (.region [iV 29 (.eq false (.aJ 1) (tm 16) (.const (.int .u8 0))),
 iV 28 (.ab (tm 29))])
 (.cond (.tmp 28)
 (.seq
 (.region [iV 30 (.ab (tm 1)),
 iV 31 (.conv (.int .i64) (tm 30)),
 iV 32 (.bin .rem (tm 31) (kI 4)),
 iV 33 (.bin .add (kI 96) (tm 32)),
 iV 9 (.ab (tm 33))])
 (.seq
 (.region [iV 7 (.ab (kI 98))])
 (.seq
 (.region [iV 8 (.ab (kI 4))])
 (.seq
 (.region [iV 34 (.ab (tm 5)),
 iV 35 (.bin .add (tm 34) (kS [41, 32, 105, 110, 116, 32, 123])),
 iV 5 (.ab (tm 35))])
 (.seq
 (.region [iV 10 (.ab (kI 0))])
 (.block 3
 (.loop eL)))))))
 (.seq
 (.region [iV 46 (.eq false (.aJ 1) (tm 16) (.const (.int .u8 1))),
 iV 45 (.ab (tm 46))])
 (.cond (.tmp 45)
 (.seq
 (.region [iV 47 (.ab (tm 1)),
 iV 48 (.conv (.int .i64) (tm 47)),
 iV 49 (.bin .rem (tm 48) (kI 4)),
 iV 50 (.bin .add (kI 6) (tm 49)),
 iV 9 (.ab (tm 50))])
 (.seq
 (.region [iV 7 (.ab (kI 8))])
 (.seq
 (.seq
 (.region [iV 11 (.ab (kI 0))])
 (.block 5
 (.loop dW)))
 (.region [iV 62 (.ab (tm 5)),
 iV 63 (.bin .add (tm 62) (kS [41, 32, 105, 110, 116, 32, 123])),
 iV 5 (.ab (tm 63))]))))
 (.seq
 (.region [iV 17 (.ab (tm 1)),
 iV 18 (.conv (.int .i64) (tm 17)),
 iV 19 (.bin .rem (tm 18) (kI 4)),
 iV 20 (.bin .add (kI 198) (tm 19)),
 iV 9 (.ab (tm 20))])
 (.seq
 (.region [iV 7 (.ab (kI 200))])
 (.seq
 (.region [iV 5 (.ab (kS []))])
 (.seq
 (.region [iV 6 (.ab (kS []))])
 (.seq
 (.region [iV 12 (.ab (kI 0))])
 (.block 1
 (.loop eK)))))))))))))
 (.seq
 (.region [iV 65 (.ab (tm 5)),
 iV 66 (.ab (tm 6)),
 iV 67 (.bin .add (tm 65) (tm 66)),
 iC 68 6 [(tm 67)],
 iV 64 (.ab (tm 68)),
 iV 69 (.extract (tm 64) 0),
 iV 70 (.extract (tm 64) 1),
 iV 14 (.alloc 25 [(.int .i64 0), (.int .i64 0)]),
 iV 13 (.ab (tm 69)),
 iN (.store 2 (tm 14) (tm 70))])
 (.seq
 (.seq
 (.region [iV 71 (.ab (tm 9)),
 iV 72 (.ab (tm 7)),
 iV 73 (.bin .leq (tm 71) (tm 72))])
 (.cond (.tmp 73)
 (.seq
 (.region [iV 74 (.load (some 2) (tm 14)),
 iV 75 (.build [(.int .i64 0), (.int .i64 0)] []),
 iV 76 (.eq false (.agg [(none, 0, (.aJ 1)), (none, 1, (.aJ 1))]) (tm 74) (tm 75)),
 iV 77 (.ab (tm 76)),
 iG 78 (.ab (tm 13)) 77 true,
 iH 79 7 [(tm 78)] 77 true,
 iV 80 (.pick (tm 77) (tm 79) (.const (.bool false))),
 iV 81 (.ab (tm 80)),
 iH 82 8 [] 81 true,
 iV 83 (.pick (tm 81) (tm 82) (.const (.bool false))),
 iV 4 (.ab (tm 83))])
 .ret)
 .skip))
 (.seq
 (.region [iV 84 (.ab (tm 13)),
 iV 85 (.len (tm 84)),
 iV 86 (.eq false (.aJ 1) (tm 85) (kI 0)),
 iV 87 (.ab (tm 86)),
 iG 88 (.aj 0 (tm 14)) 87 true,
 iG 89 (.load none (tm 88)) 87 true,
 iG 90 (.ab (tm 8)) 87 true,
 iG 91 (.eq false (.aJ 1) (tm 89) (tm 90)) 87 true,
 iV 92 (.pick (tm 87) (tm 91) (.const (.bool false))),
 iV 93 (.ab (tm 92)),
 iH 94 8 [] 93 true,
 iV 95 (.pick (tm 93) (tm 94) (.const (.bool false))),
 iV 4 (.ab (tm 95))])
 .ret))))))),
 [.tmp 4]⟩
theorem ok3 : cd Tryd.prog G Tryd.f3 = some dv := by kernel_rfl
/- balustrade/parse.Parse -/
abbrev qU : Nat := 6
def br : aH :=
 (.seq
 (.seq
 (.region [iV 20 (.load (some 1) (tm 6)),
 iC 21 14 [(tm 20)],
 iV 22 (.ab (tm 21)),
 iG 23 (.aj 0 (tm 6)) 22 true,
 iG 24 (.load none (tm 23)) 22 true,
 iH 25 15 [(tm 24)] 22 true,
 iG 26 (.AS none 0 (tm 25)) 22 true,
 iG 27 (.eq true (.aJ 1) (tm 26) (kI 0)) 22 true,
 iV 28 (.pick (tm 22) (tm 27) (.const (.bool false)))])
 (.cond (.tmp 28)
 .skip
 (.exit 0)))
 (.block 1
 (.seq
 (.seq
 (.region [iV 29 (.ab (tm 7)),
 iV 30 (.len (tm 29)),
 iV 31 (.eq false (.aJ 1) (tm 30) (kI 200)),
 iV 32 (.ab (tm 31)),
 iG 33 (.aj 0 (tm 6)) 32 true,
 iG 34 (.load none (tm 33)) 32 true,
 iH 35 16 [(tm 34), (kS [102, 110])] 32 true,
 iV 36 (.pick (tm 32) (tm 35) (.const (.bool false)))])
 (.cond (.tmp 36)
 (.draw [iV 37 (.aj 0 (tm 6)),
 iV 38 (.load none (tm 37)),
 iV 39 (.aj 0 (tm 6)),
 iV 40 (.load none (tm 39)),
 iC 41 15 [(tm 40)],
 iV 42 (.AS none 3 (tm 41)),
 iC 43 17 [(tm 38), (kI 3), (tm 42)]] [(1, 4)])
 .skip))
 (.region [iV 44 (.ab (tm 7)),
 iV 45 (.load (some 1) (tm 6)),
 iC 46 18 [(tm 45)],
 iV 47 (.bD 3 1 1 [(.int .i64 0)] [(0, (tm 46))]),
 iV 48 (.append 3 1 8 (tm 44) (tm 47)),
 iV 7 (.ab (tm 48))]))))
def eT : ax :=
 ⟨64,
 (.seq
 (.region [iV 2 (.ab (.const .ae)),
 iV 3 (.alloc 25 [(.int .i64 0), (.int .i64 0)])])
 (.seq
 (.region [iV 9 (.ab (tm 0)),
 iC 10 12 [(tm 9)],
 iV 8 (.ab (tm 10)),
 iV 11 (.extract (tm 8) 0),
 iV 12 (.extract (tm 8) 1),
 iV 5 (.alloc 25 [(.int .i64 0), (.int .i64 0)]),
 iV 4 (.ab (tm 11)),
 iN (.store 2 (tm 5) (tm 12))])
 (.seq
 (.seq
 (.region [iV 13 (.aj 0 (tm 5)),
 iV 14 (.load none (tm 13)),
 iV 15 (.eq true (.aJ 1) (tm 14) (kI 0))])
 (.cond (.tmp 15)
 (.seq
 (.draw [iV 16 (.load (some 2) (tm 5)),
 iV 2 (.ab (.const .ae)),
 iN (.store 2 (tm 3) (tm 16))] [])
 .ret)
 .skip))
 (.seq
 (.region [iV 17 (.ab (tm 4)),
 iC 18 13 [(tm 17)],
 iV 19 (.build [.bL] [(0, 1, (tm 18))]),
 iV 6 (.alloc 45 [.bL]),
 iN (.store 1 (tm 6) (tm 19))])
 (.seq
 (.region [iV 7 (.ab (.const .ae))])
 (.seq
 (.block 0
 (.loop br))
 (.seq
 (.region [iV 49 (.aj 0 (tm 6)),
 iV 50 (.load none (tm 49)),
 iV 51 (.ab (tm 7)),
 iV 52 (.build [(.int .i64 0), .ae, (.int .i64 0), (.str []), (.int .i64 0)] [(0, 1, (kI 26)), (1, 1, (tm 51))]),
 iC 53 19 [(tm 50), (tm 52)]])
 (.seq
 (.seq
 (.region [iV 54 (.load (some 1) (tm 6)),
 iC 55 14 [(tm 54)],
 iV 56 (.un .not (tm 55))])
 (.cond (.tmp 56)
 (.seq
 (.region [iV 57 (.aj 0 (tm 6)),
 iV 58 (.load none (tm 57)),
 iC 59 20 [(tm 58)],
 iV 2 (.ab (.const .ae)),
 iN (.store 2 (tm 3) (tm 59))])
 .ret)
 .skip))
 (.seq
 (.region [iV 60 (.aj 0 (tm 6)),
 iV 61 (.load none (tm 60)),
 iC 62 21 [(tm 61)],
 iV 63 (.build [(.int .i64 0), (.int .i64 0)] []),
 iV 2 (.ab (tm 62)),
 iN (.store 2 (tm 3) (tm 63))])
 .ret))))))))),
 [.tmp 2, .cell 3 (some 2)]⟩
theorem ok6 : cd Tryd.prog G Tryd.f6 = some eT := by kernel_rfl
/- balustrade/balustraderef06.Whole -/
abbrev uO : Nat := 7
def gW : ax :=
 ⟨15,
 (.seq
 (.region [iV 2 (.ab (.const (.bool false)))])
 (.seq
 (.region [iV 3 (.ab (tm 0)),
 iC 4 22 [(tm 3)],
 iV 5 (.ab (tm 4)),
 iG 6 (.ab (tm 0)) 5 true,
 iG 7 (.ab (tm 0)) 5 true,
 iG 8 (.len (tm 7)) 5 true,
 iG 9 (.bin .sub (tm 8) (kI 1)) 5 true,
 iG 10 (.eu 5 (tm 6) (tm 9)) 5 true,
 iG 11 (.aj 0 (tm 10)) 5 true,
 iG 12 (.load none (tm 11)) 5 true,
 iG 13 (.eq false (.aJ 1) (tm 12) (kI 26)) 5 true,
 iV 14 (.pick (tm 5) (tm 13) (.const (.bool false))),
 iV 2 (.ab (tm 14))])
 .ret)),
 [.tmp 2]⟩
theorem ok7 : cd Tryd.prog G Tryd.f7 = some gW := by kernel_rfl
/- balustrade/balustradelaw08.works -/
abbrev Um : Nat := 8
def lm : ax :=
 ⟨33,
 (.seq
 (.region [iV 0 (.ab (.const (.bool false)))])
 (.seq
 (.region [iC 6 6 [(kS [102, 110, 32, 109, 97, 105, 110, 40, 120, 32, 97, 114, 114, 41, 32, 105, 110, 116, 32, 123, 32, 112, 114, 105, 110, 116, 32, 108, 101, 110, 40, 120, 41, 59, 32, 125])],
 iV 5 (.ab (tm 6)),
 iV 7 (.extract (tm 5) 0),
 iV 8 (.extract (tm 5) 1),
 iV 2 (.alloc 25 [(.int .i64 0), (.int .i64 0)]),
 iV 1 (.ab (tm 7)),
 iN (.store 2 (tm 2) (tm 8))])
 (.seq
 (.region [iC 10 6 [(kS [102, 110, 32, 102, 40, 41, 32, 123, 32, 125])],
 iV 9 (.ab (tm 10)),
 iV 11 (.extract (tm 9) 0),
 iV 12 (.extract (tm 9) 1),
 iV 4 (.alloc 25 [(.int .i64 0), (.int .i64 0)]),
 iV 3 (.ab (tm 11)),
 iN (.store 2 (tm 4) (tm 12))])
 (.seq
 (.region [iV 13 (.load (some 2) (tm 2)),
 iV 14 (.build [(.int .i64 0), (.int .i64 0)] []),
 iV 15 (.eq false (.agg [(none, 0, (.aJ 1)), (none, 1, (.aJ 1))]) (tm 13) (tm 14)),
 iV 16 (.ab (tm 15)),
 iG 17 (.ab (tm 1)) 16 true,
 iH 18 22 [(tm 17)] 16 true,
 iV 19 (.pick (tm 16) (tm 18) (.const (.bool false))),
 iV 20 (.ab (tm 19)),
 iG 21 (.ab (tm 1)) 20 true,
 iG 22 (.ab (tm 1)) 20 true,
 iG 23 (.len (tm 22)) 20 true,
 iG 24 (.bin .sub (tm 23) (kI 1)) 20 true,
 iH 25 23 [(tm 21), (tm 24)] 20 true,
 iG 26 (.eq false (.aJ 2) (tm 25) (kS [40, 112, 114, 111, 103, 32, 40, 102, 110, 32, 109, 97, 105, 110, 32, 105, 110, 116, 32, 40, 120, 32, 97, 114, 114, 41, 32, 40, 98, 108, 111, 99, 107, 32, 40, 112, 114, 105, 110, 116, 32, 40, 108, 101, 110, 32, 120, 41, 41, 41, 41, 41])) 20 true,
 iV 27 (.pick (tm 20) (tm 26) (.const (.bool false))),
 iV 28 (.ab (tm 27)),
 iG 29 (.load (some 2) (tm 4)) 28 true,
 iG 30 (.build [(.int .i64 0), (.int .i64 0)] [(0, 1, (kI 8)), (1, 1, (kI 7))]) 28 true,
 iG 31 (.eq false (.agg [(none, 0, (.aJ 1)), (none, 1, (.aJ 1))]) (tm 29) (tm 30)) 28 true,
 iV 32 (.pick (tm 28) (tm 31) (.const (.bool false))),
 iV 0 (.ab (tm 32))])
 .ret)))),
 [.tmp 0]⟩
theorem ok8 : cd Tryd.prog G Tryd.f8 = some lm := by kernel_rfl
/- balustrade/balustradebase.HasInt -/
abbrev xo : Nat := 10
def fy : aH :=
 (.seq
 (.seq
 (.region [iV 6 (.ab (tm 5)),
 iV 7 (.ab (tm 0)),
 iV 8 (.len (tm 7)),
 iV 9 (.bin .lss (tm 6) (tm 8))])
 (.cond (.tmp 9)
 .skip
 (.exit 0)))
 (.seq
 (.block 1
 (.seq
 (.region [iV 12 (.ab (tm 0)),
 iV 13 (.ab (tm 5)),
 iV 14 (.eu 1 (tm 12) (tm 13)),
 iV 15 (.load none (tm 14)),
 iV 16 (.ab (tm 1)),
 iV 17 (.eq false (.aJ 1) (tm 15) (tm 16))])
 (.cond (.tmp 17)
 (.seq
 (.region [iV 4 (.ab (.const (.bool true)))])
 .ret)
 .skip)))
 (.region [iV 10 (.ab (tm 5)),
 iV 11 (.bin .add (tm 10) (kI 1)),
 iV 5 (.ab (tm 11))])))
def gd : ax :=
 ⟨18,
 (.seq
 (.region [iV 4 (.ab (.const (.bool false)))])
 (.seq
 (.seq
 (.region [iV 5 (.ab (kI 0))])
 (.block 0
 (.loop fy)))
 (.seq
 (.region [iV 4 (.ab (.const (.bool false)))])
 .ret))),
 [.tmp 4]⟩
theorem aaC : cd Tryd.prog G Tryd.f10 = some gd := by kernel_rfl
/- balustrade/lex.Tokens -/
abbrev Hm : Nat := 12
def eC : aH :=
 (.seq
 (.seq
 (.region [iV 13 (.ab (tm 4)),
 iV 14 (.cw (tm 13)),
 iV 15 (.aj 1 (tm 14)),
 iV 16 (.load none (tm 15)),
 iV 17 (.ab (tm 0)),
 iV 18 (.eG (tm 17)),
 iV 19 (.bin .lss (tm 16) (tm 18))])
 (.cond (.tmp 19)
 .skip
 (.exit 0)))
 (.block 1
 (.seq
 (.region [iV 20 (.ab (tm 4)),
 iC 21 27 [(tm 20)],
 iV 5 (.ab (tm 21))])
 (.seq
 (.region [iV 22 (.ab (tm 5)),
 iV 23 (.eq true (.aJ 1) (tm 22) (kI 0))])
 (.cond (.tmp 23)
 (.seq
 (.draw [iV 24 (.ab (tm 5)),
 iV 25 (.ab (tm 4)),
 iV 26 (.cw (tm 25)),
 iV 27 (.aj 1 (tm 26)),
 iV 28 (.load none (tm 27)),
 iV 29 (.build [(.int .i64 0), (.int .i64 0)] [(0, 1, (tm 24)), (1, 1, (tm 28))]),
 iV 2 (.ab (.const .ae)),
 iN (.store 2 (tm 3) (tm 29))] [])
 .ret)
 .skip)))))
def fV : ax :=
 ⟨37,
 (.seq
 (.region [iV 2 (.ab (.const .ae)),
 iV 3 (.alloc 25 [(.int .i64 0), (.int .i64 0)])])
 (.seq
 (.seq
 (.region [iV 6 (.ab (tm 0)),
 iV 7 (.eG (tm 6)),
 iV 8 (.bin .gtr (tm 7) (kI 65536))])
 (.cond (.tmp 8)
 (.seq
 (.region [iV 9 (.build [(.int .i64 0), (.int .i64 0)] [(0, 1, (kI 3))]),
 iV 2 (.ab (.const .ae)),
 iN (.store 2 (tm 3) (tm 9))])
 .ret)
 .skip))
 (.seq
 (.region [iV 10 (.ab (tm 0)),
 iV 11 (.build [(.str []), (.int .i64 0), .ae] [(0, 1, (tm 10))]),
 iV 12 (.box 59 (tm 11)),
 iV 4 (.ab (tm 12))])
 (.seq
 (.block 0
 (.loop eC))
 (.seq
 (.region [iV 30 (.ab (tm 4)),
 iC 31 28 [(tm 30), (kI 0), (kI 0), (kI 0)]])
 (.seq
 (.region [iV 32 (.ab (tm 4)),
 iV 33 (.cw (tm 32)),
 iV 34 (.aj 2 (tm 33)),
 iV 35 (.load none (tm 34)),
 iV 36 (.build [(.int .i64 0), (.int .i64 0)] []),
 iV 2 (.ab (tm 35)),
 iN (.store 2 (tm 3) (tm 36))])
 .ret)))))),
 [.tmp 2, .cell 3 (some 2)]⟩
theorem aaB : cd Tryd.prog G Tryd.f12 = some fV := by kernel_rfl
/- balustrade/expr.New -/
abbrev Lg : Nat := 13
def jV : ax :=
 ⟨6,
 (.seq
 (.region [iV 2 (.ab (.const .bL))])
 (.seq
 (.region [iV 3 (.ab (tm 0)),
 iV 4 (.build [.ae, (.int .i64 0), (.int .i64 0), .ae, .ae, (.int .i64 0), (.int .i64 0)] [(0, 1, (tm 3))]),
 iV 5 (.box 63 (tm 4)),
 iV 2 (.ab (tm 5))])
 .ret)),
 [.tmp 2]⟩
theorem aaA : cd Tryd.prog G Tryd.f13 = some jV := by kernel_rfl
/- (balustrade/parse.reader).fine -/
abbrev nX : Nat := 14
def bC : ax :=
 ⟨8,
 (.seq
 (.region [iV 1 (.box 45 (tm 0)),
 iV 2 (.ab (.const (.bool false)))])
 (.seq
 (.region [iV 3 (.aj 0 (tm 1)),
 iV 4 (.load none (tm 3)),
 iC 5 20 [(tm 4)],
 iV 6 (.AS none 0 (tm 5)),
 iV 7 (.eq false (.aJ 1) (tm 6) (kI 0)),
 iV 2 (.ab (tm 7))])
 .ret)),
 [.tmp 2]⟩
theorem aaz : cd Tryd.prog G Tryd.f14 = some bC := by kernel_rfl
/- (*balustrade/expr.Reader).Token -/
abbrev kj : Nat := 15
def bl : ax :=
 ⟨27,
 (.seq
 (.region [iV 2 (.alloc 36 [(.int .i64 0), (.str []), (.int .i64 0), (.int .i64 0)])])
 (.seq
 (.seq
 (.region [iV 3 (.ab (tm 0)),
 iV 4 (.cw (tm 3)),
 iV 5 (.aj 0 (tm 4)),
 iV 6 (.load none (tm 5)),
 iV 7 (.len (tm 6)),
 iV 8 (.eq false (.aJ 1) (tm 7) (kI 0))])
 (.cond (.tmp 8)
 (.seq
 (.region [iV 9 (.build [(.int .i64 0), (.str []), (.int .i64 0), (.int .i64 0)] []),
 iN (.store 4 (tm 2) (tm 9))])
 .ret)
 .skip))
 (.seq
 (.draw [iV 10 (.ab (tm 0)),
 iV 11 (.cw (tm 10)),
 iV 12 (.aj 0 (tm 11)),
 iV 13 (.load none (tm 12)),
 iV 14 (.ab (tm 0)),
 iV 15 (.cw (tm 14)),
 iV 16 (.aj 1 (tm 15)),
 iV 17 (.load none (tm 16)),
 iV 18 (.ab (tm 0)),
 iV 19 (.cw (tm 18)),
 iV 20 (.aj 0 (tm 19)),
 iV 21 (.load none (tm 20)),
 iV 22 (.len (tm 21)),
 iV 23 (.bin .sub (tm 22) (kI 1)),
 iV 24 (.min [(tm 17), (tm 23)]),
 iV 25 (.eu 4 (tm 13) (tm 24)),
 iV 26 (.load (some 4) (tm 25)),
 iN (.store 4 (tm 2) (tm 26))] [])
 .ret))),
 [.cell 2 (some 4)]⟩
theorem aay : cd Tryd.prog G Tryd.f15 = some bl := by kernel_rfl
/- (*balustrade/expr.Reader).Is -/
abbrev mD : Nat := 16
def cz : ax :=
 ⟨21,
 (.seq
 (.region [iV 4 (.ab (.const (.bool false)))])
 (.seq
 (.region [iV 6 (.ab (tm 0)),
 iC 7 15 [(tm 6)],
 iV 5 (.alloc 36 [(.int .i64 0), (.str []), (.int .i64 0), (.int .i64 0)]),
 iN (.store 4 (tm 5) (tm 7))])
 (.seq
 (.region [iV 8 (.ab (tm 0)),
 iC 9 29 [(tm 8)],
 iV 10 (.ab (tm 9)),
 iG 11 (.aj 0 (tm 5)) 10 true,
 iG 12 (.load none (tm 11)) 10 true,
 iG 13 (.bin .geq (tm 12) (kI 3)) 10 true,
 iV 14 (.pick (tm 10) (tm 13) (.const (.bool false))),
 iV 15 (.ab (tm 14)),
 iG 16 (.aj 1 (tm 5)) 15 true,
 iG 17 (.load none (tm 16)) 15 true,
 iG 18 (.ab (tm 1)) 15 true,
 iG 19 (.eq false (.aJ 2) (tm 17) (tm 18)) 15 true,
 iV 20 (.pick (tm 15) (tm 19) (.const (.bool false))),
 iV 4 (.ab (tm 20))])
 .ret))),
 [.tmp 4]⟩
theorem aax : cd Tryd.prog G Tryd.f16 = some cz := by kernel_rfl
/- (*balustrade/expr.Reader).Fail -/
abbrev dR : Nat := 17
def dl : ax :=
 ⟨14,
 (.seq
 (.region [iV 6 (.ab (tm 0)),
 iC 7 29 [(tm 6)]])
 (.cond (.tmp 7)
 (.region [iV 8 (.ab (tm 0)),
 iV 9 (.ab (tm 1)),
 iV 10 (.ab (tm 2)),
 iV 11 (.build [(.int .i64 0), (.int .i64 0)] [(0, 1, (tm 9)), (1, 1, (tm 10))]),
 iV 12 (.cw (tm 8)),
 iV 13 (.aj 5 (tm 12)),
 iN (.store 2 (tm 13) (tm 11))])
 .skip)),
 []⟩
theorem aaw : cd Tryd.prog G Tryd.f17 = some dl := by kernel_rfl
/- (balustrade/parse.reader).function -/
abbrev fI : Nat := 18
def cr : ax :=
 ⟨34,
 (.seq
 (.region [iV 1 (.box 45 (tm 0)),
 iV 2 (.ab (kI 0))])
 (.seq
 (.region [iV 7 (.aj 0 (tm 1)),
 iV 8 (.load none (tm 7)),
 iC 9 30 [(tm 8), (kS [102, 110])]])
 (.seq
 (.region [iV 10 (.aj 0 (tm 1)),
 iV 11 (.load none (tm 10)),
 iC 12 15 [(tm 11)],
 iV 13 (.AS none 3 (tm 12)),
 iV 3 (.ab (tm 13))])
 (.seq
 (.region [iV 14 (.aj 0 (tm 1)),
 iV 15 (.load none (tm 14)),
 iC 16 31 [(tm 15)],
 iV 4 (.ab (tm 16))])
 (.seq
 (.region [iV 17 (.load (some 1) (tm 1)),
 iC 18 32 [(tm 17)],
 iV 5 (.ab (tm 18))])
 (.seq
 (.region [iV 19 (.load (some 1) (tm 1)),
 iC 20 33 [(tm 19)],
 iV 6 (.ab (tm 20))])
 (.seq
 (.region [iV 21 (.ab (tm 5)),
 iV 22 (.load (some 1) (tm 1)),
 iC 23 34 [(tm 22)],
 iV 24 (.bD 3 1 1 [(.int .i64 0)] [(0, (tm 23))]),
 iV 25 (.append 3 1 8 (tm 21) (tm 24)),
 iV 5 (.ab (tm 25))])
 (.seq
 (.region [iV 26 (.aj 0 (tm 1)),
 iV 27 (.load none (tm 26)),
 iV 28 (.ab (tm 4)),
 iV 29 (.ab (tm 6)),
 iV 30 (.ab (tm 5)),
 iV 31 (.ab (tm 3)),
 iV 32 (.build [(.int .i64 0), .ae, (.int .i64 0), (.str []), (.int .i64 0)] [(0, 1, (kI 25)), (3, 1, (tm 28)), (2, 1, (tm 29)), (1, 1, (tm 30)), (4, 1, (tm 31))]),
 iC 33 19 [(tm 27), (tm 32)],
 iV 2 (.ab (tm 33))])
 .ret)))))))),
 [.tmp 2]⟩
theorem aav : cd Tryd.prog G Tryd.f18 = some cr := by kernel_rfl
/- (*balustrade/expr.Reader).Put -/
abbrev ay : Nat := 19
def cb : aH :=
 (.seq
 (.region [iV 12 (.bin .lss (tm 11) (tm 10))])
 (.seq
 (.cond (.tmp 12)
 .skip
 (.exit 0))
 (.seq
 (.block 1
 (.seq
 (.region [iV 13 (.eu 1 (tm 9) (tm 11)),
 iV 14 (.load none (tm 13)),
 iV 7 (.ab (tm 14))])
 (.seq
 (.region [iV 15 (.ab (tm 7)),
 iV 16 (.bin .geq (tm 15) (kI 0)),
 iV 17 (.ab (tm 16)),
 iG 18 (.ab (tm 7)) 17 true,
 iG 19 (.ab (tm 0)) 17 true,
 iG 20 (.cw (tm 19)) 17 true,
 iG 21 (.aj 4 (tm 20)) 17 true,
 iG 22 (.load none (tm 21)) 17 true,
 iG 23 (.len (tm 22)) 17 true,
 iG 24 (.bin .lss (tm 18) (tm 23)) 17 true,
 iV 25 (.pick (tm 17) (tm 24) (.const (.bool false)))])
 (.cond (.tmp 25)
 (.region [iV 26 (.ab (tm 5)),
 iV 27 (.ab (tm 0)),
 iV 28 (.cw (tm 27)),
 iV 29 (.aj 4 (tm 28)),
 iV 30 (.load none (tm 29)),
 iV 31 (.ab (tm 7)),
 iV 32 (.eu 1 (tm 30) (tm 31)),
 iV 33 (.load none (tm 32)),
 iV 34 (.bin .add (tm 33) (kI 1)),
 iV 35 (.max [(tm 26), (tm 34)]),
 iV 5 (.ab (tm 35))])
 .skip))))
 (.region [iV 36 (.bin .add (tm 11) (kI 1)),
 iV 11 (.ab (tm 36))]))))
def ey : ax :=
 ⟨72,
 (.seq
 (.region [iV 3 (.box 39 (tm 1)),
 iV 4 (.ab (kI 0))])
 (.seq
 (.region [iV 5 (.ab (kI 1))])
 (.seq
 (.seq
 (.region [iV 8 (.aj 1 (tm 3)),
 iV 9 (.load none (tm 8)),
 iV 10 (.len (tm 9)),
 iV 11 (.ab (kI 0))])
 (.block 0
 (.loop cb)))
 (.seq
 (.seq
 (.region [iV 37 (.ab (tm 5)),
 iV 38 (.bin .gtr (tm 37) (kI 200))])
 (.cond (.tmp 38)
 (.region [iV 39 (.ab (tm 0)),
 iV 40 (.aj 4 (tm 3)),
 iV 41 (.load none (tm 40)),
 iC 42 17 [(tm 39), (kI 4), (tm 41)]])
 .skip))
 (.seq
 (.seq
 (.region [iV 43 (.ab (tm 0)),
 iC 44 29 [(tm 43)],
 iV 45 (.un .not (tm 44))])
 (.cond (.tmp 45)
 (.seq
 (.region [iV 4 (.ab (kI (-1)))])
 .ret)
 .skip))
 (.seq
 (.draw [iV 46 (.ab (tm 0)),
 iV 47 (.ab (tm 0)),
 iV 48 (.ab (tm 0)),
 iV 49 (.cw (tm 48)),
 iV 50 (.aj 3 (tm 49)),
 iV 51 (.load none (tm 50)),
 iV 52 (.load (some 5) (tm 3)),
 iV 53 (.bD 39 5 1 [(.int .i64 0), .ae, (.int .i64 0), (.str []), (.int .i64 0)] [(0, (tm 52))]),
 iV 54 (.append 39 5 64 (tm 51) (tm 53)),
 iV 55 (.ab (tm 0)),
 iV 56 (.cw (tm 55)),
 iV 57 (.aj 4 (tm 56)),
 iV 58 (.load none (tm 57)),
 iV 59 (.ab (tm 5)),
 iV 60 (.bD 3 1 1 [(.int .i64 0)] [(0, (tm 59))]),
 iV 61 (.append 3 1 8 (tm 58) (tm 60)),
 iV 62 (.cw (tm 46)),
 iV 63 (.aj 3 (tm 62)),
 iN (.store 1 (tm 63) (tm 54)),
 iV 64 (.cw (tm 47)),
 iV 65 (.aj 4 (tm 64)),
 iN (.store 1 (tm 65) (tm 61))] [(12, 8)])
 (.seq
 (.region [iV 66 (.ab (tm 0)),
 iV 67 (.cw (tm 66)),
 iV 68 (.aj 3 (tm 67)),
 iV 69 (.load none (tm 68)),
 iV 70 (.len (tm 69)),
 iV 71 (.bin .sub (tm 70) (kI 1)),
 iV 4 (.ab (tm 71))])
 .ret))))))),
 [.tmp 4]⟩
theorem aau : cd Tryd.prog G Tryd.f19 = some ey := by kernel_rfl
/- (*balustrade/expr.Reader).Fault -/
abbrev nY : Nat := 20
def bm : ax :=
 ⟨7,
 (.seq
 (.region [iV 2 (.alloc 25 [(.int .i64 0), (.int .i64 0)])])
 (.seq
 (.region [iV 3 (.ab (tm 0)),
 iV 4 (.cw (tm 3)),
 iV 5 (.aj 5 (tm 4)),
 iV 6 (.load (some 2) (tm 5)),
 iN (.store 2 (tm 2) (tm 6))])
 .ret)),
 [.cell 2 (some 2)]⟩
theorem aat : cd Tryd.prog G Tryd.f20 = some bm := by kernel_rfl
/- (*balustrade/expr.Reader).Tree -/
abbrev kO : Nat := 21
def dY : ax :=
 ⟨8,
 (.seq
 (.region [iV 2 (.ab (.const .ae))])
 (.seq
 (.region [iV 3 (.ab (tm 0)),
 iV 4 (.cw (tm 3)),
 iV 5 (.aj 3 (tm 4)),
 iV 6 (.load none (tm 5)),
 iC 7 35 [(tm 6)],
 iV 2 (.ab (tm 7))])
 .ret)),
 [.tmp 2]⟩
theorem aas : cd Tryd.prog G Tryd.f21 = some dY := by kernel_rfl
/- balustrade/balustraderef06.Right -/
abbrev I6 : Nat := 22
def gu : aH :=
 (.seq
 (.seq
 (.region [iV 14 (.ab (tm 5)),
 iV 15 (.ab (tm 0)),
 iV 16 (.ab (tm 4)),
 iV 17 (.eu 5 (tm 15) (tm 16)),
 iV 18 (.aj 1 (tm 17)),
 iV 19 (.load none (tm 18)),
 iV 20 (.len (tm 19)),
 iV 21 (.bin .lss (tm 14) (tm 20))])
 (.cond (.tmp 21)
 .skip
 (.exit 2)))
 (.seq
 (.block 3
 (.seq
 (.region [iV 24 (.ab (tm 0)),
 iV 25 (.ab (tm 4)),
 iV 26 (.eu 5 (tm 24) (tm 25)),
 iV 27 (.aj 1 (tm 26)),
 iV 28 (.load none (tm 27)),
 iV 29 (.ab (tm 5)),
 iV 30 (.eu 1 (tm 28) (tm 29)),
 iV 31 (.load none (tm 30)),
 iV 6 (.ab (tm 31))])
 (.seq
 (.seq
 (.region [iV 32 (.ab (tm 6)),
 iV 33 (.bin .lss (tm 32) (kI 0)),
 iV 34 (.ab (tm 33)),
 iG 35 (.ab (tm 6)) 34 false,
 iG 36 (.ab (tm 4)) 34 false,
 iG 37 (.bin .geq (tm 35) (tm 36)) 34 false,
 iV 38 (.pick (tm 34) (.const (.bool true)) (tm 37)),
 iV 39 (.ab (tm 38)),
 iG 40 (.ab (tm 3)) 39 false,
 iG 41 (.ab (tm 6)) 39 false,
 iH 42 10 [(tm 40), (tm 41)] 39 false,
 iV 43 (.pick (tm 39) (.const (.bool true)) (tm 42))])
 (.cond (.tmp 43)
 (.seq
 (.region [iV 2 (.ab (.const (.bool false)))])
 .ret)
 .skip))
 (.region [iV 44 (.ab (tm 3)),
 iV 45 (.ab (tm 6)),
 iV 46 (.bD 3 1 1 [(.int .i64 0)] [(0, (tm 45))]),
 iV 47 (.append 3 1 8 (tm 44) (tm 46)),
 iV 3 (.ab (tm 47))]))))
 (.region [iV 22 (.ab (tm 5)),
 iV 23 (.bin .add (tm 22) (kI 1)),
 iV 5 (.ab (tm 23))])))
def gr : aH :=
 (.seq
 (.seq
 (.region [iV 8 (.ab (tm 4)),
 iV 9 (.ab (tm 0)),
 iV 10 (.len (tm 9)),
 iV 11 (.bin .lss (tm 8) (tm 10))])
 (.cond (.tmp 11)
 .skip
 (.exit 0)))
 (.seq
 (.block 1
 (.seq
 (.seq
 (.region [iV 5 (.ab (kI 0))])
 (.block 2
 (.loop gu)))
 (.seq
 (.region [iV 48 (.ab (tm 0)),
 iV 49 (.ab (tm 4)),
 iV 50 (.eu 5 (tm 48) (tm 49)),
 iV 51 (.load (some 5) (tm 50)),
 iC 52 36 [(tm 51)],
 iV 53 (.un .not (tm 52)),
 iV 54 (.ab (tm 53)),
 iG 55 (.ab (tm 0)) 54 false,
 iG 56 (.ab (tm 0)) 54 false,
 iG 57 (.ab (tm 4)) 54 false,
 iG 58 (.eu 5 (tm 56) (tm 57)) 54 false,
 iG 59 (.load (some 5) (tm 58)) 54 false,
 iH 60 37 [(tm 55), (tm 59)] 54 false,
 iG 61 (.un .not (tm 60)) 54 false,
 iV 62 (.pick (tm 54) (.const (.bool true)) (tm 61))])
 (.cond (.tmp 62)
 (.seq
 (.region [iV 2 (.ab (.const (.bool false)))])
 .ret)
 .skip))))
 (.region [iV 12 (.ab (tm 4)),
 iV 13 (.bin .add (tm 12) (kI 1)),
 iV 4 (.ab (tm 13))])))
def iY : ax :=
 ⟨82,
 (.seq
 (.region [iV 2 (.ab (.const (.bool false)))])
 (.seq
 (.region [iV 7 (.bD 3 1 0 [(.int .i64 0)] []),
 iV 3 (.ab (tm 7))])
 (.seq
 (.seq
 (.region [iV 4 (.ab (kI 0))])
 (.block 0
 (.loop gr)))
 (.seq
 (.region [iV 63 (.ab (tm 0)),
 iV 64 (.len (tm 63)),
 iV 65 (.bin .gtr (tm 64) (kI 0)),
 iV 66 (.ab (tm 65)),
 iG 67 (.ab (tm 3)) 66 true,
 iG 68 (.len (tm 67)) 66 true,
 iG 69 (.ab (tm 0)) 66 true,
 iG 70 (.len (tm 69)) 66 true,
 iG 71 (.bin .sub (tm 70) (kI 1)) 66 true,
 iG 72 (.eq false (.aJ 1) (tm 68) (tm 71)) 66 true,
 iV 73 (.pick (tm 66) (tm 72) (.const (.bool false))),
 iV 74 (.ab (tm 73)),
 iG 75 (.ab (tm 0)) 74 true,
 iG 76 (.ab (tm 0)) 74 true,
 iG 77 (.len (tm 76)) 74 true,
 iG 78 (.bin .sub (tm 77) (kI 1)) 74 true,
 iH 79 38 [(tm 75), (tm 78)] 74 true,
 iG 80 (.bin .leq (tm 79) (kI 200)) 74 true,
 iV 81 (.pick (tm 74) (tm 80) (.const (.bool false))),
 iV 2 (.ab (tm 81))])
 .ret)))),
 [.tmp 2]⟩
theorem aar : cd Tryd.prog G Tryd.f22 = some iY := by kernel_rfl
/- balustrade/balustraderef06.Tell -/
abbrev Va : Nat := 23
def FU : aH :=
 (.seq
 (.seq
 (.region [iV 66 (.ab (tm 7)),
 iV 67 (.aj 1 (tm 5)),
 iV 68 (.load none (tm 67)),
 iV 69 (.len (tm 68)),
 iV 70 (.bin .lss (tm 66) (tm 69))])
 (.cond (.tmp 70)
 .skip
 (.exit 0)))
 (.seq
 (.block 1
 (.region [iV 73 (.ab (tm 6)),
 iV 74 (.bin .add (tm 73) (kS [32])),
 iV 75 (.ab (tm 0)),
 iV 76 (.aj 1 (tm 5)),
 iV 77 (.load none (tm 76)),
 iV 78 (.ab (tm 7)),
 iV 79 (.eu 1 (tm 77) (tm 78)),
 iV 80 (.load none (tm 79)),
 iC 81 23 [(tm 75), (tm 80)],
 iV 82 (.bin .add (tm 74) (tm 81)),
 iV 6 (.ab (tm 82))]))
 (.region [iV 71 (.ab (tm 7)),
 iV 72 (.bin .add (tm 71) (kI 1)),
 iV 7 (.ab (tm 72))])))
def mL : ax :=
 ⟨86,
 (.seq
 (.region [iV 4 (.ab (kS []))])
 (.seq
 (.region [iV 8 (.ab (tm 0)),
 iV 9 (.ab (tm 1)),
 iV 10 (.eu 5 (tm 8) (tm 9)),
 iV 11 (.load (some 5) (tm 10)),
 iV 5 (.alloc 39 [(.int .i64 0), .ae, (.int .i64 0), (.str []), (.int .i64 0)]),
 iN (.store 5 (tm 5) (tm 11))])
 (.seq
 (.seq
 (.region [iV 12 (.aj 0 (tm 5)),
 iV 13 (.load none (tm 12)),
 iV 14 (.eq false (.aJ 1) (tm 13) (kI 1))])
 (.cond (.tmp 14)
 (.seq
 (.region [iV 15 (.aj 2 (tm 5)),
 iV 16 (.load none (tm 15)),
 iC 17 39 [(tm 16)],
 iV 4 (.ab (tm 17))])
 .ret)
 .skip))
 (.seq
 (.seq
 (.region [iV 18 (.aj 0 (tm 5)),
 iV 19 (.load none (tm 18)),
 iV 20 (.eq false (.aJ 1) (tm 19) (kI 2)),
 iV 21 (.ab (tm 20)),
 iG 22 (.aj 2 (tm 5)) 21 true,
 iG 23 (.load none (tm 22)) 21 true,
 iG 24 (.eq false (.aJ 1) (tm 23) (kI 1)) 21 true,
 iV 25 (.pick (tm 21) (tm 24) (.const (.bool false)))])
 (.cond (.tmp 25)
 (.seq
 (.region [iV 4 (.ab (kS [116, 114, 117, 101]))])
 .ret)
 .skip))
 (.seq
 (.seq
 (.region [iV 26 (.aj 0 (tm 5)),
 iV 27 (.load none (tm 26)),
 iV 28 (.eq false (.aJ 1) (tm 27) (kI 2))])
 (.cond (.tmp 28)
 (.seq
 (.region [iV 4 (.ab (kS [102, 97, 108, 115, 101]))])
 .ret)
 .skip))
 (.seq
 (.seq
 (.region [iV 29 (.aj 0 (tm 5)),
 iV 30 (.load none (tm 29)),
 iV 31 (.bin .leq (tm 30) (kI 4))])
 (.cond (.tmp 31)
 (.seq
 (.draw [iV 32 (.load (some 5) (tm 5)),
 iC 33 40 [(tm 32)],
 iV 34 (.aj 3 (tm 5)),
 iV 35 (.load none (tm 34)),
 iV 36 (.bin .add (tm 33) (tm 35)),
 iV 4 (.ab (tm 36))] [(3, 1)])
 .ret)
 .skip))
 (.seq
 (.region [iV 37 (.load (some 5) (tm 5)),
 iC 38 40 [(tm 37)],
 iV 6 (.ab (tm 38))])
 (.seq
 (.seq
 (.region [iV 39 (.aj 3 (tm 5)),
 iV 40 (.load none (tm 39)),
 iV 41 (.eq true (.aJ 2) (tm 40) (kS [])),
 iV 42 (.ab (tm 41)),
 iG 43 (.ab (tm 6)) 42 true,
 iG 44 (.eq true (.aJ 2) (tm 43) (kS [])) 42 true,
 iV 45 (.pick (tm 42) (tm 44) (.const (.bool false)))])
 (.cond (.tmp 45)
 (.region [iV 46 (.ab (tm 6)),
 iV 47 (.bin .add (tm 46) (kS [32])),
 iV 6 (.ab (tm 47))])
 .skip))
 (.seq
 (.region [iV 48 (.ab (tm 6)),
 iV 49 (.aj 3 (tm 5)),
 iV 50 (.load none (tm 49)),
 iV 51 (.bin .add (tm 48) (tm 50)),
 iV 6 (.ab (tm 51))])
 (.seq
 (.seq
 (.region [iV 52 (.aj 0 (tm 5)),
 iV 53 (.load none (tm 52)),
 iV 54 (.eq false (.aJ 1) (tm 53) (kI 24)),
 iV 55 (.ab (tm 54)),
 iG 56 (.aj 0 (tm 5)) 55 false,
 iG 57 (.load none (tm 56)) 55 false,
 iG 58 (.eq false (.aJ 1) (tm 57) (kI 25)) 55 false,
 iV 59 (.pick (tm 55) (.const (.bool true)) (tm 58))])
 (.cond (.tmp 59)
 (.region [iV 60 (.ab (tm 6)),
 iV 61 (.bin .add (tm 60) (kS [32])),
 iV 62 (.aj 2 (tm 5)),
 iV 63 (.load none (tm 62)),
 iC 64 41 [(tm 63)],
 iV 65 (.bin .add (tm 61) (tm 64)),
 iV 6 (.ab (tm 65))])
 .skip))
 (.seq
 (.seq
 (.region [iV 7 (.ab (kI 0))])
 (.block 0
 (.loop FU)))
 (.seq
 (.region [iV 83 (.ab (tm 6)),
 iV 84 (.bin .add (kS [40]) (tm 83)),
 iV 85 (.bin .add (tm 84) (kS [41])),
 iV 4 (.ab (tm 85))])
 .ret)))))))))))),
 [.tmp 4]⟩
theorem aaq : cd Tryd.prog G Tryd.f23 = some mL := by kernel_rfl
end
section
/- (*balustrade/lex.scanner).next -/
abbrev ba : Nat := 27
def gx : ax :=
 ⟨73,
 (.seq
 (.region [iV 2 (.ab (kI 0))])
 (.seq
 (.draw [iV 8 (.ab (tm 0)),
 iV 9 (.cw (tm 8)),
 iV 10 (.aj 0 (tm 9)),
 iV 11 (.load none (tm 10)),
 iV 12 (.ab (tm 0)),
 iV 13 (.cw (tm 12)),
 iV 14 (.aj 1 (tm 13)),
 iV 15 (.load none (tm 14)),
 iV 16 (.jF (tm 11) (some (tm 15)) none),
 iV 3 (.alloc 9 [(.str [])]),
 iN (.store 1 (tm 3) (tm 16))] [])
 (.seq
 (.seq
 (.region [iV 17 (.load none (tm 3)),
 iV 18 (.gp (tm 17) (kI 0)),
 iC 19 48 [(tm 18)]])
 (.block 0
 (.seq
 (.region [iV 21 (.eq false (.aJ 1) (tm 19) (kI 1)),
 iV 20 (.ab (tm 21))])
 (.cond (.tmp 20)
 (.draw [iV 22 (.ab (tm 0)),
 iV 23 (.cw (tm 22)),
 iV 24 (.aj 1 (tm 23)),
 iV 25 (.load none (tm 24)),
 iV 26 (.load none (tm 3)),
 iV 27 (.bD 3 1 1 [(.int .i64 0)] [(0, (kI 1))]),
 iC 28 49 [(tm 26), (tm 27)],
 iV 29 (.bin .add (tm 25) (tm 28)),
 iV 30 (.cw (tm 22)),
 iV 31 (.aj 1 (tm 30)),
 iN (.store 1 (tm 31) (tm 29))] [(3, 6)])
 (.seq
 (.region [iV 33 (.eq false (.aJ 1) (tm 19) (kI 2)),
 iV 32 (.ab (tm 33))])
 (.cond (.tmp 32)
 (.seq
 (.region [iV 35 (.load none (tm 3)),
 iC 36 50 [(tm 35), (kS [10])],
 iV 34 (.ab (tm 36)),
 iV 37 (.extract (tm 34) 0),
 iV 38 (.extract (tm 34) 1),
 iV 39 (.extract (tm 34) 2),
 iV 4 (.ab (tm 37)),
 iV 5 (.ab (tm 38)),
 iV 6 (.ab (tm 39))])
 (.region [iV 40 (.ab (tm 0)),
 iV 41 (.cw (tm 40)),
 iV 42 (.aj 1 (tm 41)),
 iV 43 (.load none (tm 42)),
 iV 44 (.ab (tm 4)),
 iV 45 (.eG (tm 44)),
 iV 46 (.bin .add (tm 43) (tm 45)),
 iV 47 (.cw (tm 40)),
 iV 48 (.aj 1 (tm 47)),
 iN (.store 1 (tm 48) (tm 46))]))
 (.seq
 (.region [iV 50 (.eq false (.aJ 1) (tm 19) (kI 3)),
 iV 49 (.ab (tm 50))])
 (.cond (.tmp 49)
 (.seq
 (.region [iV 51 (.ab (tm 0)),
 iV 52 (.load none (tm 3)),
 iC 53 51 [(tm 51), (tm 52)],
 iV 2 (.ab (tm 53))])
 .ret)
 (.seq
 (.region [iV 55 (.eq false (.aJ 1) (tm 19) (kI 4)),
 iV 54 (.ab (tm 55))])
 (.cond (.tmp 54)
 (.seq
 (.region [iV 56 (.ab (tm 0)),
 iV 57 (.load none (tm 3)),
 iC 58 52 [(tm 56), (tm 57)],
 iV 2 (.ab (tm 58))])
 .ret)
 (.seq
 (.region [iV 60 (.eq false (.aJ 1) (tm 19) (kI 5)),
 iV 59 (.ab (tm 60))])
 (.cond (.tmp 59)
 (.seq
 (.region [iV 61 (.load none (.const (.ptr 0 0))),
 iV 62 (.BD 54 [] [(tm 3)]),
 iC 63 53 [(tm 61), (tm 62)],
 iV 7 (.ab (tm 63))])
 (.seq
 (.seq
 (.region [iV 64 (.ab (tm 7)),
 iV 65 (.bin .lss (tm 64) (kI 0))])
 (.cond (.tmp 65)
 (.seq
 (.region [iV 2 (.ab (kI 6))])
 .ret)
 .skip))
 (.region [iV 66 (.ab (tm 0)),
 iV 67 (.load none (.const (.ptr 0 0))),
 iV 68 (.ab (tm 7)),
 iV 69 (.eu 1 (tm 67) (tm 68)),
 iV 70 (.load none (tm 69)),
 iV 71 (.eG (tm 70)),
 iC 72 28 [(tm 66), (kI 4), (tm 71), (kI 0)]])))
 (.seq
 (.region [iV 2 (.ab (kI 6))])
 .ret)))))))))))))
 (.seq
 (.region [iV 2 (.ab (kI 0))])
 .ret)))),
 [.tmp 2]⟩
theorem aap : cd Tryd.prog G Tryd.f27 = some gx := by kernel_rfl
/- (*balustrade/lex.scanner).put -/
abbrev fJ : Nat := 28
def ev : ax :=
 ⟨47,
 (.seq
 (.draw [iV 8 (.ab (tm 0)),
 iV 9 (.ab (tm 0)),
 iV 10 (.cw (tm 9)),
 iV 11 (.aj 2 (tm 10)),
 iV 12 (.load none (tm 11)),
 iV 13 (.ab (tm 1)),
 iV 14 (.ab (tm 0)),
 iV 15 (.cw (tm 14)),
 iV 16 (.aj 0 (tm 15)),
 iV 17 (.load none (tm 16)),
 iV 18 (.ab (tm 0)),
 iV 19 (.cw (tm 18)),
 iV 20 (.aj 1 (tm 19)),
 iV 21 (.load none (tm 20)),
 iV 22 (.ab (tm 0)),
 iV 23 (.cw (tm 22)),
 iV 24 (.aj 1 (tm 23)),
 iV 25 (.load none (tm 24)),
 iV 26 (.ab (tm 2)),
 iV 27 (.bin .add (tm 25) (tm 26)),
 iV 28 (.jF (tm 17) (some (tm 21)) (some (tm 27))),
 iV 29 (.ab (tm 3)),
 iV 30 (.ab (tm 0)),
 iV 31 (.cw (tm 30)),
 iV 32 (.aj 1 (tm 31)),
 iV 33 (.load none (tm 32)),
 iV 34 (.build [(.int .i64 0), (.str []), (.int .i64 0), (.int .i64 0)] [(0, 1, (tm 13)), (1, 1, (tm 28)), (2, 1, (tm 29)), (3, 1, (tm 33))]),
 iV 35 (.bD 36 4 1 [(.int .i64 0), (.str []), (.int .i64 0), (.int .i64 0)] [(0, (tm 34))]),
 iV 36 (.append 36 4 40 (tm 12) (tm 35)),
 iV 37 (.cw (tm 8)),
 iV 38 (.aj 2 (tm 37)),
 iN (.store 1 (tm 38) (tm 36))] [])
 (.region [iV 39 (.ab (tm 0)),
 iV 40 (.cw (tm 39)),
 iV 41 (.aj 1 (tm 40)),
 iV 42 (.load none (tm 41)),
 iV 43 (.ab (tm 2)),
 iV 44 (.bin .add (tm 42) (tm 43)),
 iV 45 (.cw (tm 39)),
 iV 46 (.aj 1 (tm 45)),
 iN (.store 1 (tm 46) (tm 44))])),
 []⟩
theorem aao : cd Tryd.prog G Tryd.f28 = some ev := by kernel_rfl
/- (*balustrade/expr.Reader).fine -/
abbrev jg : Nat := 29
def bq : ax :=
 ⟨9,
 (.seq
 (.region [iV 2 (.ab (.const (.bool false)))])
 (.seq
 (.region [iV 3 (.ab (tm 0)),
 iV 4 (.cw (tm 3)),
 iV 5 (.aj 5 (tm 4)),
 iV 6 (.aj 0 (tm 5)),
 iV 7 (.load none (tm 6)),
 iV 8 (.eq false (.aJ 1) (tm 7) (kI 0)),
 iV 2 (.ab (tm 8))])
 .ret)),
 [.tmp 2]⟩
theorem aan : cd Tryd.prog G Tryd.f29 = some bq := by kernel_rfl
/- (*balustrade/expr.Reader).Want -/
abbrev aO : Nat := 30
def di : ax :=
 ⟨17,
 (.seq
 (.region [iV 4 (.ab (.const (.bool false)))])
 (.seq
 (.region [iV 6 (.ab (tm 0)),
 iV 7 (.ab (tm 1)),
 iC 8 56 [(tm 6), (tm 7)],
 iV 5 (.ab (tm 8))])
 (.seq
 (.seq
 (.region [iV 9 (.ab (tm 5)),
 iV 10 (.un .not (tm 9))])
 (.cond (.tmp 10)
 (.region [iV 11 (.ab (tm 0)),
 iV 12 (.ab (tm 0)),
 iC 13 15 [(tm 12)],
 iV 14 (.AS none 3 (tm 13)),
 iC 15 17 [(tm 11), (kI 8), (tm 14)]])
 .skip))
 (.seq
 (.region [iV 16 (.ab (tm 5)),
 iV 4 (.ab (tm 16))])
 .ret)))),
 [.tmp 4]⟩
theorem aam : cd Tryd.prog G Tryd.f30 = some di := by kernel_rfl
/- (*balustrade/expr.Reader).Name -/
abbrev eF : Nat := 31
def cH : ax :=
 ⟨20,
 (.seq
 (.region [iV 2 (.ab (kS []))])
 (.seq
 (.seq
 (.region [iV 3 (.ab (tm 0)),
 iC 4 29 [(tm 3)],
 iV 5 (.un .not (tm 4)),
 iV 6 (.ab (tm 5)),
 iG 7 (.ab (tm 0)) 6 false,
 iH 8 15 [(tm 7)] 6 false,
 iG 9 (.AS none 0 (tm 8)) 6 false,
 iG 10 (.eq true (.aJ 1) (tm 9) (kI 1)) 6 false,
 iV 11 (.pick (tm 6) (.const (.bool true)) (tm 10))])
 (.cond (.tmp 11)
 (.seq
 (.region [iV 12 (.ab (tm 0)),
 iV 13 (.ab (tm 0)),
 iC 14 15 [(tm 13)],
 iV 15 (.AS none 3 (tm 14)),
 iC 16 17 [(tm 12), (kI 8), (tm 15)]])
 (.seq
 (.region [iV 2 (.ab (kS []))])
 .ret))
 .skip))
 (.seq
 (.region [iV 17 (.ab (tm 0)),
 iC 18 57 [(tm 17)],
 iV 19 (.AS none 1 (tm 18)),
 iV 2 (.ab (tm 19))])
 .ret))),
 [.tmp 2]⟩
theorem aal : cd Tryd.prog G Tryd.f31 = some cH := by kernel_rfl
/- (balustrade/parse.reader).parameters -/
abbrev j9 : Nat := 32
def aD : aH :=
 (.seq
 (.seq
 (.region [iV 14 (.ab (tm 4)),
 iV 15 (.ab (tm 14)),
 iG 16 (.load (some 1) (tm 1)) 15 true,
 iH 17 14 [(tm 16)] 15 true,
 iV 18 (.pick (tm 15) (tm 17) (.const (.bool false)))])
 (.cond (.tmp 18)
 .skip
 (.exit 0)))
 (.seq
 (.block 1
 (.seq
 (.region [iV 22 (.aj 0 (tm 1)),
 iV 23 (.load none (tm 22)),
 iC 24 15 [(tm 23)],
 iV 25 (.AS none 3 (tm 24)),
 iV 5 (.ab (tm 25))])
 (.seq
 (.region [iV 26 (.aj 0 (tm 1)),
 iV 27 (.load none (tm 26)),
 iC 28 31 [(tm 27)],
 iV 6 (.ab (tm 28))])
 (.seq
 (.seq
 (.region [iV 29 (.ab (tm 3)),
 iV 30 (.len (tm 29)),
 iV 31 (.eq false (.aJ 1) (tm 30) (kI 8))])
 (.cond (.tmp 31)
 (.region [iV 32 (.aj 0 (tm 1)),
 iV 33 (.load none (tm 32)),
 iV 34 (.ab (tm 5)),
 iC 35 17 [(tm 33), (kI 3), (tm 34)]])
 .skip))
 (.draw [iV 36 (.ab (tm 3)),
 iV 37 (.aj 0 (tm 1)),
 iV 38 (.load none (tm 37)),
 iV 39 (.ab (tm 6)),
 iV 40 (.load (some 1) (tm 1)),
 iC 41 33 [(tm 40)],
 iV 42 (.ab (tm 5)),
 iV 43 (.build [(.int .i64 0), .ae, (.int .i64 0), (.str []), (.int .i64 0)] [(0, 1, (kI 24)), (3, 1, (tm 39)), (2, 1, (tm 41)), (4, 1, (tm 42))]),
 iC 44 19 [(tm 38), (tm 43)],
 iV 45 (.bD 3 1 1 [(.int .i64 0)] [(0, (tm 44))]),
 iV 46 (.append 3 1 8 (tm 36) (tm 45)),
 iV 3 (.ab (tm 46))] [(2, 5)])))))
 (.region [iV 19 (.aj 0 (tm 1)),
 iV 20 (.load none (tm 19)),
 iC 21 56 [(tm 20), (kS [44])],
 iV 4 (.ab (tm 21))])))
def bU : ax :=
 ⟨51,
 (.seq
 (.region [iV 1 (.box 45 (tm 0)),
 iV 2 (.ab (.const .ae))])
 (.seq
 (.region [iV 7 (.aj 0 (tm 1)),
 iV 8 (.load none (tm 7)),
 iC 9 30 [(tm 8), (kS [40])]])
 (.seq
 (.region [iV 3 (.ab (.const .ae))])
 (.seq
 (.seq
 (.region [iV 10 (.aj 0 (tm 1)),
 iV 11 (.load none (tm 10)),
 iC 12 16 [(tm 11), (kS [41])],
 iV 13 (.un .not (tm 12)),
 iV 4 (.ab (tm 13))])
 (.block 0
 (.loop aD)))
 (.seq
 (.region [iV 47 (.aj 0 (tm 1)),
 iV 48 (.load none (tm 47)),
 iC 49 30 [(tm 48), (kS [41])]])
 (.seq
 (.region [iV 50 (.ab (tm 3)),
 iV 2 (.ab (tm 50))])
 .ret)))))),
 [.tmp 2]⟩
theorem aak : cd Tryd.prog G Tryd.f32 = some bU := by kernel_rfl
/- (balustrade/parse.reader).kind -/
abbrev iA : Nat := 33
def de : aH :=
 (.seq
 (.region [iV 8 (.bin .lss (tm 7) (tm 6))])
 (.seq
 (.cond (.tmp 8)
 .skip
 (.exit 0))
 (.seq
 (.block 1
 (.seq
 (.region [iV 9 (.ab (tm 7)),
 iV 10 (.eu 1 (tm 5) (tm 7)),
 iV 11 (.load none (tm 10)),
 iV 3 (.ab (tm 9)),
 iV 4 (.ab (tm 11))])
 (.seq
 (.region [iV 12 (.aj 0 (tm 1)),
 iV 13 (.load none (tm 12)),
 iV 14 (.ab (tm 4)),
 iC 15 56 [(tm 13), (tm 14)]])
 (.cond (.tmp 15)
 (.seq
 (.region [iV 16 (.ab (tm 3)),
 iV 17 (.bin .add (tm 16) (kI 1)),
 iV 2 (.ab (tm 17))])
 .ret)
 .skip))))
 (.region [iV 18 (.bin .add (tm 7) (kI 1)),
 iV 7 (.ab (tm 18))]))))
def dA : ax :=
 ⟨26,
 (.seq
 (.region [iV 1 (.box 45 (tm 0)),
 iV 2 (.ab (kI 0))])
 (.seq
 (.seq
 (.region [iV 5 (.bD 9 1 3 [(.str [])] [(0, (kS [105, 110, 116])), (1, (kS [98, 111, 111, 108])), (2, (kS [97, 114, 114]))]),
 iV 6 (.len (tm 5)),
 iV 7 (.ab (kI 0))])
 (.block 0
 (.loop de)))
 (.seq
 (.draw [iV 19 (.aj 0 (tm 1)),
 iV 20 (.load none (tm 19)),
 iV 21 (.aj 0 (tm 1)),
 iV 22 (.load none (tm 21)),
 iC 23 15 [(tm 22)],
 iV 24 (.AS none 3 (tm 23)),
 iC 25 17 [(tm 20), (kI 8), (tm 24)]] [(1, 4)])
 (.seq
 (.region [iV 2 (.ab (kI 0))])
 .ret)))),
 [.tmp 2]⟩
theorem aaj : cd Tryd.prog G Tryd.f33 = some dA := by kernel_rfl
/- (balustrade/parse.reader).block -/
abbrev eO : Nat := 34
def dN : aH :=
 (.seq
 (.seq
 (.region [iV 20 (.aj 0 (tm 1)),
 iV 21 (.load none (tm 20)),
 iC 22 56 [(tm 21), (kS [125])],
 iV 23 (.un .not (tm 22))])
 (.cond (.tmp 23)
 .skip
 (.exit 0)))
 (.block 1
 (.seq
 (.region [iV 24 (.ab (tm 4)),
 iV 25 (.load (some 1) (tm 1)),
 iC 26 59 [(tm 25)],
 iV 27 (.bD 3 1 1 [(.int .i64 0)] [(0, (tm 26))]),
 iV 28 (.append 3 1 8 (tm 24) (tm 27)),
 iV 4 (.ab (tm 28))])
 (.seq
 (.region [iV 29 (.load (some 1) (tm 1)),
 iC 30 14 [(tm 29)],
 iV 31 (.un .not (tm 30))])
 (.cond (.tmp 31)
 (.exit 0)
 .skip)))))
def cZ : ax :=
 ⟨41,
 (.seq
 (.region [iV 1 (.box 45 (tm 0)),
 iV 2 (.ab (kI 0))])
 (.seq
 (.region [iV 5 (.aj 0 (tm 1)),
 iV 6 (.load none (tm 5)),
 iC 7 15 [(tm 6)],
 iV 8 (.AS none 3 (tm 7)),
 iV 3 (.ab (tm 8))])
 (.seq
 (.seq
 (.region [iV 9 (.aj 0 (tm 1)),
 iV 10 (.load none (tm 9)),
 iC 11 30 [(tm 10), (kS [123])],
 iV 12 (.un .not (tm 11)),
 iV 13 (.ab (tm 12)),
 iG 14 (.aj 0 (tm 1)) 13 false,
 iG 15 (.load none (tm 14)) 13 false,
 iG 16 (.ab (tm 3)) 13 false,
 iH 17 58 [(tm 15), (tm 16)] 13 false,
 iG 18 (.un .not (tm 17)) 13 false,
 iV 19 (.pick (tm 13) (.const (.bool true)) (tm 18))])
 (.cond (.tmp 19)
 (.seq
 (.region [iV 2 (.ab (kI (-1)))])
 .ret)
 .skip))
 (.seq
 (.region [iV 4 (.ab (.const .ae))])
 (.seq
 .skip
 (.seq
 (.block 0
 (.loop dN))
 (.seq
 (.region [iV 32 (.aj 0 (tm 1)),
 iV 33 (.load none (tm 32)),
 iC 34 60 [(tm 33)]])
 (.seq
 (.region [iV 35 (.aj 0 (tm 1)),
 iV 36 (.load none (tm 35)),
 iV 37 (.ab (tm 4)),
 iV 38 (.ab (tm 3)),
 iV 39 (.build [(.int .i64 0), .ae, (.int .i64 0), (.str []), (.int .i64 0)] [(0, 1, (kI 23)), (1, 1, (tm 37)), (4, 1, (tm 38))]),
 iC 40 19 [(tm 36), (tm 39)],
 iV 2 (.ab (tm 40))])
 .ret)))))))),
 [.tmp 2]⟩
theorem aai : cd Tryd.prog G Tryd.f34 = some cZ := by kernel_rfl
/- slices.Clone[[]balustrade/api.Node,balustrade/api.Node] -/
abbrev rD : Nat := 35
def cq : ax :=
 ⟨8,
 (.seq
 (.region [iV 2 (.ab (.const .ae))])
 (.seq
 (.seq
 (.region [iV 3 (.ab (tm 0)),
 iV 4 (.eq false (.aJ 4) (tm 3) (.const .ae))])
 (.cond (.tmp 4)
 (.seq
 (.region [iV 2 (.ab (.const .ae))])
 .ret)
 .skip))
 (.seq
 (.region [iV 5 (.bD 39 5 0 [(.int .i64 0), .ae, (.int .i64 0), (.str []), (.int .i64 0)] []),
 iV 6 (.ab (tm 0)),
 iV 7 (.append 39 5 64 (tm 5) (tm 6)),
 iV 2 (.ab (tm 7))])
 .ret))),
 [.tmp 2]⟩
theorem aah : cd Tryd.prog G Tryd.f35 = some cq := by kernel_rfl
/- balustrade/balustraderef06.own -/
abbrev Ge : Nat := 36
def lh : ax :=
 ⟨83,
 (.seq
 (.region [iV 1 (.box 39 (tm 0)),
 iV 2 (.ab (.const (.bool false)))])
 (.seq
 (.seq
 (.draw [iV 3 (.aj 0 (tm 1)),
 iV 4 (.load none (tm 3)),
 iV 5 (.bin .lss (tm 4) (kI 1)),
 iV 6 (.ab (tm 5)),
 iG 7 (.aj 0 (tm 1)) 6 false,
 iG 8 (.load none (tm 7)) 6 false,
 iG 9 (.bin .gtr (tm 8) (kI 26)) 6 false,
 iV 10 (.pick (tm 6) (.const (.bool true)) (tm 9)),
 iV 11 (.ab (tm 10)),
 iG 12 (.aj 4 (tm 1)) 11 false,
 iG 13 (.load none (tm 12)) 11 false,
 iG 14 (.bin .lss (tm 13) (kI 0)) 11 false,
 iV 15 (.pick (tm 11) (.const (.bool true)) (tm 14)),
 iV 16 (.ab (tm 15)),
 iG 17 (.aj 0 (tm 1)) 16 false,
 iG 18 (.load none (tm 17)) 16 false,
 iH 19 61 [(tm 18)] 16 false,
 iG 20 (.aj 3 (tm 1)) 16 false,
 iG 21 (.load none (tm 20)) 16 false,
 iG 22 (.eq true (.aJ 2) (tm 21) (kS [])) 16 false,
 iG 23 (.eq true (.aJ 0) (tm 19) (tm 22)) 16 false,
 iV 24 (.pick (tm 16) (.const (.bool true)) (tm 23)),
 iV 25 (.ab (tm 24)),
 iG 26 (.aj 3 (tm 1)) 25 false,
 iG 27 (.load none (tm 26)) 25 false,
 iG 28 (.eq true (.aJ 2) (tm 27) (kS [])) 25 false,
 iG 29 (.ab (tm 28)) 25 false,
 iG 30 (.aj 3 (tm 1)) 29 true,
 iG 31 (.load none (tm 30)) 29 true,
 iH 32 62 [(tm 31)] 29 true,
 iG 33 (.un .not (tm 32)) 29 true,
 iG 34 (.pick (tm 29) (tm 33) (.const (.bool false))) 25 false,
 iV 35 (.pick (tm 25) (.const (.bool true)) (tm 34))] [(18, 16)])
 (.cond (.tmp 35)
 (.seq
 (.region [iV 2 (.ab (.const (.bool false)))])
 .ret)
 .skip))
 (.seq
 (.seq
 (.region [iV 36 (.aj 0 (tm 1)),
 iV 37 (.load none (tm 36)),
 iV 38 (.eq false (.aJ 1) (tm 37) (kI 1))])
 (.cond (.tmp 38)
 (.seq
 (.region [iV 39 (.aj 2 (tm 1)),
 iV 40 (.load none (tm 39)),
 iV 41 (.bin .geq (tm 40) (kI 0)),
 iV 2 (.ab (tm 41))])
 .ret)
 .skip))
 (.seq
 (.seq
 (.region [iV 42 (.aj 0 (tm 1)),
 iV 43 (.load none (tm 42)),
 iV 44 (.eq false (.aJ 1) (tm 43) (kI 2))])
 (.cond (.tmp 44)
 (.seq
 (.region [iV 45 (.aj 2 (tm 1)),
 iV 46 (.load none (tm 45)),
 iV 47 (.eq false (.aJ 1) (tm 46) (kI 0)),
 iV 48 (.ab (tm 47)),
 iG 49 (.aj 2 (tm 1)) 48 false,
 iG 50 (.load none (tm 49)) 48 false,
 iG 51 (.eq false (.aJ 1) (tm 50) (kI 1)) 48 false,
 iV 52 (.pick (tm 48) (.const (.bool true)) (tm 51)),
 iV 2 (.ab (tm 52))])
 .ret)
 .skip))
 (.seq
 (.seq
 (.region [iV 53 (.aj 0 (tm 1)),
 iV 54 (.load none (tm 53)),
 iV 55 (.eq false (.aJ 1) (tm 54) (kI 5))])
 (.cond (.tmp 55)
 (.seq
 (.region [iV 56 (.aj 2 (tm 1)),
 iV 57 (.load none (tm 56)),
 iV 58 (.bin .geq (tm 57) (kI 1)),
 iV 59 (.ab (tm 58)),
 iG 60 (.aj 2 (tm 1)) 59 true,
 iG 61 (.load none (tm 60)) 59 true,
 iG 62 (.bin .leq (tm 61) (kI 16)) 59 true,
 iV 63 (.pick (tm 59) (tm 62) (.const (.bool false))),
 iV 2 (.ab (tm 63))])
 .ret)
 .skip))
 (.seq
 (.seq
 (.region [iV 64 (.aj 0 (tm 1)),
 iV 65 (.load none (tm 64)),
 iV 66 (.eq false (.aJ 1) (tm 65) (kI 24)),
 iV 67 (.ab (tm 66)),
 iG 68 (.aj 0 (tm 1)) 67 false,
 iG 69 (.load none (tm 68)) 67 false,
 iG 70 (.eq false (.aJ 1) (tm 69) (kI 25)) 67 false,
 iV 71 (.pick (tm 67) (.const (.bool true)) (tm 70))])
 (.cond (.tmp 71)
 (.seq
 (.region [iV 72 (.aj 2 (tm 1)),
 iV 73 (.load none (tm 72)),
 iV 74 (.bin .geq (tm 73) (kI 1)),
 iV 75 (.ab (tm 74)),
 iG 76 (.aj 2 (tm 1)) 75 true,
 iG 77 (.load none (tm 76)) 75 true,
 iG 78 (.bin .leq (tm 77) (kI 3)) 75 true,
 iV 79 (.pick (tm 75) (tm 78) (.const (.bool false))),
 iV 2 (.ab (tm 79))])
 .ret)
 .skip))
 (.seq
 (.region [iV 80 (.aj 2 (tm 1)),
 iV 81 (.load none (tm 80)),
 iV 82 (.eq false (.aJ 1) (tm 81) (kI 0)),
 iV 2 (.ab (tm 82))])
 .ret))))))),
 [.tmp 2]⟩
theorem aag : cd Tryd.prog G Tryd.f36 = some lh := by kernel_rfl
/- balustrade/balustraderef06.kids -/
abbrev Eb : Nat := 37
def ij : aH :=
 (.seq
 (.seq
 (.region [iV 117 (.ab (tm 6)),
 iV 118 (.ab (tm 5)),
 iV 119 (.len (tm 118)),
 iV 120 (.bin .lss (tm 117) (tm 119))])
 (.cond (.tmp 120)
 .skip
 (.exit 1)))
 (.seq
 (.block 2
 (.seq
 (.region [iV 123 (.ab (tm 0)),
 iV 124 (.ab (tm 5)),
 iV 125 (.ab (tm 6)),
 iV 126 (.eu 1 (tm 124) (tm 125)),
 iV 127 (.load none (tm 126)),
 iV 128 (.eu 5 (tm 123) (tm 127)),
 iV 129 (.aj 0 (tm 128)),
 iV 130 (.load none (tm 129)),
 iC 131 65 [(tm 130)],
 iV 132 (.un .not (tm 131))])
 (.cond (.tmp 132)
 (.seq
 (.region [iV 4 (.ab (.const (.bool false)))])
 .ret)
 .skip)))
 (.region [iV 121 (.ab (tm 6)),
 iV 122 (.bin .add (tm 121) (kI 1)),
 iV 6 (.ab (tm 122))])))
def bi : ax :=
 ⟨168,
 (.seq
 (.region [iV 3 (.box 39 (tm 1)),
 iV 4 (.ab (.const (.bool false)))])
 (.seq
 (.region [iV 7 (.aj 1 (tm 3)),
 iV 8 (.load none (tm 7)),
 iV 5 (.ab (tm 8))])
 (.seq
 (.seq
 (.region [iV 9 (.aj 0 (tm 3)),
 iV 10 (.load none (tm 9))])
 (.block 0
 (.seq
 (.seq
 (.region [iV 12 (.eq false (.aJ 1) (tm 10) (kI 5)),
 iV 11 (.ab (tm 12))])
 (.cond (.tmp 11)
 .skip
 (.seq
 (.region [iV 13 (.eq false (.aJ 1) (tm 10) (kI 8)),
 iV 11 (.ab (tm 13))])
 (.cond (.tmp 11)
 .skip
 (.region [iV 14 (.eq false (.aJ 1) (tm 10) (kI 14)),
 iV 11 (.ab (tm 14))])))))
 (.cond (.tmp 11)
 (.seq
 (.region [iV 15 (.ab (tm 5)),
 iV 16 (.len (tm 15)),
 iV 17 (.eq false (.aJ 1) (tm 16) (kI 2)),
 iV 18 (.ab (tm 17)),
 iG 19 (.ab (tm 0)) 18 true,
 iG 20 (.ab (tm 5)) 18 true,
 iH 21 63 [(tm 19), (tm 20), (kI 2)] 18 true,
 iV 22 (.pick (tm 18) (tm 21) (.const (.bool false))),
 iV 4 (.ab (tm 22))])
 .ret)
 (.seq
 (.seq
 (.region [iV 24 (.eq false (.aJ 1) (tm 10) (kI 6)),
 iV 23 (.ab (tm 24))])
 (.cond (.tmp 23)
 .skip
 (.seq
 (.region [iV 25 (.eq false (.aJ 1) (tm 10) (kI 7)),
 iV 23 (.ab (tm 25))])
 (.cond (.tmp 23)
 .skip
 (.seq
 (.region [iV 26 (.eq false (.aJ 1) (tm 10) (kI 9)),
 iV 23 (.ab (tm 26))])
 (.cond (.tmp 23)
 .skip
 (.seq
 (.region [iV 27 (.eq false (.aJ 1) (tm 10) (kI 10)),
 iV 23 (.ab (tm 27))])
 (.cond (.tmp 23)
 .skip
 (.seq
 (.region [iV 28 (.eq false (.aJ 1) (tm 10) (kI 12)),
 iV 23 (.ab (tm 28))])
 (.cond (.tmp 23)
 .skip
 (.seq
 (.region [iV 29 (.eq false (.aJ 1) (tm 10) (kI 13)),
 iV 23 (.ab (tm 29))])
 (.cond (.tmp 23)
 .skip
 (.seq
 (.region [iV 30 (.eq false (.aJ 1) (tm 10) (kI 20)),
 iV 23 (.ab (tm 30))])
 (.cond (.tmp 23)
 .skip
 (.region [iV 31 (.eq false (.aJ 1) (tm 10) (kI 21)),
 iV 23 (.ab (tm 31))])))))))))))))))
 (.cond (.tmp 23)
 (.seq
 (.region [iV 32 (.ab (tm 5)),
 iV 33 (.len (tm 32)),
 iV 34 (.eq false (.aJ 1) (tm 33) (kI 1)),
 iV 35 (.ab (tm 34)),
 iG 36 (.ab (tm 0)) 35 true,
 iG 37 (.ab (tm 5)) 35 true,
 iH 38 63 [(tm 36), (tm 37), (kI 1)] 35 true,
 iV 39 (.pick (tm 35) (tm 38) (.const (.bool false))),
 iV 4 (.ab (tm 39))])
 .ret)
 (.seq
 (.region [iV 41 (.eq false (.aJ 1) (tm 10) (kI 11)),
 iV 40 (.ab (tm 41))])
 (.cond (.tmp 40)
 (.seq
 (.region [iV 42 (.ab (tm 5)),
 iV 43 (.len (tm 42)),
 iV 44 (.bin .leq (tm 43) (kI 8)),
 iV 45 (.ab (tm 44)),
 iG 46 (.ab (tm 0)) 45 true,
 iG 47 (.ab (tm 5)) 45 true,
 iG 48 (.ab (tm 5)) 45 true,
 iG 49 (.len (tm 48)) 45 true,
 iH 50 63 [(tm 46), (tm 47), (tm 49)] 45 true,
 iV 51 (.pick (tm 45) (tm 50) (.const (.bool false))),
 iV 4 (.ab (tm 51))])
 .ret)
 (.seq
 (.region [iV 53 (.eq false (.aJ 1) (tm 10) (kI 15)),
 iV 52 (.ab (tm 53))])
 (.cond (.tmp 52)
 (.seq
 (.region [iV 54 (.ab (tm 0)),
 iV 55 (.ab (tm 5)),
 iC 56 63 [(tm 54), (tm 55), (kI 1)],
 iV 57 (.ab (tm 56)),
 iG 58 (.ab (tm 5)) 57 true,
 iG 59 (.len (tm 58)) 57 true,
 iG 60 (.bin .geq (tm 59) (kI 2)) 57 true,
 iV 61 (.pick (tm 57) (tm 60) (.const (.bool false))),
 iV 62 (.ab (tm 61)),
 iG 63 (.ab (tm 0)) 62 true,
 iG 64 (.ab (tm 5)) 62 true,
 iG 65 (.uG 1 (tm 64) (some (kI 1)) none none) 62 true,
 iH 66 64 [(tm 63), (tm 65), (kI 23), (kI 2)] 62 true,
 iV 67 (.pick (tm 62) (tm 66) (.const (.bool false))),
 iV 4 (.ab (tm 67))])
 .ret)
 (.seq
 (.region [iV 69 (.eq false (.aJ 1) (tm 10) (kI 16)),
 iV 68 (.ab (tm 69))])
 (.cond (.tmp 68)
 (.seq
 (.region [iV 70 (.ab (tm 0)),
 iV 71 (.ab (tm 5)),
 iC 72 63 [(tm 70), (tm 71), (kI 1)],
 iV 73 (.ab (tm 72)),
 iG 74 (.ab (tm 5)) 73 true,
 iG 75 (.len (tm 74)) 73 true,
 iG 76 (.eq false (.aJ 1) (tm 75) (kI 2)) 73 true,
 iV 77 (.pick (tm 73) (tm 76) (.const (.bool false))),
 iV 78 (.ab (tm 77)),
 iG 79 (.ab (tm 0)) 78 true,
 iG 80 (.ab (tm 5)) 78 true,
 iG 81 (.uG 1 (tm 80) (some (kI 1)) none none) 78 true,
 iH 82 64 [(tm 79), (tm 81), (kI 23), (kI 1)] 78 true,
 iV 83 (.pick (tm 78) (tm 82) (.const (.bool false))),
 iV 4 (.ab (tm 83))])
 .ret)
 (.seq
 (.region [iV 85 (.eq false (.aJ 1) (tm 10) (kI 17)),
 iV 84 (.ab (tm 85))])
 (.cond (.tmp 84)
 (.seq
 (.region [iV 86 (.ab (tm 0)),
 iV 87 (.ab (tm 5)),
 iC 88 63 [(tm 86), (tm 87), (kI 2)],
 iV 89 (.ab (tm 88)),
 iG 90 (.ab (tm 5)) 89 true,
 iG 91 (.len (tm 90)) 89 true,
 iG 92 (.eq false (.aJ 1) (tm 91) (kI 3)) 89 true,
 iV 93 (.pick (tm 89) (tm 92) (.const (.bool false))),
 iV 94 (.ab (tm 93)),
 iG 95 (.ab (tm 0)) 94 true,
 iG 96 (.ab (tm 5)) 94 true,
 iG 97 (.uG 1 (tm 96) (some (kI 2)) none none) 94 true,
 iH 98 64 [(tm 95), (tm 97), (kI 23), (kI 1)] 94 true,
 iV 99 (.pick (tm 94) (tm 98) (.const (.bool false))),
 iV 4 (.ab (tm 99))])
 .ret)
 (.seq
 (.region [iV 101 (.eq false (.aJ 1) (tm 10) (kI 22)),
 iV 100 (.ab (tm 101))])
 (.cond (.tmp 100)
 (.seq
 (.region [iV 102 (.ab (tm 5)),
 iV 103 (.len (tm 102)),
 iV 104 (.eq false (.aJ 1) (tm 103) (kI 1)),
 iV 105 (.ab (tm 104)),
 iG 106 (.ab (tm 0)) 105 true,
 iG 107 (.ab (tm 5)) 105 true,
 iG 108 (.eu 1 (tm 107) (kI 0)) 105 true,
 iG 109 (.load none (tm 108)) 105 true,
 iG 110 (.eu 5 (tm 106) (tm 109)) 105 true,
 iG 111 (.aj 0 (tm 110)) 105 true,
 iG 112 (.load none (tm 111)) 105 true,
 iG 113 (.eq false (.aJ 1) (tm 112) (kI 11)) 105 true,
 iV 114 (.pick (tm 105) (tm 113) (.const (.bool false))),
 iV 4 (.ab (tm 114))])
 .ret)
 (.seq
 (.region [iV 116 (.eq false (.aJ 1) (tm 10) (kI 23)),
 iV 115 (.ab (tm 116))])
 (.cond (.tmp 115)
 (.seq
 (.seq
 (.region [iV 6 (.ab (kI 0))])
 (.block 1
 (.loop ij)))
 (.seq
 (.region [iV 4 (.ab (.const (.bool true)))])
 .ret))
 (.seq
 (.region [iV 134 (.eq false (.aJ 1) (tm 10) (kI 25)),
 iV 133 (.ab (tm 134))])
 (.cond (.tmp 133)
 (.seq
 (.region [iV 135 (.ab (tm 5)),
 iV 136 (.len (tm 135)),
 iV 137 (.bin .geq (tm 136) (kI 1)),
 iV 138 (.ab (tm 137)),
 iG 139 (.ab (tm 0)) 138 true,
 iG 140 (.ab (tm 5)) 138 true,
 iG 141 (.ab (tm 5)) 138 true,
 iG 142 (.len (tm 141)) 138 true,
 iG 143 (.bin .sub (tm 142) (kI 1)) 138 true,
 iG 144 (.uG 1 (tm 140) none (some (tm 143)) none) 138 true,
 iH 145 64 [(tm 139), (tm 144), (kI 24), (kI 8)] 138 true,
 iV 146 (.pick (tm 138) (tm 145) (.const (.bool false))),
 iV 147 (.ab (tm 146)),
 iG 148 (.ab (tm 0)) 147 true,
 iG 149 (.ab (tm 5)) 147 true,
 iG 150 (.ab (tm 5)) 147 true,
 iG 151 (.len (tm 150)) 147 true,
 iG 152 (.bin .sub (tm 151) (kI 1)) 147 true,
 iG 153 (.eu 1 (tm 149) (tm 152)) 147 true,
 iG 154 (.load none (tm 153)) 147 true,
 iG 155 (.eu 5 (tm 148) (tm 154)) 147 true,
 iG 156 (.aj 0 (tm 155)) 147 true,
 iG 157 (.load none (tm 156)) 147 true,
 iG 158 (.eq false (.aJ 1) (tm 157) (kI 23)) 147 true,
 iV 159 (.pick (tm 147) (tm 158) (.const (.bool false))),
 iV 4 (.ab (tm 159))])
 .ret)
 (.seq
 (.region [iV 161 (.eq false (.aJ 1) (tm 10) (kI 26)),
 iV 160 (.ab (tm 161))])
 (.cond (.tmp 160)
 (.seq
 (.region [iV 162 (.ab (tm 0)),
 iV 163 (.ab (tm 5)),
 iC 164 64 [(tm 162), (tm 163), (kI 25), (kI 200)],
 iV 4 (.ab (tm 164))])
 .ret)
 .skip))))))))))))))))))))))
 (.seq
 (.region [iV 165 (.ab (tm 5)),
 iV 166 (.len (tm 165)),
 iV 167 (.eq false (.aJ 1) (tm 166) (kI 0)),
 iV 4 (.ab (tm 167))])
 .ret)))),
 [.tmp 4]⟩
theorem aaf : cd Tryd.prog G Tryd.f37 = some bi := by kernel_rfl
/- balustrade/balustraderef06.Height -/
abbrev yX : Nat := 38
def fN : aH :=
 (.seq
 (.seq
 (.region [iV 7 (.ab (tm 6)),
 iV 8 (.ab (tm 0)),
 iV 9 (.ab (tm 1)),
 iV 10 (.eu 5 (tm 8) (tm 9)),
 iV 11 (.aj 1 (tm 10)),
 iV 12 (.load none (tm 11)),
 iV 13 (.len (tm 12)),
 iV 14 (.bin .lss (tm 7) (tm 13))])
 (.cond (.tmp 14)
 .skip
 (.exit 0)))
 (.seq
 (.block 1
 (.region [iV 17 (.ab (tm 5)),
 iV 18 (.ab (tm 0)),
 iV 19 (.ab (tm 0)),
 iV 20 (.ab (tm 1)),
 iV 21 (.eu 5 (tm 19) (tm 20)),
 iV 22 (.aj 1 (tm 21)),
 iV 23 (.load none (tm 22)),
 iV 24 (.ab (tm 6)),
 iV 25 (.eu 1 (tm 23) (tm 24)),
 iV 26 (.load none (tm 25)),
 iC 27 38 [(tm 18), (tm 26)],
 iV 28 (.bin .add (kI 1) (tm 27)),
 iV 29 (.max [(tm 17), (tm 28)]),
 iV 5 (.ab (tm 29))]))
 (.region [iV 15 (.ab (tm 6)),
 iV 16 (.bin .add (tm 15) (kI 1)),
 iV 6 (.ab (tm 16))])))
def gX : ax :=
 ⟨31,
 (.seq
 (.region [iV 4 (.ab (kI 0))])
 (.seq
 (.region [iV 5 (.ab (kI 1))])
 (.seq
 (.seq
 (.region [iV 6 (.ab (kI 0))])
 (.block 0
 (.loop fN)))
 (.seq
 (.region [iV 30 (.ab (tm 5)),
 iV 4 (.ab (tm 30))])
 .ret)))),
 [.tmp 4]⟩
theorem aae : cd Tryd.prog G Tryd.f38 = some gX := by kernel_rfl
/- balustrade/balustradebase.Itoa -/
abbrev Un : Nat := 39
def Fe : aH :=
 (.seq
 (.seq
 (.region [iV 9 (.ab (tm 4)),
 iV 10 (.eq true (.aJ 1) (tm 9) (kI 0))])
 (.cond (.tmp 10)
 .skip
 (.exit 0)))
 (.block 1
 (.seq
 (.region [iV 11 (.ab (tm 4)),
 iV 12 (.bin .rem (tm 11) (kI 10)),
 iV 5 (.ab (tm 12))])
 (.seq
 (.seq
 (.region [iV 13 (.ab (tm 5)),
 iV 14 (.bin .lss (tm 13) (kI 0))])
 (.cond (.tmp 14)
 (.region [iV 15 (.ab (tm 5)),
 iV 16 (.un .neg (tm 15)),
 iV 5 (.ab (tm 16))])
 .skip))
 (.seq
 (.region [iV 17 (.ab (tm 5)),
 iV 18 (.bin .add (kI 48) (tm 17)),
 iV 19 (.conv (.int .u8) (tm 18)),
 iV 20 (.bD 5 1 1 [(.int .u8 0)] [(0, (tm 19))]),
 iV 21 (.conv .text (tm 20)),
 iV 22 (.ab (tm 3)),
 iV 23 (.bin .add (tm 21) (tm 22)),
 iV 3 (.ab (tm 23))])
 (.region [iV 24 (.ab (tm 4)),
 iV 25 (.bin .quo (tm 24) (kI 10)),
 iV 4 (.ab (tm 25))]))))))
def lp : ax :=
 ⟨31,
 (.seq
 (.region [iV 2 (.ab (kS []))])
 (.seq
 (.seq
 (.region [iV 6 (.ab (tm 0)),
 iV 7 (.eq false (.aJ 1) (tm 6) (kI 0))])
 (.cond (.tmp 7)
 (.seq
 (.region [iV 2 (.ab (kS [48]))])
 .ret)
 .skip))
 (.seq
 (.region [iV 8 (.ab (tm 0)),
 iV 3 (.ab (kS [])),
 iV 4 (.ab (tm 8))])
 (.seq
 (.block 0
 (.loop Fe))
 (.seq
 (.seq
 (.region [iV 26 (.ab (tm 0)),
 iV 27 (.bin .lss (tm 26) (kI 0))])
 (.cond (.tmp 27)
 (.region [iV 28 (.ab (tm 3)),
 iV 29 (.bin .add (kS [45]) (tm 28)),
 iV 3 (.ab (tm 29))])
 .skip))
 (.seq
 (.region [iV 30 (.ab (tm 3)),
 iV 2 (.ab (tm 30))])
 .ret)))))),
 [.tmp 2]⟩
theorem aad : cd Tryd.prog G Tryd.f39 = some lp := by kernel_rfl
/- balustrade/balustraderef06.word -/
abbrev U9 : Nat := 40
def mK : ax :=
 ⟨20,
 (.seq
 (.region [iV 1 (.box 39 (tm 0)),
 iV 2 (.ab (kS []))])
 (.seq
 (.region [iV 4 (.bD 9 1 26 [(.str [])] [(0, (kS [])), (1, (kS [])), (2, (kS [110, 105, 108])), (3, (kS [])), (4, (kS [])), (5, (kS [110, 101, 103])), (6, (kS [110, 111, 116])), (7, (kS [97, 116])), (8, (kS [108, 101, 110])), (9, (kS [110, 101, 119])), (10, (kS [99, 97, 108, 108])), (11, (kS [118, 97, 114])), (12, (kS [115, 101, 116])), (13, (kS [112, 117, 116])), (14, (kS [105, 102])), (15, (kS [119, 104, 105, 108, 101])), (16, (kS [102, 111, 114])), (17, (kS [98, 114, 101, 97, 107])), (18, (kS [99, 111, 110, 116, 105, 110, 117, 101])), (19, (kS [114, 101, 116, 117, 114, 110])), (20, (kS [112, 114, 105, 110, 116])), (21, (kS [100, 111])), (22, (kS [98, 108, 111, 99, 107])), (23, (kS [])), (24, (kS [102, 110])), (25, (kS [112, 114, 111, 103]))]),
 iV 3 (.ab (tm 4))])
 (.seq
 (.seq
 (.region [iV 5 (.aj 0 (tm 1)),
 iV 6 (.load none (tm 5)),
 iV 7 (.eq false (.aJ 1) (tm 6) (kI 5))])
 (.cond (.tmp 7)
 (.seq
 (.draw [iC 8 66 [],
 iV 9 (.aj 2 (tm 1)),
 iV 10 (.load none (tm 9)),
 iV 11 (.bin .sub (tm 10) (kI 1)),
 iV 12 (.eu 1 (tm 8) (tm 11)),
 iV 13 (.load none (tm 12)),
 iV 2 (.ab (tm 13))] [(2, 0)])
 .ret)
 .skip))
 (.seq
 (.region [iV 14 (.ab (tm 3)),
 iV 15 (.aj 0 (tm 1)),
 iV 16 (.load none (tm 15)),
 iV 17 (.bin .sub (tm 16) (kI 1)),
 iV 18 (.eu 1 (tm 14) (tm 17)),
 iV 19 (.load none (tm 18)),
 iV 2 (.ab (tm 19))])
 .ret)))),
 [.tmp 2]⟩
theorem aac : cd Tryd.prog G Tryd.f40 = some mK := by kernel_rfl
end
section
/- balustrade/balustraderef06.Kind -/
abbrev Vb : Nat := 41
def mM : ax :=
 ⟨16,
 (.seq
 (.region [iV 2 (.ab (kS []))])
 (.seq
 (.region [iV 4 (.bD 9 1 3 [(.str [])] [(0, (kS [105, 110, 116])), (1, (kS [98, 111, 111, 108])), (2, (kS [97, 114, 114]))]),
 iV 3 (.ab (tm 4))])
 (.seq
 (.seq
 (.region [iV 5 (.ab (tm 0)),
 iV 6 (.bin .lss (tm 5) (kI 1)),
 iV 7 (.ab (tm 6)),
 iG 8 (.ab (tm 0)) 7 false,
 iG 9 (.bin .gtr (tm 8) (kI 3)) 7 false,
 iV 10 (.pick (tm 7) (.const (.bool true)) (tm 9))])
 (.cond (.tmp 10)
 (.seq
 (.region [iV 2 (.ab (kS []))])
 .ret)
 .skip))
 (.seq
 (.region [iV 11 (.ab (tm 3)),
 iV 12 (.ab (tm 0)),
 iV 13 (.bin .sub (tm 12) (kI 1)),
 iV 14 (.eu 1 (tm 11) (tm 13)),
 iV 15 (.load none (tm 14)),
 iV 2 (.ab (tm 15))])
 .ret)))),
 [.tmp 2]⟩
theorem aab : cd Tryd.prog G Tryd.f41 = some mM := by kernel_rfl
/- balustrade/balustraderef05.Digit -/
abbrev I8 : Nat := 43
def iZ : ax :=
 ⟨9,
 (.seq
 (.region [iV 2 (.ab (.const (.bool false)))])
 (.seq
 (.region [iV 3 (.ab (tm 0)),
 iV 4 (.bin .geq (tm 3) (.const (.int .u8 48))),
 iV 5 (.ab (tm 4)),
 iG 6 (.ab (tm 0)) 5 true,
 iG 7 (.bin .leq (tm 6) (.const (.int .u8 57))) 5 true,
 iV 8 (.pick (tm 5) (tm 7) (.const (.bool false))),
 iV 2 (.ab (tm 8))])
 .ret)),
 [.tmp 2]⟩
theorem aaa : cd Tryd.prog G Tryd.f43 = some iZ := by kernel_rfl
/- balustrade/balustraderef05.Letter -/
abbrev Hl : Nat := 45
def gY : ax :=
 ⟨21,
 (.seq
 (.region [iV 2 (.ab (.const (.bool false)))])
 (.seq
 (.region [iV 3 (.ab (tm 0)),
 iV 4 (.bin .geq (tm 3) (.const (.int .u8 97))),
 iV 5 (.ab (tm 4)),
 iG 6 (.ab (tm 0)) 5 true,
 iG 7 (.bin .leq (tm 6) (.const (.int .u8 122))) 5 true,
 iV 8 (.pick (tm 5) (tm 7) (.const (.bool false))),
 iV 9 (.ab (tm 8)),
 iG 10 (.ab (tm 0)) 9 false,
 iG 11 (.bin .geq (tm 10) (.const (.int .u8 65))) 9 false,
 iG 12 (.ab (tm 11)) 9 false,
 iG 13 (.ab (tm 0)) 12 true,
 iG 14 (.bin .leq (tm 13) (.const (.int .u8 90))) 12 true,
 iG 15 (.pick (tm 12) (tm 14) (.const (.bool false))) 9 false,
 iV 16 (.pick (tm 9) (.const (.bool true)) (tm 15)),
 iV 17 (.ab (tm 16)),
 iG 18 (.ab (tm 0)) 17 false,
 iG 19 (.eq false (.aJ 1) (tm 18) (.const (.int .u8 95))) 17 false,
 iV 20 (.pick (tm 17) (.const (.bool true)) (tm 19)),
 iV 2 (.ab (tm 20))])
 .ret)),
 [.tmp 2]⟩
theorem Z9 : cd Tryd.prog G Tryd.f45 = some gY := by kernel_rfl
/- balustrade/balustraderef05.Word -/
abbrev Ld : Nat := 46
def ik : aH :=
 (.seq
 (.seq
 (.region [iV 6 (.ab (tm 4)),
 iV 7 (.ab (tm 3)),
 iV 8 (.len (tm 7)),
 iV 9 (.bin .lss (tm 6) (tm 8))])
 (.cond (.tmp 9)
 .skip
 (.exit 0)))
 (.seq
 (.block 1
 (.seq
 (.region [iV 12 (.ab (tm 3)),
 iV 13 (.ab (tm 4)),
 iV 14 (.eu 1 (tm 12) (tm 13)),
 iV 15 (.load none (tm 14)),
 iV 16 (.ab (tm 0)),
 iV 17 (.eq false (.aJ 2) (tm 15) (tm 16))])
 (.cond (.tmp 17)
 (.seq
 (.region [iV 2 (.ab (.const (.bool true)))])
 .ret)
 .skip)))
 (.region [iV 10 (.ab (tm 4)),
 iV 11 (.bin .add (tm 10) (kI 1)),
 iV 4 (.ab (tm 11))])))
def jS : ax :=
 ⟨18,
 (.seq
 (.region [iV 2 (.ab (.const (.bool false)))])
 (.seq
 (.region [iC 5 67 [],
 iV 3 (.ab (tm 5))])
 (.seq
 (.seq
 (.region [iV 4 (.ab (kI 0))])
 (.block 0
 (.loop ik)))
 (.seq
 (.region [iV 2 (.ab (.const (.bool false)))])
 .ret)))),
 [.tmp 2]⟩
theorem Z8 : cd Tryd.prog G Tryd.f46 = some jS := by kernel_rfl
/- balustrade/lex.class -/
abbrev iW : Nat := 48
def g9 : ax :=
 ⟨38,
 (.seq
 (.region [iV 2 (.ab (kI 0))])
 (.seq
 (.block 0
 (.seq
 (.seq
 (.region [iV 4 (.ab (tm 0)),
 iV 5 (.bin .geq (tm 4) (.const (.int .u8 97))),
 iV 6 (.ab (tm 5)),
 iG 7 (.ab (tm 0)) 6 true,
 iG 8 (.bin .leq (tm 7) (.const (.int .u8 122))) 6 true,
 iV 9 (.pick (tm 6) (tm 8) (.const (.bool false))),
 iV 3 (.ab (tm 9))])
 (.cond (.tmp 3)
 .skip
 (.seq
 (.region [iV 10 (.ab (tm 0)),
 iV 11 (.bin .geq (tm 10) (.const (.int .u8 65))),
 iV 12 (.ab (tm 11)),
 iG 13 (.ab (tm 0)) 12 true,
 iG 14 (.bin .leq (tm 13) (.const (.int .u8 90))) 12 true,
 iV 15 (.pick (tm 12) (tm 14) (.const (.bool false))),
 iV 3 (.ab (tm 15))])
 (.cond (.tmp 3)
 .skip
 (.region [iV 16 (.ab (tm 0)),
 iV 17 (.eq false (.aJ 1) (tm 16) (.const (.int .u8 95))),
 iV 3 (.ab (tm 17))])))))
 (.cond (.tmp 3)
 (.seq
 (.region [iV 2 (.ab (kI 3))])
 .ret)
 (.seq
 (.region [iV 19 (.ab (tm 0)),
 iV 20 (.bin .geq (tm 19) (.const (.int .u8 48))),
 iV 21 (.ab (tm 20)),
 iG 22 (.ab (tm 0)) 21 true,
 iG 23 (.bin .leq (tm 22) (.const (.int .u8 57))) 21 true,
 iV 24 (.pick (tm 21) (tm 23) (.const (.bool false))),
 iV 18 (.ab (tm 24))])
 (.cond (.tmp 18)
 (.seq
 (.region [iV 2 (.ab (kI 4))])
 .ret)
 (.seq
 (.region [iV 26 (.ab (tm 0)),
 iV 27 (.eq false (.aJ 1) (tm 26) (.const (.int .u8 35))),
 iV 25 (.ab (tm 27))])
 (.cond (.tmp 25)
 (.seq
 (.region [iV 2 (.ab (kI 2))])
 .ret)
 .skip)))))))
 (.seq
 (.seq
 (.region [iV 28 (.ab (tm 0))])
 (.block 1
 (.seq
 (.block 3
 (.block 2
 (.seq
 (.seq
 (.seq
 (.region [iV 30 (.eq false (.aJ 1) (tm 28) (.const (.int .u8 32))),
 iV 29 (.ab (tm 30))])
 (.cond (.tmp 29)
 (.exit 2)
 .skip))
 (.seq
 (.seq
 (.region [iV 32 (.eq false (.aJ 1) (tm 28) (.const (.int .u8 9))),
 iV 31 (.ab (tm 32))])
 (.cond (.tmp 31)
 .skip
 (.seq
 (.region [iV 33 (.eq false (.aJ 1) (tm 28) (.const (.int .u8 10))),
 iV 31 (.ab (tm 33))])
 (.cond (.tmp 31)
 .skip
 (.region [iV 34 (.eq false (.aJ 1) (tm 28) (.const (.int .u8 13))),
 iV 31 (.ab (tm 34))])))))
 (.cond (.tmp 31)
 (.exit 3)
 .skip)))
 (.exit 1))))
 (.seq
 (.seq
 (.region [iV 2 (.ab (kI 1))])
 .ret)
 (.exit 1)))))
 (.seq
 (.seq
 (.region [iV 35 (.ab (tm 0)),
 iC 36 68 [(kS [124, 38, 61, 33, 60, 62, 43, 45, 42, 47, 37, 40, 41, 123, 125, 91, 93, 44, 59]), (tm 35)],
 iV 37 (.bin .geq (tm 36) (kI 0))])
 (.cond (.tmp 37)
 (.seq
 (.region [iV 2 (.ab (kI 5))])
 .ret)
 .skip))
 (.seq
 (.region [iV 2 (.ab (kI 0))])
 .ret))))),
 [.tmp 2]⟩
theorem Z7 : cd Tryd.prog G Tryd.f48 = some g9 := by kernel_rfl
/- balustrade/lex.run -/
abbrev oL : Nat := 49
def gZ : aH :=
 (.seq
 (.seq
 (.region [iV 6 (.ab (tm 5)),
 iV 7 (.ab (tm 0)),
 iV 8 (.eG (tm 7)),
 iV 9 (.bin .lss (tm 6) (tm 8)),
 iV 10 (.ab (tm 9)),
 iG 11 (.ab (tm 1)) 10 true,
 iG 12 (.ab (tm 0)) 10 true,
 iG 13 (.ab (tm 5)) 10 true,
 iG 14 (.gp (tm 12) (tm 13)) 10 true,
 iH 15 48 [(tm 14)] 10 true,
 iH 16 69 [(tm 11), (tm 15)] 10 true,
 iV 17 (.pick (tm 10) (tm 16) (.const (.bool false)))])
 (.cond (.tmp 17)
 .skip
 (.exit 0)))
 (.block 1
 (.region [iV 18 (.ab (tm 5)),
 iV 19 (.bin .add (tm 18) (kI 1)),
 iV 5 (.ab (tm 19))])))
def ll : ax :=
 ⟨21,
 (.seq
 (.region [iV 4 (.ab (kI 0))])
 (.seq
 (.region [iV 5 (.ab (kI 0))])
 (.seq
 (.block 0
 (.loop gZ))
 (.seq
 (.region [iV 20 (.ab (tm 5)),
 iV 4 (.ab (tm 20))])
 .ret)))),
 [.tmp 4]⟩
theorem Z6 : cd Tryd.prog G Tryd.f49 = some ll := by kernel_rfl
/- strings.Cut -/
abbrev Fw : Nat := 50
def fZ : ax :=
 ⟨13,
 (.seq
 (.region [iV 4 (.ab (kS [])),
 iV 5 (.ab (kS [])),
 iV 6 (.ab (.const (.bool false)))])
 (.seq
 (.region [iV 7 (.ab (tm 0)),
 iV 8 (.ab (tm 1)),
 iC 9 70 [(tm 7), (tm 8)],
 iV 10 (.extract (tm 9) 0),
 iV 11 (.extract (tm 9) 1),
 iV 12 (.extract (tm 9) 2),
 iV 4 (.ab (tm 10)),
 iV 5 (.ab (tm 11)),
 iV 6 (.ab (tm 12))])
 .ret)),
 [.tmp 4, .tmp 5, .tmp 6]⟩
theorem Z5 : cd Tryd.prog G Tryd.f50 = some fZ := by kernel_rfl
/- (*balustrade/lex.scanner).word -/
abbrev kM : Nat := 51
def cG : ax :=
 ⟨23,
 (.seq
 (.region [iV 4 (.ab (kI 0))])
 (.seq
 (.region [iV 6 (.ab (tm 1)),
 iV 7 (.bD 3 1 2 [(.int .i64 0)] [(0, (kI 3)), (1, (kI 4))]),
 iC 8 49 [(tm 6), (tm 7)],
 iV 5 (.ab (tm 8))])
 (.seq
 (.block 0
 (.seq
 (.region [iV 13 (.ab (tm 1)),
 iV 14 (.ab (tm 5)),
 iV 15 (.jF (tm 13) none (some (tm 14))),
 iC 16 71 [(tm 15)],
 iV 12 (.ab (tm 16))])
 (.cond (.tmp 12)
 (.region [iV 17 (.ab (tm 0)),
 iV 18 (.ab (tm 5)),
 iC 19 28 [(tm 17), (kI 3), (tm 18), (kI 0)]])
 (.seq
 (.region [iV 21 (.ab (tm 5)),
 iV 22 (.bin .gtr (tm 21) (kI 32)),
 iV 20 (.ab (tm 22))])
 (.cond (.tmp 20)
 (.seq
 (.region [iV 4 (.ab (kI 3))])
 .ret)
 (.region [iV 9 (.ab (tm 0)),
 iV 10 (.ab (tm 5)),
 iC 11 28 [(tm 9), (kI 1), (tm 10), (kI 0)]]))))))
 (.seq
 (.region [iV 4 (.ab (kI 0))])
 .ret)))),
 [.tmp 4]⟩
theorem Z4 : cd Tryd.prog G Tryd.f51 = some cG := by kernel_rfl
/- (*balustrade/lex.scanner).number -/
abbrev nn : Nat := 52
def cQ : aH :=
 (.seq
 (.region [iV 14 (.bin .lss (tm 13) (tm 12))])
 (.seq
 (.cond (.tmp 14)
 .skip
 (.exit 0))
 (.seq
 (.block 1
 (.seq
 (.region [iV 15 (.ab (tm 13)),
 iV 7 (.ab (tm 15))])
 (.seq
 (.region [iV 16 (.ab (tm 1)),
 iV 17 (.ab (tm 7)),
 iV 18 (.gp (tm 16) (tm 17)),
 iV 19 (.bin .sub (tm 18) (.const (.int .u8 48))),
 iV 20 (.conv (.int .i64) (tm 19)),
 iV 8 (.ab (tm 20))])
 (.seq
 (.seq
 (.region [iV 21 (.ab (tm 5)),
 iV 22 (.ab (tm 8)),
 iV 23 (.bin .sub (kI 9223372036854775807) (tm 22)),
 iV 24 (.bin .quo (tm 23) (kI 10)),
 iV 25 (.bin .gtr (tm 21) (tm 24))])
 (.cond (.tmp 25)
 (.seq
 (.region [iV 4 (.ab (kI 7))])
 .ret)
 .skip))
 (.region [iV 26 (.ab (tm 5)),
 iV 27 (.bin .mul (kI 10) (tm 26)),
 iV 28 (.ab (tm 8)),
 iV 29 (.bin .add (tm 27) (tm 28)),
 iV 5 (.ab (tm 29))])))))
 (.region [iV 30 (.bin .add (tm 13) (kI 1)),
 iV 13 (.ab (tm 30))]))))
def c6 : ax :=
 ⟨35,
 (.seq
 (.region [iV 4 (.ab (kI 0))])
 (.seq
 (.region [iV 9 (.ab (tm 1)),
 iV 10 (.bD 3 1 1 [(.int .i64 0)] [(0, (kI 4))]),
 iC 11 49 [(tm 9), (tm 10)],
 iV 5 (.ab (kI 0)),
 iV 6 (.ab (tm 11))])
 (.seq
 (.seq
 (.region [iV 12 (.ab (tm 6)),
 iV 13 (.ab (kI 0))])
 (.block 0
 (.loop cQ)))
 (.seq
 (.region [iV 31 (.ab (tm 0)),
 iV 32 (.ab (tm 6)),
 iV 33 (.ab (tm 5)),
 iC 34 28 [(tm 31), (kI 2), (tm 32), (tm 33)]])
 (.seq
 (.region [iV 4 (.ab (kI 0))])
 .ret))))),
 [.tmp 4]⟩
theorem Z3 : cd Tryd.prog G Tryd.f52 = some c6 := by kernel_rfl
/- slices.IndexFunc[[]string,string] -/
abbrev j8 : Nat := 53
def bP : aH :=
 (.seq
 (.region [iV 9 (.bin .lss (tm 8) (tm 7))])
 (.seq
 (.cond (.tmp 9)
 .skip
 (.exit 0))
 (.seq
 (.block 1
 (.seq
 (.region [iV 10 (.ab (tm 8)),
 iV 5 (.ab (tm 10))])
 (.seq
 (.region [iV 11 (.ab (tm 1)),
 iV 12 (.ab (tm 0)),
 iV 13 (.ab (tm 5)),
 iV 14 (.eu 1 (tm 12) (tm 13)),
 iV 15 (.load none (tm 14)),
 ⟨(some 16), (.call (tm 11) [(tm 15)]), none⟩])
 (.cond (.tmp 16)
 (.seq
 (.region [iV 17 (.ab (tm 5)),
 iV 4 (.ab (tm 17))])
 .ret)
 .skip))))
 (.region [iV 18 (.bin .add (tm 8) (kI 1)),
 iV 8 (.ab (tm 18))]))))
def bT : ax :=
 ⟨19,
 (.seq
 (.region [iV 4 (.ab (kI 0))])
 (.seq
 (.seq
 (.region [iV 6 (.ab (tm 0)),
 iV 7 (.len (tm 6)),
 iV 8 (.ab (kI 0))])
 (.block 0
 (.loop bP)))
 (.seq
 (.region [iV 4 (.ab (kI (-1)))])
 .ret))),
 [.tmp 4]⟩
theorem Z2 : cd Tryd.prog G Tryd.f53 = some bT := by kernel_rfl
/- (*balustrade/lex.scanner).next$1 -/
abbrev fE : Nat := 54
def c7 : ax :=
 ⟨7,
 (.seq
 (.region [iV 3 (.ab (.const (.bool false)))])
 (.seq
 (.region [iV 4 (.load none (tm 1)),
 iV 5 (.ab (tm 0)),
 iC 6 55 [(tm 4), (tm 5)],
 iV 3 (.ab (tm 6))])
 .ret)),
 [.tmp 3]⟩
theorem Z1 : cd Tryd.prog G Tryd.f54 = some c7 := by kernel_rfl
/- strings.HasPrefix -/
abbrev w9 : Nat := 55
def dy : ax :=
 ⟨8,
 (.seq
 (.region [iV 4 (.ab (.const (.bool false)))])
 (.seq
 (.region [iV 5 (.ab (tm 0)),
 iV 6 (.ab (tm 1)),
 iC 7 72 [(tm 5), (tm 6)],
 iV 4 (.ab (tm 7))])
 .ret)),
 [.tmp 4]⟩
theorem Z0 : cd Tryd.prog G Tryd.f55 = some dy := by kernel_rfl
/- (*balustrade/expr.Reader).Skip -/
abbrev aT : Nat := 56
def dj : ax :=
 ⟨18,
 (.seq
 (.region [iV 4 (.ab (.const (.bool false)))])
 (.seq
 (.region [iV 6 (.ab (tm 0)),
 iV 7 (.ab (tm 1)),
 iC 8 16 [(tm 6), (tm 7)],
 iV 5 (.ab (tm 8))])
 (.seq
 (.seq
 (.region [iV 9 (.ab (tm 5))])
 (.cond (.tmp 9)
 (.region [iV 10 (.ab (tm 0)),
 iV 11 (.cw (tm 10)),
 iV 12 (.aj 1 (tm 11)),
 iV 13 (.load none (tm 12)),
 iV 14 (.bin .add (tm 13) (kI 1)),
 iV 15 (.cw (tm 10)),
 iV 16 (.aj 1 (tm 15)),
 iN (.store 1 (tm 16) (tm 14))])
 .skip))
 (.seq
 (.region [iV 17 (.ab (tm 5)),
 iV 4 (.ab (tm 17))])
 .ret)))),
 [.tmp 4]⟩
theorem ZZ : cd Tryd.prog G Tryd.f56 = some dj := by kernel_rfl
/- (*balustrade/expr.Reader).take -/
abbrev xG : Nat := 57
def dX : ax :=
 ⟨14,
 (.seq
 (.region [iV 2 (.alloc 36 [(.int .i64 0), (.str []), (.int .i64 0), (.int .i64 0)])])
 (.seq
 (.region [iV 4 (.ab (tm 0)),
 iC 5 15 [(tm 4)],
 iV 3 (.alloc 36 [(.int .i64 0), (.str []), (.int .i64 0), (.int .i64 0)]),
 iN (.store 4 (tm 3) (tm 5))])
 (.seq
 (.region [iV 6 (.ab (tm 0)),
 iV 7 (.cw (tm 6)),
 iV 8 (.aj 1 (tm 7)),
 iV 9 (.load none (tm 8)),
 iV 10 (.bin .add (tm 9) (kI 1)),
 iV 11 (.cw (tm 6)),
 iV 12 (.aj 1 (tm 11)),
 iN (.store 1 (tm 12) (tm 10))])
 (.seq
 (.region [iV 13 (.load (some 4) (tm 3)),
 iN (.store 4 (tm 2) (tm 13))])
 .ret)))),
 [.cell 2 (some 4)]⟩
theorem ZY : cd Tryd.prog G Tryd.f57 = some dX := by kernel_rfl
/- (*balustrade/expr.Reader).Open -/
abbrev eE : Nat := 58
def dk : ax :=
 ⟨22,
 (.seq
 (.region [iV 4 (.ab (.const (.bool false)))])
 (.seq
 (.seq
 (.region [iV 5 (.ab (tm 0)),
 iV 6 (.cw (tm 5)),
 iV 7 (.aj 2 (tm 6)),
 iV 8 (.load none (tm 7)),
 iV 9 (.bin .add (tm 8) (kI 1)),
 iV 10 (.cw (tm 5)),
 iV 11 (.aj 2 (tm 10)),
 iN (.store 1 (tm 11) (tm 9))])
 (.seq
 (.region [iV 12 (.ab (tm 0)),
 iV 13 (.cw (tm 12)),
 iV 14 (.aj 2 (tm 13)),
 iV 15 (.load none (tm 14)),
 iV 16 (.bin .gtr (tm 15) (kI 200))])
 (.cond (.tmp 16)
 (.region [iV 17 (.ab (tm 0)),
 iV 18 (.ab (tm 1)),
 iC 19 17 [(tm 17), (kI 4), (tm 18)]])
 .skip)))
 (.seq
 (.region [iV 20 (.ab (tm 0)),
 iC 21 29 [(tm 20)],
 iV 4 (.ab (tm 21))])
 .ret))),
 [.tmp 4]⟩
theorem ZX : cd Tryd.prog G Tryd.f58 = some dk := by kernel_rfl
/- (balustrade/parse.reader).statement -/
abbrev kr : Nat := 59
def b6 : aH :=
 (.seq
 (.region [iV 13 (.bin .lss (tm 12) (tm 11))])
 (.seq
 (.cond (.tmp 13)
 .skip
 (.exit 0))
 (.seq
 (.block 1
 (.seq
 (.region [iV 14 (.eu 2 (tm 10) (tm 12)),
 iV 15 (.load (some 2) (tm 14)),
 iV 5 (.alloc 93 [(.str []), .aN]),
 iN (.store 2 (tm 5) (tm 15))])
 (.seq
 (.region [iV 16 (.aj 0 (tm 1)),
 iV 17 (.load none (tm 16)),
 iV 18 (.aj 0 (tm 5)),
 iV 19 (.load none (tm 18)),
 iC 20 56 [(tm 17), (tm 19)]])
 (.cond (.tmp 20)
 (.seq
 (.region [iV 21 (.aj 1 (tm 5)),
 iV 22 (.load none (tm 21)),
 iV 23 (.load (some 1) (tm 1)),
 iV 24 (.ab (tm 3)),
 ⟨(some 25), (.call (tm 22) [(tm 23), (tm 24)]), none⟩,
 iV 2 (.ab (tm 25))])
 .ret)
 .skip))))
 (.region [iV 26 (.bin .add (tm 12) (kI 1)),
 iV 12 (.ab (tm 26))]))))
def ca : ax :=
 ⟨29,
 (.seq
 (.region [iV 1 (.box 45 (tm 0)),
 iV 2 (.ab (kI 0))])
 (.seq
 (.region [iV 6 (.aj 0 (tm 1)),
 iV 7 (.load none (tm 6)),
 iC 8 15 [(tm 7)],
 iV 9 (.AS none 3 (tm 8)),
 iV 3 (.ab (tm 9))])
 (.seq
 (.seq
 (.region [iC 10 73 [],
 iV 11 (.len (tm 10)),
 iV 12 (.ab (kI 0))])
 (.block 0
 (.loop b6)))
 (.seq
 (.region [iV 27 (.load (some 1) (tm 1)),
 iC 28 74 [(tm 27)],
 iV 2 (.ab (tm 28))])
 .ret)))),
 [.tmp 2]⟩
theorem ZW : cd Tryd.prog G Tryd.f59 = some ca := by kernel_rfl
/- (*balustrade/expr.Reader).Close -/
abbrev dw : Nat := 60
def dF : ax :=
 ⟨9,
 (.region [iV 2 (.ab (tm 0)),
 iV 3 (.cw (tm 2)),
 iV 4 (.aj 2 (tm 3)),
 iV 5 (.load none (tm 4)),
 iV 6 (.bin .sub (tm 5) (kI 1)),
 iV 7 (.cw (tm 2)),
 iV 8 (.aj 2 (tm 7)),
 iN (.store 1 (tm 8) (tm 6))]),
 []⟩
theorem ZV : cd Tryd.prog G Tryd.f60 = some dF := by kernel_rfl
/- balustrade/balustraderef06.named -/
abbrev I5 : Nat := 61
def iX : ax :=
 ⟨6,
 (.seq
 (.region [iV 2 (.ab (.const (.bool false)))])
 (.seq
 (.region [iV 3 (.bD 3 1 8 [(.int .i64 0)] [(0, (kI 4)), (1, (kI 11)), (2, (kI 12)), (3, (kI 13)), (4, (kI 14)), (5, (kI 17)), (6, (kI 24)), (7, (kI 25))]),
 iV 4 (.ab (tm 0)),
 iC 5 10 [(tm 3), (tm 4)],
 iV 2 (.ab (tm 5))])
 .ret)),
 [.tmp 2]⟩
theorem ZU : cd Tryd.prog G Tryd.f61 = some iX := by kernel_rfl
/- balustrade/balustraderef05.Name -/
abbrev Le : Nat := 62
def il : aH :=
 (.seq
 (.seq
 (.region [iV 4 (.ab (tm 3)),
 iV 5 (.ab (tm 0)),
 iV 6 (.eG (tm 5)),
 iV 7 (.bin .lss (tm 4) (tm 6))])
 (.cond (.tmp 7)
 .skip
 (.exit 0)))
 (.seq
 (.block 1
 (.seq
 (.region [iV 10 (.ab (tm 0)),
 iV 11 (.ab (tm 3)),
 iV 12 (.gp (tm 10) (tm 11)),
 iC 13 45 [(tm 12)],
 iV 14 (.un .not (tm 13)),
 iV 15 (.ab (tm 14)),
 iG 16 (.ab (tm 3)) 15 true,
 iG 17 (.eq false (.aJ 1) (tm 16) (kI 0)) 15 true,
 iG 18 (.ab (tm 17)) 15 true,
 iG 19 (.ab (tm 0)) 18 false,
 iG 20 (.ab (tm 3)) 18 false,
 iG 21 (.gp (tm 19) (tm 20)) 18 false,
 iH 22 43 [(tm 21)] 18 false,
 iG 23 (.un .not (tm 22)) 18 false,
 iG 24 (.pick (tm 18) (.const (.bool true)) (tm 23)) 15 true,
 iV 25 (.pick (tm 15) (tm 24) (.const (.bool false)))])
 (.cond (.tmp 25)
 (.seq
 (.region [iV 2 (.ab (.const (.bool false)))])
 .ret)
 .skip)))
 (.region [iV 8 (.ab (tm 3)),
 iV 9 (.bin .add (tm 8) (kI 1)),
 iV 3 (.ab (tm 9))])))
def jT : ax :=
 ⟨39,
 (.seq
 (.region [iV 2 (.ab (.const (.bool false)))])
 (.seq
 (.seq
 (.region [iV 3 (.ab (kI 0))])
 (.block 0
 (.loop il)))
 (.seq
 (.region [iV 26 (.ab (tm 0)),
 iV 27 (.eG (tm 26)),
 iV 28 (.bin .gtr (tm 27) (kI 0)),
 iV 29 (.ab (tm 28)),
 iG 30 (.ab (tm 0)) 29 true,
 iG 31 (.eG (tm 30)) 29 true,
 iG 32 (.bin .leq (tm 31) (kI 32)) 29 true,
 iV 33 (.pick (tm 29) (tm 32) (.const (.bool false))),
 iV 34 (.ab (tm 33)),
 iG 35 (.ab (tm 0)) 34 true,
 iH 36 46 [(tm 35)] 34 true,
 iG 37 (.un .not (tm 36)) 34 true,
 iV 38 (.pick (tm 34) (tm 37) (.const (.bool false))),
 iV 2 (.ab (tm 38))])
 .ret))),
 [.tmp 2]⟩
theorem ZT : cd Tryd.prog G Tryd.f62 = some jT := by kernel_rfl
/- balustrade/balustraderef06.exprs -/
abbrev qg : Nat := 63
def gq : aH :=
 (.seq
 (.seq
 (.region [iV 12 (.ab (tm 7)),
 iV 13 (.ab (tm 2)),
 iV 14 (.bin .lss (tm 12) (tm 13))])
 (.cond (.tmp 14)
 .skip
 (.exit 0)))
 (.seq
 (.block 1
 (.seq
 (.region [iV 17 (.ab (tm 0)),
 iV 18 (.ab (tm 1)),
 iV 19 (.ab (tm 7)),
 iV 20 (.eu 1 (tm 18) (tm 19)),
 iV 21 (.load none (tm 20)),
 iV 22 (.eu 5 (tm 17) (tm 21)),
 iV 23 (.aj 0 (tm 22)),
 iV 24 (.load none (tm 23)),
 iC 25 75 [(tm 24)],
 iV 26 (.un .not (tm 25))])
 (.cond (.tmp 26)
 (.seq
 (.region [iV 6 (.ab (.const (.bool false)))])
 .ret)
 .skip)))
 (.region [iV 15 (.ab (tm 7)),
 iV 16 (.bin .add (tm 15) (kI 1)),
 iV 7 (.ab (tm 16))])))
def gU : ax :=
 ⟨27,
 (.seq
 (.region [iV 6 (.ab (.const (.bool false)))])
 (.seq
 (.seq
 (.region [iV 8 (.ab (tm 1)),
 iV 9 (.len (tm 8)),
 iV 10 (.ab (tm 2)),
 iV 11 (.bin .lss (tm 9) (tm 10))])
 (.cond (.tmp 11)
 (.seq
 (.region [iV 6 (.ab (.const (.bool false)))])
 .ret)
 .skip))
 (.seq
 (.seq
 (.region [iV 7 (.ab (kI 0))])
 (.block 0
 (.loop gq)))
 (.seq
 (.region [iV 6 (.ab (.const (.bool true)))])
 .ret)))),
 [.tmp 6]⟩
theorem ZS : cd Tryd.prog G Tryd.f63 = some gU := by kernel_rfl
/- balustrade/balustraderef06.all -/
abbrev mC : Nat := 64
def jq : aH :=
 (.seq
 (.seq
 (.region [iV 10 (.ab (tm 9)),
 iV 11 (.ab (tm 1)),
 iV 12 (.len (tm 11)),
 iV 13 (.bin .lss (tm 10) (tm 12))])
 (.cond (.tmp 13)
 .skip
 (.exit 0)))
 (.seq
 (.block 1
 (.seq
 (.region [iV 16 (.ab (tm 0)),
 iV 17 (.ab (tm 1)),
 iV 18 (.ab (tm 9)),
 iV 19 (.eu 1 (tm 17) (tm 18)),
 iV 20 (.load none (tm 19)),
 iV 21 (.eu 5 (tm 16) (tm 20)),
 iV 22 (.aj 0 (tm 21)),
 iV 23 (.load none (tm 22)),
 iV 24 (.ab (tm 2)),
 iV 25 (.eq true (.aJ 1) (tm 23) (tm 24))])
 (.cond (.tmp 25)
 (.seq
 (.region [iV 8 (.ab (.const (.bool false)))])
 .ret)
 .skip)))
 (.region [iV 14 (.ab (tm 9)),
 iV 15 (.bin .add (tm 14) (kI 1)),
 iV 9 (.ab (tm 15))])))
def li : ax :=
 ⟨30,
 (.seq
 (.region [iV 8 (.ab (.const (.bool false)))])
 (.seq
 (.seq
 (.region [iV 9 (.ab (kI 0))])
 (.block 0
 (.loop jq)))
 (.seq
 (.region [iV 26 (.ab (tm 1)),
 iV 27 (.len (tm 26)),
 iV 28 (.ab (tm 3)),
 iV 29 (.bin .leq (tm 27) (tm 28)),
 iV 8 (.ab (tm 29))])
 .ret))),
 [.tmp 8]⟩
theorem ZR : cd Tryd.prog G Tryd.f64 = some li := by kernel_rfl
/- balustrade/balustraderef06.Stmt -/
abbrev La : Nat := 65
def jQ : ax :=
 ⟨9,
 (.seq
 (.region [iV 2 (.ab (.const (.bool false)))])
 (.seq
 (.region [iV 3 (.ab (tm 0)),
 iV 4 (.bin .geq (tm 3) (kI 12)),
 iV 5 (.ab (tm 4)),
 iG 6 (.ab (tm 0)) 5 true,
 iG 7 (.bin .leq (tm 6) (kI 22)) 5 true,
 iV 8 (.pick (tm 5) (tm 7) (.const (.bool false))),
 iV 2 (.ab (tm 8))])
 .ret)),
 [.tmp 2]⟩
theorem ZQ : cd Tryd.prog G Tryd.f65 = some jQ := by kernel_rfl
/- balustrade/balustraderef06.Signs -/
abbrev Ul : Nat := 66
def lj : ax :=
 ⟨2,
 (.seq
 (.region [iV 0 (.ab (.const .ae))])
 (.seq
 (.region [iV 1 (.bD 9 1 16 [(.str [])] [(0, (kS [124, 124])), (1, (kS [38, 38])), (2, (kS [61, 61])), (3, (kS [33, 61])), (4, (kS [60])), (5, (kS [60, 61])), (6, (kS [62])), (7, (kS [62, 61])), (8, (kS [43])), (9, (kS [45])), (10, (kS [43, 37])), (11, (kS [45, 37])), (12, (kS [42])), (13, (kS [47])), (14, (kS [37])), (15, (kS [42, 37]))]),
 iV 0 (.ab (tm 1))])
 .ret)),
 [.tmp 0]⟩
theorem ZP : cd Tryd.prog G Tryd.f66 = some lj := by kernel_rfl
/- balustrade/balustraderef05.Words -/
abbrev I7 : Nat := 67
def lk : ax :=
 ⟨2,
 (.seq
 (.region [iV 0 (.ab (.const .ae))])
 (.seq
 (.region [iV 1 (.bD 9 1 18 [(.str [])] [(0, (kS [102, 110])), (1, (kS [118, 97, 114])), (2, (kS [105, 102])), (3, (kS [101, 108, 115, 101])), (4, (kS [119, 104, 105, 108, 101])), (5, (kS [102, 111, 114])), (6, (kS [98, 114, 101, 97, 107])), (7, (kS [99, 111, 110, 116, 105, 110, 117, 101])), (8, (kS [114, 101, 116, 117, 114, 110])), (9, (kS [112, 114, 105, 110, 116])), (10, (kS [108, 101, 110])), (11, (kS [110, 101, 119])), (12, (kS [116, 114, 117, 101])), (13, (kS [102, 97, 108, 115, 101])), (14, (kS [110, 105, 108])), (15, (kS [105, 110, 116])), (16, (kS [98, 111, 111, 108])), (17, (kS [97, 114, 114]))]),
 iV 0 (.ab (tm 1))])
 .ret)),
 [.tmp 0]⟩
theorem ZO : cd Tryd.prog G Tryd.f67 = some lk := by kernel_rfl
/- strings.IndexByte -/
abbrev nW : Nat := 68
def dx : ax :=
 ⟨8,
 (.seq
 (.region [iV 4 (.ab (kI 0))])
 (.seq
 (.region [iV 5 (.ab (tm 0)),
 iV 6 (.ab (tm 1)),
 iC 7 76 [(tm 5), (tm 6)],
 iV 4 (.ab (tm 7))])
 .ret)),
 [.tmp 4]⟩
theorem ZN : cd Tryd.prog G Tryd.f68 = some dx := by kernel_rfl
/- slices.Contains[[]int,int] -/
abbrev uq : Nat := 69
def cL : ax :=
 ⟨9,
 (.seq
 (.region [iV 4 (.ab (.const (.bool false)))])
 (.seq
 (.region [iV 5 (.ab (tm 0)),
 iV 6 (.ab (tm 1)),
 iC 7 77 [(tm 5), (tm 6)],
 iV 8 (.bin .geq (tm 7) (kI 0)),
 iV 4 (.ab (tm 8))])
 .ret)),
 [.tmp 4]⟩
theorem ZM : cd Tryd.prog G Tryd.f69 = some cL := by kernel_rfl
/- internal/stringslite.Cut -/
abbrev o0 : Nat := 70
def bp : ax :=
 ⟨23,
 (.seq
 (.region [iV 4 (.ab (kS [])),
 iV 5 (.ab (kS [])),
 iV 6 (.ab (.const (.bool false)))])
 (.seq
 (.seq
 (.region [iV 8 (.ab (tm 0)),
 iV 9 (.ab (tm 1)),
 iC 10 78 [(tm 8), (tm 9)],
 iV 7 (.ab (tm 10))])
 (.seq
 (.region [iV 11 (.ab (tm 7)),
 iV 12 (.bin .geq (tm 11) (kI 0))])
 (.cond (.tmp 12)
 (.seq
 (.draw [iV 13 (.ab (tm 0)),
 iV 14 (.ab (tm 7)),
 iV 15 (.jF (tm 13) none (some (tm 14))),
 iV 16 (.ab (tm 0)),
 iV 17 (.ab (tm 7)),
 iV 18 (.ab (tm 1)),
 iV 19 (.eG (tm 18)),
 iV 20 (.bin .add (tm 17) (tm 19)),
 iV 21 (.jF (tm 16) (some (tm 20)) none),
 iV 4 (.ab (tm 15)),
 iV 5 (.ab (tm 21)),
 iV 6 (.ab (.const (.bool true)))] [])
 .ret)
 .skip)))
 (.seq
 (.region [iV 22 (.ab (tm 0)),
 iV 4 (.ab (tm 22)),
 iV 5 (.ab (kS [])),
 iV 6 (.ab (.const (.bool false)))])
 .ret))),
 [.tmp 4, .tmp 5, .tmp 6]⟩
theorem ZL : cd Tryd.prog G Tryd.f70 = some bp := by kernel_rfl
/- balustrade/lex.Word -/
abbrev xF : Nat := 71
def pA : ax :=
 ⟨6,
 (.seq
 (.region [iV 2 (.ab (.const (.bool false)))])
 (.seq
 (.region [iV 3 (.load none (.const (.ptr 1 0))),
 iV 4 (.ab (tm 0)),
 iC 5 79 [(tm 3), (tm 4)],
 iV 2 (.ab (tm 5))])
 .ret)),
 [.tmp 2]⟩
theorem ZK : cd Tryd.prog G Tryd.f71 = some pA := by kernel_rfl
/- internal/stringslite.HasPrefix -/
abbrev lD : Nat := 72
def aP : ax :=
 ⟨18,
 (.seq
 (.region [iV 4 (.ab (.const (.bool false)))])
 (.seq
 (.region [iV 5 (.ab (tm 0)),
 iV 6 (.eG (tm 5)),
 iV 7 (.ab (tm 1)),
 iV 8 (.eG (tm 7)),
 iV 9 (.bin .geq (tm 6) (tm 8)),
 iV 10 (.ab (tm 9)),
 iG 11 (.ab (tm 0)) 10 true,
 iG 12 (.ab (tm 1)) 10 true,
 iG 13 (.eG (tm 12)) 10 true,
 iG 14 (.jF (tm 11) none (some (tm 13))) 10 true,
 iG 15 (.ab (tm 1)) 10 true,
 iG 16 (.eq false (.aJ 2) (tm 14) (tm 15)) 10 true,
 iV 17 (.pick (tm 10) (tm 16) (.const (.bool false))),
 iV 4 (.ab (tm 17))])
 .ret)),
 [.tmp 4]⟩
theorem ZJ : cd Tryd.prog G Tryd.f72 = some aP := by kernel_rfl
/- balustrade/parse.sorts -/
abbrev Fx : Nat := 73
def gb : ax :=
 ⟨10,
 (.seq
 (.region [iV 0 (.ab (.const .ae))])
 (.seq
 (.region [iV 1 (.build [(.str []), .aN] [(0, 1, (kS [118, 97, 114])), (1, 1, (.const (.func 80 [] [])))]),
 iV 2 (.build [(.str []), .aN] [(0, 1, (kS [105, 102])), (1, 1, (.const (.func 81 [] [])))]),
 iV 3 (.build [(.str []), .aN] [(0, 1, (kS [119, 104, 105, 108, 101])), (1, 1, (.const (.func 82 [] [])))]),
 iV 4 (.build [(.str []), .aN] [(0, 1, (kS [102, 111, 114])), (1, 1, (.const (.func 83 [] [])))]),
 iV 5 (.build [(.str []), .aN] [(0, 1, (kS [98, 114, 101, 97, 107])), (1, 1, (.const (.func 84 [] [])))]),
 iV 6 (.build [(.str []), .aN] [(0, 1, (kS [99, 111, 110, 116, 105, 110, 117, 101])), (1, 1, (.const (.func 86 [] [])))]),
 iV 7 (.build [(.str []), .aN] [(0, 1, (kS [114, 101, 116, 117, 114, 110])), (1, 1, (.const (.func 87 [] [])))]),
 iV 8 (.build [(.str []), .aN] [(0, 1, (kS [112, 114, 105, 110, 116])), (1, 1, (.const (.func 89 [] [])))]),
 iV 9 (.bD 93 2 8 [(.str []), .aN] [(0, (tm 1)), (1, (tm 2)), (2, (tm 3)), (3, (tm 4)), (4, (tm 5)), (5, (tm 6)), (6, (tm 7)), (7, (tm 8))]),
 iV 0 (.ab (tm 9))])
 .ret)),
 [.tmp 0]⟩
theorem ZI : cd Tryd.prog G Tryd.f73 = some gb := by kernel_rfl
/- (balustrade/parse.reader).named -/
abbrev nk : Nat := 74
def cX : ax :=
 ⟨66,
 (.seq
 (.region [iV 1 (.box 45 (tm 0)),
 iV 2 (.ab (kI 0))])
 (.seq
 (.region [iV 7 (.aj 0 (tm 1)),
 iV 8 (.load none (tm 7)),
 iC 9 15 [(tm 8)],
 iV 3 (.alloc 36 [(.int .i64 0), (.str []), (.int .i64 0), (.int .i64 0)]),
 iN (.store 4 (tm 3) (tm 9))])
 (.seq
 (.region [iV 10 (.aj 0 (tm 1)),
 iV 11 (.load none (tm 10)),
 iC 12 31 [(tm 11)],
 iV 4 (.ab (tm 12))])
 (.seq
 (.block 0
 (.seq
 (.region [iV 14 (.aj 0 (tm 1)),
 iV 15 (.load none (tm 14)),
 iC 16 16 [(tm 15), (kS [40])],
 iV 13 (.ab (tm 16))])
 (.cond (.tmp 13)
 (.seq
 (.draw [iV 17 (.load (some 1) (tm 1)),
 iV 18 (.aj 0 (tm 1)),
 iV 19 (.load none (tm 18)),
 iV 20 (.ab (tm 4)),
 iV 21 (.aj 3 (tm 3)),
 iV 22 (.load none (tm 21)),
 iC 23 90 [(tm 19), (tm 20), (tm 22)],
 iV 24 (.bD 3 1 1 [(.int .i64 0)] [(0, (tm 23))]),
 iV 25 (.aj 3 (tm 3)),
 iV 26 (.load none (tm 25)),
 iV 27 (.build [(.int .i64 0), .ae, (.int .i64 0), (.str []), (.int .i64 0)] [(0, 1, (kI 22)), (1, 1, (tm 24)), (4, 1, (tm 26))]),
 iC 28 85 [(tm 17), (tm 27)],
 iV 2 (.ab (tm 28))] [(0, 6), (9, 6)])
 .ret)
 (.seq
 (.region [iV 30 (.aj 0 (tm 1)),
 iV 31 (.load none (tm 30)),
 iC 32 16 [(tm 31), (kS [91])],
 iV 29 (.ab (tm 32))])
 (.cond (.tmp 29)
 (.seq
 (.region [iV 33 (.aj 0 (tm 1)),
 iV 34 (.load none (tm 33)),
 iC 35 15 [(tm 34)],
 iV 36 (.AS none 3 (tm 35)),
 iV 5 (.ab (tm 36))])
 (.seq
 (.region [iV 37 (.aj 0 (tm 1)),
 iV 38 (.load none (tm 37)),
 iC 39 91 [(tm 38), (kS [91]), (kS [93])],
 iV 6 (.ab (tm 39))])
 (.seq
 (.region [iV 40 (.aj 0 (tm 1)),
 iV 41 (.load none (tm 40)),
 iC 42 30 [(tm 41), (kS [61])]])
 (.seq
 (.draw [iV 43 (.load (some 1) (tm 1)),
 iV 44 (.ab (tm 4)),
 iV 45 (.ab (tm 6)),
 iV 46 (.aj 0 (tm 1)),
 iV 47 (.load none (tm 46)),
 iC 48 88 [(tm 47)],
 iV 49 (.bD 3 1 2 [(.int .i64 0)] [(0, (tm 45)), (1, (tm 48))]),
 iV 50 (.ab (tm 5)),
 iV 51 (.build [(.int .i64 0), .ae, (.int .i64 0), (.str []), (.int .i64 0)] [(0, 1, (kI 14)), (3, 1, (tm 44)), (1, 1, (tm 49)), (4, 1, (tm 50))]),
 iC 52 85 [(tm 43), (tm 51)],
 iV 2 (.ab (tm 52))] [(0, 5)])
 .ret))))
 .skip)))))
 (.seq
 (.region [iV 53 (.aj 0 (tm 1)),
 iV 54 (.load none (tm 53)),
 iC 55 30 [(tm 54), (kS [61])]])
 (.seq
 (.draw [iV 56 (.load (some 1) (tm 1)),
 iV 57 (.ab (tm 4)),
 iV 58 (.aj 0 (tm 1)),
 iV 59 (.load none (tm 58)),
 iC 60 88 [(tm 59)],
 iV 61 (.bD 3 1 1 [(.int .i64 0)] [(0, (tm 60))]),
 iV 62 (.aj 3 (tm 3)),
 iV 63 (.load none (tm 62)),
 iV 64 (.build [(.int .i64 0), .ae, (.int .i64 0), (.str []), (.int .i64 0)] [(0, 1, (kI 13)), (3, 1, (tm 57)), (1, 1, (tm 61)), (4, 1, (tm 63))]),
 iC 65 85 [(tm 56), (tm 64)],
 iV 2 (.ab (tm 65))] [(0, 4), (7, 4)])
 .ret)))))),
 [.tmp 2]⟩
theorem ZH : cd Tryd.prog G Tryd.f74 = some cX := by kernel_rfl
/- balustrade/balustraderef06.Expr -/
abbrev Lb : Nat := 75
def jR : ax :=
 ⟨9,
 (.seq
 (.region [iV 2 (.ab (.const (.bool false)))])
 (.seq
 (.region [iV 3 (.ab (tm 0)),
 iV 4 (.bin .geq (tm 3) (kI 1)),
 iV 5 (.ab (tm 4)),
 iG 6 (.ab (tm 0)) 5 true,
 iG 7 (.bin .leq (tm 6) (kI 11)) 5 true,
 iV 8 (.pick (tm 5) (tm 7) (.const (.bool false))),
 iV 2 (.ab (tm 8))])
 .ret)),
 [.tmp 2]⟩
theorem ZG : cd Tryd.prog G Tryd.f75 = some jR := by kernel_rfl
/- internal/stringslite.IndexByte -/
abbrev eV : Nat := 76
def aE : ax :=
 ⟨8,
 (.seq
 (.region [iV 4 (.ab (kI 0))])
 (.seq
 (.region [iV 5 (.ab (tm 0)),
 iV 6 (.ab (tm 1)),
 iC 7 92 [(tm 5), (tm 6)],
 iV 4 (.ab (tm 7))])
 .ret)),
 [.tmp 4]⟩
theorem ZF : cd Tryd.prog G Tryd.f76 = some aE := by kernel_rfl
/- slices.Index[[]int,int] -/
abbrev xE : Nat := 77
def dH : aH :=
 (.seq
 (.region [iV 9 (.bin .lss (tm 8) (tm 7))])
 (.seq
 (.cond (.tmp 9)
 .skip
 (.exit 0))
 (.seq
 (.block 1
 (.seq
 (.region [iV 10 (.ab (tm 8)),
 iV 5 (.ab (tm 10))])
 (.seq
 (.region [iV 11 (.ab (tm 1)),
 iV 12 (.ab (tm 0)),
 iV 13 (.ab (tm 5)),
 iV 14 (.eu 1 (tm 12) (tm 13)),
 iV 15 (.load none (tm 14)),
 iV 16 (.eq false (.aJ 1) (tm 11) (tm 15))])
 (.cond (.tmp 16)
 (.seq
 (.region [iV 17 (.ab (tm 5)),
 iV 4 (.ab (tm 17))])
 .ret)
 .skip))))
 (.region [iV 18 (.bin .add (tm 8) (kI 1)),
 iV 8 (.ab (tm 18))]))))
def dT : ax :=
 ⟨19,
 (.seq
 (.region [iV 4 (.ab (kI 0))])
 (.seq
 (.seq
 (.region [iV 6 (.ab (tm 0)),
 iV 7 (.len (tm 6)),
 iV 8 (.ab (kI 0))])
 (.block 0
 (.loop dH)))
 (.seq
 (.region [iV 4 (.ab (kI (-1)))])
 .ret))),
 [.tmp 4]⟩
theorem ZE : cd Tryd.prog G Tryd.f77 = some dT := by kernel_rfl
end
end Go.Proofs.YtdiccmapankckaaDoor.Ev
