/- EvCode, EvF0, EvF1, EvF2. -/
import Derived.Scope
import Derived.Recover
import Derived.KernelRfl
import Derived.Test.YtblcomejcahkdaaDoorChecked
import Derived.Test.YtblcomejcahkdaaDoorMb
set_option linter.unusedSimpArgs false
set_option linter.unusedVariables false
set_option linter.unusedSectionVars false
set_option linter.defProp false
set_option maxRecDepth 20000
set_option maxHeartbeats 8000000
namespace Go.Proofs.YtblcomejcahkdaaDoor.Ev
open Go
section
section
variable {P : Program} {G : List Nat} {n : Nat} {call : Call}
theorem oT.Cn {ρ : Ren} {ds : List Deferred} (h : oT ρ [] ds) : ds = [] := by cases h; rfl
theorem xv {Q : Exit -> Act -> World -> Prop} {a : Act} {w : World} {c : Code} (I : Nat -> Act -> World -> Prop) (j : Nat) (h₀ : I j a w)
  (round : ∀ j a w, I j a w -> c.wp P (Exit.then (fun a' w' => ∃ i, i < j /\ I i a' w') Q) a w) : (Code.loop c).wp P Q a w := by
 intro b k cs
 have key : ∀ j a w, I j a w -> ∃ e a' w', Q e a' w' /\ Arrives P (lone (b.at a (.code c :: .inLoop c :: k)) cs w) b k cs e a' w' := by
  intro j
  induction j using Nat.strongRecOn with
  | _ j ih =>
   intro a w hI
   obtain ⟨e, a₁, w₁, hq, lq⟩ := round j a w hI b (.inLoop c :: k) cs
   cases e with
   | normal =>
    obtain ⟨i, aP, hI₁⟩ := hq
    obtain ⟨e₂, a₂, w₂, ZK, St⟩ := ih i aP a₁ w₁ hI₁
    exact ⟨e₂, a₂, w₂, ZK, .of_steps (Steps.trans lq (.one step_inLoop)) St⟩
   | exit id => exact ⟨_, a₁, w₁, hq, .pass (x := .inLoop c) rfl (fun _ _ => .inl (by simp)) lq⟩
   | goto l => exact ⟨_, a₁, w₁, hq, .pass (x := .inLoop c) rfl (fun _ _ => .inl (by simp)) lq⟩
   | ret => exact ⟨_, a₁, w₁, hq, .pass (x := .inLoop c) rfl (fun _ _ => .inl (by simp)) lq⟩
   | panic ch => exact ⟨_, a₁, w₁, hq, .pass (x := .inLoop c) rfl (fun _ _ => .inl (by simp)) lq⟩
   | outgrown => exact ⟨_, a₁, w₁, hq, .pass (x := .inLoop c) rfl (fun _ _ => .inl (by simp)) lq⟩
 obtain ⟨e, a', w', hq, lq⟩ := key j a w h₀
 exact ⟨e, a', w', hq, .of_steps (.one step_loop) lq⟩
theorem eJ (eT : P.follows .mixedOrders = true) (aY : li P G call) (k : Nat) {base : Nat} : ∀ (c : Code) (ic : au), dK P G n c = some ic ->
  ∀ (ρ : Ren) (m : Mem) (w : World) (fr : Fr) (a : Act) (out : Out), R base ρ m w -> fJ G ρ -> sJ ρ n fr a -> ah call k ic fr m = some out -> c.wp P (Reach base n ρ m w out) a w
 | .skip, ic, hc, ρ, m, w, fr, a, out, hR, hG, hF, h => by
  simp only [dK, aQ] at hc; subst hc
  simp only [ah, aQ] at h; subst h
  exact wp_skip ⟨rfl, ρ, hR, .refl _ _ _, hF⟩
 | .label l, ic, hc, ρ, m, w, fr, a, out, hR, hG, hF, h => by
  simp only [dK, aQ] at hc; subst hc
  simp only [ah, aQ] at h; subst h
  exact wp_label ⟨rfl, ρ, hR, .refl _ _ _, hF⟩
 | .exit id, ic, hc, ρ, m, w, fr, a, out, hR, hG, hF, h => by
  simp only [dK, aQ] at hc; subst hc
  simp only [ah, aQ] at h; subst h
  exact wp_exit ⟨rfl, ρ, hR, .refl _ _ _, hF⟩
 | .ret, ic, hc, ρ, m, w, fr, a, out, hR, hG, hF, h => by
  simp only [dK, aQ] at hc; subst hc
  simp only [ah, aQ] at h; subst h
  exact wp_ret ⟨rfl, ρ, hR, .refl _ _ _, hF⟩
 | .region id ops false, ic, hc, ρ, m, w, fr, a, out, hR, hG, hF, h => by
  simp only [dK] at hc;obtain ⟨is, MT, rfl⟩ := af hc
  simp only [ah] at h;refine wp_region ?_
  obtain ⟨h1, h2⟩ := mapM_some _ MT
  refine wy aY is (List.range ops.size) (by simpa using h1.symm) (fun j i io hj sD => ?_) ρ m w fr a out hR hG hF h
  have aP : j < ops.size := by
   have := (kO.1 hj).1
   simpa using this
  rw [List.getElem?_range aP] at hj
  cases hj
  exact ⟨ops[j], Array.getElem?_eq_getElem aP, h2 j ops[j] io (by simp [aP]) sD⟩
 | .region id ops true, ic, hc, ρ, m, w, fr, a, out, hR, hG, hF, h => by
  simp only [dK] at hc
  cases MT : ops.toList.mapM (na P G n ops) with
  | none => simp [MT] at hc
  | some is =>
   simp only [MT] at hc;obtain ⟨chk, Qg, rfl⟩ := af hc
   simp only [ah] at h;exact Dj eT aY MT Qg hR hG hF h
 | .seq x y, ic, hc, ρ, m, w, fr, a, out, hR, hG, hF, h => by
  simp only [dK] at hc
  cases hx : dK P G n x with
  | none => simp [hx] at hc
  | some ix =>
  cases hy : dK P G n y with
  | none => simp [hx, hy] at hc
  | some iy =>
  simp only [hx, hy, aQ] at hc;subst hc;simp only [ah] at h
  cases h1 : ah call k ix fr m with
  | none => simp [h1] at h
  | some o1 =>
   simp only [h1] at h;have hw := eJ eT aY k x ix hx ρ m w fr a o1 hR hG hF h1
   refine wp_seq (wp_mono hw fun e a1 w1 hq => ?_)
   cases o1 with
   | norm dB m1 =>
    obtain ⟨rfl, ρ1, iP, hs, oi⟩ := hq
    simp only [Exit.then];have := eJ eT aY k y iy hy ρ1 m1 w1 dB a1 out iP (hG.ext hs.ext) oi h
    exact wp_mono this fun e a w hq => hq.after hs
   | exit id dB m1 =>
    simp only [aQ] at h; subst h
    have := hq; obtain ⟨rfl, _⟩ := this; exact hq
   | ret dB m1 =>
    simp only [aQ] at h; subst h
    have := hq; obtain ⟨rfl, _⟩ := this; exact hq
   | dZ v dB m1 =>
    simp only [aQ] at h; subst h
    have := hq; obtain ⟨_, _, rfl, _⟩ := this; exact hq
 | .cond c x y, ic, hc, ρ, m, w, fr, a, out, hR, hG, hF, h => by
  simp only [dK] at hc
  cases nI : cR G c with
  | none => simp [nI] at hc
  | some c' =>
  cases hx : dK P G n x with
  | none => simp [nI, hx] at hc
  | some ix =>
  cases hy : dK P G n y with
  | none => simp [nI, hx, hy] at hc
  | some iy =>
  simp only [nI, hx, hy, aQ] at hc;subst hc;simp only [ah] at h;have CR := eK hG hF.tm nI
  cases l9 : fr.eval c' <;> simp only [l9, reduceCtorEq] at h
  rename_i t
  rw [l9] at CR;generalize x9 : a.eval c = av at CR
  cases CR
  refine wp_cond x9 ?_
  cases t with
  | true => exact eJ eT aY k x ix hx ρ m w fr a out hR hG hF h
  | false => exact eJ eT aY k y iy hy ρ m w fr a out hR hG hF h
 | .block id x, ic, hc, ρ, m, w, fr, a, out, hR, hG, hF, h => by
  simp only [dK] at hc;obtain ⟨ix, hx, rfl⟩ := af hc
  simp only [ah] at h
  cases h1 : ah call k ix fr m with
  | none => simp [h1] at h
  | some o1 =>
   simp only [h1] at h;have hw := eJ eT aY k x ix hx ρ m w fr a o1 hR hG hF h1
   refine wp_block (wp_mono hw fun e a1 w1 hq => ?_)
   cases o1 with
   | norm dB m1 =>
    simp only [aQ] at h; subst h
    have := hq; obtain ⟨rfl, _⟩ := this; exact hq
   | exit j dB m1 =>
    obtain ⟨rfl, hq⟩ := hq
    simp only [Exit.inBlock]
    cases hj : j.beq id <;> simp only [hj, cond_true, cond_false, aQ] at h <;> subst h
    ·rw [if_neg (gw hj)]; exact ⟨rfl, hq⟩
    ·rw [if_pos (aB hj)]; exact ⟨rfl, hq⟩
   | ret dB m1 =>
    simp only [aQ] at h; subst h
    have := hq; obtain ⟨rfl, _⟩ := this; exact hq
   | dZ v dB m1 =>
    simp only [aQ] at h; subst h
    have := hq; obtain ⟨_, _, rfl, _⟩ := this; exact hq
 | .loop x, ic, hc, ρ, m, w, fr, a, out, hR, hG, hF, h => by
  simp only [dK] at hc;obtain ⟨ix, hx, rfl⟩ := af hc
  simp only [ah] at h;refine xv (fun j a1 w1 => ∃ ρ1 m1 dB, R base ρ1 m1 w1 /\ Step ρ m w ρ1 m1 w1 /\ sJ ρ1 n dB a1 /\ iter (ah call k ix) j dB m1 = some out) k ⟨ρ, m, fr, hR, .refl _ _ _, hF, h⟩ ?_
  rintro j a1 w1 ⟨ρ1, m1, dB, iP, hs, oi, CM⟩
  cases j with
  | zero => simp [iter] at CM
  | succ j =>
   simp only [iter] at CM
   cases h1 : ah call k ix dB m1 with
   | none => simp [h1] at CM
   | some o1 =>
    simp only [h1] at CM;have hw := eJ eT aY k x ix hx ρ1 m1 w1 dB a1 o1 iP (hG.ext hs.ext) oi h1
    refine wp_mono hw fun e a2 w2 hq => ?_
    cases o1 with
    | norm NF m2 =>
     obtain ⟨rfl, ρ2, Wm, Lo, Wn⟩ := hq
     exact ⟨j, Nat.lt_succ_self j, ρ2, m2, NF, Wm, hs.trans Lo, Wn, CM⟩
    | exit id NF m2 =>
     simp only [aQ] at CM; subst CM
     have := hq; obtain ⟨rfl, _⟩ := this; exact hq.after hs
    | ret NF m2 =>
     simp only [aQ] at CM; subst CM
     have := hq; obtain ⟨rfl, _⟩ := this; exact hq.after hs
    | dZ v NF m2 =>
     simp only [aQ] at CM; subst CM
     have := hq; obtain ⟨_, _, rfl, _⟩ := this; exact hq.after hs
 | .scope x, ic, hc, ρ, m, w, fr, a, out, hR, hG, hF, h => by
  simp only [dK] at hc;refine wp_scope_straight (wp_mono (eJ eT aY k x ic hc ρ m w fr a out hR hG hF h) fun e a1 w1 hq => ?_)
  cases out with
  | norm dB m1 => have := hq; obtain ⟨rfl, _⟩ := this; exact hq
  | exit id dB m1 => have := hq; obtain ⟨rfl, _⟩ := this; exact hq
  | ret dB m1 => have := hq; obtain ⟨rfl, _⟩ := this; exact hq
  | dZ v dB m1 => have := hq; obtain ⟨_, _, rfl, _⟩ := this; exact hq
 | .goto l, ic, hc, ρ, m, w, fr, a, out, hR, hG, hF, h => by simp [dK] at hc
 | .refuse l, ic, hc, ρ, m, w, fr, a, out, hR, hG, hF, h => by simp [dK] at hc
 | .rangeFunc f ps s b, ic, hc, ρ, m, w, fr, a, out, hR, hG, hF, h => by simp [dK] at hc
theorem xm : ∀ (l : List EV) (i : Nat) (t : Tr EV) (k : Nat), (bO l i t).get k = if i <= k /\ k < i + l.length then l[k - i]? else t.get k
 | [], i, t, k => by rw [if_neg (fun h => by have := h.2; simp at this; omega)]; rfl
 | v :: l, i, t, k => by
  simp only [bO];rw [xm l (i + 1) (t.set i v) k, Tr.ba];by_cases h : k = i
  ·subst h
   rw [if_neg (by omega), if_pos rfl, if_pos (by simp)];simp
  ·by_cases h2 : i + 1 <= k /\ k < i + 1 + l.length
   ·rw [if_pos h2, if_pos (by simp; omega), show k - i = (k - (i + 1)) + 1 by omega]
    simp
   ·rw [if_neg h2, if_neg h, if_neg (by simp; omega)]
theorem nM {ρ : Ren} {args : List EV} {aj : Array Value} (hv : cS ρ args aj.toList) (hn : aj.size <= n) : sJ ρ n ⟨bO args 0 .leaf, []⟩ { tmps := aj ++ Array.replicate (n - aj.size) undef, defers := [] } := by
 have hl := hv.length
 simp at hl
 refine ⟨⟨by simp; omega, fun t => ?_⟩, .nil⟩
 unfold Fr.get;simp only
 rw [xm, Tr.ql];by_cases h : 0 <= t /\ t < 0 + args.length
 ·rw [if_pos h]
  have aP : t < args.length := by omega
  obtain ⟨v', g1, g2⟩ := hv.get t args[t] (ij aP)
  rw [show t - 0 = t by omega, ij aP];rw [Array.getD_eq_getD_getElem?, Array.getElem?_append_left (by omega)];rw [Array.getElem?_toList] at g1;rw [g1];exact g2
 ·rw [if_neg h]
  have aP : aj.size <= t := by omega
  have e : (aj ++ Array.replicate (n - aj.size) undef).getD t undef = undef := by
   rw [Array.getD_eq_getD_getElem?, Array.getElem?_append_right aP, Array.getElem?_replicate]
   split <;> rfl
  rw [e];exact .undef
theorem oK {base : Nat} {ρ : Ren} {m : Mem} {w : World} {fr : Fr} {a : Act} (hR : R base ρ m w) (hF : FR ρ n fr a) : ∀ (rs : List ResultVar) (PN : List jd) (vs : List EV), rs.mapM (qy P) = some PN -> aX fr m PN = some vs ->
  ∃ nq, (rs.mapM fun r => (match r with | .tmp t => pure (a.tmps.getD t undef) | .cell ad t => do loadVar t (<- asAddr (a.tmps.getD ad undef)) : Sem Value)).run P w = .ok nq w /\ cS ρ vs nq
 | [], PN, vs, hc, h => by
  simp at hc; subst hc
  simp [aX] at h; subst h
  exact ⟨[], rfl, .nil⟩
 | r :: rs, PN, vs, hc, h => by
  rw [List.mapM_cons] at hc
  cases hr : qy P r with
  | none => simp [hr] at hc
  | some ir =>
  cases RT : rs.mapM (qy P) with
  | none => simp [hr, RT] at hc
  | some Vv =>
  simp [hr, RT] at hc
  subst hc;simp only [aX] at h
  cases hv : qp fr m ir with
  | none => simp [hv] at h
  | some v =>
  simp only [hv] at h;obtain ⟨vs0, h0, rfl⟩ := af h
  obtain ⟨nq, r1, r2⟩ := oK hR hF rs Vv vs0 RT h0
  cases r with
  | tmp t =>
   simp only [qy, aQ] at hr; subst hr
   simp only [qp, aQ] at hv; subst hv
   exact ⟨a.tmps.getD t undef :: nq, by simp only [List.mapM_cons, Sem.run_bind, Sem.run_pure, Result.andThen_ok, r1], .cons (hF.tmp t) r2⟩
  | cell ad t =>
   simp only [qy] at hr;obtain ⟨g, hg, rfl⟩ := af hr
   simp only [qp] at hv;obtain ⟨ad', v', e1, e2, e3⟩ := oO (P := P) hR hg (hF.tmp ad) hv
   have ea : (asAddr (a.tmps.getD ad undef)).run P w = .ok ad' w := by rw [e1]; rfl
   exact ⟨v' :: nq, by simp only [List.mapM_cons, Sem.run_bind, ea, Sem.run_pure, Result.andThen_ok, e2, r1], .cons e3 r2⟩
theorem F4 {ρ : Ren} {vs : List EV} {nq : List Value} (h : cS ρ vs nq) : VR ρ (one vs) (if hh : (⟨nq⟩ : Array Value).size = 1 then (⟨nq⟩ : Array Value)[0] else .tuple ⟨nq⟩) := by
 cases h with
 | nil => exact .tuple .nil
 | cons hx hs =>
  cases hs with
  | nil => simpa [one] using hx
  | cons hy hs =>
   simp only [one];rw [dif_neg (by simp)];exact .tuple (.cons hx (.cons hy hs))
def Le (P : Program) (G : List Nat) (g : Nat) (b : Option Nat) (FD : ar) : Prop := ∃ fn, P.funcs[g]? = some fn /\ match b with
 | none => b7 P G fn = some FD
 | some d => EN P G fn = some (d, FD)
def xq (P : Program) (G : List Nat) (f : Nat) : fg -> Prop
 | .go F => ∃ fn, P.funcs[f]? = some fn /\ b7 P G fn = some F
 | .ext g => ∀ base ρ m w args (aj : Array Value) v, R base ρ m w -> cS ρ args aj.toList -> g args = some v -> ∃ v', (callFunc f aj).run P w = .ok (.value v') w /\ VR ρ v v'
 | .pure g => ∀ base ρ m w args (aj : Array Value) v, R base ρ m w -> cS ρ args aj.toList -> g args = some v -> (callFunc f aj).run P w = .ok (.enter f aj) w /\ Calls P f aj w (gY base ρ m w (.ret v m))
 | .spec g => ∀ base ρ m w args (aj : Array Value) fin, R base ρ m w -> fJ G ρ -> cS ρ args aj.toList -> g args m = some fin -> (callFunc f aj).run P w = .ok (.enter f aj) w /\ Calls P f aj w (gY base ρ m w fin)
 | .EK F D => (∃ fn, P.funcs[f]? = some fn /\ b7 P G fn = some F) /\ ∀ g b FD, jq g D = some (b, FD) -> Le P G g b FD
theorem pq {base : Nat} {ρ : Ren} {m : Mem} {w : World} {fr : Fr} {a : Act} {fn : Func} {r : List jd} (sY : fn.results.toList.mapM (qy P) = some r) (hR : R base ρ m w) (hF : FR ρ n fr a) {vs : List EV} (pG : aX fr m r = some vs) :
  ∃ v, (results fn a.tmps).run P w = .ok v w /\ VR ρ (one vs) v := by
 obtain ⟨nq, r1, r2⟩ := oK (P := P) hR hF fn.results.toList r vs sY pG
 refine ⟨_, ?_, F4 r2⟩
 simp only [results, Sem.run_bind];rw [Array.mapM_eq_mapM_toList, Sem.run_map]
 erw [r1]
 rfl
theorem uP {fn : Func} {F : ar} (hc : b7 P G fn = some F) : ∃ c b r, fn.body = some c /\ (fn.name == "runtime.NumGoroutine") = false /\ dK P G fn.ntmps c = some b /\ fn.results.toList.mapM (qy P) = some r /\ F = ⟨fn.ntmps, b, r⟩ := by
 unfold b7 at hc
 cases hb : fn.body with
 | none => simp [hb] at hc
 | some c =>
 simp only [hb] at hc
 cases sB : fn.name == "runtime.NumGoroutine" <;> simp only [sB, cond_true, cond_false, reduceCtorEq] at hc
 cases nI : dK P G fn.ntmps c with
 | none => simp [nI] at hc
 | some b =>
 cases sY : fn.results.toList.mapM (qy P) with
 | none => simp [nI, sY] at hc
 | some r =>
 simp only [nI, sY, aQ] at hc;exact ⟨c, b, r, rfl, rfl, nI, rfl, hc.symm⟩
theorem Hk {fn : Func} {d : Nat} {F : ar} (hc : EN P G fn = some (d, F)) : ∃ c b r, fn.body = some c /\ (fn.name == "runtime.NumGoroutine") = false /\ fe P G fn.ntmps c = some (d, b) /\ fn.results.toList.mapM (qy P) = some r /\ F = ⟨fn.ntmps, b, r⟩ := by
 unfold EN at hc
 cases hb : fn.body with
 | none => simp [hb] at hc
 | some c =>
 simp only [hb] at hc
 cases sB : fn.name == "runtime.NumGoroutine" <;> simp only [sB, cond_true, cond_false, reduceCtorEq] at hc
 cases nI : fe P G fn.ntmps c with
 | none => simp [nI] at hc
 | some q =>
 obtain ⟨d', b⟩ := q
 cases sY : fn.results.toList.mapM (qy P) with
 | none => simp [nI, sY] at hc
 | some r =>
 simp only [nI, sY, aQ, kj] at hc;obtain ⟨rfl, rfl⟩ := hc
 exact ⟨c, b, r, rfl, rfl, nI, rfl, rfl⟩
theorem ol {f : Nat} {fn : Func} (hf : P.funcs[f]? = some fn) {c : Code} (hb : fn.body = some c) (sB : (fn.name == "runtime.NumGoroutine") = false) {aj : Array Value} {w : World} : (callFunc f aj).run P w = .ok (.enter f aj) w := by
 simp [callFunc, hf, hb]
 simpa using sB
theorem EQ (eT : P.follows .mixedOrders = true) (aY : li P G call) (k : Nat) {base : Nat} {fn : Func} {c : Code} {b : au} {r : List jd} (nI : dK P G fn.ntmps c = some b) (sY : fn.results.toList.mapM (qy P) = some r) {args : List EV} {m : Mem} {fin : Fin} (h : cf call k ⟨fn.ntmps, b, r⟩ args m = some fin)
  {ρ : Ren} {w : World} {aj : Array Value} (hR : R base ρ m w) (hG : fJ G ρ) (hv : cS ρ args aj.toList) :
  c.wp P (bodyPost P fn (gY base ρ m w fin)) { tmps := aj ++ Array.replicate (fn.ntmps - aj.size) undef, defers := [] } w := by
 have hl := hv.length
 simp at hl
 unfold cf at h
 cases hargs : args.length.ble fn.ntmps with
 | false => simp [hargs] at h
 | true =>
 simp only [hargs, cond_true] at h;have hn : aj.size <= fn.ntmps := by have := lk hargs; omega
 cases h1 : ah call k b ⟨bO args 0 .leaf, []⟩ m with
 | none => simp [h1] at h
 | some o1 =>
  simp only [h1] at h;have hw := eJ eT aY k c b nI ρ m w _ _ o1 hR hG (nM hv hn) h1
  refine wp_mono hw fun e a1 w1 hq => ?_
  have done : ∀ {dB : Fr} {m1 : Mem} {ρ1 : Ren}, R base ρ1 m1 w1 -> Step ρ m w ρ1 m1 w1 -> sJ ρ1 fn.ntmps dB a1 -> (match dB.defers with | [] => (aX dB m1 r).map fun vs => Fin.ret (one vs) m1 | _ => none) = some fin ->
    a1.defers = [] /\ ∃ v, (results fn a1.tmps).run P w1 = .ok v w1 /\ gY base ρ m w fin (.returned v) w1 := by
   intro dB m1 ρ1 iP hs oi pd
   have hd := oi.vL
   cases vE : dB.defers with
   | cons x l => simp [vE] at pd
   | nil =>
    rw [vE] at hd;simp only [vE] at pd;obtain ⟨vs, pG, rfl⟩ := af pd
    obtain ⟨v, r1, r2⟩ := pq sY iP oi.tm pG
    exact ⟨hd.Cn, v, r1, ρ1, v, rfl, r2, iP, hs⟩
  cases o1 with
  | norm dB m1 =>
   obtain ⟨rfl, ρ1, iP, hs, oi⟩ := hq
   exact done iP hs oi h
  | ret dB m1 =>
   obtain ⟨rfl, ρ1, iP, hs, oi⟩ := hq
   exact done iP hs oi h
  | exit id dB m1 => simp at h
  | dZ v dB m1 =>
   obtain ⟨ρ1, v', rfl, qb, iP, hs, oi⟩ := hq
   simp only at h
   have hd := oi.vL
   cases vE : dB.defers with
   | cons x l => simp [vE] at h
   | nil =>
    rw [vE] at hd;simp only [vE, aQ] at h;subst h;exact ⟨hd.Cn, ρ1, v', rfl, qb, iP, hs⟩
theorem uU (eT : P.follows .mixedOrders = true) (aY : li P G call) (k : Nat) {base : Nat} {f : Nat} {fn : Func} (hf : P.funcs[f]? = some fn) {F : ar} (hc : b7 P G fn = some F) {args : List EV} {m : Mem} {fin : Fin} (h : cf call k F args m = some fin)
  {ρ : Ren} {w : World} {aj : Array Value} (hR : R base ρ m w) (hG : fJ G ρ) (hv : cS ρ args aj.toList) :
  (callFunc f aj).run P w = .ok (.enter f aj) w /\ Calls P f aj w (gY base ρ m w fin) := by
 obtain ⟨c, b, r, hb, sB, nI, sY, rfl⟩ := uP hc
 exact ⟨ol hf hb sB, calls_of_wp hf hb (EQ eT aY k nI sY h hR hG hv)⟩
def nf (ρ : Ren) (u : Option EV) (md : FrameMode) : Prop := match u with
 | none => md = .returning
 | some v => ∃ v', md = .panicking [{ v := v', recovered := false }] /\ VR ρ v v'
theorem nf.ext {ρ ρ' : Ren} (e : Ext ρ ρ') {u : Option EV} {md : FrameMode} (h : nf ρ u md) : nf ρ' u md := by
 cases u with
 | none => exact h
 | some v => obtain ⟨v', h1, h2⟩ := h; exact ⟨v', h1, h2.ext e⟩
theorem nf.run {ρ : Ren} {u : Option EV} {md : FrameMode} (h : nf ρ u md) : md ≠ .run := by
 cases u with
 | none => cases h; simp
 | some v => obtain ⟨v', rfl, _⟩ := h; simp
theorem nf.settle {ρ : Ren} {u : Option EV} {md : FrameMode} (h : nf ρ u md) : Go.settle md = md := by
 cases u with
 | none => cases h; rfl
 | some v => obtain ⟨v', rfl, _⟩ := h; rfl
theorem nf.got {ρ : Ren} {u : Option EV} {md : FrameMode} (h : nf ρ u md) (c₀ : Frame) (cs : List Frame) (hm : c₀.mode = md) : ∃ v' u', VR ρ (u.getD .aq) v' /\ Go.settle u' = .returning /\
  ((recoverD (c₀ :: cs) = none /\ v' = .nilIface /\ ({ c₀ with mode := u' } : Frame) = c₀) \/ recoverD (c₀ :: cs) = some (v', { c₀ with mode := u' } :: cs)) := by
 cases u with
 | none =>
  cases h
  refine ⟨.nilIface, .returning, .aq, rfl, .inl ⟨by simp [recoverD, hm], rfl, ?_⟩⟩
  cases c₀; cases hm; rfl
 | some v =>
  obtain ⟨v', rfl, hv⟩ := h
  exact ⟨v', .panicking [{ v := v', recovered := true }], hv, rfl, .inr (by simp [recoverD, hm])⟩
theorem yV {c : Code} {Q Q' : Exit -> Act -> List Frame -> World -> Prop} {a : Act} {cs : List Frame} {w : World} (h : c.wpS P Q a cs w) (hq : ∀ e a cs w, Q e a cs w -> Q' e a cs w) : c.wpS P Q' a cs w :=
 fun b k h1 h2 => let ⟨e, a', iQ, w', q, r⟩ := h b k h1 h2; ⟨e, a', iQ, w', hq _ _ _ _ q, r⟩
theorem GB {o : Oper} (h : Ep o = true) : o.guard = none /\ ∃ ts, o.op = .call ⟨.builtin .recover, #[], ts⟩ := by
 unfold Ep at h
 split at h
 ·rename_i xs ts h1 h2
  have : xs = #[] := by simpa using h
  subst this;exact ⟨h2, ts, h1⟩
 ·cases h
theorem sg (eT : P.follows .mixedOrders = true) (aY : li P G call) (k : Nat) {base : Nat} {u : Option EV} {md : FrameMode} {ρ : Ren} {m : Mem} {w : World} (hR : R base ρ m w) (hG : fJ G ρ) (hu : nf ρ u md) (c₀ : Frame) (cs : List Frame) (hm : c₀.mode = md) :
  ∀ (c : Code) (d : Nat) (ic : au), fe P G n c = some (d, ic) -> ∀ (fr : Fr) (a : Act) (out : Out), sJ ρ n fr a -> ah call k ic (fr.set d (u.getD .aq)) m = some out ->
   c.wpS P (fun e a' iQ w' => (∃ u', iQ = { c₀ with mode := u' } :: cs /\ Go.settle u' = .returning) /\ Reach base n ρ m w out e a' w') a (c₀ :: cs) w
 | .region id ops false, d, ic, hc, fr, a, out, hF, h => by
  simp only [fe] at hc
  cases JO : ops.toList with
  | nil => simp [JO] at hc
  | cons o r =>
   simp only [JO] at hc
   cases RX : Ep o <;> simp only [RX, cond_true, cond_false, reduceCtorEq] at hc
   cases jX : o.dst with
   | none => simp [jX] at hc
   | some d' =>
   simp only [jX] at hc
   cases aP : Nat.ble (d' + 1) n <;> simp only [aP, cond_true, cond_false, reduceCtorEq] at hc
   obtain ⟨is, MT, oD⟩ := af hc
   simp only [kj] at oD;obtain ⟨rfl, rfl⟩ := oD
   obtain ⟨kz, ts, jk⟩ := GB RX
   obtain ⟨v', u', hv, JJ, V6⟩ := hu.got c₀ cs hm
   simp only [ah] at h;have oi : sJ ρ n (fr.set d' (u.getD .aq)) (a.put o.dst v') := by
    rw [jX];exact hF.put (d := some d') (fun x hx => by cases hx; exact lk aP) hv
   have RS : ops.size = r.length + 1 := by rw [<- Array.length_toList, JO]; rfl
   have ho : ops[0]? = some o := by rw [<- Array.getElem?_toList, JO]; rfl
   obtain ⟨h1, h2⟩ := mapM_some _ MT
   have R3 : wpOps P ops (Reach base n ρ m w out) ((List.range r.length).map Nat.succ) (a.put o.dst v') w := by
    refine wy aY is _ (by simpa using h1.symm) (fun j i io hj sD => ?_) ρ m w _ _ out hR hG oi h
    have aP : j < r.length := by
     have := (kO.1 hj).1
     simpa using this
    rw [List.getElem?_map, List.getElem?_range aP] at hj
    cases hj
    have Yl : r[j]? = some r[j] := ij aP
    refine ⟨r[j], ?_, h2 j r[j] io Yl sD⟩
    rw [<- Array.getElem?_toList, JO, List.getElem?_cons_succ, Yl]
   intro b kk hb lQ
   have hg := stepG_op (P := P) (b := b) (k := kk) (cs := c₀ :: cs) (w := w) (a := a) (rest := (List.range r.length).map Nat.succ) ho (by simp [Region.wanted, kz])
   have hr : (execOp a.eval o).run P w = .ok .recover w := by
    unfold execOp;rw [jk]
    rfl
   have pd : ∀ v, (b.at a (.inRegion ops (0 :: (List.range r.length).map Nat.succ) :: kk)).finish v = b.at (a.put o.dst v) (.inRegion ops ((List.range r.length).map Nat.succ) :: kk) := by
    intro v; rw [Frame.finish_at, ho]; rfl
   have hk : (b.at a (.inRegion ops (0 :: (List.range r.length).map Nat.succ) :: kk)).kind = .deferred := hb
   have TB := tryRecover_deferred hk (c₀ :: cs)
   have RQ : step P (lone (b.at a (.inRegion ops (0 :: (List.range r.length).map Nat.succ) :: kk)) (c₀ :: cs) w) = .next (lone (b.at (a.put o.dst v') (.inRegion ops ((List.range r.length).map Nat.succ) :: kk)) ({ c₀ with mode := u' } :: cs) w) := by
    refine step_lone_go ?_
    rw [hg, <- pd];rcases V6 with ⟨g1, rfl, g3⟩ | g1
    ·rw [g3]
     simp only [Frame.at] at TB ⊢
     simp [stepG.apply, hr, TB, g1]
    ·simp only [Frame.at] at TB ⊢
     simp [stepG.apply, hr, TB, g1]
   obtain ⟨e, a', w', hq, lq⟩ := wp_ops _ _ _ R3 b kk ({ c₀ with mode := u' } :: cs)
   refine ⟨e, a', _, w', ⟨⟨u', rfl, JJ⟩, hq⟩, .of_steps (.head step_region ?_) lq⟩
   rw [RS, List.range_succ_eq_map];exact .one RQ
 | .seq x y, d, ic, hc, fr, a, out, hF, h => by
  simp only [fe] at hc
  cases hx : fe P G n x with
  | none => simp [hx] at hc
  | some q =>
  obtain ⟨d', ix⟩ := q
  cases hy : dK P G n y with
  | none => simp [hx, hy] at hc
  | some iy =>
  simp only [hx, hy, aQ, kj] at hc;obtain ⟨rfl, rfl⟩ := hc
  simp only [ah] at h
  cases h1 : ah call k ix (fr.set d' (u.getD .aq)) m with
  | none => simp [h1] at h
  | some o1 =>
   simp only [h1] at h;have hw := sg eT aY k hR hG hu c₀ cs hm x d' ix hx fr a o1 hF h1
   refine wpS_seq (yV hw fun e a1 cs1 w1 ⟨fx, hq⟩ => ?_)
   cases o1 with
   | norm dB m1 =>
    obtain ⟨rfl, ρ1, iP, hs, oi⟩ := hq
    have := eJ eT aY k y iy hy ρ1 m1 w1 dB a1 out iP (hG.ext hs.ext) oi h
    exact wpS_of_wp (wp_mono this fun e a w hq => ⟨fx, hq.after hs⟩)
   | exit id dB m1 =>
    simp only [aQ] at h; subst h
    have := hq; obtain ⟨rfl, _⟩ := this; exact ⟨fx, hq⟩
   | ret dB m1 =>
    simp only [aQ] at h; subst h
    have := hq; obtain ⟨rfl, _⟩ := this; exact ⟨fx, hq⟩
   | dZ v dB m1 =>
    simp only [aQ] at h; subst h
    have := hq; obtain ⟨_, _, rfl, _⟩ := this; exact ⟨fx, hq⟩
 | .region id ops true, d, ic, hc, _, _, _, _, _ => by simp [fe] at hc
 | .skip, d, ic, hc, _, _, _, _, _ => by simp [fe] at hc
 | .label _, d, ic, hc, _, _, _, _, _ => by simp [fe] at hc
 | .exit _, d, ic, hc, _, _, _, _, _ => by simp [fe] at hc
 | .ret, d, ic, hc, _, _, _, _, _ => by simp [fe] at hc
 | .cond _ _ _, d, ic, hc, _, _, _, _, _ => by simp [fe] at hc
 | .block _ _, d, ic, hc, _, _, _, _, _ => by simp [fe] at hc
 | .loop _, d, ic, hc, _, _, _, _, _ => by simp [fe] at hc
 | .scope _, d, ic, hc, _, _, _, _, _ => by simp [fe] at hc
 | .goto _, d, ic, hc, _, _, _, _, _ => by simp [fe] at hc
 | .refuse _, d, ic, hc, _, _, _, _, _ => by simp [fe] at hc
 | .rangeFunc _ _ _ _, d, ic, hc, _, _, _, _, _ => by simp [fe] at hc
theorem A8 (eT : P.follows .mixedOrders = true) (aY : li P G call) (k : Nat) {base : Nat} {f : Nat} {fn : Func} (hf : P.funcs[f]? = some fn) {d : Nat} {F : ar} (hc : EN P G fn = some (d, F)) {args : List EV} {m m' : Mem} {u : Option EV} {md : FrameMode} (h : dj call k d F args u m = some m')
  {ρ : Ren} {w : World} {aj : Array Value} (hR : R base ρ m w) (hG : fJ G ρ) (hv : cS ρ args aj.toList) (hu : nf ρ u md) :
  (callFunc f aj).run P w = .ok (.enter f aj) w /\ CallsD P f aj md w fun e u' w' => Go.settle u' = .returning /\ ∃ v ρ', e = .returned v /\ R base ρ' m' w' /\ Step ρ m w ρ' m' w' := by
 obtain ⟨c, b, r, hb, sB, nI, sY, rfl⟩ := Hk hc
 refine ⟨ol hf hb sB, callsD_of_wpS hf hb fun c₀ cs hm => ?_⟩
 have hl := hv.length
 simp at hl
 unfold dj at h
 cases hargs : args.length.ble fn.ntmps with
 | false => simp [hargs] at h
 | true =>
 simp only [hargs, cond_true] at h;have hn : aj.size <= fn.ntmps := by have := lk hargs; omega
 cases h1 : ah call k b (Fr.set ⟨bO args 0 .leaf, []⟩ d (u.getD .aq)) m with
 | none => simp [h1] at h
 | some o1 =>
  simp only [h1] at h;have hw := sg eT aY k hR hG hu c₀ cs hm c d b nI _ _ o1 (nM hv hn) h1
  refine yV hw fun e a1 cs1 w1 ⟨⟨u', fx, JJ⟩, hq⟩ => ?_
  have done : ∀ {dB : Fr} {m1 : Mem} {ρ1 : Ren}, R base ρ1 m1 w1 -> Step ρ m w ρ1 m1 w1 -> sJ ρ1 fn.ntmps dB a1 -> (match dB.defers with | [] => (aX dB m1 r).map fun _ => m1 | _ => none) = some m' ->
    a1.defers = [] /\ ∃ u', cs1 = { c₀ with mode := u' } :: cs /\ ∃ v, (results fn a1.tmps).run P w1 = .ok v w1 /\ Go.settle u' = .returning /\ ∃ v2 ρ', Ending.returned v = .returned v2 /\ R base ρ' m' w1 /\ Step ρ m w ρ' m' w1 := by
   intro dB m1 ρ1 iP hs oi pd
   have hd := oi.vL
   cases vE : dB.defers with
   | cons x l => simp [vE] at pd
   | nil =>
    rw [vE] at hd;simp only [vE] at pd;obtain ⟨vs, pG, rfl⟩ := af pd
    obtain ⟨v, r1, r2⟩ := pq sY iP oi.tm pG
    exact ⟨hd.Cn, u', fx, v, r1, JJ, v, ρ1, rfl, iP, hs⟩
  cases o1 with
  | norm dB m1 =>
   obtain ⟨rfl, ρ1, iP, hs, oi⟩ := hq
   exact done iP hs oi h
  | ret dB m1 =>
   obtain ⟨rfl, ρ1, iP, hs, oi⟩ := hq
   exact done iP hs oi h
  | exit id dB m1 => simp at h
  | dZ v dB m1 => simp at h
theorem iu (eT : P.follows .mixedOrders = true) (aY : li P G call) (k : Nat) {base : Nat} {fn : Func} {PN : List jd} (sY : fn.results.toList.mapM (qy P) = some PN) {D : List (Nat × Option Nat × ar)} (hD : ∀ g b FD, jq g D = some (b, FD) -> Le P G g b FD) {fr : Fr} {a : Act} {ρ0 : Ren} {m0 : Mem} {w0 : World} {fin : Fin} :
  ∀ (ds : List (Nat × List EV)) (nQ : List Deferred) (u : Option EV) (md : FrameMode) (ρ : Ren) (m : Mem) (w : World), oT ρ ds nQ -> nf ρ u md -> R base ρ m w -> fJ G ρ -> FR ρ n fr a -> Step ρ0 m0 w0 ρ m w -> bK call k PN D fr ds u m = some fin -> Leaves P fn a.tmps (gY base ρ0 m0 w0 fin) nQ md w
 | [], nQ, u, md, ρ, m, w, ur, hu, hR, hG, hF, hs, h => by
  cases ur
  cases u with
  | none =>
   cases hu
   simp only [bK] at h;obtain ⟨vs, pG, rfl⟩ := af h
   obtain ⟨v, r1, r2⟩ := pq sY hR hF pG
   exact ⟨v, r1, ρ, v, rfl, r2, hR, hs⟩
  | some v =>
   obtain ⟨v', rfl, hv⟩ := hu
   simp only [bK, aQ] at h;subst h;exact ⟨ρ, v', rfl, hv, hR, hs⟩
 | (g, args) :: ds, nQ, u, md, ρ, m, w, ur, hu, hR, hG, hF, hs, h => by
  cases ur with
  | @cons _ dd _ N1 Qd ur =>
  obtain ⟨c', MI, hargs⟩ := Qd
  simp only at MI hargs
  have J4 : cS ρ args (dd.args ++ c').toList := by rw [Array.toList_append]; exact hargs
  have hinv : ∀ {w : World}, (callFunc g (dd.args ++ c')).run P w = .ok (.enter g (dd.args ++ c')) w -> (invoke dd.target dd.args).run P w = .ok (.enter g (dd.args ++ c')) w := by
   intro w hh
   rw [MI];exact hh
  simp only [bK] at h
  cases vE : jq g D with
  | none => simp [vE] at h
  | some q =>
  obtain ⟨b, FD⟩ := q
  obtain ⟨fn2, Qb, Bs⟩ := hD g b FD vE
  cases b with
  | some d =>
   simp only [vE] at h;simp only at Bs
   cases hb : dj call k d FD args u m with
   | none => simp [hb] at h
   | some m1 =>
    simp only [hb] at h;obtain ⟨V9, CS⟩ := A8 eT aY k Qb Bs hb hR hG J4 hu
    refine ⟨hu.run, _, _, g, _, MI, hinv V9, CS.mono fun e u' w' hq => ?_⟩
    obtain ⟨JJ, v, ρ', rfl, iP, iM⟩ := hq
    show Leaves P fn a.tmps _ N1 (Go.settle u') w'
    rw [JJ];exact iu eT aY k sY hD ds N1 none .returning ρ' m1 w' (ur.ext iM.ext) rfl iP (hG.ext iM.ext) (hF.ext iM.ext) (hs.trans iM) h
  | none =>
   simp only [vE] at h;simp only at Bs
   obtain ⟨c, b, r, OS, sB, nI, VK, rfl⟩ := uP Bs
   cases hb : cf call k ⟨fn2.ntmps, b, r⟩ args m with
   | none => simp [hb] at h
   | some SZ =>
    simp only [hb] at h;have CS := callsD_of_wp (u := md) Qb OS (EQ eT aY k nI VK hb hR hG J4)
    refine ⟨hu.run, _, _, g, _, MI, hinv (ol Qb OS sB), CS.mono fun e u' w' hq => ?_⟩
    obtain ⟨rfl, hq⟩ := hq
    cases SZ with
    | ret v m1 =>
     obtain ⟨ρ', v', rfl, qb, iP, iM⟩ := hq
     show Leaves P fn a.tmps _ N1 (Go.settle u') w'
     rw [hu.settle];exact iu eT aY k sY hD ds N1 u u' ρ' m1 w' (ur.ext iM.ext) (hu.ext iM.ext) iP (hG.ext iM.ext) (hF.ext iM.ext) (hs.trans iM) h
    | dZ v m1 =>
     cases u with
     | some x => cases h
     | none =>
      obtain ⟨ρ', v', rfl, qb, iP, iM⟩ := hq
      cases hu
      exact iu eT aY k sY hD ds N1 (some v) _ ρ' m1 w' (ur.ext iM.ext) ⟨v', rfl, qb⟩ iP (hG.ext iM.ext) (hF.ext iM.ext) (hs.trans iM) h
theorem Bb (eT : P.follows .mixedOrders = true) (aY : li P G call) (k : Nat) {base : Nat} {f : Nat} {fn : Func} (hf : P.funcs[f]? = some fn) {F : ar} (hc : b7 P G fn = some F) {D : List (Nat × Option Nat × ar)} (hD : ∀ g b FD, jq g D = some (b, FD) -> Le P G g b FD) {args : List EV} {m : Mem} {fin : Fin} (h : fC call k F D args m = some fin)
  {ρ : Ren} {w : World} {aj : Array Value} (hR : R base ρ m w) (hG : fJ G ρ) (hv : cS ρ args aj.toList) :
  (callFunc f aj).run P w = .ok (.enter f aj) w /\ Calls P f aj w (gY base ρ m w fin) := by
 obtain ⟨c, b, r, hb, sB, nI, sY, rfl⟩ := uP hc
 refine ⟨ol hf hb sB, calls_of_wp_defers hf hb ?_⟩
 have hl := hv.length
 simp at hl
 unfold fC at h
 cases hargs : args.length.ble fn.ntmps with
 | false => simp [hargs] at h
 | true =>
 simp only [hargs, cond_true] at h;have hn : aj.size <= fn.ntmps := by have := lk hargs; omega
 cases h1 : ah call k b ⟨bO args 0 .leaf, []⟩ m with
 | none => simp [h1] at h
 | some o1 =>
  simp only [h1] at h;have hw := eJ eT aY k c b nI ρ m w _ _ o1 hR hG (nM hv hn) h1
  refine wp_mono hw fun e a1 w1 hq => ?_
  cases o1 with
  | norm dB m1 =>
   obtain ⟨rfl, ρ1, iP, hs, oi⟩ := hq
   exact iu eT aY k sY hD _ _ none .returning ρ1 m1 w1 oi.vL rfl iP (hG.ext hs.ext) oi.tm hs h
  | ret dB m1 =>
   obtain ⟨rfl, ρ1, iP, hs, oi⟩ := hq
   exact iu eT aY k sY hD _ _ none .returning ρ1 m1 w1 oi.vL rfl iP (hG.ext hs.ext) oi.tm hs h
  | exit id dB m1 => simp at h
  | dZ v dB m1 =>
   obtain ⟨ρ1, v', rfl, qb, iP, hs, oi⟩ := hq
   exact iu eT aY k sY hD _ _ (some v) _ ρ1 m1 w1 oi.vL ⟨v', rfl, qb⟩ iP (hG.ext hs.ext) oi.tm hs h
theorem uH (eT : P.follows .mixedOrders = true) {T : Nat -> Option fg} (hT : ∀ f e, T f = some e -> xq P G f e) : ∀ k, li P G (aC T k)
 | 0 => fun f args m fin h => by simp [aC] at h
 | k + 1 => fun f args m fin h base ρ w aj hR hG hv => by
  simp only [aC] at h
  cases he : T f with
  | none => simp [he] at h
  | some e =>
   simp only [he] at h;have cy := hT f e he
   cases e with
   | go F =>
    obtain ⟨fn, hf, hc⟩ := cy
    exact .inl (uU eT (uH eT hT k) k hf hc h hR hG hv)
   | ext g =>
    simp only [fc] at h;obtain ⟨v, hg, rfl⟩ := af h
    obtain ⟨v', h1, h2⟩ := cy base ρ m w args aj v hR hv hg
    exact .inr ⟨v, v', rfl, h1, h2⟩
   | pure g =>
    simp only [fc] at h;obtain ⟨v, hg, rfl⟩ := af h
    exact .inl (cy base ρ m w args aj v hR hv hg)
   | spec g =>
    simp only [fc] at h;exact .inl (cy base ρ m w args aj fin hR hG hv h)
   | EK F D =>
    obtain ⟨⟨fn, hf, hc⟩, hD⟩ := cy
    exact .inl (Bb eT (uH eT hT k) k hf hc hD h hR hG hv)
end
end
section
def G : List Nat := [0, 1, 2, 3, 4, 5]
abbrev iV (d : Nat) (o : iR) : aF := ⟨some d, .val o, none⟩
abbrev iN (o : iR) : aF := ⟨none, .val o, none⟩
abbrev iG (d : Nat) (o : iR) (g : Nat) (b : Bool) : aF := ⟨some d, .val o, some (g, b)⟩
abbrev iC (d f : Nat) (a : List aD) : aF := ⟨some d, .call (.const (.func f [] [])) a, none⟩
abbrev iH (d f : Nat) (a : List aD) (g : Nat) (b : Bool) : aF := ⟨some d, .call (.const (.func f [] [])) a, some (g, b)⟩
abbrev tm (t : Nat) : aD := .tmp t
abbrev kI (n : Int) : aD := .const (.int .i64 n)
abbrev kS (s : List UInt8) : aD := .const (.str s)
abbrev Tt : Nat := 2
abbrev oI : Nat := 3
abbrev Pe : Nat := 4
abbrev LJ : Nat := 5
abbrev yQ : Nat := 6
abbrev yP : Nat := 8
abbrev fV : Nat := 9
abbrev yO : Nat := 10
abbrev za : Nat := 11
abbrev QN : Nat := 12
abbrev sk : Nat := 14
abbrev qO : Nat := 15
abbrev vf : Nat := 16
abbrev LK : Nat := 17
abbrev th : Nat := 19
abbrev Tu : Nat := 21
abbrev xy : Nat := 22
abbrev Tw : Nat := 25
abbrev aL : Nat := 27
abbrev Ph : Nat := 36
abbrev fq : Nat := 45
abbrev Rr : Nat := 53
abbrev Bn : Nat := 58
abbrev QO : Nat := 59
abbrev DZ : Nat := 61
abbrev Tv : Nat := 64
abbrev QP : Nat := 75
abbrev Rp : Nat := 79
abbrev Fm : Nat := 84
abbrev Rq : Nat := 90
abbrev Uf : Nat := 92
abbrev sl : Nat := 98
abbrev vW : Nat := 101
abbrev Ou : Nat := 103
abbrev Pg : Nat := 104
abbrev Lg : Nat := 106
abbrev Lf : Nat := 107
abbrev Pf : Nat := 109
/- balustrade/balustradelaw06.TreeAlike -/
abbrev HC : Nat := 3
def pD : au :=
 (.seq
 (.seq
 (.region [iV 21 (.ab (tm 8)),
 iV 22 (.ab (tm 0)),
 iV 23 (.len (tm 22)),
 iV 24 (.bin .lss (tm 21) (tm 23))])
 (.cond (.tmp 24)
 .skip
 (.exit 0)))
 (.seq
 (.block 1
 (.seq
 (.region [iV 27 (.ab (tm 0)),
 iV 28 (.ab (tm 8)),
 iV 29 (.ay 5 (tm 27) (tm 28)),
 iV 30 (.load (some 5) (tm 29)),
 iV 9 (.alloc 27 [(.int .i64 0), .aa, (.int .i64 0), (.str []), (.int .i64 0)]),
 iN (.store 5 (tm 9) (tm 30))])
 (.seq
 (.seq
 (.region [iV 31 (.ak 4 (tm 9)),
 iV 32 (.load none (tm 31)),
 iV 33 (.bin .geq (tm 32) (kI 0)),
 iV 34 (.ab (tm 33)),
 iG 35 (.ak 4 (tm 9)) 34 true,
 iG 36 (.load none (tm 35)) 34 true,
 iG 37 (.bin .lss (tm 36) (kI 1000)) 34 true,
 iV 38 (.pick (tm 34) (tm 37) (.const (.bool false)))])
 (.cond (.tmp 38)
 (.region [iV 39 (.ak 4 (tm 9)),
 iV 40 (.load none (tm 39)),
 iV 41 (.ab (tm 2)),
 iV 42 (.conv (.int .i64) (tm 41)),
 iV 43 (.bin .add (tm 40) (tm 42)),
 iV 44 (.ak 4 (tm 9)),
 iN (.store 1 (tm 44) (tm 43))])
 .skip))
 (.region [iV 45 (.ab (tm 7)),
 iV 46 (.load (some 5) (tm 9)),
 iV 47 (.aU 27 5 1 [(.int .i64 0), .aa, (.int .i64 0), (.str []), (.int .i64 0)] [(0, (tm 46))]),
 iV 48 (.append 27 5 64 (tm 45) (tm 47)),
 iV 7 (.ab (tm 48))]))))
 (.region [iV 25 (.ab (tm 8)),
 iV 26 (.bin .add (tm 25) (kI 1)),
 iV 8 (.ab (tm 26))])))
def ej : ar :=
 ⟨93,
 (.seq
 (.region [iV 6 (.ab (.const (.bool false)))])
 (.seq
 (.seq
 (.region [iV 11 (.ab (tm 0)),
 iC 12 7 [(tm 11)],
 iV 13 (.un .not (tm 12)),
 iV 14 (.ab (tm 13)),
 iG 15 (.ab (tm 1)) 14 false,
 iH 16 7 [(tm 15)] 14 false,
 iG 17 (.un .not (tm 16)) 14 false,
 iV 18 (.pick (tm 14) (.const (.bool true)) (tm 17))])
 (.cond (.tmp 18)
 (.seq
 (.region [iC 19 8 [],
 iV 6 (.ab (tm 19))])
 .ret)
 .skip))
 (.seq
 (.region [iV 20 (.aU 27 5 0 [(.int .i64 0), .aa, (.int .i64 0), (.str []), (.int .i64 0)] []),
 iV 7 (.ab (tm 20))])
 (.seq
 (.seq
 (.region [iV 8 (.ab (kI 0))])
 (.block 0
 (.loop pD)))
 (.seq
 (.region [iV 49 (.ab (tm 0)),
 iV 50 (.ab (tm 1)),
 iC 51 9 [(tm 49), (tm 50)],
 iV 10 (.ab (tm 51))])
 (.seq
 (.region [iV 52 (.ab (tm 10)),
 iV 53 (.ab (tm 0)),
 iV 54 (.ab (tm 1)),
 iC 55 10 [(tm 53), (tm 54)],
 iV 56 (.eq false (.ax 0) (tm 52) (tm 55)),
 iV 57 (.ab (tm 56)),
 iG 58 (.ab (tm 0)) 57 true,
 iG 59 (.ab (tm 7)) 57 true,
 iH 60 9 [(tm 58), (tm 59)] 57 true,
 iV 61 (.pick (tm 57) (tm 60) (.const (.bool false))),
 iV 62 (.ab (tm 61)),
 iG 63 (.ab (tm 0)) 62 true,
 iH 64 11 [(tm 63)] 62 true,
 iG 65 (.ab (tm 7)) 62 true,
 iH 66 11 [(tm 65)] 62 true,
 iG 67 (.eq false (.ax 2) (tm 64) (tm 66)) 62 true,
 iV 68 (.pick (tm 62) (tm 67) (.const (.bool false))),
 iV 69 (.ab (tm 68)),
 iG 70 (.ab (tm 10)) 69 true,
 iG 71 (.un .not (tm 70)) 69 true,
 iG 72 (.ab (tm 71)) 69 true,
 iG 73 (.ab (tm 0)) 72 false,
 iH 74 12 [(tm 73)] 72 false,
 iG 75 (.un .not (tm 74)) 72 false,
 iG 76 (.pick (tm 72) (.const (.bool true)) (tm 75)) 69 true,
 iG 77 (.ab (tm 76)) 69 true,
 iG 78 (.ab (tm 1)) 77 false,
 iH 79 12 [(tm 78)] 77 false,
 iG 80 (.un .not (tm 79)) 77 false,
 iG 81 (.pick (tm 77) (.const (.bool true)) (tm 80)) 69 true,
 iG 82 (.ab (tm 81)) 69 true,
 iG 83 (.ab (tm 0)) 82 false,
 iH 84 11 [(tm 83)] 82 false,
 iG 85 (.ab (tm 1)) 82 false,
 iH 86 11 [(tm 85)] 82 false,
 iG 87 (.eq false (.ax 2) (tm 84) (tm 86)) 82 false,
 iG 88 (.pick (tm 82) (.const (.bool true)) (tm 87)) 69 true,
 iV 89 (.pick (tm 69) (tm 88) (.const (.bool false))),
 iV 90 (.ab (tm 89)),
 iH 91 8 [] 90 true,
 iV 92 (.pick (tm 90) (tm 91) (.const (.bool false))),
 iV 6 (.ab (tm 92))])
 .ret)))))),
 [.tmp 6]⟩
theorem Y9 : b7 Tryd.prog G Tryd.f3 = some ej := by kernel_rfl
/- balustrade/balustradelaw06.TreeParts -/
abbrev ke : Nat := 4
def bU : ar :=
 ⟨70,
 (.seq
 (.region [iV 4 (.ab (.const (.bool false)))])
 (.seq
 (.seq
 (.region [iV 9 (.ab (tm 0)),
 iC 10 7 [(tm 9)],
 iV 11 (.un .not (tm 10)),
 iV 12 (.ab (tm 11)),
 iG 13 (.ab (tm 0)) 12 false,
 iH 14 13 [(tm 13)] 12 false,
 iG 15 (.un .not (tm 14)) 12 false,
 iV 16 (.pick (tm 12) (.const (.bool true)) (tm 15))])
 (.cond (.tmp 16)
 (.seq
 (.region [iC 17 8 [],
 iV 4 (.ab (tm 17))])
 .ret)
 .skip))
 (.seq
 (.region [iV 18 (.ab (tm 1)),
 iV 19 (.conv (.int .i64) (tm 18)),
 iV 20 (.ab (tm 0)),
 iV 21 (.len (tm 20)),
 iV 22 (.bin .rem (tm 19) (tm 21)),
 iV 5 (.ab (tm 22))])
 (.seq
 (.region [iV 23 (.ab (tm 0)),
 iV 24 (.ab (tm 5)),
 iC 25 14 [(tm 23), (tm 24)],
 iV 6 (.ab (tm 25))])
 (.seq
 (.region [iV 26 (.ab (tm 0)),
 iC 27 15 [(tm 26)],
 iV 28 (.ab (tm 6)),
 iC 29 15 [(tm 28)],
 iV 7 (.ab (tm 27)),
 iV 8 (.ab (tm 29))])
 (.seq
 (.draw [iV 30 (.ab (tm 6)),
 iC 31 12 [(tm 30)],
 iV 32 (.ab (tm 31)),
 iG 33 (.ab (tm 7)) 32 true,
 iG 34 (.len (tm 33)) 32 true,
 iG 35 (.ab (tm 0)) 32 true,
 iG 36 (.len (tm 35)) 32 true,
 iG 37 (.eq false (.ax 1) (tm 34) (tm 36)) 32 true,
 iV 38 (.pick (tm 32) (tm 37) (.const (.bool false))),
 iV 39 (.ab (tm 38)),
 iG 40 (.ab (tm 8)) 39 true,
 iG 41 (.len (tm 40)) 39 true,
 iG 42 (.ab (tm 6)) 39 true,
 iG 43 (.len (tm 42)) 39 true,
 iG 44 (.eq false (.ax 1) (tm 41) (tm 43)) 39 true,
 iV 45 (.pick (tm 39) (tm 44) (.const (.bool false))),
 iV 46 (.ab (tm 45)),
 iG 47 (.ab (tm 7)) 46 true,
 iG 48 (.ab (tm 5)) 46 true,
 iG 49 (.ay 1 (tm 47) (tm 48)) 46 true,
 iG 50 (.load none (tm 49)) 46 true,
 iG 51 (.ab (tm 8)) 46 true,
 iG 52 (.ab (tm 6)) 46 true,
 iG 53 (.len (tm 52)) 46 true,
 iG 54 (.bin .sub (tm 53) (kI 1)) 46 true,
 iG 55 (.ay 1 (tm 51) (tm 54)) 46 true,
 iG 56 (.load none (tm 55)) 46 true,
 iG 57 (.eq false (.ax 1) (tm 50) (tm 56)) 46 true,
 iV 58 (.pick (tm 46) (tm 57) (.const (.bool false))),
 iV 59 (.ab (tm 58)),
 iG 60 (.ab (tm 6)) 59 true,
 iH 61 11 [(tm 60)] 59 true,
 iG 62 (.ab (tm 0)) 59 true,
 iG 63 (.ab (tm 5)) 59 true,
 iH 64 16 [(tm 62), (tm 63)] 59 true,
 iG 65 (.eq false (.ax 2) (tm 61) (tm 64)) 59 true,
 iV 66 (.pick (tm 59) (tm 65) (.const (.bool false))),
 iV 67 (.ab (tm 66)),
 iH 68 8 [] 67 true,
 iV 69 (.pick (tm 67) (tm 68) (.const (.bool false))),
 iV 4 (.ab (tm 69))] [])
 .ret)))))),
 [.tmp 4]⟩
theorem Y8 : b7 Tryd.prog G Tryd.f4 = some bU := by kernel_rfl
/- balustrade/balustradelaw06.TreeTells -/
abbrev HB : Nat := 5
def pC : au :=
 (.seq
 (.seq
 (.region [iV 62 (.ab (tm 4)),
 iV 63 (.ab (tm 0)),
 iV 64 (.len (tm 63)),
 iV 65 (.bin .lss (tm 62) (tm 64))])
 (.cond (.tmp 65)
 .skip
 (.exit 0)))
 (.seq
 (.block 1
 (.seq
 (.draw [iV 68 (.ab (tm 3)),
 iV 69 (.ab (tm 4)),
 iV 70 (.ay 1 (tm 68) (tm 69)),
 iV 71 (.load none (tm 70)),
 iV 72 (.ab (tm 0)),
 iV 73 (.ab (tm 4)),
 iC 74 19 [(tm 72), (tm 73)],
 iV 75 (.eq true (.ax 1) (tm 71) (tm 74))] [(3, 6)])
 (.cond (.tmp 75)
 (.seq
 (.region [iV 2 (.ab (.const (.bool false)))])
 .ret)
 .skip)))
 (.region [iV 66 (.ab (tm 4)),
 iV 67 (.bin .add (tm 66) (kI 1)),
 iV 4 (.ab (tm 67))])))
def ei : ar :=
 ⟨77,
 (.seq
 (.region [iV 2 (.ab (.const (.bool false)))])
 (.seq
 (.seq
 (.region [iV 5 (.ab (tm 0)),
 iC 6 7 [(tm 5)],
 iV 7 (.un .not (tm 6))])
 (.cond (.tmp 7)
 (.seq
 (.region [iC 8 8 [],
 iV 2 (.ab (tm 8))])
 .ret)
 .skip))
 (.seq
 (.region [iV 9 (.ab (tm 0)),
 iC 10 15 [(tm 9)],
 iV 3 (.ab (tm 10))])
 (.seq
 (.seq
 (.region [iV 11 (.ab (tm 0)),
 iC 12 13 [(tm 11)],
 iV 13 (.un .not (tm 12))])
 (.cond (.tmp 13)
 (.seq
 (.region [iV 14 (.ab (tm 0)),
 iC 15 12 [(tm 14)],
 iV 16 (.un .not (tm 15)),
 iV 17 (.ab (tm 16)),
 iG 18 (.ab (tm 0)) 17 true,
 iH 19 17 [(tm 18)] 17 true,
 iG 20 (.un .not (tm 19)) 17 true,
 iV 21 (.pick (tm 17) (tm 20) (.const (.bool false))),
 iV 22 (.ab (tm 21)),
 iG 23 (.ab (tm 3)) 22 true,
 iG 24 (.len (tm 23)) 22 true,
 iG 25 (.eq false (.ax 1) (tm 24) (kI 0)) 22 true,
 iV 26 (.pick (tm 22) (tm 25) (.const (.bool false))),
 iV 27 (.ab (tm 26)),
 iG 28 (.ab (tm 0)) 27 true,
 iH 29 11 [(tm 28)] 27 true,
 iG 30 (.eq false (.ax 2) (tm 29) (kS [])) 27 true,
 iV 31 (.pick (tm 27) (tm 30) (.const (.bool false))),
 iV 32 (.ab (tm 31)),
 iH 33 8 [] 32 true,
 iV 34 (.pick (tm 32) (tm 33) (.const (.bool false))),
 iV 2 (.ab (tm 34))])
 .ret)
 .skip))
 (.seq
 (.seq
 (.region [iV 35 (.ab (tm 0)),
 iC 36 12 [(tm 35)],
 iV 37 (.un .not (tm 36)),
 iV 38 (.ab (tm 37)),
 iG 39 (.ab (tm 0)) 38 false,
 iH 40 17 [(tm 39)] 38 false,
 iG 41 (.ab (tm 0)) 38 false,
 iH 42 18 [(tm 41)] 38 false,
 iG 43 (.eq true (.ax 0) (tm 40) (tm 42)) 38 false,
 iV 44 (.pick (tm 38) (.const (.bool true)) (tm 43)),
 iV 45 (.ab (tm 44)),
 iG 46 (.ab (tm 3)) 45 false,
 iG 47 (.len (tm 46)) 45 false,
 iG 48 (.ab (tm 0)) 45 false,
 iG 49 (.len (tm 48)) 45 false,
 iG 50 (.eq true (.ax 1) (tm 47) (tm 49)) 45 false,
 iV 51 (.pick (tm 45) (.const (.bool true)) (tm 50)),
 iV 52 (.ab (tm 51)),
 iG 53 (.ab (tm 0)) 52 false,
 iH 54 11 [(tm 53)] 52 false,
 iG 55 (.ab (tm 0)) 52 false,
 iG 56 (.ab (tm 0)) 52 false,
 iG 57 (.len (tm 56)) 52 false,
 iG 58 (.bin .sub (tm 57) (kI 1)) 52 false,
 iH 59 16 [(tm 55), (tm 58)] 52 false,
 iG 60 (.eq true (.ax 2) (tm 54) (tm 59)) 52 false,
 iV 61 (.pick (tm 52) (.const (.bool true)) (tm 60))])
 (.cond (.tmp 61)
 (.seq
 (.region [iV 2 (.ab (.const (.bool false)))])
 .ret)
 .skip))
 (.seq
 (.seq
 (.region [iV 4 (.ab (kI 0))])
 (.block 0
 (.loop pC)))
 (.seq
 (.region [iC 76 8 [],
 iV 2 (.ab (tm 76))])
 .ret))))))),
 [.tmp 2]⟩
theorem Y7 : b7 Tryd.prog G Tryd.f5 = some ei := by kernel_rfl
/- balustrade/balustradelaw06.TreeWords -/
abbrev HA : Nat := 6
def pB : au :=
 (.seq
 (.seq
 (.region [iV 23 (.ab (tm 10)),
 iV 24 (.ab (tm 7)),
 iV 25 (.len (tm 24)),
 iV 26 (.bin .lss (tm 23) (tm 25))])
 (.cond (.tmp 26)
 .skip
 (.exit 0)))
 (.seq
 (.block 1
 (.seq
 (.region [iV 29 (.ab (tm 7)),
 iV 30 (.ab (tm 10)),
 iV 31 (.ay 1 (tm 29) (tm 30)),
 iV 32 (.load none (tm 31)),
 iV 33 (.ab (tm 1)),
 iV 34 (.eq false (.ax 2) (tm 32) (tm 33))])
 (.cond (.tmp 34)
 (.region [iV 35 (.ab (tm 10)),
 iV 36 (.bin .add (tm 35) (kI 1)),
 iV 9 (.ab (tm 36))])
 .skip)))
 (.region [iV 27 (.ab (tm 10)),
 iV 28 (.bin .add (tm 27) (kI 1)),
 iV 10 (.ab (tm 28))])))
def eh : ar :=
 ⟨57,
 (.seq
 (.region [iV 6 (.ab (.const (.bool false)))])
 (.seq
 (.region [iC 11 20 [],
 iV 7 (.ab (tm 11))])
 (.seq
 (.region [iV 8 (.ab (kS [])),
 iV 9 (.ab (kI 0))])
 (.seq
 (.seq
 (.region [iV 12 (.ab (tm 0)),
 iV 13 (.bin .geq (tm 12) (kI 1)),
 iV 14 (.ab (tm 13)),
 iG 15 (.ab (tm 0)) 14 true,
 iG 16 (.bin .leq (tm 15) (kI 16)) 14 true,
 iV 17 (.pick (tm 14) (tm 16) (.const (.bool false)))])
 (.cond (.tmp 17)
 (.region [iV 18 (.ab (tm 7)),
 iV 19 (.ab (tm 0)),
 iV 20 (.bin .sub (tm 19) (kI 1)),
 iV 21 (.ay 1 (tm 18) (tm 20)),
 iV 22 (.load none (tm 21)),
 iV 8 (.ab (tm 22))])
 .skip))
 (.seq
 (.seq
 (.region [iV 10 (.ab (kI 0))])
 (.block 0
 (.loop pB)))
 (.seq
 (.region [iV 37 (.ab (tm 0)),
 iC 38 21 [(tm 37)],
 iV 39 (.ab (tm 8)),
 iV 40 (.eq false (.ax 2) (tm 38) (tm 39)),
 iV 41 (.ab (tm 40)),
 iG 42 (.ab (tm 1)) 41 true,
 iH 43 22 [(tm 42)] 41 true,
 iG 44 (.ab (tm 9)) 41 true,
 iG 45 (.eq false (.ax 1) (tm 43) (tm 44)) 41 true,
 iV 46 (.pick (tm 41) (tm 45) (.const (.bool false))),
 iV 47 (.ab (tm 46)),
 iG 48 (.ab (tm 2)) 47 true,
 iH 49 23 [(tm 48)] 47 true,
 iG 50 (.ab (tm 2)) 47 true,
 iH 51 24 [(tm 50)] 47 true,
 iG 52 (.eq false (.ax 2) (tm 49) (tm 51)) 47 true,
 iV 53 (.pick (tm 47) (tm 52) (.const (.bool false))),
 iV 54 (.ab (tm 53)),
 iH 55 8 [] 54 true,
 iV 56 (.pick (tm 54) (tm 55) (.const (.bool false))),
 iV 6 (.ab (tm 56))])
 .ret)))))),
 [.tmp 6]⟩
theorem Y6 : b7 Tryd.prog G Tryd.f6 = some eh := by kernel_rfl
/- balustrade/balustradelaw06.few -/
abbrev Gf : Nat := 7
def eD : au :=
 (.seq
 (.seq
 (.region [iV 5 (.ab (tm 4)),
 iV 6 (.ab (tm 0)),
 iV 7 (.len (tm 6)),
 iV 8 (.bin .lss (tm 5) (tm 7))])
 (.cond (.tmp 8)
 .skip
 (.exit 0)))
 (.seq
 (.block 1
 (.seq
 (.region [iV 11 (.ab (tm 3)),
 iV 12 (.ab (tm 0)),
 iV 13 (.ab (tm 4)),
 iV 14 (.ay 5 (tm 12) (tm 13)),
 iV 15 (.ak 1 (tm 14)),
 iV 16 (.load none (tm 15)),
 iV 17 (.len (tm 16)),
 iV 18 (.bin .add (tm 11) (tm 17)),
 iV 3 (.ab (tm 18))])
 (.seq
 (.region [iV 19 (.ab (tm 0)),
 iV 20 (.ab (tm 4)),
 iV 21 (.ay 5 (tm 19) (tm 20)),
 iV 22 (.ak 3 (tm 21)),
 iV 23 (.load none (tm 22)),
 iV 24 (.eH (tm 23)),
 iV 25 (.bin .gtr (tm 24) (kI 40))])
 (.cond (.tmp 25)
 (.seq
 (.region [iV 2 (.ab (.const (.bool false)))])
 .ret)
 .skip))))
 (.region [iV 9 (.ab (tm 4)),
 iV 10 (.bin .add (tm 9) (kI 1)),
 iV 4 (.ab (tm 10))])))
def iL : ar :=
 ⟨33,
 (.seq
 (.region [iV 2 (.ab (.const (.bool false)))])
 (.seq
 (.region [iV 3 (.ab (kI 0))])
 (.seq
 (.seq
 (.region [iV 4 (.ab (kI 0))])
 (.block 0
 (.loop eD)))
 (.seq
 (.region [iV 26 (.ab (tm 0)),
 iV 27 (.len (tm 26)),
 iV 28 (.bin .leq (tm 27) (kI 60)),
 iV 29 (.ab (tm 28)),
 iG 30 (.ab (tm 3)) 29 true,
 iG 31 (.bin .leq (tm 30) (kI 200)) 29 true,
 iV 32 (.pick (tm 29) (tm 31) (.const (.bool false))),
 iV 2 (.ab (tm 32))])
 .ret)))),
 [.tmp 2]⟩
theorem Y5 : b7 Tryd.prog G Tryd.f7 = some iL := by kernel_rfl
/- balustrade/balustradelaw06.works -/
abbrev OF : Nat := 8
def iK : ar :=
 ⟨29,
 (.seq
 (.region [iV 0 (.ab (.const (.bool false)))])
 (.seq
 (.region [iV 2 (.build [(.int .i64 0), .aa, (.int .i64 0), (.str []), (.int .i64 0)] [(0, 1, (kI 4)), (3, 1, (kS [120]))]),
 iV 3 (.build [(.int .i64 0), .aa, (.int .i64 0), (.str []), (.int .i64 0)] [(0, 1, (kI 1)), (2, 1, (kI 1))]),
 iV 4 (.aU 3 1 2 [(.int .i64 0)] [(0, (kI 0)), (1, (kI 1))]),
 iV 5 (.build [(.int .i64 0), .aa, (.int .i64 0), (.str []), (.int .i64 0)] [(0, 1, (kI 5)), (2, 1, (kI 9)), (1, 1, (tm 4))]),
 iV 6 (.aU 27 5 3 [(.int .i64 0), .aa, (.int .i64 0), (.str []), (.int .i64 0)] [(0, (tm 2)), (1, (tm 3)), (2, (tm 5))]),
 iV 1 (.ab (tm 6))])
 (.seq
 (.region [iV 7 (.ab (tm 1)),
 iC 8 12 [(tm 7)],
 iV 9 (.ab (tm 8)),
 iG 10 (.ab (tm 1)) 9 true,
 iH 11 11 [(tm 10)] 9 true,
 iG 12 (.eq false (.ax 2) (tm 11) (kS [40, 43, 32, 120, 32, 49, 41])) 9 true,
 iV 13 (.pick (tm 9) (tm 12) (.const (.bool false))),
 iV 14 (.ab (tm 13)),
 iG 15 (.ab (tm 1)) 14 true,
 iH 16 17 [(tm 15)] 14 true,
 iG 17 (.un .not (tm 16)) 14 true,
 iV 18 (.pick (tm 14) (tm 17) (.const (.bool false))),
 iV 19 (.ab (tm 18)),
 iG 20 (.ab (tm 1)) 19 true,
 iH 21 15 [(tm 20)] 19 true,
 iG 22 (.aU 3 1 3 [(.int .i64 0)] [(0, (kI 1)), (1, (kI 1)), (2, (kI 2))]) 19 true,
 iH 23 25 [(tm 21), (tm 22)] 19 true,
 iV 24 (.pick (tm 19) (tm 23) (.const (.bool false))),
 iV 25 (.ab (tm 24)),
 iH 26 22 [(kS [42, 37])] 25 true,
 iG 27 (.eq false (.ax 1) (tm 26) (kI 16)) 25 true,
 iV 28 (.pick (tm 25) (tm 27) (.const (.bool false))),
 iV 0 (.ab (tm 28))])
 .ret))),
 [.tmp 0]⟩
theorem Y4 : b7 Tryd.prog G Tryd.f8 = some iK := by kernel_rfl
/- balustrade/tree.Alike -/
abbrev Mx : Nat := 9
def gG : ar :=
 ⟨8,
 (.seq
 (.region [iV 4 (.ab (.const (.bool false)))])
 (.seq
 (.region [iV 5 (.ab (tm 0)),
 iV 6 (.ab (tm 1)),
 iC 7 26 [(tm 5), (tm 6), (.const (.func 27 [] []))],
 iV 4 (.ab (tm 7))])
 .ret)),
 [.tmp 4]⟩
theorem Y3 : b7 Tryd.prog G Tryd.f9 = some gG := by kernel_rfl
/- balustrade/balustradebase.SameNodes -/
abbrev Gg : Nat := 10
def oH : au :=
 (.seq
 (.seq
 (.region [iV 11 (.ab (tm 5)),
 iV 12 (.ab (tm 0)),
 iV 13 (.len (tm 12)),
 iV 14 (.bin .lss (tm 11) (tm 13))])
 (.cond (.tmp 14)
 .skip
 (.exit 0)))
 (.seq
 (.block 1
 (.seq
 (.draw [iV 17 (.ab (tm 0)),
 iV 18 (.ab (tm 5)),
 iV 19 (.ay 5 (tm 17) (tm 18)),
 iV 20 (.ak 0 (tm 19)),
 iV 21 (.load none (tm 20)),
 iV 22 (.ab (tm 1)),
 iV 23 (.ab (tm 5)),
 iV 24 (.ay 5 (tm 22) (tm 23)),
 iV 25 (.ak 0 (tm 24)),
 iV 26 (.load none (tm 25)),
 iV 27 (.eq true (.ax 1) (tm 21) (tm 26)),
 iV 28 (.ab (tm 27)),
 iG 29 (.ab (tm 0)) 28 false,
 iG 30 (.ab (tm 5)) 28 false,
 iG 31 (.ay 5 (tm 29) (tm 30)) 28 false,
 iG 32 (.ak 2 (tm 31)) 28 false,
 iG 33 (.load none (tm 32)) 28 false,
 iG 34 (.ab (tm 1)) 28 false,
 iG 35 (.ab (tm 5)) 28 false,
 iG 36 (.ay 5 (tm 34) (tm 35)) 28 false,
 iG 37 (.ak 2 (tm 36)) 28 false,
 iG 38 (.load none (tm 37)) 28 false,
 iG 39 (.eq true (.ax 1) (tm 33) (tm 38)) 28 false,
 iV 40 (.pick (tm 28) (.const (.bool true)) (tm 39)),
 iV 41 (.ab (tm 40)),
 iG 42 (.ab (tm 0)) 41 false,
 iG 43 (.ab (tm 5)) 41 false,
 iG 44 (.ay 5 (tm 42) (tm 43)) 41 false,
 iG 45 (.ak 3 (tm 44)) 41 false,
 iG 46 (.load none (tm 45)) 41 false,
 iG 47 (.ab (tm 1)) 41 false,
 iG 48 (.ab (tm 5)) 41 false,
 iG 49 (.ay 5 (tm 47) (tm 48)) 41 false,
 iG 50 (.ak 3 (tm 49)) 41 false,
 iG 51 (.load none (tm 50)) 41 false,
 iG 52 (.eq true (.ax 2) (tm 46) (tm 51)) 41 false,
 iV 53 (.pick (tm 41) (.const (.bool true)) (tm 52)),
 iV 54 (.ab (tm 53)),
 iG 55 (.ab (tm 0)) 54 false,
 iG 56 (.ab (tm 5)) 54 false,
 iG 57 (.ay 5 (tm 55) (tm 56)) 54 false,
 iG 58 (.ak 1 (tm 57)) 54 false,
 iG 59 (.load none (tm 58)) 54 false,
 iG 60 (.ab (tm 1)) 54 false,
 iG 61 (.ab (tm 5)) 54 false,
 iG 62 (.ay 5 (tm 60) (tm 61)) 54 false,
 iG 63 (.ak 1 (tm 62)) 54 false,
 iG 64 (.load none (tm 63)) 54 false,
 iH 65 25 [(tm 59), (tm 64)] 54 false,
 iG 66 (.un .not (tm 65)) 54 false,
 iV 67 (.pick (tm 54) (.const (.bool true)) (tm 66))] [])
 (.cond (.tmp 67)
 (.seq
 (.region [iV 4 (.ab (.const (.bool false)))])
 .ret)
 .skip)))
 (.region [iV 15 (.ab (tm 5)),
 iV 16 (.bin .add (tm 15) (kI 1)),
 iV 5 (.ab (tm 16))])))
def dN : ar :=
 ⟨68,
 (.seq
 (.region [iV 4 (.ab (.const (.bool false)))])
 (.seq
 (.seq
 (.region [iV 6 (.ab (tm 0)),
 iV 7 (.len (tm 6)),
 iV 8 (.ab (tm 1)),
 iV 9 (.len (tm 8)),
 iV 10 (.eq true (.ax 1) (tm 7) (tm 9))])
 (.cond (.tmp 10)
 (.seq
 (.region [iV 4 (.ab (.const (.bool false)))])
 .ret)
 .skip))
 (.seq
 (.seq
 (.region [iV 5 (.ab (kI 0))])
 (.block 0
 (.loop oH)))
 (.seq
 (.region [iV 4 (.ab (.const (.bool true)))])
 .ret)))),
 [.tmp 4]⟩
theorem Vm : b7 Tryd.prog G Tryd.f10 = some dN := by kernel_rfl
/- balustrade/tree.Text -/
abbrev rO : Nat := 11
def ez : ar :=
 ⟨13,
 (.seq
 (.region [iV 1 (.box 22 (tm 0)),
 iV 2 (.ab (kS []))])
 (.seq
 (.seq
 (.region [iV 4 (.load none (tm 1)),
 iC 5 12 [(tm 4)],
 iV 6 (.un .not (tm 5))])
 (.cond (.tmp 6)
 (.seq
 (.region [iV 2 (.ab (kS []))])
 .ret)
 .skip))
 (.seq
 (.region [iV 3 (.alloc 38 [.aR])])
 (.seq
 (.region [iV 7 (.tX 29 [] [(tm 1), (tm 3)]),
 iN (.store 1 (tm 3) (tm 7))])
 (.seq
 (.region [iV 8 (.load none (tm 3)),
 iV 9 (.load none (tm 1)),
 iV 10 (.len (tm 9)),
 iV 11 (.bin .sub (tm 10) (kI 1)),
 ⟨(some 12), (.call (tm 8) [(tm 11)]), none⟩,
 iV 2 (.ab (tm 12))])
 .ret))))),
 [.tmp 2]⟩
theorem Vl : b7 Tryd.prog G Tryd.f11 = some ez := by kernel_rfl
/- balustrade/tree.Right -/
abbrev pY : Nat := 12
def dH : ar :=
 ⟨7,
 (.seq
 (.region [iV 2 (.ab (.const (.bool false)))])
 (.seq
 (.region [iV 3 (.ab (tm 0)),
 iC 4 15 [(tm 3)],
 iV 5 (.len (tm 4)),
 iV 6 (.bin .gtr (tm 5) (kI 0)),
 iV 2 (.ab (tm 6))])
 .ret)),
 [.tmp 2]⟩
theorem Vk : b7 Tryd.prog G Tryd.f12 = some dH := by kernel_rfl
/- balustrade/balustraderef06.Right -/
abbrev zQ : Nat := 13
def dV : au :=
 (.seq
 (.seq
 (.region [iV 14 (.ab (tm 5)),
 iV 15 (.ab (tm 0)),
 iV 16 (.ab (tm 4)),
 iV 17 (.ay 5 (tm 15) (tm 16)),
 iV 18 (.ak 1 (tm 17)),
 iV 19 (.load none (tm 18)),
 iV 20 (.len (tm 19)),
 iV 21 (.bin .lss (tm 14) (tm 20))])
 (.cond (.tmp 21)
 .skip
 (.exit 2)))
 (.seq
 (.block 3
 (.seq
 (.region [iV 24 (.ab (tm 0)),
 iV 25 (.ab (tm 4)),
 iV 26 (.ay 5 (tm 24) (tm 25)),
 iV 27 (.ak 1 (tm 26)),
 iV 28 (.load none (tm 27)),
 iV 29 (.ab (tm 5)),
 iV 30 (.ay 1 (tm 28) (tm 29)),
 iV 31 (.load none (tm 30)),
 iV 6 (.ab (tm 31))])
 (.seq
 (.seq
 (.region [iV 32 (.ab (tm 6)),
 iV 33 (.bin .lss (tm 32) (kI 0)),
 iV 34 (.ab (tm 33)),
 iG 35 (.ab (tm 6)) 34 false,
 iG 36 (.ab (tm 4)) 34 false,
 iG 37 (.bin .geq (tm 35) (tm 36)) 34 false,
 iV 38 (.pick (tm 34) (.const (.bool true)) (tm 37)),
 iV 39 (.ab (tm 38)),
 iG 40 (.ab (tm 3)) 39 false,
 iG 41 (.ab (tm 6)) 39 false,
 iH 42 34 [(tm 40), (tm 41)] 39 false,
 iV 43 (.pick (tm 39) (.const (.bool true)) (tm 42))])
 (.cond (.tmp 43)
 (.seq
 (.region [iV 2 (.ab (.const (.bool false)))])
 .ret)
 .skip))
 (.region [iV 44 (.ab (tm 3)),
 iV 45 (.ab (tm 6)),
 iV 46 (.aU 3 1 1 [(.int .i64 0)] [(0, (tm 45))]),
 iV 47 (.append 3 1 8 (tm 44) (tm 46)),
 iV 3 (.ab (tm 47))]))))
 (.region [iV 22 (.ab (tm 5)),
 iV 23 (.bin .add (tm 22) (kI 1)),
 iV 5 (.ab (tm 23))])))
def dU : au :=
 (.seq
 (.seq
 (.region [iV 8 (.ab (tm 4)),
 iV 9 (.ab (tm 0)),
 iV 10 (.len (tm 9)),
 iV 11 (.bin .lss (tm 8) (tm 10))])
 (.cond (.tmp 11)
 .skip
 (.exit 0)))
 (.seq
 (.block 1
 (.seq
 (.seq
 (.region [iV 5 (.ab (kI 0))])
 (.block 2
 (.loop dV)))
 (.seq
 (.region [iV 48 (.ab (tm 0)),
 iV 49 (.ab (tm 4)),
 iV 50 (.ay 5 (tm 48) (tm 49)),
 iV 51 (.load (some 5) (tm 50)),
 iC 52 35 [(tm 51)],
 iV 53 (.un .not (tm 52)),
 iV 54 (.ab (tm 53)),
 iG 55 (.ab (tm 0)) 54 false,
 iG 56 (.ab (tm 0)) 54 false,
 iG 57 (.ab (tm 4)) 54 false,
 iG 58 (.ay 5 (tm 56) (tm 57)) 54 false,
 iG 59 (.load (some 5) (tm 58)) 54 false,
 iH 60 36 [(tm 55), (tm 59)] 54 false,
 iG 61 (.un .not (tm 60)) 54 false,
 iV 62 (.pick (tm 54) (.const (.bool true)) (tm 61))])
 (.cond (.tmp 62)
 (.seq
 (.region [iV 2 (.ab (.const (.bool false)))])
 .ret)
 .skip))))
 (.region [iV 12 (.ab (tm 4)),
 iV 13 (.bin .add (tm 12) (kI 1)),
 iV 4 (.ab (tm 13))])))
def fo : ar :=
 ⟨82,
 (.seq
 (.region [iV 2 (.ab (.const (.bool false)))])
 (.seq
 (.region [iV 7 (.aU 3 1 0 [(.int .i64 0)] []),
 iV 3 (.ab (tm 7))])
 (.seq
 (.seq
 (.region [iV 4 (.ab (kI 0))])
 (.block 0
 (.loop dU)))
 (.seq
 (.region [iV 63 (.ab (tm 0)),
 iV 64 (.len (tm 63)),
 iV 65 (.bin .gtr (tm 64) (kI 0)),
 iV 66 (.ab (tm 65)),
 iG 67 (.ab (tm 3)) 66 true,
 iG 68 (.len (tm 67)) 66 true,
 iG 69 (.ab (tm 0)) 66 true,
 iG 70 (.len (tm 69)) 66 true,
 iG 71 (.bin .sub (tm 70) (kI 1)) 66 true,
 iG 72 (.eq false (.ax 1) (tm 68) (tm 71)) 66 true,
 iV 73 (.pick (tm 66) (tm 72) (.const (.bool false))),
 iV 74 (.ab (tm 73)),
 iG 75 (.ab (tm 0)) 74 true,
 iG 76 (.ab (tm 0)) 74 true,
 iG 77 (.len (tm 76)) 74 true,
 iG 78 (.bin .sub (tm 77) (kI 1)) 74 true,
 iH 79 19 [(tm 75), (tm 78)] 74 true,
 iG 80 (.bin .leq (tm 79) (kI 200)) 74 true,
 iV 81 (.pick (tm 74) (tm 80) (.const (.bool false))),
 iV 2 (.ab (tm 81))])
 .ret)))),
 [.tmp 2]⟩
theorem Vj : b7 Tryd.prog G Tryd.f13 = some fo := by kernel_rfl
/- balustrade/balustraderef06.Part -/
abbrev kX : Nat := 14
def eP : au :=
 (.seq
 (.seq
 (.region [iV 49 (.ab (tm 11)),
 iV 50 (.ab (tm 8)),
 iV 51 (.ab (tm 9)),
 iV 52 (.ay 5 (tm 50) (tm 51)),
 iV 53 (.ak 1 (tm 52)),
 iV 54 (.load none (tm 53)),
 iV 55 (.len (tm 54)),
 iV 56 (.bin .lss (tm 49) (tm 55))])
 (.cond (.tmp 56)
 .skip
 (.exit 4)))
 (.seq
 (.block 5
 (.draw [iV 59 (.ak 1 (tm 10)),
 iV 60 (.load none (tm 59)),
 iV 61 (.ab (tm 8)),
 iV 62 (.ab (tm 9)),
 iV 63 (.ay 5 (tm 61) (tm 62)),
 iV 64 (.ak 1 (tm 63)),
 iV 65 (.load none (tm 64)),
 iV 66 (.ab (tm 11)),
 iV 67 (.ay 1 (tm 65) (tm 66)),
 iV 68 (.load none (tm 67)),
 iV 69 (.ab (tm 5)),
 iV 70 (.len (tm 69)),
 iV 71 (.bin .add (tm 68) (tm 70)),
 iV 72 (.aU 3 1 1 [(.int .i64 0)] [(0, (tm 71))]),
 iV 73 (.append 3 1 8 (tm 60) (tm 72)),
 iV 74 (.ak 1 (tm 10)),
 iN (.store 1 (tm 74) (tm 73))] []))
 (.region [iV 57 (.ab (tm 11)),
 iV 58 (.bin .add (tm 57) (kI 1)),
 iV 11 (.ab (tm 58))])))
def eO : au :=
 (.seq
 (.seq
 (.region [iV 38 (.ab (tm 9)),
 iV 39 (.ab (tm 8)),
 iV 40 (.len (tm 39)),
 iV 41 (.bin .lss (tm 38) (tm 40))])
 (.cond (.tmp 41)
 .skip
 (.exit 2)))
 (.seq
 (.block 3
 (.seq
 (.region [iV 44 (.ab (tm 8)),
 iV 45 (.ab (tm 9)),
 iV 46 (.ay 5 (tm 44) (tm 45)),
 iV 47 (.load (some 5) (tm 46)),
 iV 10 (.alloc 27 [(.int .i64 0), .aa, (.int .i64 0), (.str []), (.int .i64 0)]),
 iN (.store 5 (tm 10) (tm 47))])
 (.seq
 (.region [iV 48 (.ak 1 (tm 10)),
 iN (.store 1 (tm 48) (.const .aa))])
 (.seq
 (.seq
 (.region [iV 11 (.ab (kI 0))])
 (.block 4
 (.loop eP)))
 (.region [iV 75 (.ab (tm 8)),
 iV 76 (.ab (tm 9)),
 iV 77 (.load (some 5) (tm 10)),
 iV 78 (.ay 5 (tm 75) (tm 76)),
 iN (.store 5 (tm 78) (tm 77))])))))
 (.region [iV 42 (.ab (tm 9)),
 iV 43 (.bin .add (tm 42) (kI 1)),
 iV 9 (.ab (tm 43))])))
def eN : au :=
 (.seq
 (.seq
 (.region [iV 18 (.ab (tm 7)),
 iV 19 (.ab (tm 0)),
 iV 20 (.ab (tm 1)),
 iV 21 (.ay 5 (tm 19) (tm 20)),
 iV 22 (.ak 1 (tm 21)),
 iV 23 (.load none (tm 22)),
 iV 24 (.len (tm 23)),
 iV 25 (.bin .lss (tm 18) (tm 24))])
 (.cond (.tmp 25)
 .skip
 (.exit 0)))
 (.seq
 (.block 1
 (.seq
 (.region [iV 28 (.ab (tm 0)),
 iV 29 (.ab (tm 0)),
 iV 30 (.ab (tm 1)),
 iV 31 (.ay 5 (tm 29) (tm 30)),
 iV 32 (.ak 1 (tm 31)),
 iV 33 (.load none (tm 32)),
 iV 34 (.ab (tm 7)),
 iV 35 (.ay 1 (tm 33) (tm 34)),
 iV 36 (.load none (tm 35)),
 iC 37 14 [(tm 28), (tm 36)],
 iV 8 (.ab (tm 37))])
 (.seq
 (.seq
 (.region [iV 9 (.ab (kI 0))])
 (.block 2
 (.loop eO)))
 (.seq
 (.region [iV 79 (.ab (tm 5)),
 iV 80 (.ab (tm 8)),
 iV 81 (.append 27 5 64 (tm 79) (tm 80)),
 iV 5 (.ab (tm 81))])
 (.region [iV 82 (.ak 1 (tm 6)),
 iV 83 (.load none (tm 82)),
 iV 84 (.ab (tm 5)),
 iV 85 (.len (tm 84)),
 iV 86 (.bin .sub (tm 85) (kI 1)),
 iV 87 (.aU 3 1 1 [(.int .i64 0)] [(0, (tm 86))]),
 iV 88 (.append 3 1 8 (tm 83) (tm 87)),
 iV 89 (.ak 1 (tm 6)),
 iN (.store 1 (tm 89) (tm 88))])))))
 (.region [iV 26 (.ab (tm 7)),
 iV 27 (.bin .add (tm 26) (kI 1)),
 iV 7 (.ab (tm 27))])))
def cK : ar :=
 ⟨94,
 (.seq
 (.region [iV 4 (.ab (.const .aa))])
 (.seq
 (.region [iV 12 (.aU 27 5 0 [(.int .i64 0), .aa, (.int .i64 0), (.str []), (.int .i64 0)] []),
 iV 5 (.ab (tm 12))])
 (.seq
 (.region [iV 13 (.ab (tm 0)),
 iV 14 (.ab (tm 1)),
 iV 15 (.ay 5 (tm 13) (tm 14)),
 iV 16 (.load (some 5) (tm 15)),
 iV 6 (.alloc 27 [(.int .i64 0), .aa, (.int .i64 0), (.str []), (.int .i64 0)]),
 iN (.store 5 (tm 6) (tm 16))])
 (.seq
 (.region [iV 17 (.ak 1 (tm 6)),
 iN (.store 1 (tm 17) (.const .aa))])
 (.seq
 (.seq
 (.region [iV 7 (.ab (kI 0))])
 (.block 0
 (.loop eN)))
 (.seq
 (.region [iV 90 (.ab (tm 5)),
 iV 91 (.load (some 5) (tm 6)),
 iV 92 (.aU 27 5 1 [(.int .i64 0), .aa, (.int .i64 0), (.str []), (.int .i64 0)] [(0, (tm 91))]),
 iV 93 (.append 27 5 64 (tm 90) (tm 92)),
 iV 4 (.ab (tm 93))])
 .ret)))))),
 [.tmp 4]⟩
theorem Vi : b7 Tryd.prog G Tryd.f14 = some cK := by kernel_rfl
/- balustrade/tree.Heights -/
abbrev iW : Nat := 15
def bP : au :=
 (.seq
 (.region [iV 29 (.bin .lss (tm 28) (tm 27))])
 (.seq
 (.cond (.tmp 29)
 .skip
 (.exit 2))
 (.seq
 (.block 3
 (.seq
 (.region [iV 30 (.ay 1 (tm 26) (tm 28)),
 iV 31 (.load none (tm 30)),
 iV 8 (.ab (tm 31))])
 (.seq
 (.seq
 (.region [iV 32 (.ab (tm 8)),
 iV 33 (.bin .lss (tm 32) (kI 0)),
 iV 34 (.ab (tm 33)),
 iG 35 (.ab (tm 8)) 34 false,
 iG 36 (.ab (tm 5)) 34 false,
 iG 37 (.bin .geq (tm 35) (tm 36)) 34 false,
 iV 38 (.pick (tm 34) (.const (.bool true)) (tm 37)),
 iV 39 (.ab (tm 38)),
 iG 40 (.ab (tm 4)) 39 false,
 iG 41 (.ab (tm 8)) 39 false,
 iG 42 (.ay 1 (tm 40) (tm 41)) 39 false,
 iG 43 (.load none (tm 42)) 39 false,
 iV 44 (.pick (tm 39) (.const (.bool true)) (tm 43))])
 (.cond (.tmp 44)
 (.seq
 (.region [iV 2 (.ab (.const .aa))])
 .ret)
 .skip))
 (.seq
 (.region [iV 45 (.ab (tm 4)),
 iV 46 (.ab (tm 8)),
 iV 47 (.ay 1 (tm 45) (tm 46)),
 iN (.store 1 (tm 47) (.const (.bool true)))])
 (.draw [iV 48 (.ab (tm 3)),
 iV 49 (.ab (tm 5)),
 iV 50 (.ab (tm 3)),
 iV 51 (.ab (tm 5)),
 iV 52 (.ay 1 (tm 50) (tm 51)),
 iV 53 (.load none (tm 52)),
 iV 54 (.ab (tm 3)),
 iV 55 (.ab (tm 8)),
 iV 56 (.ay 1 (tm 54) (tm 55)),
 iV 57 (.load none (tm 56)),
 iV 58 (.bin .add (tm 57) (kI 1)),
 iV 59 (.max [(tm 53), (tm 58)]),
 iV 60 (.ay 1 (tm 48) (tm 49)),
 iN (.store 1 (tm 60) (tm 59))] [])))))
 (.region [iV 61 (.bin .add (tm 28) (kI 1)),
 iV 28 (.ab (tm 61))]))))
def cP : au :=
 (.seq
 (.region [iV 18 (.bin .lss (tm 17) (tm 16))])
 (.seq
 (.cond (.tmp 18)
 .skip
 (.exit 0))
 (.seq
 (.block 1
 (.seq
 (.region [iV 19 (.ab (tm 17)),
 iV 20 (.ay 5 (tm 15) (tm 17)),
 iV 21 (.load (some 5) (tm 20)),
 iV 6 (.alloc 27 [(.int .i64 0), .aa, (.int .i64 0), (.str []), (.int .i64 0)]),
 iV 5 (.ab (tm 19)),
 iN (.store 5 (tm 6) (tm 21))])
 (.seq
 (.region [iV 22 (.ab (tm 3)),
 iV 23 (.ab (tm 5)),
 iV 24 (.ay 1 (tm 22) (tm 23)),
 iN (.store 1 (tm 24) (kI 1))])
 (.seq
 (.seq
 (.region [iV 25 (.ak 1 (tm 6)),
 iV 26 (.load none (tm 25)),
 iV 27 (.len (tm 26)),
 iV 28 (.ab (kI 0))])
 (.block 2
 (.loop bP)))
 (.seq
 (.region [iV 62 (.ab (tm 0)),
 iV 63 (.load (some 5) (tm 6)),
 iC 64 37 [(tm 62), (tm 63)],
 iV 65 (.un .not (tm 64)),
 iV 66 (.ab (tm 65)),
 iG 67 (.ab (tm 3)) 66 false,
 iG 68 (.ab (tm 5)) 66 false,
 iG 69 (.ay 1 (tm 67) (tm 68)) 66 false,
 iG 70 (.load none (tm 69)) 66 false,
 iG 71 (.bin .gtr (tm 70) (kI 200)) 66 false,
 iV 72 (.pick (tm 66) (.const (.bool true)) (tm 71))])
 (.cond (.tmp 72)
 (.seq
 (.region [iV 2 (.ab (.const .aa))])
 .ret)
 .skip))))))
 (.region [iV 73 (.bin .add (tm 17) (kI 1)),
 iV 17 (.ab (tm 73))]))))
def dn : ar :=
 ⟨86,
 (.seq
 (.region [iV 2 (.ab (.const .aa))])
 (.seq
 (.region [iV 9 (.ab (tm 0)),
 iV 10 (.len (tm 9)),
 iV 11 (.gy 3 1 [(.int .i64 0)] (tm 10) (tm 10)),
 iV 3 (.ab (tm 11))])
 (.seq
 (.region [iV 12 (.ab (tm 0)),
 iV 13 (.len (tm 12)),
 iV 14 (.gy 4 1 [(.bool false)] (tm 13) (tm 13)),
 iV 4 (.ab (tm 14))])
 (.seq
 (.seq
 (.region [iV 15 (.ab (tm 0)),
 iV 16 (.len (tm 15)),
 iV 17 (.ab (kI 0))])
 (.block 0
 (.loop cP)))
 (.seq
 (.seq
 (.region [iV 74 (.ab (tm 0)),
 iV 75 (.len (tm 74)),
 iV 76 (.eq false (.ax 1) (tm 75) (kI 0)),
 iV 77 (.ab (tm 76)),
 iG 78 (.ab (tm 4)) 77 false,
 iG 79 (.ab (tm 0)) 77 false,
 iG 80 (.len (tm 79)) 77 false,
 iG 81 (.bin .sub (tm 80) (kI 1)) 77 false,
 iG 82 (.lp 1 (tm 78) none (some (tm 81)) none) 77 false,
 iH 83 38 [(tm 82), (.const (.bool false))] 77 false,
 iV 84 (.pick (tm 77) (.const (.bool true)) (tm 83))])
 (.cond (.tmp 84)
 (.seq
 (.region [iV 2 (.ab (.const .aa))])
 .ret)
 .skip))
 (.seq
 (.region [iV 85 (.ab (tm 3)),
 iV 2 (.ab (tm 85))])
 .ret)))))),
 [.tmp 2]⟩
theorem Vh : b7 Tryd.prog G Tryd.f15 = some dn := by kernel_rfl
end
section
/- balustrade/balustraderef06.Tell -/
abbrev o6 : Nat := 16
def ct : au :=
 (.seq
 (.seq
 (.region [iV 66 (.ab (tm 7)),
 iV 67 (.ak 1 (tm 5)),
 iV 68 (.load none (tm 67)),
 iV 69 (.len (tm 68)),
 iV 70 (.bin .lss (tm 66) (tm 69))])
 (.cond (.tmp 70)
 .skip
 (.exit 0)))
 (.seq
 (.block 1
 (.region [iV 73 (.ab (tm 6)),
 iV 74 (.bin .add (tm 73) (kS [32])),
 iV 75 (.ab (tm 0)),
 iV 76 (.ak 1 (tm 5)),
 iV 77 (.load none (tm 76)),
 iV 78 (.ab (tm 7)),
 iV 79 (.ay 1 (tm 77) (tm 78)),
 iV 80 (.load none (tm 79)),
 iC 81 16 [(tm 75), (tm 80)],
 iV 82 (.bin .add (tm 74) (tm 81)),
 iV 6 (.ab (tm 82))]))
 (.region [iV 71 (.ab (tm 7)),
 iV 72 (.bin .add (tm 71) (kI 1)),
 iV 7 (.ab (tm 72))])))
def cr : ar :=
 ⟨86,
 (.seq
 (.region [iV 4 (.ab (kS []))])
 (.seq
 (.region [iV 8 (.ab (tm 0)),
 iV 9 (.ab (tm 1)),
 iV 10 (.ay 5 (tm 8) (tm 9)),
 iV 11 (.load (some 5) (tm 10)),
 iV 5 (.alloc 27 [(.int .i64 0), .aa, (.int .i64 0), (.str []), (.int .i64 0)]),
 iN (.store 5 (tm 5) (tm 11))])
 (.seq
 (.seq
 (.region [iV 12 (.ak 0 (tm 5)),
 iV 13 (.load none (tm 12)),
 iV 14 (.eq false (.ax 1) (tm 13) (kI 1))])
 (.cond (.tmp 14)
 (.seq
 (.region [iV 15 (.ak 2 (tm 5)),
 iV 16 (.load none (tm 15)),
 iC 17 39 [(tm 16)],
 iV 4 (.ab (tm 17))])
 .ret)
 .skip))
 (.seq
 (.seq
 (.region [iV 18 (.ak 0 (tm 5)),
 iV 19 (.load none (tm 18)),
 iV 20 (.eq false (.ax 1) (tm 19) (kI 2)),
 iV 21 (.ab (tm 20)),
 iG 22 (.ak 2 (tm 5)) 21 true,
 iG 23 (.load none (tm 22)) 21 true,
 iG 24 (.eq false (.ax 1) (tm 23) (kI 1)) 21 true,
 iV 25 (.pick (tm 21) (tm 24) (.const (.bool false)))])
 (.cond (.tmp 25)
 (.seq
 (.region [iV 4 (.ab (kS [116, 114, 117, 101]))])
 .ret)
 .skip))
 (.seq
 (.seq
 (.region [iV 26 (.ak 0 (tm 5)),
 iV 27 (.load none (tm 26)),
 iV 28 (.eq false (.ax 1) (tm 27) (kI 2))])
 (.cond (.tmp 28)
 (.seq
 (.region [iV 4 (.ab (kS [102, 97, 108, 115, 101]))])
 .ret)
 .skip))
 (.seq
 (.seq
 (.region [iV 29 (.ak 0 (tm 5)),
 iV 30 (.load none (tm 29)),
 iV 31 (.bin .leq (tm 30) (kI 4))])
 (.cond (.tmp 31)
 (.seq
 (.draw [iV 32 (.load (some 5) (tm 5)),
 iC 33 40 [(tm 32)],
 iV 34 (.ak 3 (tm 5)),
 iV 35 (.load none (tm 34)),
 iV 36 (.bin .add (tm 33) (tm 35)),
 iV 4 (.ab (tm 36))] [(3, 1)])
 .ret)
 .skip))
 (.seq
 (.region [iV 37 (.load (some 5) (tm 5)),
 iC 38 40 [(tm 37)],
 iV 6 (.ab (tm 38))])
 (.seq
 (.seq
 (.region [iV 39 (.ak 3 (tm 5)),
 iV 40 (.load none (tm 39)),
 iV 41 (.eq true (.ax 2) (tm 40) (kS [])),
 iV 42 (.ab (tm 41)),
 iG 43 (.ab (tm 6)) 42 true,
 iG 44 (.eq true (.ax 2) (tm 43) (kS [])) 42 true,
 iV 45 (.pick (tm 42) (tm 44) (.const (.bool false)))])
 (.cond (.tmp 45)
 (.region [iV 46 (.ab (tm 6)),
 iV 47 (.bin .add (tm 46) (kS [32])),
 iV 6 (.ab (tm 47))])
 .skip))
 (.seq
 (.region [iV 48 (.ab (tm 6)),
 iV 49 (.ak 3 (tm 5)),
 iV 50 (.load none (tm 49)),
 iV 51 (.bin .add (tm 48) (tm 50)),
 iV 6 (.ab (tm 51))])
 (.seq
 (.seq
 (.region [iV 52 (.ak 0 (tm 5)),
 iV 53 (.load none (tm 52)),
 iV 54 (.eq false (.ax 1) (tm 53) (kI 24)),
 iV 55 (.ab (tm 54)),
 iG 56 (.ak 0 (tm 5)) 55 false,
 iG 57 (.load none (tm 56)) 55 false,
 iG 58 (.eq false (.ax 1) (tm 57) (kI 25)) 55 false,
 iV 59 (.pick (tm 55) (.const (.bool true)) (tm 58))])
 (.cond (.tmp 59)
 (.region [iV 60 (.ab (tm 6)),
 iV 61 (.bin .add (tm 60) (kS [32])),
 iV 62 (.ak 2 (tm 5)),
 iV 63 (.load none (tm 62)),
 iC 64 24 [(tm 63)],
 iV 65 (.bin .add (tm 61) (tm 64)),
 iV 6 (.ab (tm 65))])
 .skip))
 (.seq
 (.seq
 (.region [iV 7 (.ab (kI 0))])
 (.block 0
 (.loop ct)))
 (.seq
 (.region [iV 83 (.ab (tm 6)),
 iV 84 (.bin .add (kS [40]) (tm 83)),
 iV 85 (.bin .add (tm 84) (kS [41])),
 iV 4 (.ab (tm 85))])
 .ret)))))))))))),
 [.tmp 4]⟩
theorem Vg : b7 Tryd.prog G Tryd.f16 = some cr := by kernel_rfl
/- balustrade/tree.Whole -/
abbrev Mw : Nat := 17
def gF : ar :=
 ⟨15,
 (.seq
 (.region [iV 2 (.ab (.const (.bool false)))])
 (.seq
 (.region [iV 3 (.ab (tm 0)),
 iC 4 12 [(tm 3)],
 iV 5 (.ab (tm 4)),
 iG 6 (.ab (tm 0)) 5 true,
 iG 7 (.ab (tm 0)) 5 true,
 iG 8 (.len (tm 7)) 5 true,
 iG 9 (.bin .sub (tm 8) (kI 1)) 5 true,
 iG 10 (.ay 5 (tm 6) (tm 9)) 5 true,
 iG 11 (.ak 0 (tm 10)) 5 true,
 iG 12 (.load none (tm 11)) 5 true,
 iG 13 (.eq false (.ax 1) (tm 12) (kI 26)) 5 true,
 iV 14 (.pick (tm 5) (tm 13) (.const (.bool false))),
 iV 2 (.ab (tm 14))])
 .ret)),
 [.tmp 2]⟩
theorem Vf : b7 Tryd.prog G Tryd.f17 = some gF := by kernel_rfl
/- balustrade/balustraderef06.Whole -/
abbrev OE : Nat := 18
def iE : ar :=
 ⟨15,
 (.seq
 (.region [iV 2 (.ab (.const (.bool false)))])
 (.seq
 (.region [iV 3 (.ab (tm 0)),
 iC 4 13 [(tm 3)],
 iV 5 (.ab (tm 4)),
 iG 6 (.ab (tm 0)) 5 true,
 iG 7 (.ab (tm 0)) 5 true,
 iG 8 (.len (tm 7)) 5 true,
 iG 9 (.bin .sub (tm 8) (kI 1)) 5 true,
 iG 10 (.ay 5 (tm 6) (tm 9)) 5 true,
 iG 11 (.ak 0 (tm 10)) 5 true,
 iG 12 (.load none (tm 11)) 5 true,
 iG 13 (.eq false (.ax 1) (tm 12) (kI 26)) 5 true,
 iV 14 (.pick (tm 5) (tm 13) (.const (.bool false))),
 iV 2 (.ab (tm 14))])
 .ret)),
 [.tmp 2]⟩
theorem Ve : b7 Tryd.prog G Tryd.f18 = some iE := by kernel_rfl
/- balustrade/balustraderef06.Height -/
abbrev pZ : Nat := 19
def dA : au :=
 (.seq
 (.seq
 (.region [iV 7 (.ab (tm 6)),
 iV 8 (.ab (tm 0)),
 iV 9 (.ab (tm 1)),
 iV 10 (.ay 5 (tm 8) (tm 9)),
 iV 11 (.ak 1 (tm 10)),
 iV 12 (.load none (tm 11)),
 iV 13 (.len (tm 12)),
 iV 14 (.bin .lss (tm 7) (tm 13))])
 (.cond (.tmp 14)
 .skip
 (.exit 0)))
 (.seq
 (.block 1
 (.region [iV 17 (.ab (tm 5)),
 iV 18 (.ab (tm 0)),
 iV 19 (.ab (tm 0)),
 iV 20 (.ab (tm 1)),
 iV 21 (.ay 5 (tm 19) (tm 20)),
 iV 22 (.ak 1 (tm 21)),
 iV 23 (.load none (tm 22)),
 iV 24 (.ab (tm 6)),
 iV 25 (.ay 1 (tm 23) (tm 24)),
 iV 26 (.load none (tm 25)),
 iC 27 19 [(tm 18), (tm 26)],
 iV 28 (.bin .add (kI 1) (tm 27)),
 iV 29 (.max [(tm 17), (tm 28)]),
 iV 5 (.ab (tm 29))]))
 (.region [iV 15 (.ab (tm 6)),
 iV 16 (.bin .add (tm 15) (kI 1)),
 iV 6 (.ab (tm 16))])))
def eB : ar :=
 ⟨31,
 (.seq
 (.region [iV 4 (.ab (kI 0))])
 (.seq
 (.region [iV 5 (.ab (kI 1))])
 (.seq
 (.seq
 (.region [iV 6 (.ab (kI 0))])
 (.block 0
 (.loop dA)))
 (.seq
 (.region [iV 30 (.ab (tm 5)),
 iV 4 (.ab (tm 30))])
 .ret)))),
 [.tmp 4]⟩
theorem Vd : b7 Tryd.prog G Tryd.f19 = some eB := by kernel_rfl
/- balustrade/balustraderef06.Signs -/
abbrev zP : Nat := 20
def iI : ar :=
 ⟨2,
 (.seq
 (.region [iV 0 (.ab (.const .aa))])
 (.seq
 (.region [iV 1 (.aU 9 1 16 [(.str [])] [(0, (kS [124, 124])), (1, (kS [38, 38])), (2, (kS [61, 61])), (3, (kS [33, 61])), (4, (kS [60])), (5, (kS [60, 61])), (6, (kS [62])), (7, (kS [62, 61])), (8, (kS [43])), (9, (kS [45])), (10, (kS [43, 37])), (11, (kS [45, 37])), (12, (kS [42])), (13, (kS [47])), (14, (kS [37])), (15, (kS [42, 37]))]),
 iV 0 (.ab (tm 1))])
 .ret)),
 [.tmp 0]⟩
theorem Vc : b7 Tryd.prog G Tryd.f20 = some iI := by kernel_rfl
/- balustrade/tree.Sign -/
abbrev rP : Nat := 21
def j8 : ar :=
 ⟨15,
 (.seq
 (.region [iV 2 (.ab (kS []))])
 (.seq
 (.seq
 (.region [iV 3 (.ab (tm 0)),
 iV 4 (.bin .lss (tm 3) (kI 0)),
 iV 5 (.ab (tm 4)),
 iG 6 (.ab (tm 0)) 5 false,
 iG 7 (.load none (.const (.ptr 0 0))) 5 false,
 iG 8 (.len (tm 7)) 5 false,
 iG 9 (.bin .geq (tm 6) (tm 8)) 5 false,
 iV 10 (.pick (tm 5) (.const (.bool true)) (tm 9))])
 (.cond (.tmp 10)
 (.seq
 (.region [iV 2 (.ab (kS []))])
 .ret)
 .skip))
 (.seq
 (.region [iV 11 (.load none (.const (.ptr 0 0))),
 iV 12 (.ab (tm 0)),
 iV 13 (.ay 1 (tm 11) (tm 12)),
 iV 14 (.load none (tm 13)),
 iV 2 (.ab (tm 14))])
 .ret))),
 [.tmp 2]⟩
theorem Vb : b7 Tryd.prog G Tryd.f21 = some j8 := by kernel_rfl
/- balustrade/tree.Op -/
abbrev QV : Nat := 22
def mv : ar :=
 ⟨7,
 (.seq
 (.region [iV 2 (.ab (kI 0))])
 (.seq
 (.region [iV 3 (.load none (.const (.ptr 0 0))),
 iV 4 (.ab (tm 0)),
 iC 5 41 [(tm 3), (tm 4)],
 iV 6 (.max [(kI 0), (tm 5)]),
 iV 2 (.ab (tm 6))])
 .ret)),
 [.tmp 2]⟩
theorem Va : b7 Tryd.prog G Tryd.f22 = some mv := by kernel_rfl
/- balustrade/tree.Kind -/
abbrev rQ : Nat := 23
def dm : ar :=
 ⟨10,
 (.seq
 (.region [iV 2 (.ab (kS []))])
 (.seq
 (.seq
 (.region [iV 3 (.ab (tm 0))])
 (.block 0
 (.seq
 (.region [iV 5 (.eq false (.ax 1) (tm 3) (kI 1)),
 iV 4 (.ab (tm 5))])
 (.cond (.tmp 4)
 (.seq
 (.region [iV 2 (.ab (kS [105, 110, 116]))])
 .ret)
 (.seq
 (.region [iV 7 (.eq false (.ax 1) (tm 3) (kI 2)),
 iV 6 (.ab (tm 7))])
 (.cond (.tmp 6)
 (.seq
 (.region [iV 2 (.ab (kS [98, 111, 111, 108]))])
 .ret)
 (.seq
 (.region [iV 9 (.eq false (.ax 1) (tm 3) (kI 3)),
 iV 8 (.ab (tm 9))])
 (.cond (.tmp 8)
 (.seq
 (.region [iV 2 (.ab (kS [97, 114, 114]))])
 .ret)
 .skip))))))))
 (.seq
 (.region [iV 2 (.ab (kS []))])
 .ret))),
 [.tmp 2]⟩
theorem U9 : b7 Tryd.prog G Tryd.f23 = some dm := by kernel_rfl
/- balustrade/balustraderef06.Kind -/
abbrev tU : Nat := 24
def dz : ar :=
 ⟨16,
 (.seq
 (.region [iV 2 (.ab (kS []))])
 (.seq
 (.region [iV 4 (.aU 9 1 3 [(.str [])] [(0, (kS [105, 110, 116])), (1, (kS [98, 111, 111, 108])), (2, (kS [97, 114, 114]))]),
 iV 3 (.ab (tm 4))])
 (.seq
 (.seq
 (.region [iV 5 (.ab (tm 0)),
 iV 6 (.bin .lss (tm 5) (kI 1)),
 iV 7 (.ab (tm 6)),
 iG 8 (.ab (tm 0)) 7 false,
 iG 9 (.bin .gtr (tm 8) (kI 3)) 7 false,
 iV 10 (.pick (tm 7) (.const (.bool true)) (tm 9))])
 (.cond (.tmp 10)
 (.seq
 (.region [iV 2 (.ab (kS []))])
 .ret)
 .skip))
 (.seq
 (.region [iV 11 (.ab (tm 3)),
 iV 12 (.ab (tm 0)),
 iV 13 (.bin .sub (tm 12) (kI 1)),
 iV 14 (.ay 1 (tm 11) (tm 13)),
 iV 15 (.load none (tm 14)),
 iV 2 (.ab (tm 15))])
 .ret)))),
 [.tmp 2]⟩
theorem U8 : b7 Tryd.prog G Tryd.f24 = some dz := by kernel_rfl
/- balustrade/balustradebase.SameInts -/
abbrev HD : Nat := 25
def pE : au :=
 (.seq
 (.seq
 (.region [iV 11 (.ab (tm 5)),
 iV 12 (.ab (tm 0)),
 iV 13 (.len (tm 12)),
 iV 14 (.bin .lss (tm 11) (tm 13))])
 (.cond (.tmp 14)
 .skip
 (.exit 0)))
 (.seq
 (.block 1
 (.seq
 (.draw [iV 17 (.ab (tm 0)),
 iV 18 (.ab (tm 5)),
 iV 19 (.ay 1 (tm 17) (tm 18)),
 iV 20 (.load none (tm 19)),
 iV 21 (.ab (tm 1)),
 iV 22 (.ab (tm 5)),
 iV 23 (.ay 1 (tm 21) (tm 22)),
 iV 24 (.load none (tm 23)),
 iV 25 (.eq true (.ax 1) (tm 20) (tm 24))] [])
 (.cond (.tmp 25)
 (.seq
 (.region [iV 4 (.ab (.const (.bool false)))])
 .ret)
 .skip)))
 (.region [iV 15 (.ab (tm 5)),
 iV 16 (.bin .add (tm 15) (kI 1)),
 iV 5 (.ab (tm 16))])))
def ep : ar :=
 ⟨26,
 (.seq
 (.region [iV 4 (.ab (.const (.bool false)))])
 (.seq
 (.seq
 (.region [iV 6 (.ab (tm 0)),
 iV 7 (.len (tm 6)),
 iV 8 (.ab (tm 1)),
 iV 9 (.len (tm 8)),
 iV 10 (.eq true (.ax 1) (tm 7) (tm 9))])
 (.cond (.tmp 10)
 (.seq
 (.region [iV 4 (.ab (.const (.bool false)))])
 .ret)
 .skip))
 (.seq
 (.seq
 (.region [iV 5 (.ab (kI 0))])
 (.block 0
 (.loop pE)))
 (.seq
 (.region [iV 4 (.ab (.const (.bool true)))])
 .ret)))),
 [.tmp 4]⟩
theorem U7 : b7 Tryd.prog G Tryd.f25 = some ep := by kernel_rfl
/- slices.EqualFunc[[]balustrade/api.Node,[]balustrade/api.Node,balustrade/api.Node,balustrade/api.Node] -/
abbrev sS : Nat := 26
def jE : au :=
 (.seq
 (.region [iV 18 (.bin .lss (tm 17) (tm 16))])
 (.seq
 (.cond (.tmp 18)
 .skip
 (.exit 0))
 (.seq
 (.block 1
 (.seq
 (.region [iV 19 (.ab (tm 17)),
 iV 20 (.ay 5 (tm 15) (tm 17)),
 iV 21 (.load (some 5) (tm 20)),
 iV 8 (.alloc 27 [(.int .i64 0), .aa, (.int .i64 0), (.str []), (.int .i64 0)]),
 iV 7 (.ab (tm 19)),
 iN (.store 5 (tm 8) (tm 21))])
 (.seq
 (.region [iV 22 (.ab (tm 1)),
 iV 23 (.ab (tm 7)),
 iV 24 (.ay 5 (tm 22) (tm 23)),
 iV 25 (.load (some 5) (tm 24)),
 iV 9 (.alloc 27 [(.int .i64 0), .aa, (.int .i64 0), (.str []), (.int .i64 0)]),
 iN (.store 5 (tm 9) (tm 25))])
 (.seq
 (.region [iV 26 (.ab (tm 2)),
 iV 27 (.load (some 5) (tm 8)),
 iV 28 (.load (some 5) (tm 9)),
 ⟨(some 29), (.call (tm 26) [(tm 27), (tm 28)]), none⟩,
 iV 30 (.un .not (tm 29))])
 (.cond (.tmp 30)
 (.seq
 (.region [iV 6 (.ab (.const (.bool false)))])
 .ret)
 .skip)))))
 (.region [iV 31 (.bin .add (tm 17) (kI 1)),
 iV 17 (.ab (tm 31))]))))
def bI : ar :=
 ⟨32,
 (.seq
 (.region [iV 6 (.ab (.const (.bool false)))])
 (.seq
 (.seq
 (.region [iV 10 (.ab (tm 0)),
 iV 11 (.len (tm 10)),
 iV 12 (.ab (tm 1)),
 iV 13 (.len (tm 12)),
 iV 14 (.eq true (.ax 1) (tm 11) (tm 13))])
 (.cond (.tmp 14)
 (.seq
 (.region [iV 6 (.ab (.const (.bool false)))])
 .ret)
 .skip))
 (.seq
 (.seq
 (.region [iV 15 (.ab (tm 0)),
 iV 16 (.len (tm 15)),
 iV 17 (.ab (kI 0))])
 (.block 0
 (.loop jE)))
 (.seq
 (.region [iV 6 (.ab (.const (.bool true)))])
 .ret)))),
 [.tmp 6]⟩
theorem U6 : b7 Tryd.prog G Tryd.f26 = some bI := by kernel_rfl
/- balustrade/tree.Alike$1 -/
abbrev I9 : Nat := 27
def ff : ar :=
 ⟨31,
 (.seq
 (.region [iV 2 (.box 27 (tm 0)),
 iV 3 (.box 27 (tm 1)),
 iV 4 (.ab (.const (.bool false)))])
 (.seq
 (.region [iV 5 (.ak 0 (tm 2)),
 iV 6 (.load none (tm 5)),
 iV 7 (.ak 0 (tm 3)),
 iV 8 (.load none (tm 7)),
 iV 9 (.eq false (.ax 1) (tm 6) (tm 8)),
 iV 10 (.ab (tm 9)),
 iG 11 (.ak 2 (tm 2)) 10 true,
 iG 12 (.load none (tm 11)) 10 true,
 iG 13 (.ak 2 (tm 3)) 10 true,
 iG 14 (.load none (tm 13)) 10 true,
 iG 15 (.eq false (.ax 1) (tm 12) (tm 14)) 10 true,
 iV 16 (.pick (tm 10) (tm 15) (.const (.bool false))),
 iV 17 (.ab (tm 16)),
 iG 18 (.ak 3 (tm 2)) 17 true,
 iG 19 (.load none (tm 18)) 17 true,
 iG 20 (.ak 3 (tm 3)) 17 true,
 iG 21 (.load none (tm 20)) 17 true,
 iG 22 (.eq false (.ax 2) (tm 19) (tm 21)) 17 true,
 iV 23 (.pick (tm 17) (tm 22) (.const (.bool false))),
 iV 24 (.ab (tm 23)),
 iG 25 (.ak 1 (tm 2)) 24 true,
 iG 26 (.load none (tm 25)) 24 true,
 iG 27 (.ak 1 (tm 3)) 24 true,
 iG 28 (.load none (tm 27)) 24 true,
 iH 29 28 [(tm 26), (tm 28)] 24 true,
 iV 30 (.pick (tm 24) (tm 29) (.const (.bool false))),
 iV 4 (.ab (tm 30))])
 .ret)),
 [.tmp 4]⟩
theorem U5 : b7 Tryd.prog G Tryd.f27 = some ff := by kernel_rfl
/- slices.Equal[[]int,int] -/
abbrev Cp : Nat := 28
def nj : au :=
 (.seq
 (.region [iV 14 (.bin .lss (tm 13) (tm 12))])
 (.seq
 (.cond (.tmp 14)
 .skip
 (.exit 0))
 (.seq
 (.block 1
 (.seq
 (.region [iV 15 (.ab (tm 13)),
 iV 5 (.ab (tm 15))])
 (.seq
 (.draw [iV 16 (.ab (tm 0)),
 iV 17 (.ab (tm 5)),
 iV 18 (.ay 1 (tm 16) (tm 17)),
 iV 19 (.load none (tm 18)),
 iV 20 (.ab (tm 1)),
 iV 21 (.ab (tm 5)),
 iV 22 (.ay 1 (tm 20) (tm 21)),
 iV 23 (.load none (tm 22)),
 iV 24 (.eq true (.ax 1) (tm 19) (tm 23))] [])
 (.cond (.tmp 24)
 (.seq
 (.region [iV 4 (.ab (.const (.bool false)))])
 .ret)
 .skip))))
 (.region [iV 25 (.bin .add (tm 13) (kI 1)),
 iV 13 (.ab (tm 25))]))))
def dc : ar :=
 ⟨26,
 (.seq
 (.region [iV 4 (.ab (.const (.bool false)))])
 (.seq
 (.seq
 (.region [iV 6 (.ab (tm 0)),
 iV 7 (.len (tm 6)),
 iV 8 (.ab (tm 1)),
 iV 9 (.len (tm 8)),
 iV 10 (.eq true (.ax 1) (tm 7) (tm 9))])
 (.cond (.tmp 10)
 (.seq
 (.region [iV 4 (.ab (.const (.bool false)))])
 .ret)
 .skip))
 (.seq
 (.seq
 (.region [iV 11 (.ab (tm 0)),
 iV 12 (.len (tm 11)),
 iV 13 (.ab (kI 0))])
 (.block 0
 (.loop nj)))
 (.seq
 (.region [iV 4 (.ab (.const (.bool true)))])
 .ret)))),
 [.tmp 4]⟩
theorem U4 : b7 Tryd.prog G Tryd.f28 = some dc := by kernel_rfl
/- balustrade/tree.Text$1 -/
abbrev gP : Nat := 29
def bW : au :=
 (.seq
 (.region [iV 57 (.bin .lss (tm 56) (tm 55))])
 (.seq
 (.cond (.tmp 57)
 .skip
 (.exit 1))
 (.seq
 (.block 2
 (.seq
 (.region [iV 58 (.ay 1 (tm 54) (tm 56)),
 iV 59 (.load none (tm 58)),
 iV 10 (.ab (tm 59))])
 (.seq
 (.region [iV 60 (.ab (tm 10)),
 iV 61 (.eq true (.ax 2) (tm 60) (kS []))])
 (.cond (.tmp 61)
 (.region [iV 62 (.ab (tm 8)),
 iV 63 (.ab (tm 10)),
 iV 64 (.aU 9 1 1 [(.str [])] [(0, (tm 63))]),
 iV 65 (.append 9 1 16 (tm 62) (tm 64)),
 iV 8 (.ab (tm 65))])
 .skip))))
 (.region [iV 66 (.bin .add (tm 56) (kI 1)),
 iV 56 (.ab (tm 66))]))))
def cz : au :=
 (.seq
 (.region [iV 85 (.bin .lss (tm 84) (tm 83))])
 (.seq
 (.cond (.tmp 85)
 .skip
 (.exit 3))
 (.seq
 (.block 4
 (.seq
 (.region [iV 86 (.ay 1 (tm 82) (tm 84)),
 iV 87 (.load none (tm 86)),
 iV 12 (.ab (tm 87))])
 (.region [iV 88 (.ab (tm 8)),
 iV 89 (.load none (tm 2)),
 iV 90 (.ab (tm 12)),
 ⟨(some 91), (.call (tm 89) [(tm 90)]), none⟩,
 iV 92 (.aU 9 1 1 [(.str [])] [(0, (tm 91))]),
 iV 93 (.append 9 1 16 (tm 88) (tm 92)),
 iV 8 (.ab (tm 93))])))
 (.region [iV 94 (.bin .add (tm 84) (kI 1)),
 iV 84 (.ab (tm 94))]))))
def bG : ar :=
 ⟨99,
 (.seq
 (.region [iV 4 (.ab (kS []))])
 (.seq
 (.region [iV 13 (.load none (tm 1)),
 iV 14 (.ab (tm 0)),
 iV 15 (.ay 5 (tm 13) (tm 14)),
 iV 16 (.load (some 5) (tm 15)),
 iV 5 (.alloc 27 [(.int .i64 0), .aa, (.int .i64 0), (.str []), (.int .i64 0)]),
 iN (.store 5 (tm 5) (tm 16))])
 (.seq
 (.region [iV 18 (.ak 0 (tm 5)),
 iV 19 (.load none (tm 18)),
 iC 20 30 [(tm 19)],
 iV 17 (.ab (tm 20)),
 iV 21 (.extract (tm 17) 0),
 iV 22 (.extract (tm 17) 1),
 iV 6 (.alloc 45 [(.str []), (.bool false), (.int .i64 0), (.int .i64 0), (.int .i64 0), (.int .i64 0), .aa, (.bool false)]),
 iN (.store 8 (tm 6) (tm 21)),
 iV 7 (.ab (tm 22))])
 (.seq
 (.seq
 (.region [iV 23 (.ak 0 (tm 5)),
 iV 24 (.load none (tm 23))])
 (.block 0
 (.seq
 (.region [iV 26 (.eq false (.ax 1) (tm 24) (kI 1)),
 iV 25 (.ab (tm 26))])
 (.cond (.tmp 25)
 (.seq
 (.region [iV 27 (.ak 2 (tm 5)),
 iV 28 (.load none (tm 27)),
 iC 29 31 [(tm 28)],
 iV 4 (.ab (tm 29))])
 .ret)
 (.seq
 (.region [iV 31 (.eq false (.ax 1) (tm 24) (kI 2)),
 iV 30 (.ab (tm 31))])
 (.cond (.tmp 30)
 (.seq
 (.region [iV 32 (.ak 2 (tm 5)),
 iV 33 (.load none (tm 32)),
 iV 34 (.eq false (.ax 1) (tm 33) (kI 1)),
 iC 35 32 [(tm 34)],
 iV 4 (.ab (tm 35))])
 .ret)
 (.seq
 (.region [iV 37 (.eq false (.ax 1) (tm 24) (kI 3)),
 iV 36 (.ab (tm 37))])
 (.cond (.tmp 36)
 (.seq
 (.region [iV 38 (.ak 0 (tm 6)),
 iV 39 (.load none (tm 38)),
 iV 4 (.ab (tm 39))])
 .ret)
 (.seq
 (.region [iV 41 (.eq false (.ax 1) (tm 24) (kI 4)),
 iV 40 (.ab (tm 41))])
 (.cond (.tmp 40)
 (.seq
 (.region [iV 42 (.ak 3 (tm 5)),
 iV 43 (.load none (tm 42)),
 iV 4 (.ab (tm 43))])
 .ret)
 (.seq
 (.region [iV 45 (.eq false (.ax 1) (tm 24) (kI 5)),
 iV 44 (.ab (tm 45))])
 (.cond (.tmp 44)
 (.region [iV 46 (.ak 2 (tm 5)),
 iV 47 (.load none (tm 46)),
 iC 48 21 [(tm 47)],
 iV 49 (.ak 0 (tm 6)),
 iN (.store 1 (tm 49) (tm 48))])
 .skip))))))))))))
 (.seq
 (.region [iV 8 (.ab (.const .aa))])
 (.seq
 (.seq
 (.region [iV 50 (.ak 0 (tm 6)),
 iV 51 (.load none (tm 50)),
 iV 52 (.ak 3 (tm 5)),
 iV 53 (.load none (tm 52)),
 iV 54 (.aU 9 1 2 [(.str [])] [(0, (tm 51)), (1, (tm 53))]),
 iV 55 (.len (tm 54)),
 iV 56 (.ab (kI 0))])
 (.block 1
 (.loop bW)))
 (.seq
 (.seq
 (.region [iV 67 (.ak 0 (tm 5)),
 iV 68 (.load none (tm 67)),
 iV 69 (.eq false (.ax 1) (tm 68) (kI 25)),
 iV 70 (.ab (tm 69)),
 iG 71 (.ak 0 (tm 5)) 70 false,
 iG 72 (.load none (tm 71)) 70 false,
 iG 73 (.eq false (.ax 1) (tm 72) (kI 24)) 70 false,
 iV 74 (.pick (tm 70) (.const (.bool true)) (tm 73))])
 (.cond (.tmp 74)
 (.region [iV 75 (.ab (tm 8)),
 iV 76 (.ak 2 (tm 5)),
 iV 77 (.load none (tm 76)),
 iC 78 23 [(tm 77)],
 iV 79 (.aU 9 1 1 [(.str [])] [(0, (tm 78))]),
 iV 80 (.append 9 1 16 (tm 75) (tm 79)),
 iV 8 (.ab (tm 80))])
 .skip))
 (.seq
 (.seq
 (.region [iV 81 (.ak 1 (tm 5)),
 iV 82 (.load none (tm 81)),
 iV 83 (.len (tm 82)),
 iV 84 (.ab (kI 0))])
 (.block 3
 (.loop cz)))
 (.seq
 (.region [iV 95 (.ab (tm 8)),
 iC 96 33 [(tm 95), (kS [32])],
 iV 97 (.bin .add (kS [40]) (tm 96)),
 iV 98 (.bin .add (tm 97) (kS [41])),
 iV 4 (.ab (tm 98))])
 .ret))))))))),
 [.tmp 4]⟩
theorem U3 : b7 Tryd.prog G Tryd.f29 = some bG := by kernel_rfl
/- balustrade/tree.rows -/
abbrev ny : Nat := 30
def cq : ar :=
 ⟨58,
 (.seq
 (.region [iV 2 (.alloc 45 [(.str []), (.bool false), (.int .i64 0), (.int .i64 0), (.int .i64 0), (.int .i64 0), .aa, (.bool false)]),
 iV 3 (.ab (.const (.bool false)))])
 (.seq
 (.region [iV 5 (.build [(.str []), (.bool false), (.int .i64 0), (.int .i64 0), (.int .i64 0), (.int .i64 0), .aa, (.bool false)] [(3, 1, (kI 9223372036854775807))]),
 iV 6 (.build [(.str []), (.bool false), (.int .i64 0), (.int .i64 0), (.int .i64 0), (.int .i64 0), .aa, (.bool false)] [(3, 1, (kI 1))]),
 iV 7 (.build [(.str []), (.bool false), (.int .i64 0), (.int .i64 0), (.int .i64 0), (.int .i64 0), .aa, (.bool false)] [(0, 1, (kS [110, 105, 108]))]),
 iV 8 (.build [(.str []), (.bool false), (.int .i64 0), (.int .i64 0), (.int .i64 0), (.int .i64 0), .aa, (.bool false)] [(1, 1, (.const (.bool true)))]),
 iV 9 (.aU 3 1 2 [(.int .i64 0)] [(0, (kI 0)), (1, (kI 0))]),
 iV 10 (.build [(.str []), (.bool false), (.int .i64 0), (.int .i64 0), (.int .i64 0), (.int .i64 0), .aa, (.bool false)] [(2, 1, (kI 1)), (3, 1, (kI 16)), (6, 1, (tm 9))]),
 iV 11 (.aU 3 1 1 [(.int .i64 0)] [(0, (kI 0))]),
 iV 12 (.build [(.str []), (.bool false), (.int .i64 0), (.int .i64 0), (.int .i64 0), (.int .i64 0), .aa, (.bool false)] [(0, 1, (kS [110, 101, 103])), (6, 1, (tm 11))]),
 iV 13 (.aU 3 1 1 [(.int .i64 0)] [(0, (kI 0))]),
 iV 14 (.build [(.str []), (.bool false), (.int .i64 0), (.int .i64 0), (.int .i64 0), (.int .i64 0), .aa, (.bool false)] [(0, 1, (kS [110, 111, 116])), (6, 1, (tm 13))]),
 iV 15 (.aU 3 1 2 [(.int .i64 0)] [(0, (kI 0)), (1, (kI 0))]),
 iV 16 (.build [(.str []), (.bool false), (.int .i64 0), (.int .i64 0), (.int .i64 0), (.int .i64 0), .aa, (.bool false)] [(0, 1, (kS [97, 116])), (6, 1, (tm 15))]),
 iV 17 (.aU 3 1 1 [(.int .i64 0)] [(0, (kI 0))]),
 iV 18 (.build [(.str []), (.bool false), (.int .i64 0), (.int .i64 0), (.int .i64 0), (.int .i64 0), .aa, (.bool false)] [(0, 1, (kS [108, 101, 110])), (6, 1, (tm 17))]),
 iV 19 (.aU 3 1 1 [(.int .i64 0)] [(0, (kI 0))]),
 iV 20 (.build [(.str []), (.bool false), (.int .i64 0), (.int .i64 0), (.int .i64 0), (.int .i64 0), .aa, (.bool false)] [(0, 1, (kS [110, 101, 119])), (6, 1, (tm 19))]),
 iV 21 (.build [(.str []), (.bool false), (.int .i64 0), (.int .i64 0), (.int .i64 0), (.int .i64 0), .aa, (.bool false)] [(0, 1, (kS [99, 97, 108, 108])), (1, 1, (.const (.bool true))), (4, 1, (kI 8)), (5, 1, (kI 0))]),
 iV 22 (.aU 3 1 1 [(.int .i64 0)] [(0, (kI 0))]),
 iV 23 (.build [(.str []), (.bool false), (.int .i64 0), (.int .i64 0), (.int .i64 0), (.int .i64 0), .aa, (.bool false)] [(0, 1, (kS [118, 97, 114])), (1, 1, (.const (.bool true))), (6, 1, (tm 22))]),
 iV 24 (.aU 3 1 1 [(.int .i64 0)] [(0, (kI 0))]),
 iV 25 (.build [(.str []), (.bool false), (.int .i64 0), (.int .i64 0), (.int .i64 0), (.int .i64 0), .aa, (.bool false)] [(0, 1, (kS [115, 101, 116])), (1, 1, (.const (.bool true))), (6, 1, (tm 24))]),
 iV 26 (.aU 3 1 2 [(.int .i64 0)] [(0, (kI 0)), (1, (kI 0))]),
 iV 27 (.build [(.str []), (.bool false), (.int .i64 0), (.int .i64 0), (.int .i64 0), (.int .i64 0), .aa, (.bool false)] [(0, 1, (kS [112, 117, 116])), (1, 1, (.const (.bool true))), (6, 1, (tm 26))]),
 iV 28 (.aU 3 1 3 [(.int .i64 0)] [(0, (kI 0)), (1, (kI 2)), (2, (kI 2))]),
 iV 29 (.build [(.str []), (.bool false), (.int .i64 0), (.int .i64 0), (.int .i64 0), (.int .i64 0), .aa, (.bool false)] [(0, 1, (kS [105, 102])), (6, 1, (tm 28)), (7, 1, (.const (.bool true)))]),
 iV 30 (.aU 3 1 2 [(.int .i64 0)] [(0, (kI 0)), (1, (kI 2))]),
 iV 31 (.build [(.str []), (.bool false), (.int .i64 0), (.int .i64 0), (.int .i64 0), (.int .i64 0), .aa, (.bool false)] [(0, 1, (kS [119, 104, 105, 108, 101])), (6, 1, (tm 30))]),
 iV 32 (.aU 3 1 3 [(.int .i64 0)] [(0, (kI 0)), (1, (kI 0)), (2, (kI 2))]),
 iV 33 (.build [(.str []), (.bool false), (.int .i64 0), (.int .i64 0), (.int .i64 0), (.int .i64 0), .aa, (.bool false)] [(0, 1, (kS [102, 111, 114])), (1, 1, (.const (.bool true))), (6, 1, (tm 32))]),
 iV 34 (.build [(.str []), (.bool false), (.int .i64 0), (.int .i64 0), (.int .i64 0), (.int .i64 0), .aa, (.bool false)] [(0, 1, (kS [98, 114, 101, 97, 107]))]),
 iV 35 (.build [(.str []), (.bool false), (.int .i64 0), (.int .i64 0), (.int .i64 0), (.int .i64 0), .aa, (.bool false)] [(0, 1, (kS [99, 111, 110, 116, 105, 110, 117, 101]))]),
 iV 36 (.aU 3 1 1 [(.int .i64 0)] [(0, (kI 0))]),
 iV 37 (.build [(.str []), (.bool false), (.int .i64 0), (.int .i64 0), (.int .i64 0), (.int .i64 0), .aa, (.bool false)] [(0, 1, (kS [114, 101, 116, 117, 114, 110])), (6, 1, (tm 36))]),
 iV 38 (.aU 3 1 1 [(.int .i64 0)] [(0, (kI 0))]),
 iV 39 (.build [(.str []), (.bool false), (.int .i64 0), (.int .i64 0), (.int .i64 0), (.int .i64 0), .aa, (.bool false)] [(0, 1, (kS [112, 114, 105, 110, 116])), (6, 1, (tm 38))]),
 iV 40 (.aU 3 1 1 [(.int .i64 0)] [(0, (kI 3))]),
 iV 41 (.build [(.str []), (.bool false), (.int .i64 0), (.int .i64 0), (.int .i64 0), (.int .i64 0), .aa, (.bool false)] [(0, 1, (kS [100, 111])), (6, 1, (tm 40))]),
 iV 42 (.build [(.str []), (.bool false), (.int .i64 0), (.int .i64 0), (.int .i64 0), (.int .i64 0), .aa, (.bool false)] [(0, 1, (kS [98, 108, 111, 99, 107])), (4, 1, (kI 4611686018427387904)), (5, 1, (kI 1))]),
 iV 43 (.build [(.str []), (.bool false), (.int .i64 0), (.int .i64 0), (.int .i64 0), (.int .i64 0), .aa, (.bool false)] [(1, 1, (.const (.bool true))), (2, 1, (kI 1)), (3, 1, (kI 3))]),
 iV 44 (.aU 3 1 1 [(.int .i64 0)] [(0, (kI 2))]),
 iV 45 (.build [(.str []), (.bool false), (.int .i64 0), (.int .i64 0), (.int .i64 0), (.int .i64 0), .aa, (.bool false)] [(0, 1, (kS [102, 110])), (1, 1, (.const (.bool true))), (2, 1, (kI 1)), (3, 1, (kI 3)), (4, 1, (kI 8)), (5, 1, (kI 4)), (6, 1, (tm 44))]),
 iV 46 (.build [(.str []), (.bool false), (.int .i64 0), (.int .i64 0), (.int .i64 0), (.int .i64 0), .aa, (.bool false)] [(0, 1, (kS [112, 114, 111, 103])), (4, 1, (kI 200)), (5, 1, (kI 5))]),
 iV 47 (.build [(.str []), (.bool false), (.int .i64 0), (.int .i64 0), (.int .i64 0), (.int .i64 0), .aa, (.bool false), (.str []), (.bool false), (.int .i64 0), (.int .i64 0), (.int .i64 0), (.int .i64 0), .aa, (.bool false), (.str []), (.bool false), (.int .i64 0), (.int .i64 0), (.int .i64 0), (.int .i64 0), .aa, (.bool false), (.str []), (.bool false), (.int .i64 0), (.int .i64 0), (.int .i64 0), (.int .i64 0), .aa, (.bool false), (.str []), (.bool false), (.int .i64 0), (.int .i64 0), (.int .i64 0), (.int .i64 0), .aa, (.bool false), (.str []), (.bool false), (.int .i64 0), (.int .i64 0), (.int .i64 0), (.int .i64 0), .aa, (.bool false), (.str []), (.bool false), (.int .i64 0), (.int .i64 0), (.int .i64 0), (.int .i64 0), .aa, (.bool false), (.str []), (.bool false), (.int .i64 0), (.int .i64 0), (.int .i64 0), (.int .i64 0), .aa, (.bool false), (.str []), (.bool false), (.int .i64 0), (.int .i64 0), (.int .i64 0), (.int .i64 0), .aa, (.bool false), (.str []), (.bool false), (.int .i64 0), (.int .i64 0), (.int .i64 0), (.int .i64 0), .aa, (.bool false), (.str []), (.bool false), (.int .i64 0), (.int .i64 0), (.int .i64 0), (.int .i64 0), .aa, (.bool false), (.str []), (.bool false), (.int .i64 0), (.int .i64 0), (.int .i64 0), (.int .i64 0), .aa, (.bool false), (.str []), (.bool false), (.int .i64 0), (.int .i64 0), (.int .i64 0), (.int .i64 0), .aa, (.bool false), (.str []), (.bool false), (.int .i64 0), (.int .i64 0), (.int .i64 0), (.int .i64 0), .aa, (.bool false), (.str []), (.bool false), (.int .i64 0), (.int .i64 0), (.int .i64 0), (.int .i64 0), .aa, (.bool false), (.str []), (.bool false), (.int .i64 0), (.int .i64 0), (.int .i64 0), (.int .i64 0), .aa, (.bool false), (.str []), (.bool false), (.int .i64 0), (.int .i64 0), (.int .i64 0), (.int .i64 0), .aa, (.bool false), (.str []), (.bool false), (.int .i64 0), (.int .i64 0), (.int .i64 0), (.int .i64 0), .aa, (.bool false), (.str []), (.bool false), (.int .i64 0), (.int .i64 0), (.int .i64 0), (.int .i64 0), .aa, (.bool false), (.str []), (.bool false), (.int .i64 0), (.int .i64 0), (.int .i64 0), (.int .i64 0), .aa, (.bool false), (.str []), (.bool false), (.int .i64 0), (.int .i64 0), (.int .i64 0), (.int .i64 0), .aa, (.bool false), (.str []), (.bool false), (.int .i64 0), (.int .i64 0), (.int .i64 0), (.int .i64 0), .aa, (.bool false), (.str []), (.bool false), (.int .i64 0), (.int .i64 0), (.int .i64 0), (.int .i64 0), .aa, (.bool false), (.str []), (.bool false), (.int .i64 0), (.int .i64 0), (.int .i64 0), (.int .i64 0), .aa, (.bool false), (.str []), (.bool false), (.int .i64 0), (.int .i64 0), (.int .i64 0), (.int .i64 0), .aa, (.bool false), (.str []), (.bool false), (.int .i64 0), (.int .i64 0), (.int .i64 0), (.int .i64 0), .aa, (.bool false), (.str []), (.bool false), (.int .i64 0), (.int .i64 0), (.int .i64 0), (.int .i64 0), .aa, (.bool false)] [(8, 8, (tm 5)), (16, 8, (tm 6)), (24, 8, (tm 7)), (32, 8, (tm 8)), (40, 8, (tm 10)), (48, 8, (tm 12)), (56, 8, (tm 14)), (64, 8, (tm 16)), (72, 8, (tm 18)), (80, 8, (tm 20)), (88, 8, (tm 21)), (96, 8, (tm 23)), (104, 8, (tm 25)), (112, 8, (tm 27)), (120, 8, (tm 29)), (128, 8, (tm 31)), (136, 8, (tm 33)), (144, 8, (tm 34)), (152, 8, (tm 35)), (160, 8, (tm 37)), (168, 8, (tm 39)), (176, 8, (tm 41)), (184, 8, (tm 42)), (192, 8, (tm 43)), (200, 8, (tm 45)), (208, 8, (tm 46))]),
 iV 4 (.alloc 57 [(.str []), (.bool false), (.int .i64 0), (.int .i64 0), (.int .i64 0), (.int .i64 0), .aa, (.bool false), (.str []), (.bool false), (.int .i64 0), (.int .i64 0), (.int .i64 0), (.int .i64 0), .aa, (.bool false), (.str []), (.bool false), (.int .i64 0), (.int .i64 0), (.int .i64 0), (.int .i64 0), .aa, (.bool false), (.str []), (.bool false), (.int .i64 0), (.int .i64 0), (.int .i64 0), (.int .i64 0), .aa, (.bool false), (.str []), (.bool false), (.int .i64 0), (.int .i64 0), (.int .i64 0), (.int .i64 0), .aa, (.bool false), (.str []), (.bool false), (.int .i64 0), (.int .i64 0), (.int .i64 0), (.int .i64 0), .aa, (.bool false), (.str []), (.bool false), (.int .i64 0), (.int .i64 0), (.int .i64 0), (.int .i64 0), .aa, (.bool false), (.str []), (.bool false), (.int .i64 0), (.int .i64 0), (.int .i64 0), (.int .i64 0), .aa, (.bool false), (.str []), (.bool false), (.int .i64 0), (.int .i64 0), (.int .i64 0), (.int .i64 0), .aa, (.bool false), (.str []), (.bool false), (.int .i64 0), (.int .i64 0), (.int .i64 0), (.int .i64 0), .aa, (.bool false), (.str []), (.bool false), (.int .i64 0), (.int .i64 0), (.int .i64 0), (.int .i64 0), .aa, (.bool false), (.str []), (.bool false), (.int .i64 0), (.int .i64 0), (.int .i64 0), (.int .i64 0), .aa, (.bool false), (.str []), (.bool false), (.int .i64 0), (.int .i64 0), (.int .i64 0), (.int .i64 0), .aa, (.bool false), (.str []), (.bool false), (.int .i64 0), (.int .i64 0), (.int .i64 0), (.int .i64 0), .aa, (.bool false), (.str []), (.bool false), (.int .i64 0), (.int .i64 0), (.int .i64 0), (.int .i64 0), .aa, (.bool false), (.str []), (.bool false), (.int .i64 0), (.int .i64 0), (.int .i64 0), (.int .i64 0), .aa, (.bool false), (.str []), (.bool false), (.int .i64 0), (.int .i64 0), (.int .i64 0), (.int .i64 0), .aa, (.bool false), (.str []), (.bool false), (.int .i64 0), (.int .i64 0), (.int .i64 0), (.int .i64 0), .aa, (.bool false), (.str []), (.bool false), (.int .i64 0), (.int .i64 0), (.int .i64 0), (.int .i64 0), .aa, (.bool false), (.str []), (.bool false), (.int .i64 0), (.int .i64 0), (.int .i64 0), (.int .i64 0), .aa, (.bool false), (.str []), (.bool false), (.int .i64 0), (.int .i64 0), (.int .i64 0), (.int .i64 0), .aa, (.bool false), (.str []), (.bool false), (.int .i64 0), (.int .i64 0), (.int .i64 0), (.int .i64 0), .aa, (.bool false), (.str []), (.bool false), (.int .i64 0), (.int .i64 0), (.int .i64 0), (.int .i64 0), .aa, (.bool false), (.str []), (.bool false), (.int .i64 0), (.int .i64 0), (.int .i64 0), (.int .i64 0), .aa, (.bool false), (.str []), (.bool false), (.int .i64 0), (.int .i64 0), (.int .i64 0), (.int .i64 0), .aa, (.bool false), (.str []), (.bool false), (.int .i64 0), (.int .i64 0), (.int .i64 0), (.int .i64 0), .aa, (.bool false), (.str []), (.bool false), (.int .i64 0), (.int .i64 0), (.int .i64 0), (.int .i64 0), .aa, (.bool false)]),
 iN (.store 216 (tm 4) (tm 47))])
 (.seq
 (.seq
 (.region [iV 48 (.ab (tm 0)),
 iV 49 (.bin .lss (tm 48) (kI 1)),
 iV 50 (.ab (tm 49)),
 iG 51 (.ab (tm 0)) 50 false,
 iG 52 (.bin .geq (tm 51) (kI 27)) 50 false,
 iV 53 (.pick (tm 50) (.const (.bool true)) (tm 52))])
 (.cond (.tmp 53)
 (.seq
 (.region [iV 54 (.build [(.str []), (.bool false), (.int .i64 0), (.int .i64 0), (.int .i64 0), (.int .i64 0), .aa, (.bool false)] []),
 iN (.store 8 (tm 2) (tm 54)),
 iV 3 (.ab (.const (.bool false)))])
 .ret)
 .skip))
 (.seq
 (.region [iV 55 (.ab (tm 0)),
 iV 56 (.c7 27 8 (tm 4) (tm 55)),
 iV 57 (.load (some 8) (tm 56)),
 iN (.store 8 (tm 2) (tm 57)),
 iV 3 (.ab (.const (.bool true)))])
 .ret)))),
 [.cell 2 (some 8), .tmp 3]⟩
theorem U2 : b7 Tryd.prog G Tryd.f30 = some cq := by kernel_rfl
/- strconv.Itoa -/
abbrev tR : Nat := 31
def Ld : ar :=
 ⟨5,
 (.seq
 (.region [iV 2 (.ab (kS []))])
 (.seq
 (.region [iV 3 (.ab (tm 0)),
 iC 4 42 [(tm 3)],
 iV 2 (.ab (tm 4))])
 .ret)),
 [.tmp 2]⟩
/- strconv.FormatBool -/
abbrev jQ : Nat := 32
def bh : ar :=
 ⟨5,
 (.seq
 (.region [iV 2 (.ab (kS []))])
 (.seq
 (.region [iV 3 (.ab (tm 0)),
 iC 4 43 [(tm 3)],
 iV 2 (.ab (tm 4))])
 .ret)),
 [.tmp 2]⟩
theorem U1 : b7 Tryd.prog G Tryd.f32 = some bh := by kernel_rfl
end
section
/- strings.Join -/
abbrev tQ : Nat := 33
def qD : au :=
 (.seq
 (.region [iV 42 (.bin .lss (tm 41) (tm 40))])
 (.seq
 (.cond (.tmp 42)
 .skip
 (.exit 1))
 (.seq
 (.block 2
 (.seq
 (.region [iV 43 (.ay 1 (tm 39) (tm 41)),
 iV 44 (.load none (tm 43)),
 iV 7 (.ab (tm 44))])
 (.seq
 (.seq
 (.region [iV 45 (.ab (tm 7)),
 iV 46 (.eH (tm 45)),
 iV 47 (.ab (tm 5)),
 iV 48 (.bin .sub (kI 9223372036854775807) (tm 47)),
 iV 49 (.bin .gtr (tm 46) (tm 48))])
 (.cond (.tmp 49)
 (.region [iV 50 (.iface 9 (kS [115, 116, 114, 105, 110, 103, 115, 58, 32, 74, 111, 105, 110, 32, 111, 117, 116, 112, 117, 116, 32, 108, 101, 110, 103, 116, 104, 32, 111, 118, 101, 114, 102, 108, 111, 119])),
 ⟨none, (.panic (.tmp 50)), none⟩])
 .skip))
 (.region [iV 51 (.ab (tm 5)),
 iV 52 (.ab (tm 7)),
 iV 53 (.eH (tm 52)),
 iV 54 (.bin .add (tm 51) (tm 53)),
 iV 5 (.ab (tm 54))]))))
 (.region [iV 55 (.bin .add (tm 41) (kI 1)),
 iV 41 (.ab (tm 55))]))))
def qC : au :=
 (.seq
 (.region [iV 66 (.bin .lss (tm 65) (tm 64))])
 (.seq
 (.cond (.tmp 66)
 .skip
 (.exit 3))
 (.seq
 (.block 4
 (.seq
 (.region [iV 67 (.ay 1 (tm 63) (tm 65)),
 iV 68 (.load none (tm 67)),
 iV 10 (.ab (tm 68))])
 (.seq
 (.region [iV 69 (.ab (tm 1)),
 iC 70 45 [(tm 8), (tm 69)]])
 (.region [iV 71 (.ab (tm 10)),
 iC 72 45 [(tm 8), (tm 71)]]))))
 (.region [iV 73 (.bin .add (tm 65) (kI 1)),
 iV 65 (.ab (tm 73))]))))
def Lb : ar :=
 ⟨75,
 (.seq
 (.region [iV 4 (.ab (kS []))])
 (.seq
 (.seq
 (.region [iV 11 (.ab (tm 0)),
 iV 12 (.len (tm 11))])
 (.block 0
 (.seq
 (.region [iV 14 (.eq false (.ax 1) (tm 12) (kI 0)),
 iV 13 (.ab (tm 14))])
 (.cond (.tmp 13)
 (.seq
 (.region [iV 4 (.ab (kS []))])
 .ret)
 (.seq
 (.region [iV 16 (.eq false (.ax 1) (tm 12) (kI 1)),
 iV 15 (.ab (tm 16))])
 (.cond (.tmp 15)
 (.seq
 (.region [iV 17 (.ab (tm 0)),
 iV 18 (.ay 1 (tm 17) (kI 0)),
 iV 19 (.load none (tm 18)),
 iV 4 (.ab (tm 19))])
 .ret)
 .skip))))))
 (.seq
 (.region [iV 5 (.ab (kI 0))])
 (.seq
 (.seq
 (.region [iV 20 (.ab (tm 1)),
 iV 21 (.eH (tm 20)),
 iV 22 (.bin .gtr (tm 21) (kI 0))])
 (.cond (.tmp 22)
 (.seq
 (.seq
 (.region [iV 23 (.ab (tm 1)),
 iV 24 (.eH (tm 23)),
 iV 25 (.ab (tm 0)),
 iV 26 (.len (tm 25)),
 iV 27 (.bin .sub (tm 26) (kI 1)),
 iV 28 (.bin .quo (kI 9223372036854775807) (tm 27)),
 iV 29 (.bin .geq (tm 24) (tm 28))])
 (.cond (.tmp 29)
 (.region [iV 30 (.iface 9 (kS [115, 116, 114, 105, 110, 103, 115, 58, 32, 74, 111, 105, 110, 32, 111, 117, 116, 112, 117, 116, 32, 108, 101, 110, 103, 116, 104, 32, 111, 118, 101, 114, 102, 108, 111, 119])),
 ⟨none, (.panic (.tmp 30)), none⟩])
 .skip))
 (.region [iV 31 (.ab (tm 5)),
 iV 32 (.ab (tm 1)),
 iV 33 (.eH (tm 32)),
 iV 34 (.ab (tm 0)),
 iV 35 (.len (tm 34)),
 iV 36 (.bin .sub (tm 35) (kI 1)),
 iV 37 (.bin .mul (tm 33) (tm 36)),
 iV 38 (.bin .add (tm 31) (tm 37)),
 iV 5 (.ab (tm 38))]))
 .skip))
 (.seq
 (.seq
 (.region [iV 39 (.ab (tm 0)),
 iV 40 (.len (tm 39)),
 iV 41 (.ab (kI 0))])
 (.block 1
 (.loop qD)))
 (.seq
 (.region [iV 8 (.alloc 61 [.bb, .aa])])
 (.seq
 (.region [iV 56 (.ab (tm 5)),
 iC 57 44 [(tm 8), (tm 56)]])
 (.seq
 (.region [iV 58 (.ab (tm 0)),
 iV 59 (.ay 1 (tm 58) (kI 0)),
 iV 60 (.load none (tm 59)),
 iC 61 45 [(tm 8), (tm 60)]])
 (.seq
 (.seq
 (.region [iV 62 (.ab (tm 0)),
 iV 63 (.lp 1 (tm 62) (some (kI 1)) none none),
 iV 64 (.len (tm 63)),
 iV 65 (.ab (kI 0))])
 (.block 3
 (.loop qC)))
 (.seq
 (.region [iC 74 46 [(tm 8)],
 iV 4 (.ab (tm 74))])
 .ret)))))))))),
 [.tmp 4]⟩
/- balustrade/balustradebase.HasInt -/
abbrev oN : Nat := 34
def de : au :=
 (.seq
 (.seq
 (.region [iV 6 (.ab (tm 5)),
 iV 7 (.ab (tm 0)),
 iV 8 (.len (tm 7)),
 iV 9 (.bin .lss (tm 6) (tm 8))])
 (.cond (.tmp 9)
 .skip
 (.exit 0)))
 (.seq
 (.block 1
 (.seq
 (.region [iV 12 (.ab (tm 0)),
 iV 13 (.ab (tm 5)),
 iV 14 (.ay 1 (tm 12) (tm 13)),
 iV 15 (.load none (tm 14)),
 iV 16 (.ab (tm 1)),
 iV 17 (.eq false (.ax 1) (tm 15) (tm 16))])
 (.cond (.tmp 17)
 (.seq
 (.region [iV 4 (.ab (.const (.bool true)))])
 .ret)
 .skip)))
 (.region [iV 10 (.ab (tm 5)),
 iV 11 (.bin .add (tm 10) (kI 1)),
 iV 5 (.ab (tm 11))])))
def dL : ar :=
 ⟨18,
 (.seq
 (.region [iV 4 (.ab (.const (.bool false)))])
 (.seq
 (.seq
 (.region [iV 5 (.ab (kI 0))])
 (.block 0
 (.loop de)))
 (.seq
 (.region [iV 4 (.ab (.const (.bool false)))])
 .ret))),
 [.tmp 4]⟩
theorem U0 : b7 Tryd.prog G Tryd.f34 = some dL := by kernel_rfl
/- balustrade/balustraderef06.own -/
abbrev wB : Nat := 35
def iB : ar :=
 ⟨83,
 (.seq
 (.region [iV 1 (.box 27 (tm 0)),
 iV 2 (.ab (.const (.bool false)))])
 (.seq
 (.seq
 (.draw [iV 3 (.ak 0 (tm 1)),
 iV 4 (.load none (tm 3)),
 iV 5 (.bin .lss (tm 4) (kI 1)),
 iV 6 (.ab (tm 5)),
 iG 7 (.ak 0 (tm 1)) 6 false,
 iG 8 (.load none (tm 7)) 6 false,
 iG 9 (.bin .gtr (tm 8) (kI 26)) 6 false,
 iV 10 (.pick (tm 6) (.const (.bool true)) (tm 9)),
 iV 11 (.ab (tm 10)),
 iG 12 (.ak 4 (tm 1)) 11 false,
 iG 13 (.load none (tm 12)) 11 false,
 iG 14 (.bin .lss (tm 13) (kI 0)) 11 false,
 iV 15 (.pick (tm 11) (.const (.bool true)) (tm 14)),
 iV 16 (.ab (tm 15)),
 iG 17 (.ak 0 (tm 1)) 16 false,
 iG 18 (.load none (tm 17)) 16 false,
 iH 19 47 [(tm 18)] 16 false,
 iG 20 (.ak 3 (tm 1)) 16 false,
 iG 21 (.load none (tm 20)) 16 false,
 iG 22 (.eq true (.ax 2) (tm 21) (kS [])) 16 false,
 iG 23 (.eq true (.ax 0) (tm 19) (tm 22)) 16 false,
 iV 24 (.pick (tm 16) (.const (.bool true)) (tm 23)),
 iV 25 (.ab (tm 24)),
 iG 26 (.ak 3 (tm 1)) 25 false,
 iG 27 (.load none (tm 26)) 25 false,
 iG 28 (.eq true (.ax 2) (tm 27) (kS [])) 25 false,
 iG 29 (.ab (tm 28)) 25 false,
 iG 30 (.ak 3 (tm 1)) 29 true,
 iG 31 (.load none (tm 30)) 29 true,
 iH 32 48 [(tm 31)] 29 true,
 iG 33 (.un .not (tm 32)) 29 true,
 iG 34 (.pick (tm 29) (tm 33) (.const (.bool false))) 25 false,
 iV 35 (.pick (tm 25) (.const (.bool true)) (tm 34))] [(18, 16)])
 (.cond (.tmp 35)
 (.seq
 (.region [iV 2 (.ab (.const (.bool false)))])
 .ret)
 .skip))
 (.seq
 (.seq
 (.region [iV 36 (.ak 0 (tm 1)),
 iV 37 (.load none (tm 36)),
 iV 38 (.eq false (.ax 1) (tm 37) (kI 1))])
 (.cond (.tmp 38)
 (.seq
 (.region [iV 39 (.ak 2 (tm 1)),
 iV 40 (.load none (tm 39)),
 iV 41 (.bin .geq (tm 40) (kI 0)),
 iV 2 (.ab (tm 41))])
 .ret)
 .skip))
 (.seq
 (.seq
 (.region [iV 42 (.ak 0 (tm 1)),
 iV 43 (.load none (tm 42)),
 iV 44 (.eq false (.ax 1) (tm 43) (kI 2))])
 (.cond (.tmp 44)
 (.seq
 (.region [iV 45 (.ak 2 (tm 1)),
 iV 46 (.load none (tm 45)),
 iV 47 (.eq false (.ax 1) (tm 46) (kI 0)),
 iV 48 (.ab (tm 47)),
 iG 49 (.ak 2 (tm 1)) 48 false,
 iG 50 (.load none (tm 49)) 48 false,
 iG 51 (.eq false (.ax 1) (tm 50) (kI 1)) 48 false,
 iV 52 (.pick (tm 48) (.const (.bool true)) (tm 51)),
 iV 2 (.ab (tm 52))])
 .ret)
 .skip))
 (.seq
 (.seq
 (.region [iV 53 (.ak 0 (tm 1)),
 iV 54 (.load none (tm 53)),
 iV 55 (.eq false (.ax 1) (tm 54) (kI 5))])
 (.cond (.tmp 55)
 (.seq
 (.region [iV 56 (.ak 2 (tm 1)),
 iV 57 (.load none (tm 56)),
 iV 58 (.bin .geq (tm 57) (kI 1)),
 iV 59 (.ab (tm 58)),
 iG 60 (.ak 2 (tm 1)) 59 true,
 iG 61 (.load none (tm 60)) 59 true,
 iG 62 (.bin .leq (tm 61) (kI 16)) 59 true,
 iV 63 (.pick (tm 59) (tm 62) (.const (.bool false))),
 iV 2 (.ab (tm 63))])
 .ret)
 .skip))
 (.seq
 (.seq
 (.region [iV 64 (.ak 0 (tm 1)),
 iV 65 (.load none (tm 64)),
 iV 66 (.eq false (.ax 1) (tm 65) (kI 24)),
 iV 67 (.ab (tm 66)),
 iG 68 (.ak 0 (tm 1)) 67 false,
 iG 69 (.load none (tm 68)) 67 false,
 iG 70 (.eq false (.ax 1) (tm 69) (kI 25)) 67 false,
 iV 71 (.pick (tm 67) (.const (.bool true)) (tm 70))])
 (.cond (.tmp 71)
 (.seq
 (.region [iV 72 (.ak 2 (tm 1)),
 iV 73 (.load none (tm 72)),
 iV 74 (.bin .geq (tm 73) (kI 1)),
 iV 75 (.ab (tm 74)),
 iG 76 (.ak 2 (tm 1)) 75 true,
 iG 77 (.load none (tm 76)) 75 true,
 iG 78 (.bin .leq (tm 77) (kI 3)) 75 true,
 iV 79 (.pick (tm 75) (tm 78) (.const (.bool false))),
 iV 2 (.ab (tm 79))])
 .ret)
 .skip))
 (.seq
 (.region [iV 80 (.ak 2 (tm 1)),
 iV 81 (.load none (tm 80)),
 iV 82 (.eq false (.ax 1) (tm 81) (kI 0)),
 iV 2 (.ab (tm 82))])
 .ret))))))),
 [.tmp 2]⟩
theorem UZ : b7 Tryd.prog G Tryd.f35 = some iB := by kernel_rfl
/- balustrade/balustraderef06.kids -/
abbrev tT : Nat := 36
def eM : au :=
 (.seq
 (.seq
 (.region [iV 117 (.ab (tm 6)),
 iV 118 (.ab (tm 5)),
 iV 119 (.len (tm 118)),
 iV 120 (.bin .lss (tm 117) (tm 119))])
 (.cond (.tmp 120)
 .skip
 (.exit 1)))
 (.seq
 (.block 2
 (.seq
 (.region [iV 123 (.ab (tm 0)),
 iV 124 (.ab (tm 5)),
 iV 125 (.ab (tm 6)),
 iV 126 (.ay 1 (tm 124) (tm 125)),
 iV 127 (.load none (tm 126)),
 iV 128 (.ay 5 (tm 123) (tm 127)),
 iV 129 (.ak 0 (tm 128)),
 iV 130 (.load none (tm 129)),
 iC 131 51 [(tm 130)],
 iV 132 (.un .not (tm 131))])
 (.cond (.tmp 132)
 (.seq
 (.region [iV 4 (.ab (.const (.bool false)))])
 .ret)
 .skip)))
 (.region [iV 121 (.ab (tm 6)),
 iV 122 (.bin .add (tm 121) (kI 1)),
 iV 6 (.ab (tm 122))])))
def aH : ar :=
 ⟨168,
 (.seq
 (.region [iV 3 (.box 27 (tm 1)),
 iV 4 (.ab (.const (.bool false)))])
 (.seq
 (.region [iV 7 (.ak 1 (tm 3)),
 iV 8 (.load none (tm 7)),
 iV 5 (.ab (tm 8))])
 (.seq
 (.seq
 (.region [iV 9 (.ak 0 (tm 3)),
 iV 10 (.load none (tm 9))])
 (.block 0
 (.seq
 (.seq
 (.region [iV 12 (.eq false (.ax 1) (tm 10) (kI 5)),
 iV 11 (.ab (tm 12))])
 (.cond (.tmp 11)
 .skip
 (.seq
 (.region [iV 13 (.eq false (.ax 1) (tm 10) (kI 8)),
 iV 11 (.ab (tm 13))])
 (.cond (.tmp 11)
 .skip
 (.region [iV 14 (.eq false (.ax 1) (tm 10) (kI 14)),
 iV 11 (.ab (tm 14))])))))
 (.cond (.tmp 11)
 (.seq
 (.region [iV 15 (.ab (tm 5)),
 iV 16 (.len (tm 15)),
 iV 17 (.eq false (.ax 1) (tm 16) (kI 2)),
 iV 18 (.ab (tm 17)),
 iG 19 (.ab (tm 0)) 18 true,
 iG 20 (.ab (tm 5)) 18 true,
 iH 21 49 [(tm 19), (tm 20), (kI 2)] 18 true,
 iV 22 (.pick (tm 18) (tm 21) (.const (.bool false))),
 iV 4 (.ab (tm 22))])
 .ret)
 (.seq
 (.seq
 (.region [iV 24 (.eq false (.ax 1) (tm 10) (kI 6)),
 iV 23 (.ab (tm 24))])
 (.cond (.tmp 23)
 .skip
 (.seq
 (.region [iV 25 (.eq false (.ax 1) (tm 10) (kI 7)),
 iV 23 (.ab (tm 25))])
 (.cond (.tmp 23)
 .skip
 (.seq
 (.region [iV 26 (.eq false (.ax 1) (tm 10) (kI 9)),
 iV 23 (.ab (tm 26))])
 (.cond (.tmp 23)
 .skip
 (.seq
 (.region [iV 27 (.eq false (.ax 1) (tm 10) (kI 10)),
 iV 23 (.ab (tm 27))])
 (.cond (.tmp 23)
 .skip
 (.seq
 (.region [iV 28 (.eq false (.ax 1) (tm 10) (kI 12)),
 iV 23 (.ab (tm 28))])
 (.cond (.tmp 23)
 .skip
 (.seq
 (.region [iV 29 (.eq false (.ax 1) (tm 10) (kI 13)),
 iV 23 (.ab (tm 29))])
 (.cond (.tmp 23)
 .skip
 (.seq
 (.region [iV 30 (.eq false (.ax 1) (tm 10) (kI 20)),
 iV 23 (.ab (tm 30))])
 (.cond (.tmp 23)
 .skip
 (.region [iV 31 (.eq false (.ax 1) (tm 10) (kI 21)),
 iV 23 (.ab (tm 31))])))))))))))))))
 (.cond (.tmp 23)
 (.seq
 (.region [iV 32 (.ab (tm 5)),
 iV 33 (.len (tm 32)),
 iV 34 (.eq false (.ax 1) (tm 33) (kI 1)),
 iV 35 (.ab (tm 34)),
 iG 36 (.ab (tm 0)) 35 true,
 iG 37 (.ab (tm 5)) 35 true,
 iH 38 49 [(tm 36), (tm 37), (kI 1)] 35 true,
 iV 39 (.pick (tm 35) (tm 38) (.const (.bool false))),
 iV 4 (.ab (tm 39))])
 .ret)
 (.seq
 (.region [iV 41 (.eq false (.ax 1) (tm 10) (kI 11)),
 iV 40 (.ab (tm 41))])
 (.cond (.tmp 40)
 (.seq
 (.region [iV 42 (.ab (tm 5)),
 iV 43 (.len (tm 42)),
 iV 44 (.bin .leq (tm 43) (kI 8)),
 iV 45 (.ab (tm 44)),
 iG 46 (.ab (tm 0)) 45 true,
 iG 47 (.ab (tm 5)) 45 true,
 iG 48 (.ab (tm 5)) 45 true,
 iG 49 (.len (tm 48)) 45 true,
 iH 50 49 [(tm 46), (tm 47), (tm 49)] 45 true,
 iV 51 (.pick (tm 45) (tm 50) (.const (.bool false))),
 iV 4 (.ab (tm 51))])
 .ret)
 (.seq
 (.region [iV 53 (.eq false (.ax 1) (tm 10) (kI 15)),
 iV 52 (.ab (tm 53))])
 (.cond (.tmp 52)
 (.seq
 (.region [iV 54 (.ab (tm 0)),
 iV 55 (.ab (tm 5)),
 iC 56 49 [(tm 54), (tm 55), (kI 1)],
 iV 57 (.ab (tm 56)),
 iG 58 (.ab (tm 5)) 57 true,
 iG 59 (.len (tm 58)) 57 true,
 iG 60 (.bin .geq (tm 59) (kI 2)) 57 true,
 iV 61 (.pick (tm 57) (tm 60) (.const (.bool false))),
 iV 62 (.ab (tm 61)),
 iG 63 (.ab (tm 0)) 62 true,
 iG 64 (.ab (tm 5)) 62 true,
 iG 65 (.lp 1 (tm 64) (some (kI 1)) none none) 62 true,
 iH 66 50 [(tm 63), (tm 65), (kI 23), (kI 2)] 62 true,
 iV 67 (.pick (tm 62) (tm 66) (.const (.bool false))),
 iV 4 (.ab (tm 67))])
 .ret)
 (.seq
 (.region [iV 69 (.eq false (.ax 1) (tm 10) (kI 16)),
 iV 68 (.ab (tm 69))])
 (.cond (.tmp 68)
 (.seq
 (.region [iV 70 (.ab (tm 0)),
 iV 71 (.ab (tm 5)),
 iC 72 49 [(tm 70), (tm 71), (kI 1)],
 iV 73 (.ab (tm 72)),
 iG 74 (.ab (tm 5)) 73 true,
 iG 75 (.len (tm 74)) 73 true,
 iG 76 (.eq false (.ax 1) (tm 75) (kI 2)) 73 true,
 iV 77 (.pick (tm 73) (tm 76) (.const (.bool false))),
 iV 78 (.ab (tm 77)),
 iG 79 (.ab (tm 0)) 78 true,
 iG 80 (.ab (tm 5)) 78 true,
 iG 81 (.lp 1 (tm 80) (some (kI 1)) none none) 78 true,
 iH 82 50 [(tm 79), (tm 81), (kI 23), (kI 1)] 78 true,
 iV 83 (.pick (tm 78) (tm 82) (.const (.bool false))),
 iV 4 (.ab (tm 83))])
 .ret)
 (.seq
 (.region [iV 85 (.eq false (.ax 1) (tm 10) (kI 17)),
 iV 84 (.ab (tm 85))])
 (.cond (.tmp 84)
 (.seq
 (.region [iV 86 (.ab (tm 0)),
 iV 87 (.ab (tm 5)),
 iC 88 49 [(tm 86), (tm 87), (kI 2)],
 iV 89 (.ab (tm 88)),
 iG 90 (.ab (tm 5)) 89 true,
 iG 91 (.len (tm 90)) 89 true,
 iG 92 (.eq false (.ax 1) (tm 91) (kI 3)) 89 true,
 iV 93 (.pick (tm 89) (tm 92) (.const (.bool false))),
 iV 94 (.ab (tm 93)),
 iG 95 (.ab (tm 0)) 94 true,
 iG 96 (.ab (tm 5)) 94 true,
 iG 97 (.lp 1 (tm 96) (some (kI 2)) none none) 94 true,
 iH 98 50 [(tm 95), (tm 97), (kI 23), (kI 1)] 94 true,
 iV 99 (.pick (tm 94) (tm 98) (.const (.bool false))),
 iV 4 (.ab (tm 99))])
 .ret)
 (.seq
 (.region [iV 101 (.eq false (.ax 1) (tm 10) (kI 22)),
 iV 100 (.ab (tm 101))])
 (.cond (.tmp 100)
 (.seq
 (.region [iV 102 (.ab (tm 5)),
 iV 103 (.len (tm 102)),
 iV 104 (.eq false (.ax 1) (tm 103) (kI 1)),
 iV 105 (.ab (tm 104)),
 iG 106 (.ab (tm 0)) 105 true,
 iG 107 (.ab (tm 5)) 105 true,
 iG 108 (.ay 1 (tm 107) (kI 0)) 105 true,
 iG 109 (.load none (tm 108)) 105 true,
 iG 110 (.ay 5 (tm 106) (tm 109)) 105 true,
 iG 111 (.ak 0 (tm 110)) 105 true,
 iG 112 (.load none (tm 111)) 105 true,
 iG 113 (.eq false (.ax 1) (tm 112) (kI 11)) 105 true,
 iV 114 (.pick (tm 105) (tm 113) (.const (.bool false))),
 iV 4 (.ab (tm 114))])
 .ret)
 (.seq
 (.region [iV 116 (.eq false (.ax 1) (tm 10) (kI 23)),
 iV 115 (.ab (tm 116))])
 (.cond (.tmp 115)
 (.seq
 (.seq
 (.region [iV 6 (.ab (kI 0))])
 (.block 1
 (.loop eM)))
 (.seq
 (.region [iV 4 (.ab (.const (.bool true)))])
 .ret))
 (.seq
 (.region [iV 134 (.eq false (.ax 1) (tm 10) (kI 25)),
 iV 133 (.ab (tm 134))])
 (.cond (.tmp 133)
 (.seq
 (.region [iV 135 (.ab (tm 5)),
 iV 136 (.len (tm 135)),
 iV 137 (.bin .geq (tm 136) (kI 1)),
 iV 138 (.ab (tm 137)),
 iG 139 (.ab (tm 0)) 138 true,
 iG 140 (.ab (tm 5)) 138 true,
 iG 141 (.ab (tm 5)) 138 true,
 iG 142 (.len (tm 141)) 138 true,
 iG 143 (.bin .sub (tm 142) (kI 1)) 138 true,
 iG 144 (.lp 1 (tm 140) none (some (tm 143)) none) 138 true,
 iH 145 50 [(tm 139), (tm 144), (kI 24), (kI 8)] 138 true,
 iV 146 (.pick (tm 138) (tm 145) (.const (.bool false))),
 iV 147 (.ab (tm 146)),
 iG 148 (.ab (tm 0)) 147 true,
 iG 149 (.ab (tm 5)) 147 true,
 iG 150 (.ab (tm 5)) 147 true,
 iG 151 (.len (tm 150)) 147 true,
 iG 152 (.bin .sub (tm 151) (kI 1)) 147 true,
 iG 153 (.ay 1 (tm 149) (tm 152)) 147 true,
 iG 154 (.load none (tm 153)) 147 true,
 iG 155 (.ay 5 (tm 148) (tm 154)) 147 true,
 iG 156 (.ak 0 (tm 155)) 147 true,
 iG 157 (.load none (tm 156)) 147 true,
 iG 158 (.eq false (.ax 1) (tm 157) (kI 23)) 147 true,
 iV 159 (.pick (tm 147) (tm 158) (.const (.bool false))),
 iV 4 (.ab (tm 159))])
 .ret)
 (.seq
 (.region [iV 161 (.eq false (.ax 1) (tm 10) (kI 26)),
 iV 160 (.ab (tm 161))])
 (.cond (.tmp 160)
 (.seq
 (.region [iV 162 (.ab (tm 0)),
 iV 163 (.ab (tm 5)),
 iC 164 50 [(tm 162), (tm 163), (kI 25), (kI 200)],
 iV 4 (.ab (tm 164))])
 .ret)
 .skip))))))))))))))))))))))
 (.seq
 (.region [iV 165 (.ab (tm 5)),
 iV 166 (.len (tm 165)),
 iV 167 (.eq false (.ax 1) (tm 166) (kI 0)),
 iV 4 (.ab (tm 167))])
 .ret)))),
 [.tmp 4]⟩
theorem UY : b7 Tryd.prog G Tryd.f36 = some aH := by kernel_rfl
/- balustrade/tree.has -/
abbrev tP : Nat := 37
def eL : au :=
 (.seq
 (.region [iV 75 (.bin .lss (tm 74) (tm 73))])
 (.seq
 (.cond (.tmp 75)
 .skip
 (.exit 0))
 (.seq
 (.block 1
 (.seq
 (.region [iV 76 (.ay 1 (tm 72) (tm 74)),
 iV 77 (.load none (tm 76)),
 iV 10 (.ab (tm 77))])
 (.seq
 (.draw [iV 78 (.ab (tm 0)),
 iV 79 (.ab (tm 10)),
 iV 80 (.ay 5 (tm 78) (tm 79)),
 iV 81 (.ak 0 (tm 80)),
 iV 82 (.load none (tm 81)),
 iV 83 (.ak 5 (tm 5)),
 iV 84 (.load none (tm 83)),
 iC 85 53 [(tm 82), (tm 84)],
 iV 86 (.un .not (tm 85))] [])
 (.cond (.tmp 86)
 (.seq
 (.region [iV 4 (.ab (.const (.bool false)))])
 .ret)
 .skip))))
 (.region [iV 87 (.bin .add (tm 74) (kI 1)),
 iV 74 (.ab (tm 87))]))))
def dk : au :=
 (.seq
 (.region [iV 118 (.bin .lss (tm 117) (tm 116))])
 (.seq
 (.cond (.tmp 118)
 .skip
 (.exit 2))
 (.seq
 (.block 3
 (.seq
 (.region [iV 119 (.ab (tm 117)),
 iV 120 (.ay 1 (tm 115) (tm 117)),
 iV 121 (.load none (tm 120)),
 iV 11 (.ab (tm 119)),
 iV 12 (.ab (tm 121))])
 (.seq
 (.draw [iV 122 (.ab (tm 0)),
 iV 123 (.ab (tm 12)),
 iV 124 (.ay 5 (tm 122) (tm 123)),
 iV 125 (.ak 0 (tm 124)),
 iV 126 (.load none (tm 125)),
 iV 127 (.ak 6 (tm 5)),
 iV 128 (.load none (tm 127)),
 iV 129 (.ab (tm 11)),
 iV 130 (.ay 1 (tm 128) (tm 129)),
 iV 131 (.load none (tm 130)),
 iC 132 53 [(tm 126), (tm 131)],
 iV 133 (.un .not (tm 132))] [])
 (.cond (.tmp 133)
 (.seq
 (.region [iV 4 (.ab (.const (.bool false)))])
 .ret)
 .skip))))
 (.region [iV 134 (.bin .add (tm 117) (kI 1)),
 iV 117 (.ab (tm 134))]))))
def fD : ar :=
 ⟨135,
 (.seq
 (.region [iV 3 (.box 27 (tm 1)),
 iV 4 (.ab (.const (.bool false)))])
 (.seq
 (.region [iV 14 (.ak 0 (tm 3)),
 iV 15 (.load none (tm 14)),
 iC 16 30 [(tm 15)],
 iV 13 (.ab (tm 16)),
 iV 17 (.extract (tm 13) 0),
 iV 18 (.extract (tm 13) 1),
 iV 5 (.alloc 45 [(.str []), (.bool false), (.int .i64 0), (.int .i64 0), (.int .i64 0), (.int .i64 0), .aa, (.bool false)]),
 iN (.store 8 (tm 5) (tm 17)),
 iV 6 (.ab (tm 18))])
 (.seq
 (.seq
 (.region [iV 19 (.ab (tm 6)),
 iV 20 (.un .not (tm 19)),
 iV 21 (.ab (tm 20)),
 iG 22 (.ak 4 (tm 3)) 21 false,
 iG 23 (.load none (tm 22)) 21 false,
 iG 24 (.bin .lss (tm 23) (kI 0)) 21 false,
 iV 25 (.pick (tm 21) (.const (.bool true)) (tm 24)),
 iV 26 (.ab (tm 25)),
 iG 27 (.ak 2 (tm 3)) 26 false,
 iG 28 (.load none (tm 27)) 26 false,
 iG 29 (.ak 2 (tm 5)) 26 false,
 iG 30 (.load none (tm 29)) 26 false,
 iG 31 (.bin .lss (tm 28) (tm 30)) 26 false,
 iV 32 (.pick (tm 26) (.const (.bool true)) (tm 31)),
 iV 33 (.ab (tm 32)),
 iG 34 (.ak 2 (tm 3)) 33 false,
 iG 35 (.load none (tm 34)) 33 false,
 iG 36 (.ak 3 (tm 5)) 33 false,
 iG 37 (.load none (tm 36)) 33 false,
 iG 38 (.bin .gtr (tm 35) (tm 37)) 33 false,
 iV 39 (.pick (tm 33) (.const (.bool true)) (tm 38)),
 iV 40 (.ab (tm 39)),
 iG 41 (.ak 1 (tm 5)) 40 false,
 iG 42 (.load none (tm 41)) 40 false,
 iG 43 (.ak 3 (tm 3)) 40 false,
 iG 44 (.load none (tm 43)) 40 false,
 iG 45 (.eq true (.ax 2) (tm 44) (kS [])) 40 false,
 iG 46 (.eq true (.ax 0) (tm 42) (tm 45)) 40 false,
 iV 47 (.pick (tm 40) (.const (.bool true)) (tm 46)),
 iV 48 (.ab (tm 47)),
 iG 49 (.ak 1 (tm 5)) 48 false,
 iG 50 (.load none (tm 49)) 48 false,
 iG 51 (.ab (tm 50)) 48 false,
 iG 52 (.ak 3 (tm 3)) 51 true,
 iG 53 (.load none (tm 52)) 51 true,
 iH 54 52 [(tm 53)] 51 true,
 iG 55 (.un .not (tm 54)) 51 true,
 iG 56 (.pick (tm 51) (tm 55) (.const (.bool false))) 48 false,
 iV 57 (.pick (tm 48) (.const (.bool true)) (tm 56))])
 (.cond (.tmp 57)
 (.seq
 (.region [iV 4 (.ab (.const (.bool false)))])
 .ret)
 .skip))
 (.seq
 (.region [iV 58 (.ak 1 (tm 3)),
 iV 59 (.load none (tm 58)),
 iV 7 (.ab (tm 59))])
 (.seq
 (.seq
 (.region [iV 60 (.ak 4 (tm 5)),
 iV 61 (.load none (tm 60)),
 iV 62 (.bin .gtr (tm 61) (kI 0))])
 (.cond (.tmp 62)
 (.seq
 (.region [iV 63 (.ab (tm 7)),
 iV 64 (.len (tm 63)),
 iV 65 (.ak 6 (tm 5)),
 iV 66 (.load none (tm 65)),
 iV 67 (.len (tm 66)),
 iV 68 (.bin .sub (tm 64) (tm 67)),
 iV 69 (.max [(kI 0), (tm 68)]),
 iV 8 (.ab (tm 69))])
 (.seq
 (.seq
 (.region [iV 70 (.ab (tm 7)),
 iV 71 (.ab (tm 8)),
 iV 72 (.lp 1 (tm 70) none (some (tm 71)) none),
 iV 73 (.len (tm 72)),
 iV 74 (.ab (kI 0))])
 (.block 0
 (.loop eL)))
 (.seq
 (.seq
 (.region [iV 88 (.ab (tm 8)),
 iV 89 (.ak 4 (tm 5)),
 iV 90 (.load none (tm 89)),
 iV 91 (.bin .gtr (tm 88) (tm 90))])
 (.cond (.tmp 91)
 (.seq
 (.region [iV 4 (.ab (.const (.bool false)))])
 .ret)
 .skip))
 (.region [iV 92 (.ab (tm 7)),
 iV 93 (.ab (tm 8)),
 iV 94 (.lp 1 (tm 92) (some (tm 93)) none none),
 iV 7 (.ab (tm 94))]))))
 .skip))
 (.seq
 (.seq
 (.region [iV 95 (.ab (tm 7)),
 iV 96 (.len (tm 95)),
 iV 97 (.ak 6 (tm 5)),
 iV 98 (.load none (tm 97)),
 iV 99 (.len (tm 98)),
 iV 100 (.eq true (.ax 1) (tm 96) (tm 99)),
 iV 101 (.ab (tm 100)),
 iG 102 (.ak 7 (tm 5)) 101 true,
 iG 103 (.load none (tm 102)) 101 true,
 iG 104 (.ab (tm 103)) 101 true,
 iG 105 (.ab (tm 7)) 104 true,
 iG 106 (.len (tm 105)) 104 true,
 iG 107 (.ak 6 (tm 5)) 104 true,
 iG 108 (.load none (tm 107)) 104 true,
 iG 109 (.len (tm 108)) 104 true,
 iG 110 (.bin .sub (tm 109) (kI 1)) 104 true,
 iG 111 (.eq false (.ax 1) (tm 106) (tm 110)) 104 true,
 iG 112 (.pick (tm 104) (tm 111) (.const (.bool false))) 101 true,
 iG 113 (.un .not (tm 112)) 101 true,
 iV 114 (.pick (tm 101) (tm 113) (.const (.bool false)))])
 (.cond (.tmp 114)
 (.seq
 (.region [iV 4 (.ab (.const (.bool false)))])
 .ret)
 .skip))
 (.seq
 (.seq
 (.region [iV 115 (.ab (tm 7)),
 iV 116 (.len (tm 115)),
 iV 117 (.ab (kI 0))])
 (.block 2
 (.loop dk)))
 (.seq
 (.region [iV 4 (.ab (.const (.bool true)))])
 .ret)))))))),
 [.tmp 4]⟩
theorem UX : b7 Tryd.prog G Tryd.f37 = some fD := by kernel_rfl
/- slices.Contains[[]bool,bool] -/
abbrev mH : Nat := 38
def bE : ar :=
 ⟨9,
 (.seq
 (.region [iV 4 (.ab (.const (.bool false)))])
 (.seq
 (.region [iV 5 (.ab (tm 0)),
 iV 6 (.ab (tm 1)),
 iC 7 54 [(tm 5), (tm 6)],
 iV 8 (.bin .geq (tm 7) (kI 0)),
 iV 4 (.ab (tm 8))])
 .ret)),
 [.tmp 4]⟩
theorem UW : b7 Tryd.prog G Tryd.f38 = some bE := by kernel_rfl
/- balustrade/balustradebase.Itoa -/
abbrev zT : Nat := 39
def dq : au :=
 (.seq
 (.seq
 (.region [iV 9 (.ab (tm 4)),
 iV 10 (.eq true (.ax 1) (tm 9) (kI 0))])
 (.cond (.tmp 10)
 .skip
 (.exit 0)))
 (.block 1
 (.seq
 (.region [iV 11 (.ab (tm 4)),
 iV 12 (.bin .rem (tm 11) (kI 10)),
 iV 5 (.ab (tm 12))])
 (.seq
 (.seq
 (.region [iV 13 (.ab (tm 5)),
 iV 14 (.bin .lss (tm 13) (kI 0))])
 (.cond (.tmp 14)
 (.region [iV 15 (.ab (tm 5)),
 iV 16 (.un .neg (tm 15)),
 iV 5 (.ab (tm 16))])
 .skip))
 (.seq
 (.region [iV 17 (.ab (tm 5)),
 iV 18 (.bin .add (kI 48) (tm 17)),
 iV 19 (.conv (.int .u8) (tm 18)),
 iV 20 (.aU 5 1 1 [(.int .u8 0)] [(0, (tm 19))]),
 iV 21 (.conv .text (tm 20)),
 iV 22 (.ab (tm 3)),
 iV 23 (.bin .add (tm 21) (tm 22)),
 iV 3 (.ab (tm 23))])
 (.region [iV 24 (.ab (tm 4)),
 iV 25 (.bin .quo (tm 24) (kI 10)),
 iV 4 (.ab (tm 25))]))))))
def eE : ar :=
 ⟨31,
 (.seq
 (.region [iV 2 (.ab (kS []))])
 (.seq
 (.seq
 (.region [iV 6 (.ab (tm 0)),
 iV 7 (.eq false (.ax 1) (tm 6) (kI 0))])
 (.cond (.tmp 7)
 (.seq
 (.region [iV 2 (.ab (kS [48]))])
 .ret)
 .skip))
 (.seq
 (.region [iV 8 (.ab (tm 0)),
 iV 3 (.ab (kS [])),
 iV 4 (.ab (tm 8))])
 (.seq
 (.block 0
 (.loop dq))
 (.seq
 (.seq
 (.region [iV 26 (.ab (tm 0)),
 iV 27 (.bin .lss (tm 26) (kI 0))])
 (.cond (.tmp 27)
 (.region [iV 28 (.ab (tm 3)),
 iV 29 (.bin .add (kS [45]) (tm 28)),
 iV 3 (.ab (tm 29))])
 .skip))
 (.seq
 (.region [iV 30 (.ab (tm 3)),
 iV 2 (.ab (tm 30))])
 .ret)))))),
 [.tmp 2]⟩
theorem UU : b7 Tryd.prog G Tryd.f39 = some eE := by kernel_rfl
/- balustrade/balustraderef06.word -/
abbrev tS : Nat := 40
def fE : ar :=
 ⟨20,
 (.seq
 (.region [iV 1 (.box 27 (tm 0)),
 iV 2 (.ab (kS []))])
 (.seq
 (.region [iV 4 (.aU 9 1 26 [(.str [])] [(0, (kS [])), (1, (kS [])), (2, (kS [110, 105, 108])), (3, (kS [])), (4, (kS [])), (5, (kS [110, 101, 103])), (6, (kS [110, 111, 116])), (7, (kS [97, 116])), (8, (kS [108, 101, 110])), (9, (kS [110, 101, 119])), (10, (kS [99, 97, 108, 108])), (11, (kS [118, 97, 114])), (12, (kS [115, 101, 116])), (13, (kS [112, 117, 116])), (14, (kS [105, 102])), (15, (kS [119, 104, 105, 108, 101])), (16, (kS [102, 111, 114])), (17, (kS [98, 114, 101, 97, 107])), (18, (kS [99, 111, 110, 116, 105, 110, 117, 101])), (19, (kS [114, 101, 116, 117, 114, 110])), (20, (kS [112, 114, 105, 110, 116])), (21, (kS [100, 111])), (22, (kS [98, 108, 111, 99, 107])), (23, (kS [])), (24, (kS [102, 110])), (25, (kS [112, 114, 111, 103]))]),
 iV 3 (.ab (tm 4))])
 (.seq
 (.seq
 (.region [iV 5 (.ak 0 (tm 1)),
 iV 6 (.load none (tm 5)),
 iV 7 (.eq false (.ax 1) (tm 6) (kI 5))])
 (.cond (.tmp 7)
 (.seq
 (.draw [iC 8 20 [],
 iV 9 (.ak 2 (tm 1)),
 iV 10 (.load none (tm 9)),
 iV 11 (.bin .sub (tm 10) (kI 1)),
 iV 12 (.ay 1 (tm 8) (tm 11)),
 iV 13 (.load none (tm 12)),
 iV 2 (.ab (tm 13))] [(2, 0)])
 .ret)
 .skip))
 (.seq
 (.region [iV 14 (.ab (tm 3)),
 iV 15 (.ak 0 (tm 1)),
 iV 16 (.load none (tm 15)),
 iV 17 (.bin .sub (tm 16) (kI 1)),
 iV 18 (.ay 1 (tm 14) (tm 17)),
 iV 19 (.load none (tm 18)),
 iV 2 (.ab (tm 19))])
 .ret)))),
 [.tmp 2]⟩
theorem US : b7 Tryd.prog G Tryd.f40 = some fE := by kernel_rfl
/- slices.Index[[]string,string] -/
abbrev nh : Nat := 41
def bH : au :=
 (.seq
 (.region [iV 9 (.bin .lss (tm 8) (tm 7))])
 (.seq
 (.cond (.tmp 9)
 .skip
 (.exit 0))
 (.seq
 (.block 1
 (.seq
 (.region [iV 10 (.ab (tm 8)),
 iV 5 (.ab (tm 10))])
 (.seq
 (.region [iV 11 (.ab (tm 1)),
 iV 12 (.ab (tm 0)),
 iV 13 (.ab (tm 5)),
 iV 14 (.ay 1 (tm 12) (tm 13)),
 iV 15 (.load none (tm 14)),
 iV 16 (.eq false (.ax 2) (tm 11) (tm 15))])
 (.cond (.tmp 16)
 (.seq
 (.region [iV 17 (.ab (tm 5)),
 iV 4 (.ab (tm 17))])
 .ret)
 .skip))))
 (.region [iV 18 (.bin .add (tm 8) (kI 1)),
 iV 8 (.ab (tm 18))]))))
def bJ : ar :=
 ⟨19,
 (.seq
 (.region [iV 4 (.ab (kI 0))])
 (.seq
 (.seq
 (.region [iV 6 (.ab (tm 0)),
 iV 7 (.len (tm 6)),
 iV 8 (.ab (kI 0))])
 (.block 0
 (.loop bH)))
 (.seq
 (.region [iV 4 (.ab (kI (-1)))])
 .ret))),
 [.tmp 4]⟩
theorem UR : b7 Tryd.prog G Tryd.f41 = some bJ := by kernel_rfl
/- internal/strconv.Itoa -/
abbrev wC : Nat := 42
def cm : ar :=
 ⟨5,
 (.seq
 (.region [iV 2 (.ab (kS []))])
 (.seq
 (.region [iV 3 (.ab (tm 0)),
 iC 4 55 [(tm 3), (kI 10)],
 iV 2 (.ab (tm 4))])
 .ret)),
 [.tmp 2]⟩
theorem UQ : b7 Tryd.prog G Tryd.f42 = some cm := by kernel_rfl
/- internal/strconv.FormatBool -/
abbrev fi : Nat := 43
def bq : ar :=
 ⟨4,
 (.seq
 (.region [iV 2 (.ab (kS []))])
 (.seq
 (.seq
 (.region [iV 3 (.ab (tm 0))])
 (.cond (.tmp 3)
 (.seq
 (.region [iV 2 (.ab (kS [116, 114, 117, 101]))])
 .ret)
 .skip))
 (.seq
 (.region [iV 2 (.ab (kS [102, 97, 108, 115, 101]))])
 .ret))),
 [.tmp 2]⟩
theorem UP : b7 Tryd.prog G Tryd.f43 = some bq := by kernel_rfl
/- (*strings.Builder).Grow -/
abbrev xM : Nat := 44
def jf : ar :=
 ⟨25,
 (.seq
 (.region [iV 4 (.ab (tm 0)),
 iC 5 56 [(tm 4)]])
 (.seq
 (.seq
 (.region [iV 6 (.ab (tm 1)),
 iV 7 (.bin .lss (tm 6) (kI 0))])
 (.cond (.tmp 7)
 (.region [iV 8 (.iface 9 (kS [115, 116, 114, 105, 110, 103, 115, 46, 66, 117, 105, 108, 100, 101, 114, 46, 71, 114, 111, 119, 58, 32, 110, 101, 103, 97, 116, 105, 118, 101, 32, 99, 111, 117, 110, 116])),
 ⟨none, (.panic (.tmp 8)), none⟩])
 .skip))
 (.seq
 (.draw [iV 9 (.ab (tm 0)),
 iV 10 (.kn (tm 9)),
 iV 11 (.ak 1 (tm 10)),
 iV 12 (.load none (tm 11)),
 iV 13 (.cap (tm 12)),
 iV 14 (.ab (tm 0)),
 iV 15 (.kn (tm 14)),
 iV 16 (.ak 1 (tm 15)),
 iV 17 (.load none (tm 16)),
 iV 18 (.len (tm 17)),
 iV 19 (.bin .sub (tm 13) (tm 18)),
 iV 20 (.ab (tm 1)),
 iV 21 (.bin .lss (tm 19) (tm 20))] [])
 (.cond (.tmp 21)
 (.region [iV 22 (.ab (tm 0)),
 iV 23 (.ab (tm 1)),
 iC 24 57 [(tm 22), (tm 23)]])
 .skip)))),
 []⟩
theorem UO : b7 Tryd.prog G Tryd.f44 = some jf := by kernel_rfl
/- (*strings.Builder).WriteString -/
abbrev rR : Nat := 45
def fk : ar :=
 ⟨19,
 (.seq
 (.region [iV 4 (.ab (kI 0)),
 iV 5 (.ab (.const .aq))])
 (.seq
 (.region [iV 6 (.ab (tm 0)),
 iC 7 56 [(tm 6)]])
 (.seq
 (.region [iV 8 (.ab (tm 0)),
 iV 9 (.ab (tm 0)),
 iV 10 (.kn (tm 9)),
 iV 11 (.ak 1 (tm 10)),
 iV 12 (.load none (tm 11)),
 iV 13 (.ab (tm 1)),
 iV 14 (.append 5 1 1 (tm 12) (tm 13)),
 iV 15 (.kn (tm 8)),
 iV 16 (.ak 1 (tm 15)),
 iN (.store 1 (tm 16) (tm 14))])
 (.seq
 (.region [iV 17 (.ab (tm 1)),
 iV 18 (.eH (tm 17)),
 iV 4 (.ab (tm 18)),
 iV 5 (.ab (.const .aq))])
 .ret)))),
 [.tmp 4, .tmp 5]⟩
theorem UN : b7 Tryd.prog G Tryd.f45 = some fk := by kernel_rfl
/- balustrade/balustraderef06.named -/
abbrev zO : Nat := 47
def fm : ar :=
 ⟨6,
 (.seq
 (.region [iV 2 (.ab (.const (.bool false)))])
 (.seq
 (.region [iV 3 (.aU 3 1 8 [(.int .i64 0)] [(0, (kI 4)), (1, (kI 11)), (2, (kI 12)), (3, (kI 13)), (4, (kI 14)), (5, (kI 17)), (6, (kI 24)), (7, (kI 25))]),
 iV 4 (.ab (tm 0)),
 iC 5 34 [(tm 3), (tm 4)],
 iV 2 (.ab (tm 5))])
 .ret)),
 [.tmp 2]⟩
theorem UM : b7 Tryd.prog G Tryd.f47 = some fm := by kernel_rfl
end
end Go.Proofs.YtblcomejcahkdaaDoor.Ev
