/- WExpr7, WExpr8, WExpr9, WExpr10, WPa1, WPa2, WPa3, WPa4, WPa5, WPa6, WPa7. -/
import Derived.Test.YtdiccmapankckaaDoorMh
set_option linter.unusedSimpArgs false
set_option linter.unusedVariables false
set_option linter.unusedSectionVars false
set_option linter.defProp false
set_option maxRecDepth 20000
set_option maxHeartbeats 8000000
namespace Go.Proofs.YtdiccmapankckaaDoor.Ev
open Go
section
def Pv (P : Nat -> Prop) (v : EV) : Nat -> Prop := fun c => P c \/ ¬ gx v c
theorem Rd.grow {m : Mem} {b tg : Nat} {l : List Tok} {st : RS} {P : Nat -> Prop} {v : EV} {e n : Nat} {cs : List EV} (h : Rd m b tg l st (Pv P v)) (hP : ∀ c, P c -> gx v c) : Rd (grow m v e 1 cs) b tg l st (Pv P (.slice (nb m.next 0) 0 n none)) := by
 obtain ⟨tv, hv, xs, h⟩ := h
 have hn : m.next <= (Ev.grow m v e 1 cs).next := by rw [gu]; exact bH
 have hold : ∀ c, c < m.next -> gx v c -> (Ev.grow m v e 1 cs).get c = m.get c := fun c hc ho => iW hc ho
 have hv : ∀ c, (¬ gx v c) -> UQ b tv hv c /\ ∀ x ∈ xs, gx x.kv c := fun c hc => ⟨(h.p c (.inr hc)).2, h.pk c (.inr hc)⟩
 have WD : ∀ c, (UQ b tv _ c -> (∀ x ∈ xs, gx x.kv c) -> False) -> gx v c := fun c q => B9 fun w => q (hv c w).1 (hv c w).2
 refine ⟨tv, _, xs, ?_, mr h.lt hn, ?_, ?_, h.a, h.x, h.hl, ?_, ?_, ?_⟩
 ·rw [hold b h.lt (WD b fun f _ => f.ne rfl)]; exact h.g
 ·exact h.t.gD hn fun c hc _ ho => hold c hc (WD c fun f _ => ho f.t)
 ·exact h.h.gD hn fun c hc _ ho => hold c hc (WD c fun f _ => ho f.h)
 ·exact fun x hx => ⟨(h.k x hx).o.gD hn fun c hc _ ho => hold c hc (WD c fun _ f => ho (f x hx)), (h.k x hx).f, (h.k x hx).nl, (h.k x hx).z⟩
 ·rintro c (hc | hc)
  ·exact ⟨mr (h.p c (.inl hc)).1 hn, (h.p c (.inl hc)).2⟩
  ·rw [cu hc]
   exact ⟨by rw [gu]; unfold nb; simp, h.fresh (eX _)⟩
 ·rintro c (hc | hc)
  ·exact h.pk c (.inl hc)
  ·rw [cu hc]
   exact h.RR (eX _)
def IB (l : List Tok) (tg k : Nat) : Prop := ∀ (left : Int) (st : RS) (fr : Fr) (m : Mem) (b : Nat) (P : Nat -> Prop) (s1 : RS) (r : List Int) (X : Option Out), eJ l st -> 8 * (l.length - st.pos) + (gU.mW left).bn < k -> jz l k (.mW left) st = some (s1, r) -> Rd m b tg l st P -> fr.get 0 = .ptr b 0 -> fr.get 1 = .int .i64 left -> fr.defers = [] -> exec U (.loop dx) fr m = X -> ∃ fr' m', X = some (.exit 0 fr' m') /\ fr'.get 1 = .int .i64 (r.headD 0) /\ fr'.defers = [] /\ Rd m' b tg l s1 P /\ Kp m m' P
section
variable {l : List Tok} {tg : Nat} (ht : bT l) {k : Nat}
include ht
theorem Me (JK : rm l tg cz [.str [91], .str [93]] k (.inner [91] [93])) (LN : IB l tg k) : IB l tg (k + 1) := by
 intro left st fr m b P s1 r X o hk bO h h0 h1 hd hX
 rw [eS] at hX;generalize hL : exec U (.loop dx) = L at hX
 have hI := Vl (b := b) (tg := tg) (P := P) ht o
 by_cases ha : st.is l [91]
 ·have hT := jR (b := b) (tg := tg) (P := P) ht o
  simp +contextual -implicitDefEqProofs (maxSteps := 1000000) (maxDischargeDepth := 8) only [dx, h0, h1, hd, hI, hT, h, ha, gl, dk, ak, aq, aa, implies_true, simprocAttr] at hX
  simp only [jz, if_pos ha] at bO;have nS : 8 * (l.length - st.pos) + (gU.inner [91] [93]).bn < k := by simp only [gU.bn] at *; omega
  obtain ⟨s2, r2, e, g, ar, mo⟩ := go_ok ht k (.inner [91] [93]) st o.p nS trivial
  obtain ⟨fW, Sw⟩ := mo ha
  obtain ⟨x, rfl⟩ := jV ar
  simp only [e, Option.bind_some] at bO;generalize hC : run U cz _ _ = C at hX
  obtain ⟨m1, rfl, r1, k1⟩ := JK _ _ _ _ _ _ _ o nS e (ak (ak h)) hC
  clear hC;have k1 := ((aU h).trans (aU (ak h))).trans k1
  have o2 := g.ok o
  have ES : eE 2 [EV.int .i64 0] = [EV.int .i64 0, EV.int .i64 0] := rfl
  simp +contextual -implicitDefEqProofs (maxSteps := 1000000) (maxDischargeDepth := 8) only [h0, h1, ES, b8, fA, List.headD_cons, aq, aa, implies_true, simprocAttr] at hX
  generalize hC : run U aD _ _ = C at hX
  obtain ⟨m5, rfl, h5, k5⟩ := pP (P := P) (kids := [left, x]) ht o2 (r1.It _) (by simp) (CB (by rfl)) (fun c hc => by rw [cu hc]; exact og (by simp)) (fun c hc => ⟨.inl hc, gx.of (by have := r1.mB hc; unfold nb; omega)⟩) (by simp) hC
  clear hC;simp +contextual -implicitDefEqProofs (maxSteps := 1000000) (maxDischargeDepth := 8) only [aq, aa, implies_true, simprocAttr] at hX
  subst hL;have k5 := (k1.trans (lZ r1 _)).trans k5
  have g1 := g.put (by omega) (d := nd 8 [left, x] 0 [] (st.now l).pos)
  obtain ⟨fr', m', rfl, f1, fd, h6, k6⟩ := LN _ _ _ _ _ _ _ _ _ (g1.ok o) (by
   have hq : (s2.put (nd 8 [left, x] 0 [] (st.now l).pos)).pos = s2.pos := (by unfold RS.put RS.pQ; split <;> split <;> first | rfl | exact c9.1)
   have := o.p; have := g.pl
   simp only [gU.bn] at *; omega) bO h5 (by simp only [h0, ao, Nat.reduceBEq ]) (by simp only [ao, Nat.reduceBEq ]) (by simp only [hd, ao, Nat.reduceBEq ]) hX
  exact ⟨fr', m', rfl, f1, fd, h6, k5.trans k6⟩
 ·simp +contextual -implicitDefEqProofs (maxSteps := 1000000) (maxDischargeDepth := 8) only [dx, h0, h1, hd, hI, h, ha, fG, dk, ak, aq, aa, implies_true, simprocAttr] at hX
  simp only [jz, if_neg ha, bj, eQ] at bO;obtain ⟨rfl, rfl⟩ := bO
  subst hX;exact ⟨_, _, rfl, by simp only [h1, List.headD_cons, ao, Nat.reduceBEq ], by simp only [hd, ao, Nat.reduceBEq ], ak h, aU h⟩
omit ht in
theorem Md (h : IB l tg k) (left : Int) : rm l tg kG [.int .i64 left] k (.mW left) := by
 intro st m b P s1 r X o hk bO hr hX
 rw [bZ (by simp [dO])] at hX
 generalize hL : exec (UT B K) (aE.loop dx) = L
 simp +contextual -implicitDefEqProofs (maxSteps := 1000000) (maxDischargeDepth := 8) only [dO, aq, aa, implies_true, simprocAttr] at hX
 subst hL;generalize hC : exec _ (.loop dx) _ _ = C at hX
 obtain ⟨fr', m', rfl, f1, fd, h6, k6⟩ := h _ _ _ _ _ _ _ _ _ o hk bO hr (by simp only [ao, Nat.reduceBEq ]) (by simp only [ao, Nat.reduceBEq ]) (by simp only [ao, Nat.reduceBEq ]) hC
 simp +contextual -implicitDefEqProofs (maxSteps := 1000000) (maxDischargeDepth := 8) only [f1, fd, aq, aa, implies_true, simprocAttr] at hX
 subst hX;exact ⟨_, rfl, h6, k6⟩
end
end
section
def IC (l : List Tok) (tg k : Nat) : Prop := ∀ (out : List Int) (v : EV) (st : RS) (fr : Fr) (m : Mem) (b n0 : Nat) (P : Nat -> Prop) (s1 : RS) (r : List Int) (X : Option Out), eJ l st -> 8 * (l.length - st.pos) + (gU.mn out).bn < k -> out.length <= 8 -> st.fe = 0 -> jz l k (.mn out) st = some (s1, r) -> Rd m b tg l st (Pv P v) -> (∀ c, P c -> c < n0) -> n0 <= m.next -> ja m v (is out) out.length 1 n0 -> fr.get 0 = .ptr b 0 -> fr.get 4 = v -> fr.get 5 = .bool true -> fr.defers = [] -> exec U (.loop aN) fr m = X -> ∃ fr' m' v', X = some (.exit 0 fr' m') /\ fr'.get 0 = .ptr b 0 /\ fr'.get 4 = v' /\ fr'.defers = [] /\ ja m' v' (is r) r.length 1 n0 /\ Rd m' b tg l s1 (Pv P v') /\ Kp m m' P /\ r ≠ []
theorem ja.kp {m m' : Mem} {v : EV} {cs : List EV} {n esz lo : Nat} {P : Nat -> Prop} (h : ja m v cs n esz lo) (k : Kp m m' P) (hp : ∀ c, ¬ gx v c -> P c) : ja m' v cs n esz lo := h.gD k.n fun c _ _ ho => k.k c (hp c ho)
theorem CP {r : List Int} {x : Int} : is (r ++ [x]) = is r ++ [.int .i64 x] := by simp [is]
section
variable {l : List Tok} {tg : Nat} (ht : bT l) {k : Nat}
include ht
theorem PJ (JK : rm l tg aY [] k .expr) (LN : IC l tg k) : IC l tg (k + 1) := by
 intro out v st fr m b n0 P s1 r X o hk ho8 jh bO h hP pR cF h0 h4 h5 hd hX
 rw [eS] at hX;generalize hL : exec U (.loop aN) = L at hX
 have hF := J1 (b := b) (tg := tg) (l := l) (st := st) (P := Pv P v)
 have hlen : ∀ M, BS v M = some (.val (.int .i64 (out.length : Int)) M) := fun M => by
  rcases cF.is with ⟨rfl, q, _⟩ | ⟨kb, cap, t, rfl, _⟩
  ·rw [q]; rfl
  ·rfl
 have h8 : ((out.length : Int) = 8) = (out.length = 8) := propext (by omega)
 by_cases Y7 : out.length = 8
 ·have hT := jR (b := b) (tg := tg) (P := Pv P v) ht o
  simp +contextual -implicitDefEqProofs (maxSteps := 1000000) (maxDischargeDepth := 8) only [aN, h0, h4, h5, hd, hF, hT, h, jh, hlen, h8, Y7, gl, dk, ak, aq, aa, implies_true, simprocAttr] at hX
  generalize hC : run U ed _ _ = C at hX
  obtain ⟨m9, rfl, RD, k9⟩ := J5 (ak (ak h)) hC
  clear hC;have KP := ((aU h).trans (aU (ak h))).trans k9
  have oo : eJ l (st.fail 3 (st.now l).pos) := (Gr.fail o.p (by decide)).ok o
  have p0 : (st.fail 3 (st.now l).pos).pos = st.pos := c9.1
  have f0 : (st.fail 3 (st.now l).pos).fe = 0 -> out.length < 8 := fun q => absurd q (ey (by decide))
  simp only [jz, if_pos Y7] at bO;generalize st.fail 3 (st.now l).pos = S0 at *
  simp +contextual -implicitDefEqProofs (maxSteps := 1000000) (maxDischargeDepth := 8) only [h0, h4, aq, aa, implies_true, simprocAttr] at hX
  obtain ⟨s2, r2, e, g, ar, _⟩ := go_ok ht k .expr S0 oo.p (by rw [p0]; simp only [gU.bn] at *; omega) trivial
  obtain ⟨x, rfl⟩ := jV ar
  simp only [e, Option.bind_some] at bO;generalize hC : run U aY _ _ = C at hX
  obtain ⟨m1, rfl, h1, k1⟩ := JK _ _ _ _ _ _ _ oo (by rw [p0]; simp only [gU.bn] at *; omega) e RD hC
  clear hC;have k1 := KP.trans k1
  have o2 := g.ok oo
  have EN := cF.kp k1 fun c hc => .inr hc
  obtain ⟨ha, jI⟩ := fg (e := aP) (EN.ext [.cells [.int .i64 x] 1 aP false]) (by rw [ax]; have := k1.n; unfold nb; omega) (sW rfl) rfl (by decide) (by unfold room; omega)
  have Rq := Rd.grow (e := aP) (n := out.length + 1) (cs := is out ++ [.int .i64 x]) (dk (ys := [.cells [.int .i64 x] 1 aP false]) h1) fun c hc => cF.lt (.inr (hP c hc))
  have BU : Kp (ext m1 [.cells [.int .i64 x] 1 aP false]) (grow (ext m1 [.cells [.int .i64 x] 1 aP false]) v 3 1 (is out ++ [.int .i64 x])) P := ⟨by rw [gu]; exact bH, fun c hc => iW ((dk (ys := [.cells [.int .i64 x] 1 aP false]) h1).mB (.inl hc)) (cF.lt (.inr (hP c hc)))⟩
  have k2 := ((k1.trans (LD h1)).bQ fun c hc => .inl hc).trans BU
  generalize hG : grow _ v aP 1 _ = M2 at ha jI Rq BU k2
  clear hG BU;rw [ax, dE] at ha jI Rq;simp +contextual -implicitDefEqProofs (maxSteps := 1000000) (maxDischargeDepth := 8) only [h0, ha, List.headD_cons, aq, aa, implies_true, simprocAttr] at hX
  generalize hC : run U aX _ _ = C at hX
  obtain ⟨m3, rfl, h3, k3⟩ := pg ht o2 Rq hC
  clear hC;have mE : ja m3 (.slice (nb m1.next ([fM.cells [EV.int .i64 x] 1 aP false].length + 0)) 0 (out.length + 1) none) (is (out ++ [x])) (out ++ [x]).length 1 n0 := by rw [CP, kL]; exact jI.kp k3 fun c hc => .inr hc
  have k3 := k2.trans (k3.bQ fun c hc => .inl hc)
  by_cases hc : s2.is l [44]
  ·rw [if_pos hc] at bO
   have hn := is_lt ht o2.p hc
   have hw : s2.skip l [44] = s2.next := by unfold RS.skip; rw [if_pos hc]
   rw [hw] at h3;rw [eA hc] at hX;simp +contextual -implicitDefEqProofs (maxSteps := 1000000) (maxDischargeDepth := 8) only [aq, aa, implies_true, simprocAttr] at hX
   subst hL;have VA := f0 (g.f hc.1)
   obtain ⟨fr', m', v', rfl, q0, q4, qd, qo, qr, qk, qz⟩ := LN (out ++ [x]) _ _ _ _ _ n0 P _ _ _ ((Gr.next hn).ok o2) (by have := g.p; simp only [gU.bn, RS.next] at *; omega) (by rw [kL]; exact VA) hc.1 bO h3 hP (pU pR k3.n) mE (by simp only [h0, ao, Nat.reduceBEq ]) (by simp only [ao, Nat.reduceBEq ]; rfl) (by simp only [ao, Nat.reduceBEq ]) (by simp only [hd, ao, Nat.reduceBEq ]) hX
   exact ⟨fr', m', v', rfl, q0, q4, qd, qo, qr, k3.trans qk, qz⟩
  ·rw [if_neg hc] at bO
   simp only [bj, eQ] at bO;obtain ⟨rfl, rfl⟩ := bO
   have hw : s2.skip l [44] = s2 := by unfold RS.skip; rw [if_neg hc]
   rw [hw] at h3;rw [eU hc] at hX;simp +contextual -implicitDefEqProofs (maxSteps := 1000000) (maxDischargeDepth := 8) only [aq, aa, implies_true, simprocAttr] at hX
   subst hL;rw [eS] at hX;generalize exec U (.loop aN) = L at hX
   simp +contextual -implicitDefEqProofs (maxSteps := 1000000) (maxDischargeDepth := 8) only [aN, h0, hd, aq, aa, implies_true, simprocAttr] at hX
   subst hX;exact ⟨_, _, _, rfl, by simp only [h0, ao, Nat.reduceBEq ], by simp only [ao, Nat.reduceBEq ]; rfl, by simp only [hd, ao, Nat.reduceBEq ], mE, h3, k3, by simp⟩
 ·simp +contextual -implicitDefEqProofs (maxSteps := 1000000) (maxDischargeDepth := 8) only [aN, h0, h4, h5, hd, hF, h, jh, hlen, h8, Y7, gl, fG, dk, ak, aq, aa, implies_true, simprocAttr] at hX
  have RD := ak (k := 0) h
  have KP := aU (k := 0) h
  have oo := o
  have p0 : st.pos = st.pos := rfl
  have f0 : st.fe = 0 -> out.length < 8 := fun _ => by omega
  simp only [jz, if_neg Y7] at bO;obtain ⟨s2, r2, e, g, ar, _⟩ := go_ok ht k .expr st oo.p (by rw [p0]; simp only [gU.bn] at *; omega) trivial
  obtain ⟨x, rfl⟩ := jV ar
  simp only [e, Option.bind_some] at bO;generalize hC : run U aY _ _ = C at hX
  obtain ⟨m1, rfl, h1, k1⟩ := JK _ _ _ _ _ _ _ oo (by rw [p0]; simp only [gU.bn] at *; omega) e RD hC
  clear hC;have k1 := KP.trans k1
  have o2 := g.ok oo
  have EN := cF.kp k1 fun c hc => .inr hc
  obtain ⟨ha, jI⟩ := fg (e := aP) (EN.ext [.cells [.int .i64 x] 1 aP false]) (by rw [ax]; have := k1.n; unfold nb; omega) (sW rfl) rfl (by decide) (by unfold room; omega)
  have Rq := Rd.grow (e := aP) (n := out.length + 1) (cs := is out ++ [.int .i64 x]) (dk (ys := [.cells [.int .i64 x] 1 aP false]) h1) fun c hc => cF.lt (.inr (hP c hc))
  have BU : Kp (ext m1 [.cells [.int .i64 x] 1 aP false]) (grow (ext m1 [.cells [.int .i64 x] 1 aP false]) v 3 1 (is out ++ [.int .i64 x])) P := ⟨by rw [gu]; exact bH, fun c hc => iW ((dk (ys := [.cells [.int .i64 x] 1 aP false]) h1).mB (.inl hc)) (cF.lt (.inr (hP c hc)))⟩
  have k2 := ((k1.trans (LD h1)).bQ fun c hc => .inl hc).trans BU
  generalize hG : grow _ v aP 1 _ = M2 at ha jI Rq BU k2
  clear hG BU;rw [ax, dE] at ha jI Rq;simp +contextual -implicitDefEqProofs (maxSteps := 1000000) (maxDischargeDepth := 8) only [h0, ha, List.headD_cons, aq, aa, implies_true, simprocAttr] at hX
  generalize hC : run U aX _ _ = C at hX
  obtain ⟨m3, rfl, h3, k3⟩ := pg ht o2 Rq hC
  clear hC;have mE : ja m3 (.slice (nb m1.next ([fM.cells [EV.int .i64 x] 1 aP false].length + 0)) 0 (out.length + 1) none) (is (out ++ [x])) (out ++ [x]).length 1 n0 := by rw [CP, kL]; exact jI.kp k3 fun c hc => .inr hc
  have k3 := k2.trans (k3.bQ fun c hc => .inl hc)
  by_cases hc : s2.is l [44]
  ·rw [if_pos hc] at bO
   have hn := is_lt ht o2.p hc
   have hw : s2.skip l [44] = s2.next := by unfold RS.skip; rw [if_pos hc]
   rw [hw] at h3;rw [eA hc] at hX;simp +contextual -implicitDefEqProofs (maxSteps := 1000000) (maxDischargeDepth := 8) only [aq, aa, implies_true, simprocAttr] at hX
   subst hL;have VA := f0 (g.f hc.1)
   obtain ⟨fr', m', v', rfl, q0, q4, qd, qo, qr, qk, qz⟩ := LN (out ++ [x]) _ _ _ _ _ n0 P _ _ _ ((Gr.next hn).ok o2) (by have := g.p; simp only [gU.bn, RS.next] at *; omega) (by rw [kL]; exact VA) hc.1 bO h3 hP (pU pR k3.n) mE (by simp only [h0, ao, Nat.reduceBEq ]) (by simp only [ao, Nat.reduceBEq ]; rfl) (by simp only [ao, Nat.reduceBEq ]) (by simp only [hd, ao, Nat.reduceBEq ]) hX
   exact ⟨fr', m', v', rfl, q0, q4, qd, qo, qr, k3.trans qk, qz⟩
  ·rw [if_neg hc] at bO
   simp only [bj, eQ] at bO;obtain ⟨rfl, rfl⟩ := bO
   have hw : s2.skip l [44] = s2 := by unfold RS.skip; rw [if_neg hc]
   rw [hw] at h3;rw [eU hc] at hX;simp +contextual -implicitDefEqProofs (maxSteps := 1000000) (maxDischargeDepth := 8) only [aq, aa, implies_true, simprocAttr] at hX
   subst hL;rw [eS] at hX;generalize exec U (.loop aN) = L at hX
   simp +contextual -implicitDefEqProofs (maxSteps := 1000000) (maxDischargeDepth := 8) only [aN, h0, hd, aq, aa, implies_true, simprocAttr] at hX
   subst hX;exact ⟨_, _, _, rfl, by simp only [h0, ao, Nat.reduceBEq ], by simp only [ao, Nat.reduceBEq ]; rfl, by simp only [hd, ao, Nat.reduceBEq ], mE, h3, k3, by simp⟩
def N7 (l : List Tok) (tg k : Nat) : Prop := ∀ (st : RS) (m : Mem) (b : Nat) (P : Nat -> Prop) (s1 : RS) (r : List Int) (X : Option Fin), eJ l st -> 8 * (l.length - st.pos) + gU.args.bn < k -> jz l k .args st = some (s1, r) -> Rd m b tg l st P -> run U lu [.ptr b 0] m = X -> ∃ m' v, X = some (.ret v m') /\ ja m' v (is r) r.length 1 m.next /\ Rd m' b tg l s1 (Pv P v) /\ Kp m m' P /\ (r = [] -> v = .ae)
omit ht in
theorem Rd.pv {m : Mem} {b : Nat} {st : RS} {P : Nat -> Prop} (h : Rd m b tg l st P) : Rd m b tg l st (Pv P .ae) := h.bQ fun c hc => hc.elim id fun q => absurd gx.nil q
theorem PI (ih : IC l tg k) : N7 l tg (k + 1) := by
 intro st m b P s1 r X o hk bO h hX
 rw [bZ (by simp [cy])] at hX
 generalize hL : exec (UT B K) (aE.loop aN) = L at hX
 have hT := jR (b := b) (tg := tg) (P := P) ht o
 simp +contextual -implicitDefEqProofs (maxSteps := 1000000) (maxDischargeDepth := 8) only [cy, hT, h, dk, ak, aq, aa, implies_true, simprocAttr] at hX
 generalize hC : run U aS _ _ = C at hX
 obtain ⟨m1, rfl, h1, k1⟩ := od ht o (ak h) hC
 clear hC;have k1 : Kp m m1 P := (aU h).trans k1
 by_cases ha : st.is l [40]
 ·have hn := is_lt ht o.p ha
  have hw : st.want l [40] = st.next := by unfold RS.want; rw [if_pos ha]
  rw [hw] at h1;have on : eJ l st.next := (Gr.next hn).ok o
  rw [eA ha] at hX;simp +contextual -implicitDefEqProofs (maxSteps := 1000000) (maxDischargeDepth := 8) only [aq, aa, implies_true, simprocAttr] at hX
  generalize hC : run U eM _ _ = C at hX
  obtain ⟨m2, rfl, h2, k2⟩ := Jg ht on h1 hC
  clear hC;have k2 := k1.trans k2
  have go := Gr.open hn (p := ((st.now l).pos : Int))
  have oo := go.ok o
  obtain ⟨o1, o2, o3⟩ := lM (st := st.next) (p := ((st.now l).pos : Int))
  simp only [jz, if_pos ha] at bO;by_cases hf : (st.next.open (st.now l).pos).fe = 0
  ·rw [if_pos hf] at bO
   rw [eA hf] at hX;have nS : 8 * (l.length - (st.next.open (st.now l).pos).pos) + (gU.mn []).bn < k := by rw [o1]; simp only [gU.bn, RS.next] at *; omega
   generalize st.next.open (st.now l).pos = so at *
   have hI := Vl (b := b) (tg := tg) (P := P) ht oo
   by_cases hb : so.is l [41]
   ·rw [if_pos hb] at bO
    simp only [Option.bind_some, bj, eQ] at bO;obtain ⟨rfl, rfl⟩ := bO
    simp +contextual -implicitDefEqProofs (maxSteps := 1000000) (maxDischargeDepth := 8) only [hI, h2, hb, gl, aq, aa, implies_true, simprocAttr] at hX
    subst hL;generalize hC : exec _ (.loop aN) _ _ = C at hX
    rw [eS] at hC;generalize exec U (.loop aN) = L at hC
    simp +contextual -implicitDefEqProofs (maxSteps := 1000000) (maxDischargeDepth := 8) only [aN, aq, aa, implies_true, simprocAttr] at hC
    subst hC;simp +contextual -implicitDefEqProofs (maxSteps := 1000000) (maxDischargeDepth := 8) only [aq, aa, implies_true, simprocAttr] at hX
    generalize hC : run U aS _ _ = C at hX
    obtain ⟨m4, rfl, h4, k4⟩ := od ht oo (ak h2) hC
    clear hC;have o4 := (Gr.want ht oo.p (s := [41])).ok oo
    have k4 := (k2.trans (aU h2)).trans k4
    simp +contextual -implicitDefEqProofs (maxSteps := 1000000) (maxDischargeDepth := 8) only [aq, aa, implies_true, simprocAttr] at hX
    generalize hC : run U dH _ _ = C at hX
    obtain ⟨m5, rfl, h5, k5⟩ := Bd ht o4 h4 hC
    clear hC;simp +contextual -implicitDefEqProofs (maxSteps := 1000000) (maxDischargeDepth := 8) only [aq, aa, implies_true, simprocAttr] at hX
    subst hX;exact ⟨_, _, rfl, ⟨.inl ⟨rfl, rfl, rfl⟩, rfl⟩, h5.pv, k4.trans k5, fun _ => rfl⟩
   ·rw [if_neg hb] at bO
    obtain ⟨s2, r2, e, g, a, _⟩ := go_ok ht k (.mn []) so go.pl nS (kW _)
    simp only [e, Option.bind_some, bj, eQ] at bO;obtain ⟨rfl, rfl⟩ := bO
    simp +contextual -implicitDefEqProofs (maxSteps := 1000000) (maxDischargeDepth := 8) only [hI, h2, hb, fG, aq, aa, implies_true, simprocAttr] at hX
    subst hL;generalize hC : exec _ (.loop aN) _ _ = C at hX
    obtain ⟨fr', m3, v, rfl, q0, q4, qd, qo, qr, qk, qz⟩ := ih [] .ae so _ _ b m.next P _ _ _ oo nS (kW _) hf e (ak h2).pv (fun c hc => h.mB hc) (by rw [br]; exact pU k2.n bH) ⟨.inl ⟨rfl, rfl, rfl⟩, rfl⟩ (by simp only [ao, Nat.reduceBEq ]) (by simp only [ao, Nat.reduceBEq ]) (by simp only [ao, Nat.reduceBEq ]) (by simp only [ao, Nat.reduceBEq ]) hC
    clear hC;have k3 := (k2.trans (aU h2)).trans qk
    have U9 := g.ok oo
    simp +contextual -implicitDefEqProofs (maxSteps := 1000000) (maxDischargeDepth := 8) only [q0, q4, qd, aq, aa, implies_true, simprocAttr] at hX
    generalize hC : run U aS _ _ = C at hX
    obtain ⟨m4, rfl, h4, k4⟩ := od ht U9 qr hC
    clear hC;have o4 := (Gr.want ht U9.p (s := [41])).ok U9
    have w4 := qo.kp k4 fun c hc => .inr hc
    have k4 := k3.trans (k4.bQ fun c hc => .inl hc)
    simp +contextual -implicitDefEqProofs (maxSteps := 1000000) (maxDischargeDepth := 8) only [q0, q4, qd, aq, aa, implies_true, simprocAttr] at hX
    generalize hC : run U dH _ _ = C at hX
    obtain ⟨m5, rfl, h5, k5⟩ := Bd ht o4 h4 hC
    clear hC;have w5 := w4.kp k5 fun c hc => .inr hc
    simp +contextual -implicitDefEqProofs (maxSteps := 1000000) (maxDischargeDepth := 8) only [q0, q4, qd, aq, aa, implies_true, simprocAttr] at hX
    subst hX;exact ⟨_, _, rfl, w5, h5, k4.trans (k5.bQ fun c hc => .inl hc), fun q => absurd q qz⟩
  ·rw [if_neg hf] at bO
   rw [eU hf] at hX;simp only [bj, eQ] at bO;obtain ⟨rfl, rfl⟩ := bO
   simp +contextual -implicitDefEqProofs (maxSteps := 1000000) (maxDischargeDepth := 8) only [aq, aa, implies_true, simprocAttr] at hX
   subst hX;exact ⟨_, _, rfl, ⟨.inl ⟨rfl, rfl, rfl⟩, rfl⟩, h2.pv, k2, fun _ => rfl⟩
 ·have hw : st.want l [40] = st.fail 8 (st.now l).pos := by unfold RS.want; rw [if_neg ha]
  rw [hw] at h1;simp only [jz, if_neg ha, bj, eQ] at bO;obtain ⟨rfl, rfl⟩ := bO
  rw [eU ha] at hX;simp +contextual -implicitDefEqProofs (maxSteps := 1000000) (maxDischargeDepth := 8) only [aq, aa, implies_true, simprocAttr] at hX
  subst hX;exact ⟨_, _, rfl, ⟨.inl ⟨rfl, rfl, rfl⟩, rfl⟩, h1.pv, k1, fun _ => rfl⟩
theorem G0 (ih : N7 l tg k) {s : cm} {p : Int} {st : RS} {m : Mem} {b : Nat} {P : Nat -> Prop} {s1 : RS} {r : List Int} {X : Option Fin} (o : eJ l st) (hk : 8 * (l.length - st.pos) + gU.args.bn < k) (bO : jz l k .args st = some (s1, r)) (h : Rd m b tg l st P) (hX : run U jx [.ptr b 0, .str s, .int .i64 p] m = X) : ∃ m', X = some (.ret (.int .i64 (s1.iI (nd 11 r 0 s p))) m') /\ Rd m' b tg l (s1.put (nd 11 r 0 s p)) P /\ Kp m m' P := by
 obtain ⟨s2, r2, e, g, a, _⟩ := go_ok ht k .args st o.p hk trivial
 rw [bO] at e;obtain ⟨rfl, rfl⟩ := eQ _ _ _ _ ▸ pN e
 rw [bZ (by simp [et])] at hX
 simp +contextual -implicitDefEqProofs (maxSteps := 1000000) (maxDischargeDepth := 8) only [et, aq, aa, implies_true, simprocAttr] at hX
 generalize hC : run U lu _ _ = C at hX
 obtain ⟨m1, v, rfl, qo, q1, k1, qz⟩ := ih _ _ _ _ _ _ _ o hk bO h hC
 clear hC;have WA : v.cells = some [v] := by rcases qo.is with ⟨rfl, _⟩ | ⟨_, _, _, rfl, _⟩ <;> rfl
 simp +contextual -implicitDefEqProofs (maxSteps := 1000000) (maxDischargeDepth := 8) only [WA, aq, aa, implies_true, simprocAttr] at hX
 generalize hC : run U aD _ _ = C at hX
 obtain ⟨m5, rfl, h5, k5⟩ := pP (P := P) (kids := r) ht (g.ok o) q1 (by have : r.length <= 9 := a; omega) qo.Vf (fun c hc => .inr hc) (fun c hc => ⟨.inl hc, qo.lt (.inr (h.mB hc))⟩) qz hC
 clear hC;simp +contextual -implicitDefEqProofs (maxSteps := 1000000) (maxDischargeDepth := 8) only [aq, aa, implies_true, simprocAttr] at hX
 subst hX;exact ⟨_, rfl, h5, k1.trans k5⟩
end
end
section
theorem Fp.next {m : Mem} {b tg : Nat} {l : List Tok} {st : RS} {P : Nat -> Prop} {tv hv : EV} {xs : List Nv} (h : Fp m b tg l st P tv hv xs) : Rd (m.set b (.cells [.fz tg 4 (jP l), .int .i64 ((st.pos + 1 : Nat) : Int), .int .i64 st.deep, tv, hv, .int .i64 st.fe, .int .i64 st.fp] 7 ai false)) b tg l st.next P /\ Kp m (m.set b (.cells [.fz tg 4 (jP l), .int .i64 ((st.pos + 1 : Nat) : Int), .int .i64 st.deep, tv, hv, .int .i64 st.fe, .int .i64 st.fp] 7 ai false)) P := by
 have u : qZ m (m.set b (.cells (bf tg l st.next tv hv) 7 ai false)) b (.cells (bf tg l st.next tv hv) 7 ai false) := .set (eX _) fun _ _ _ => rfl
 exact ⟨⟨tv, hv, xs, h.Ok rfl rfl u⟩, h.kp u⟩
theorem Rd.Qy {m : Mem} {b tg : Nat} {l : List Tok} {st : RS} {P : Nat -> Prop} (h : Rd m b tg l st P) {c0 : Nat} (hp : P c0) (B : fM) : Rd (m.set c0 B) b tg l st P := by
 obtain ⟨tv, hv, xs, h⟩ := h
 have f := (h.p c0 hp).2
 have fk := h.pk c0 hp
 have key : ∀ c, c ≠ c0 -> (m.set c0 B).get c = m.get c := fun c hc => aB hc
 exact ⟨tv, hv, xs, (key b (fun q => f.ne q.symm)).trans h.g, h.lt, h.t.gD (eX _) fun c _ _ ho => key c fun q => ho (q ▸ f.t), h.h.gD (eX _) fun c _ _ ho => key c fun q => ho (q ▸ f.h), h.a, h.x, h.hl, fun x hx => ⟨(h.k x hx).o.gD (eX _) fun c _ _ ho => key c fun q => ho (q ▸ fk x hx), (h.k x hx).f, (h.k x hx).nl, (h.k x hx).z⟩, h.p, h.pk⟩
section
variable {l : List Tok} {tg : Nat} (ht : bT l) {k : Nat}
include ht
theorem PG (JK : rm l tg cz [.str [40], .str [41]] k (.inner [40] [41])) (LN : N7 l tg k) : rm l tg jv [] (k + 1) .atom := by
 intro st m b P s1 r X o hk bO h hX
 rw [bZ (by simp [bS])] at hX
 have hT := jR (b := b) (tg := tg) (P := P) ht o
 have hF := J1 (b := b) (tg := tg) (l := l) (st := st) (P := P)
 have hI := Vl (b := b) (tg := tg) (P := P) ht o
 have bg := h.lt
 by_cases jh : st.fe = 0
 ·have b1 := eA jh
  by_cases hp : st.is l [40]
  ·have b2 := eA hp
   simp +contextual -implicitDefEqProofs (maxSteps := 1000000) (maxDischargeDepth := 8) only [bS, hT, hF, hI, h, b1, b2, dk, ak, aq, aa, implies_true, simprocAttr] at hX
   simp only [jz, jh, not_true_eq_false, if_false, if_pos hp] at bO;generalize hC : run U cz _ _ = C at hX
   have kp : Kp m (bump (bump (ext (bump m 19) [.cells [.int .i64 ((st.now l).kind : Int), .str (st.now l).text, .int .i64 ((st.now l).n : Int), .int .i64 ((st.now l).pos : Int)] 4 ap false]) 0) 20) P := h.kp (by simp +contextual -implicitDefEqProofs (maxSteps := 1000000) (maxDischargeDepth := 8) only [bH, Hd, Hc, Hb, Ha, G9, G8, aa, implies_true, simprocAttr]) (fun c hc => by simp +contextual -implicitDefEqProofs (maxSteps := 1000000) (maxDischargeDepth := 8) only [hc, Hd, Hc, Hb, Ha, G9, G8, aa, implies_true, simprocAttr])
   obtain ⟨m1, rfl, h1, k1⟩ := JK _ _ _ P _ _ _ o (by simp only [gU.bn] at *; omega) bO (by simp (maxDischargeDepth := 20) only [dk, ak, h]) hC
   clear hC;simp +contextual -implicitDefEqProofs (maxSteps := 1000000) (maxDischargeDepth := 8) only [aq, aa, implies_true, simprocAttr] at hX
   subst hX;exact ⟨_, rfl, h1, kp.trans k1⟩
  ·have b2 := eU hp
   by_cases q2 : (st.now l).kind = 2
   ·have b3 : bo (((st.now l).kind : Int) = 2) = .bool true := eA (by omega)
    have hn := qq ht o.p (by omega)
    have on : eJ l st.next := (Gr.next hn).ok o
    simp only [jz, jh, not_true_eq_false, if_false, if_neg hp, if_pos q2, bj, eQ] at bO;obtain ⟨rfl, rfl⟩ := bO
    clear q2;obtain ⟨tv, hv, xs, h⟩ := h
    have hr : Rd m b tg l st P := ⟨tv, hv, xs, h⟩
    have hg := h.g
    have hw := bJ (i := st.pos) (by have := o.p; have := ht.lt; omega)
    obtain ⟨FC, Vj⟩ := h.next
    simp +contextual -implicitDefEqProofs (maxSteps := 1000000) (maxDischargeDepth := 8) only [bS, hT, hF, hI, hr, b1, b2, b3, dk, ak, hg, bg, hw, aq, aa, implies_true, simprocAttr] at hX
    generalize m.set b _ = m' at *
    generalize hC : run U aD _ _ = C at hX
    have RD : Rd (bump (bump (ext (bump m' 19) [.cells [.int .i64 ((st.now l).kind : Int), .str (st.now l).text, .int .i64 ((st.now l).n : Int), .int .i64 ((st.now l).pos : Int)] 4 ap false]) 0) 20) b tg l st.next P := by simp (maxDischargeDepth := 20) only [dk, ak, FC]
    have kp : Kp m' (bump (bump (ext (bump m' 19) [.cells [.int .i64 ((st.now l).kind : Int), .str (st.now l).text, .int .i64 ((st.now l).n : Int), .int .i64 ((st.now l).pos : Int)] 4 ap false]) 0) 20) P := FC.kp (by simp +contextual -implicitDefEqProofs (maxSteps := 1000000) (maxDischargeDepth := 8) only [bH, Hd, Hc, Hb, Ha, G9, G8, aa, implies_true, simprocAttr]) (fun c hc => by simp +contextual -implicitDefEqProofs (maxSteps := 1000000) (maxDischargeDepth := 8) only [hc, Hd, Hc, Hb, Ha, G9, G8, aa, implies_true, simprocAttr])
    obtain ⟨m5, rfl, h5, k5⟩ := pP (P := P) (Q := P) (kids := []) ht on RD (by simp) ⟨.inl ⟨rfl, rfl, rfl⟩, rfl⟩ (fun c hc => absurd gx.nil hc) (fun c hc => ⟨hc, gx.nil⟩) (fun _ => rfl) hC
    clear hC;simp +contextual -implicitDefEqProofs (maxSteps := 1000000) (maxDischargeDepth := 8) only [aq, aa, implies_true, simprocAttr] at hX
    subst hX;exact ⟨_, rfl, h5, (Vj.trans kp).trans k5⟩
   ·have b3 : bo (((st.now l).kind : Int) = 2) = .bool false := eU (by omega)
    by_cases q1 : (st.now l).kind = 1
    ·have b4 : bo (((st.now l).kind : Int) = 1) = .bool true := eA (by omega)
     have hn := qq ht o.p (by omega)
     have on : eJ l st.next := (Gr.next hn).ok o
     simp only [jz, jh, not_true_eq_false, if_false, if_neg hp, if_neg q2, if_pos q1] at bO;clear q2 q1;obtain ⟨tv, hv, xs, h⟩ := h
     have hr : Rd m b tg l st P := ⟨tv, hv, xs, h⟩
     have hg := h.g
     have hw := bJ (i := st.pos) (by have := o.p; have := ht.lt; omega)
     obtain ⟨FC, Vj⟩ := h.next
     simp +contextual -implicitDefEqProofs (maxSteps := 1000000) (maxDischargeDepth := 8) only [bS, hT, hF, hI, hr, b1, b2, b3, b4, dk, ak, hg, bg, hw, aq, aa, implies_true, simprocAttr] at hX
     have afP : b < (m.set b (.cells [.fz tg 4 (jP l), .int .i64 ((st.pos + 1 : Nat) : Int), .int .i64 st.deep, tv, hv, .int .i64 st.fe, .int .i64 st.fp] 7 ai false)).next := bg
     have Pa : (m.set b (.cells [.fz tg 4 (jP l), .int .i64 ((st.pos + 1 : Nat) : Int), .int .i64 st.deep, tv, hv, .int .i64 st.fe, .int .i64 st.fp] 7 ai false)).next = m.next := rfl
     generalize m.set b _ = m' at *
     have hI' := Vl (b := b) (tg := tg) (P := P) ht on
     have RD : Rd (bump (bump (bump (ext (bump m' 19) [.cells [.int .i64 ((st.now l).kind : Int), .str (st.now l).text, .int .i64 ((st.now l).n : Int), .int .i64 ((st.now l).pos : Int)] 4 ap false]) 0) 20) 20) b tg l st.next P := by simp (maxDischargeDepth := 20) only [dk, ak, FC]
     have kp : Kp m' (bump (bump (bump (ext (bump m' 19) [.cells [.int .i64 ((st.now l).kind : Int), .str (st.now l).text, .int .i64 ((st.now l).n : Int), .int .i64 ((st.now l).pos : Int)] 4 ap false]) 0) 20) 20) P := FC.kp (by simp +contextual -implicitDefEqProofs (maxSteps := 1000000) (maxDischargeDepth := 8) only [bH, Hd, Hc, Hb, Ha, G9, G8, aa, implies_true, simprocAttr]) (fun c hc => by simp +contextual -implicitDefEqProofs (maxSteps := 1000000) (maxDischargeDepth := 8) only [hc, Hd, Hc, Hb, Ha, G9, G8, aa, implies_true, simprocAttr])
     by_cases hq : st.next.is l [40]
     ·have b5 := eA hq
      rw [if_pos hq] at bO;have nS : 8 * (l.length - st.next.pos) + gU.args.bn < k := by simp only [gU.bn, RS.next] at *; omega
      obtain ⟨s2, r2, e, g, a, _⟩ := go_ok ht k .args st.next on.p nS trivial
      simp only [e, Option.bind_some, bj, eQ] at bO;obtain ⟨rfl, rfl⟩ := bO
      simp +contextual -implicitDefEqProofs (maxSteps := 1000000) (maxDischargeDepth := 8) only [hI', FC, b5, dk, ak, Pa, aq, aa, implies_true, simprocAttr] at hX
      generalize hC : run U jx _ _ = C at hX
      obtain ⟨m5, rfl, h5, k5⟩ := G0 (P := P) ht LN on nS e RD hC
      clear hC;simp +contextual -implicitDefEqProofs (maxSteps := 1000000) (maxDischargeDepth := 8) only [aq, aa, implies_true, simprocAttr] at hX
      subst hX;exact ⟨_, rfl, h5, (Vj.trans kp).trans k5⟩
     ·have b5 := eU hq
      rw [if_neg hq] at bO;simp only [bj, eQ] at bO;obtain ⟨rfl, rfl⟩ := bO
      simp +contextual -implicitDefEqProofs (maxSteps := 1000000) (maxDischargeDepth := 8) only [hI', FC, b5, dk, ak, Pa, aq, aa, implies_true, simprocAttr] at hX
      generalize hC : run U aD _ _ = C at hX
      obtain ⟨m5, rfl, h5, k5⟩ := pP (P := P) (Q := P) (kids := []) ht on RD (by simp) ⟨.inl ⟨rfl, rfl, rfl⟩, rfl⟩ (fun c hc => absurd gx.nil hc) (fun c hc => ⟨hc, gx.nil⟩) (fun _ => rfl) hC
      clear hC;simp +contextual -implicitDefEqProofs (maxSteps := 1000000) (maxDischargeDepth := 8) only [aq, aa, implies_true, simprocAttr] at hX
      subst hX;exact ⟨_, rfl, h5, (Vj.trans kp).trans k5⟩
    ·have b4 : bo (((st.now l).kind : Int) = 1) = .bool false := eU (by omega)
     --aeI
     have n0 : nb m.next 19 < (bump (bump (ext (bump m 19) [.cells [.int .i64 ((st.now l).kind : Int), .str (st.now l).text, .int .i64 ((st.now l).n : Int), .int .i64 ((st.now l).pos : Int)] 4 ap false]) 0) 20).next := by simp only [br, ax, dE]; unfold nb; simp
     have h0 : Rd (bump (bump (ext (bump m 19) [.cells [.int .i64 ((st.now l).kind : Int), .str (st.now l).text, .int .i64 ((st.now l).n : Int), .int .i64 ((st.now l).pos : Int)] 4 ap false]) 0) 20) b tg l st (Pr P m.next (nb m.next (19 + 1))) := by
      exact ak (ak (h.box 19 [.cells [.int .i64 ((st.now l).kind : Int), .str (st.now l).text, .int .i64 ((st.now l).n : Int), .int .i64 ((st.now l).pos : Int)] 4 ap false]))
     have kp : Kp m (bump (bump (ext (bump m 19) [.cells [.int .i64 ((st.now l).kind : Int), .str (st.now l).text, .int .i64 ((st.now l).n : Int), .int .i64 ((st.now l).pos : Int)] 4 ap false]) 0) 20) P := h.kp (by simp +contextual -implicitDefEqProofs (maxSteps := 1000000) (maxDischargeDepth := 8) only [bH, Hd, Hc, Hb, Ha, G9, G8, aa, implies_true, simprocAttr]) (fun c hc => by simp +contextual -implicitDefEqProofs (maxSteps := 1000000) (maxDischargeDepth := 8) only [hc, Hd, Hc, Hb, Ha, G9, G8, aa, implies_true, simprocAttr])
     have p0 : Pr P m.next (nb m.next (19 + 1)) (nb m.next 19) := og (by decide)
     have b0 : (bump (bump (ext (bump m 19) [.cells [.int .i64 ((st.now l).kind : Int), .str (st.now l).text, .int .i64 ((st.now l).n : Int), .int .i64 ((st.now l).pos : Int)] 4 ap false]) 0) 20).get (nb m.next 19) = .cells [.int .i64 ((st.now l).kind : Int), .str (st.now l).text, .int .i64 ((st.now l).n : Int), .int .i64 ((st.now l).pos : Int)] 4 ap false := by
      rw [gF, gF, <- Nat.add_zero 19, <- dE];exact (aC (m := bump m 19) (i := 0) rfl (by simp)).trans rfl
     have k0 : Kp (bump (bump (ext (bump m 19) [.cells [.int .i64 ((st.now l).kind : Int), .str (st.now l).text, .int .i64 ((st.now l).n : Int), .int .i64 ((st.now l).pos : Int)] 4 ap false]) 0) 20) (bump (bump (ext (bump m 19) [.cells [.int .i64 ((st.now l).kind : Int), .str (st.now l).text, .int .i64 ((st.now l).n : Int), .int .i64 ((st.now l).pos : Int)] 4 ap false]) 0) 20) (Pr P m.next (nb m.next (19 + 1))) := ⟨eX _, fun _ _ => rfl⟩
     simp +contextual -implicitDefEqProofs (maxSteps := 1000000) (maxDischargeDepth := 8) only [bS, hT, hF, hI, h, b1, b2, b3, b4, dk, ak, aq, aa, implies_true, simprocAttr] at hX
     clear b1 b2 b3 b4;generalize hC : run U aX _ _ = C at hX
     obtain ⟨m1, rfl, h1, k1⟩ := pg ht o h0 hC
     clear hC;have b1 := (k1.k _ p0).trans b0
     have k1 := k0.trans k1
     have n1 := mr n0 k1.n
     by_cases w0 : st.is l [116, 114, 117, 101]
     ·have hn := is_lt ht o.p w0
      have hw : st.skip l [116, 114, 117, 101] = st.next := by unfold RS.skip; rw [if_pos w0]
      rw [hw] at h1;have on : eJ l st.next := (Gr.next hn).ok o
      rw [eA w0] at hX;simp +contextual -implicitDefEqProofs (maxSteps := 1000000) (maxDischargeDepth := 8) only [b1, n1, aq, aa, implies_true, simprocAttr] at hX
      simp only [jz, jh, not_true_eq_false, if_false, if_neg hp, if_neg q2, if_neg q1, if_pos w0, bj, eQ] at bO;obtain ⟨rfl, rfl⟩ := bO
      generalize hC : run U aD _ _ = C at hX
      obtain ⟨m5, rfl, h5, k5⟩ := pP (P := P) (kids := []) ht on h1 (by simp) ⟨.inl ⟨rfl, rfl, rfl⟩, rfl⟩ (fun c hc => absurd gx.nil hc) (fun c hc => ⟨.inl hc, gx.nil⟩) (fun _ => rfl) hC
      clear hC;simp +contextual -implicitDefEqProofs (maxSteps := 1000000) (maxDischargeDepth := 8) only [aq, aa, implies_true, simprocAttr] at hX
      subst hX;exact ⟨_, rfl, h5, kp.trans ((k1.bQ fun c hc => .inl hc).trans k5)⟩
     ·have hw : st.skip l [116, 114, 117, 101] = st := by unfold RS.skip; rw [if_neg w0]
      rw [hw] at h1;rw [eU w0] at hX;simp +contextual -implicitDefEqProofs (maxSteps := 1000000) (maxDischargeDepth := 8) only [b1, n1, aq, aa, implies_true, simprocAttr] at hX
      clear h0 b0 k0;have h0 := h1
      have b0 := b1
      have k0 := k1
      clear h1 b1 k1 n1;generalize hC : run U aX _ _ = C at hX
      obtain ⟨m2, rfl, h1, k1⟩ := pg ht o h0 hC
      clear hC;have b1 := (k1.k _ p0).trans b0
      have k1 := k0.trans k1
      have n1 := mr n0 k1.n
      by_cases w1 : st.is l [102, 97, 108, 115, 101]
      ·have hn := is_lt ht o.p w1
       have hw : st.skip l [102, 97, 108, 115, 101] = st.next := by unfold RS.skip; rw [if_pos w1]
       rw [hw] at h1;have on : eJ l st.next := (Gr.next hn).ok o
       rw [eA w1] at hX;simp +contextual -implicitDefEqProofs (maxSteps := 1000000) (maxDischargeDepth := 8) only [b1, n1, aq, aa, implies_true, simprocAttr] at hX
       simp only [jz, jh, not_true_eq_false, if_false, if_neg hp, if_neg q2, if_neg q1, if_neg w0, if_pos w1, bj, eQ] at bO;obtain ⟨rfl, rfl⟩ := bO
       generalize hC : run U aD _ _ = C at hX
       obtain ⟨m5, rfl, h5, k5⟩ := pP (P := P) (kids := []) ht on h1 (by simp) ⟨.inl ⟨rfl, rfl, rfl⟩, rfl⟩ (fun c hc => absurd gx.nil hc) (fun c hc => ⟨.inl hc, gx.nil⟩) (fun _ => rfl) hC
       clear hC;simp +contextual -implicitDefEqProofs (maxSteps := 1000000) (maxDischargeDepth := 8) only [aq, aa, implies_true, simprocAttr] at hX
       subst hX;exact ⟨_, rfl, h5, kp.trans ((k1.bQ fun c hc => .inl hc).trans k5)⟩
      ·have hw : st.skip l [102, 97, 108, 115, 101] = st := by unfold RS.skip; rw [if_neg w1]
       rw [hw] at h1;rw [eU w1] at hX;simp +contextual -implicitDefEqProofs (maxSteps := 1000000) (maxDischargeDepth := 8) only [b1, n1, aq, aa, implies_true, simprocAttr] at hX
       clear h0 b0 k0;have h0 := h1
       have b0 := b1
       have k0 := k1
       clear h1 b1 k1 n1;generalize hC : run U aX _ _ = C at hX
       obtain ⟨m3, rfl, h1, k1⟩ := pg ht o h0 hC
       clear hC;have b1 := (k1.k _ p0).trans b0
       have k1 := k0.trans k1
       have n1 := mr n0 k1.n
       by_cases w2 : st.is l [110, 105, 108]
       ·have hn := is_lt ht o.p w2
        have hw : st.skip l [110, 105, 108] = st.next := by unfold RS.skip; rw [if_pos w2]
        rw [hw] at h1;have on : eJ l st.next := (Gr.next hn).ok o
        rw [eA w2] at hX;simp +contextual -implicitDefEqProofs (maxSteps := 1000000) (maxDischargeDepth := 8) only [b1, n1, aq, aa, implies_true, simprocAttr] at hX
        simp only [jz, jh, not_true_eq_false, if_false, if_neg hp, if_neg q2, if_neg q1, if_neg w0, if_neg w1, if_pos w2, bj, eQ] at bO;obtain ⟨rfl, rfl⟩ := bO
        generalize hC : run U aD _ _ = C at hX
        obtain ⟨m5, rfl, h5, k5⟩ := pP (P := P) (kids := []) ht on h1 (by simp) ⟨.inl ⟨rfl, rfl, rfl⟩, rfl⟩ (fun c hc => absurd gx.nil hc) (fun c hc => ⟨.inl hc, gx.nil⟩) (fun _ => rfl) hC
        clear hC;simp +contextual -implicitDefEqProofs (maxSteps := 1000000) (maxDischargeDepth := 8) only [aq, aa, implies_true, simprocAttr] at hX
        subst hX;exact ⟨_, rfl, h5, kp.trans ((k1.bQ fun c hc => .inl hc).trans k5)⟩
       ·have hw : st.skip l [110, 105, 108] = st := by unfold RS.skip; rw [if_neg w2]
        rw [hw] at h1;rw [eU w2] at hX;simp +contextual -implicitDefEqProofs (maxSteps := 1000000) (maxDischargeDepth := 8) only [b1, n1, aq, aa, implies_true, simprocAttr] at hX
        clear h0 b0 k0;have h0 := h1
        have b0 := b1
        have k0 := k1
        clear h1 b1 k1 n1;generalize hC : run U aX _ _ = C at hX
        obtain ⟨m4, rfl, h1, k1⟩ := pg ht o h0 hC
        clear hC;have b1 := (k1.k _ p0).trans b0
        have k1 := k0.trans k1
        have n1 := mr n0 k1.n
        by_cases w3 : st.is l [108, 101, 110]
        ·have hn := is_lt ht o.p w3
         have hw : st.skip l [108, 101, 110] = st.next := by unfold RS.skip; rw [if_pos w3]
         rw [hw] at h1;have on : eJ l st.next := (Gr.next hn).ok o
         rw [eA w3] at hX;simp +contextual -implicitDefEqProofs (maxSteps := 1000000) (maxDischargeDepth := 8) only [b1, n1, aq, aa, implies_true, simprocAttr] at hX
         simp only [jz, jh, not_true_eq_false, if_false, if_neg hp, if_neg q2, if_neg q1, if_neg w0, if_neg w1, if_neg w2, if_pos w3] at bO;have hb := h1.grown (M := bump m4 9) (by rw [br]; exact bH) (fun _ _ => rfl)
         have nS : 8 * (l.length - st.next.pos) + (gU.inner [40] [41]).bn < k := by simp only [gU.bn, RS.next] at *; omega
         obtain ⟨s2, r2, e, g, ar, _⟩ := go_ok ht k (.inner [40] [41]) st.next on.p nS trivial
         obtain ⟨x, rfl⟩ := jV ar
         simp only [e, Option.bind_some, bj, eQ] at bO;obtain ⟨rfl, rfl⟩ := bO
         generalize hC : run U cz _ _ = C at hX
         obtain ⟨m7, rfl, h7, k7⟩ := JK _ _ _ _ _ _ _ on nS e hb hC
         clear hC;have b7 := (k7.k _ (.inl p0)).trans b1
         have hM : ∀ B, Mem.mk m7.next (ext (Mem.mk (m4.next + 3) m7.gM) [B]).gM = m7.set (m4.next + 3) B := fun _ => rfl
         have iJ : nb m.next 19 ≠ m4.next + 3 := by omega
         have k7n : m4.next + 9 <= m7.next := k7.n
         have Vz : m4.next + 3 < m7.next := by omega
         have pc : Pr (Pr P m.next (nb m.next (19 + 1))) m4.next (bump m4 9).next (m4.next + 3) := .inr ⟨by omega, by rw [br]; unfold nb; omega⟩
         have h8 := h7.Qy pc (.cells [.int .i64 x] 1 aP false)
         simp +contextual -implicitDefEqProofs (maxSteps := 1000000) (maxDischargeDepth := 8) only [b7, hM, iJ, Vz, List.headD_cons, aq, aa, implies_true, simprocAttr] at hX
         generalize hC : run U aD _ _ = C at hX
         obtain ⟨m8, rfl, h9, k9⟩ := pP (P := Pr P m.next (nb m.next (19 + 1))) (kids := [x]) ht (g.ok on) h8 (by simp) ⟨.inr ⟨_, _, _, rfl, kW _, Vz, bM, .inr rfl⟩, rfl⟩ (fun c hc => by rw [cu hc]; exact pc) (fun c hc => ⟨.inl hc, gx.of (by have := h1.mB hc; omega)⟩) (by simp) hC
         clear hC;have kq : Kp m7 (m7.set (m4.next + 3) (.cells [.int .i64 x] 1 aP false)) (Pr P m.next (nb m.next (19 + 1))) := ⟨eX _, fun c hc => aB (by have := h1.mB hc; omega)⟩
         simp +contextual -implicitDefEqProofs (maxSteps := 1000000) (maxDischargeDepth := 8) only [aq, aa, implies_true, simprocAttr] at hX
         subst hX;exact ⟨_, rfl, h9.bQ fun c hc => .inl hc, kp.trans ((((k1.trans (aU h1)).trans (k7.bQ fun c hc => .inl hc)).trans (kq.trans k9)).bQ fun c hc => .inl hc)⟩
        ·have hw : st.skip l [108, 101, 110] = st := by unfold RS.skip; rw [if_neg w3]
         rw [hw] at h1;rw [eU w3] at hX;simp +contextual -implicitDefEqProofs (maxSteps := 1000000) (maxDischargeDepth := 8) only [b1, n1, aq, aa, implies_true, simprocAttr] at hX
         clear h0 b0 k0;have h0 := h1
         have b0 := b1
         have k0 := k1
         clear h1 b1 k1 n1;generalize hC : run U aX _ _ = C at hX
         obtain ⟨m5, rfl, h1, k1⟩ := pg ht o h0 hC
         clear hC;have b1 := (k1.k _ p0).trans b0
         have k1 := k0.trans k1
         have n1 := mr n0 k1.n
         by_cases w4 : st.is l [110, 101, 119]
         ·have hn := is_lt ht o.p w4
          have hw : st.skip l [110, 101, 119] = st.next := by unfold RS.skip; rw [if_pos w4]
          rw [hw] at h1;have on : eJ l st.next := (Gr.next hn).ok o
          rw [eA w4] at hX;simp +contextual -implicitDefEqProofs (maxSteps := 1000000) (maxDischargeDepth := 8) only [b1, n1, aq, aa, implies_true, simprocAttr] at hX
          simp only [jz, jh, not_true_eq_false, if_false, if_neg hp, if_neg q2, if_neg q1, if_neg w0, if_neg w1, if_neg w2, if_neg w3, if_pos w4] at bO;have hb := h1.grown (M := bump m5 9) (by rw [br]; exact bH) (fun _ _ => rfl)
          have nS : 8 * (l.length - st.next.pos) + (gU.inner [40] [41]).bn < k := by simp only [gU.bn, RS.next] at *; omega
          obtain ⟨s2, r2, e, g, ar, _⟩ := go_ok ht k (.inner [40] [41]) st.next on.p nS trivial
          obtain ⟨x, rfl⟩ := jV ar
          simp only [e, Option.bind_some, bj, eQ] at bO;obtain ⟨rfl, rfl⟩ := bO
          generalize hC : run U cz _ _ = C at hX
          obtain ⟨m7, rfl, h7, k7⟩ := JK _ _ _ _ _ _ _ on nS e hb hC
          clear hC;have b7 := (k7.k _ (.inl p0)).trans b1
          have hM : ∀ B, Mem.mk m7.next (ext (Mem.mk (m5.next + 3) m7.gM) [B]).gM = m7.set (m5.next + 3) B := fun _ => rfl
          have iJ : nb m.next 19 ≠ m5.next + 3 := by omega
          have k7n : m5.next + 9 <= m7.next := k7.n
          have Vz : m5.next + 3 < m7.next := by omega
          have pc : Pr (Pr P m.next (nb m.next (19 + 1))) m5.next (bump m5 9).next (m5.next + 3) := .inr ⟨by omega, by rw [br]; unfold nb; omega⟩
          have h8 := h7.Qy pc (.cells [.int .i64 x] 1 aP false)
          simp +contextual -implicitDefEqProofs (maxSteps := 1000000) (maxDischargeDepth := 8) only [b7, hM, iJ, Vz, List.headD_cons, aq, aa, implies_true, simprocAttr] at hX
          generalize hC : run U aD _ _ = C at hX
          obtain ⟨m8, rfl, h9, k9⟩ := pP (P := Pr P m.next (nb m.next (19 + 1))) (kids := [x]) ht (g.ok on) h8 (by simp) ⟨.inr ⟨_, _, _, rfl, kW _, Vz, bM, .inr rfl⟩, rfl⟩ (fun c hc => by rw [cu hc]; exact pc) (fun c hc => ⟨.inl hc, gx.of (by have := h1.mB hc; omega)⟩) (by simp) hC
          clear hC;have kq : Kp m7 (m7.set (m5.next + 3) (.cells [.int .i64 x] 1 aP false)) (Pr P m.next (nb m.next (19 + 1))) := ⟨eX _, fun c hc => aB (by have := h1.mB hc; omega)⟩
          simp +contextual -implicitDefEqProofs (maxSteps := 1000000) (maxDischargeDepth := 8) only [aq, aa, implies_true, simprocAttr] at hX
          subst hX;exact ⟨_, rfl, h9.bQ fun c hc => .inl hc, kp.trans ((((k1.trans (aU h1)).trans (k7.bQ fun c hc => .inl hc)).trans (kq.trans k9)).bQ fun c hc => .inl hc)⟩
         ·have hw : st.skip l [110, 101, 119] = st := by unfold RS.skip; rw [if_neg w4]
          rw [hw] at h1;rw [eU w4] at hX;simp +contextual -implicitDefEqProofs (maxSteps := 1000000) (maxDischargeDepth := 8) only [b1, n1, aq, aa, implies_true, simprocAttr] at hX
          clear h0 b0 k0;have h0 := h1
          have b0 := b1
          have k0 := k1
          clear h1 b1 k1 n1;simp only [jz, jh, not_true_eq_false, if_false, if_neg hp, if_neg q2, if_neg q1, if_neg w0, if_neg w1, if_neg w2, if_neg w3, if_neg w4, bj, eQ] at bO;obtain ⟨rfl, rfl⟩ := bO
          generalize hC : run U ed _ _ = C at hX
          obtain ⟨m5, rfl, h5, k5⟩ := J5 h0 hC
          clear hC;simp +contextual -implicitDefEqProofs (maxSteps := 1000000) (maxDischargeDepth := 8) only [aq, aa, implies_true, simprocAttr] at hX
          subst hX;exact ⟨_, rfl, h5.bQ fun c hc => .inl hc, kp.trans ((k0.trans k5).bQ fun c hc => .inl hc)⟩
     --END
 ·have b1 := eU jh
  have kp : Kp m (bump (ext (bump m 19) [.cells [.int .i64 ((st.now l).kind : Int), .str (st.now l).text, .int .i64 ((st.now l).n : Int), .int .i64 ((st.now l).pos : Int)] 4 ap false]) 0) P := h.kp (by simp +contextual -implicitDefEqProofs (maxSteps := 1000000) (maxDischargeDepth := 8) only [bH, Hd, Hc, Hb, Ha, G9, G8, aa, implies_true, simprocAttr]) (fun c hc => by simp +contextual -implicitDefEqProofs (maxSteps := 1000000) (maxDischargeDepth := 8) only [hc, Hd, Hc, Hb, Ha, G9, G8, aa, implies_true, simprocAttr])
  simp +contextual -implicitDefEqProofs (maxSteps := 1000000) (maxDischargeDepth := 8) only [bS, hT, hF, hI, h, b1, dk, ak, aq, aa, implies_true, simprocAttr] at hX
  subst hX;simp only [jz, jh, not_false_eq_true, if_true, bj, eQ] at bO;obtain ⟨rfl, rfl⟩ := bO
  exact ⟨_, rfl, by simp (maxDischargeDepth := 20) only [dk, ak, h], kp⟩
end
end
section
def DQ (l : List Tok) (tg k : Nat) : Prop := ∀ (least nX left : Int) (st : RS) (fr : Fr) (m : Mem) (b : Nat) (P : Nat -> Prop) (s1 : RS) (r : List Int) (X : Option Out), eJ l st -> 8 * (l.length - st.pos) + (gU.lk least nX left).bn < k -> jz l k (.lk least nX left) st = some (s1, r) -> Rd m b tg l st P -> fr.get 0 = .ptr b 0 -> fr.get 1 = .int .i64 least -> fr.get 5 = .int .i64 left -> fr.get 6 = .int .i64 nX -> fr.defers = [] -> exec U (.loop dw) fr m = X -> ∃ fr' m', X = some (.exit 0 fr' m') /\ fr'.get 5 = .int .i64 (r.headD 0) /\ fr'.defers = [] /\ Rd m' b tg l s1 P /\ Kp m m' P
section
variable {l : List Tok} {tg : Nat} (ht : bT l) {k : Nat}
include ht
theorem Mb (JK : ∀ n : Int, rm l tg e9 [.int .i64 n] k (.mg n)) (LN : DQ l tg k) : DQ l tg (k + 1) := by
 intro least nX left st fr m b P s1 r X o hk bO h h0 h1 h5 h6 hd hX
 rw [eS] at hX;generalize hL : exec U (.loop dw) = L at hX
 have hT := jR (b := b) (tg := tg) (P := P) ht o
 have hF := J1 (b := b) (tg := tg) (l := l) (st := st) (P := P)
 have bg := h.lt
 by_cases jh : st.fe = 0
 ·have b1 := eA jh
  have lJ := U5 (st.now l).text
  have hk4 : (((st.now l).kind : Int) = 4) = ((st.now l).kind = 4) := propext (by omega)
  have hle := MQ (st.now l).text
  simp only [jz, jh, true_and] at bO;generalize hO : mL (st.now l).text = O at *
  obtain ⟨o1, o2⟩ := O
  simp only at bO hle lJ
  have w1 : IntKind.i64.wrap (o1 + 1) = o1 + 1 := wrap_i64 (by omega) (by omega)
  have w2 : IntKind.i64.wrap (o1 - 1) = o1 - 1 := wrap_i64 (by omega) (by omega)
  obtain ⟨tv, hv, xs, h⟩ := h
  have hr : Rd m b tg l st P := ⟨tv, hv, xs, h⟩
  have hg := h.g
  have hw := bJ (i := st.pos) (by have := o.p; have := ht.lt; omega)
  obtain ⟨FC, Vj⟩ := h.next
  have ES : eE 2 [EV.int .i64 0] = [EV.int .i64 0, EV.int .i64 0] := rfl
  simp +contextual -implicitDefEqProofs (maxSteps := 1000000) (maxDischargeDepth := 8) only [dw, h0, h1, h5, h6, hd, hT, hF, hr, b1, lJ, hk4, w1, w2, bg, hg, hw, ES, b8, fA, dk, ak, aq, aa, implies_true, simprocAttr] at hX
  by_cases hc : ((((st.now l).kind ≠ 4 \/ o2 = 0) \/ o1 < least) \/ nX < o1)
  ·simp only [hc, not_true_eq_false, if_false, bj, eQ] at bO
   obtain ⟨rfl, rfl⟩ := bO
   rw [AX hc] at hX;subst hX;have kp : Kp m (ext (bump (bump m 0) 19) [.cells [.int .i64 ((st.now l).kind : Int), .str (st.now l).text, .int .i64 ((st.now l).n : Int), .int .i64 ((st.now l).pos : Int)] 4 ap false, .cells [.int .i64 o1, .int .i64 o2] 2 lq false]) P := hr.kp (by simp +contextual -implicitDefEqProofs (maxSteps := 1000000) (maxDischargeDepth := 8) only [bH, Hd, Hc, Hb, Ha, G9, G8, aa, implies_true, simprocAttr]) (fun c hc => by simp +contextual -implicitDefEqProofs (maxSteps := 1000000) (maxDischargeDepth := 8) only [hc, Hd, Hc, Hb, Ha, G9, G8, aa, implies_true, simprocAttr])
   exact ⟨_, _, rfl, by simp only [h5, List.headD_cons, ao, Nat.reduceBEq ], by simp only [hd, ao, Nat.reduceBEq ], by simp (maxDischargeDepth := 20) only [dk, ak, hr], kp⟩
  ·simp only [hc, not_false_eq_true, if_true] at bO
   rw [AY hc] at hX;have hn := qq ht o.p (by omega)
   have on : eJ l st.next := (Gr.next hn).ok o
   have Pa : (m.set b (.cells [.fz tg 4 (jP l), .int .i64 ((st.pos + 1 : Nat) : Int), .int .i64 st.deep, tv, hv, .int .i64 st.fe, .int .i64 st.fp] 7 ai false)).next = m.next := rfl
   generalize m.set b _ = m' at *
   have nS : 8 * (l.length - st.next.pos) + (gU.mg (o1 + 1)).bn < k := by simp only [gU.bn, RS.next] at *; omega
   obtain ⟨s2, r2, e, g, ar, _⟩ := go_ok ht k (.mg (o1 + 1)) st.next on.p nS trivial
   obtain ⟨x, rfl⟩ := jV ar
   simp only [e, Option.bind_some, List.headD_cons] at bO;have r0 : Rd (ext (bump (bump m' 0) 19) [.cells [.int .i64 ((st.now l).kind : Int), .str (st.now l).text, .int .i64 ((st.now l).n : Int), .int .i64 ((st.now l).pos : Int)] 4 ap false, .cells [.int .i64 o1, .int .i64 o2] 2 lq false]) b tg l st.next (Pr P m.next (nb m.next 21)) := by
    have := (ak (k := 0) FC).box 19 [.cells [.int .i64 ((st.now l).kind : Int), .str (st.now l).text, .int .i64 ((st.now l).n : Int), .int .i64 ((st.now l).pos : Int)] 4 ap false, .cells [.int .i64 o1, .int .i64 o2] 2 lq false]
    rw [<- Pa]; exact this
   have kp : Kp m' (ext (bump (bump m' 0) 19) [.cells [.int .i64 ((st.now l).kind : Int), .str (st.now l).text, .int .i64 ((st.now l).n : Int), .int .i64 ((st.now l).pos : Int)] 4 ap false, .cells [.int .i64 o1, .int .i64 o2] 2 lq false]) P := FC.kp (by simp +contextual -implicitDefEqProofs (maxSteps := 1000000) (maxDischargeDepth := 8) only [bH, Hd, Hc, Hb, Ha, G9, G8, aa, implies_true, simprocAttr]) (fun c hc => by simp +contextual -implicitDefEqProofs (maxSteps := 1000000) (maxDischargeDepth := 8) only [hc, Hd, Hc, Hb, Ha, G9, G8, aa, implies_true, simprocAttr])
   have p19 : Pr P m.next (nb m.next 21) (nb m.next 19) := og (by decide)
   have p20 : Pr P m.next (nb m.next 21) (nb m.next 20) := og (by decide)
   have g19 : (ext (bump (bump m' 0) 19) [.cells [.int .i64 ((st.now l).kind : Int), .str (st.now l).text, .int .i64 ((st.now l).n : Int), .int .i64 ((st.now l).pos : Int)] 4 ap false, .cells [.int .i64 o1, .int .i64 o2] 2 lq false]).get (nb m.next 19) = .cells [.int .i64 ((st.now l).kind : Int), .str (st.now l).text, .int .i64 ((st.now l).n : Int), .int .i64 ((st.now l).pos : Int)] 4 ap false := by
    rw [<- Pa]; exact (aC (m := bump (bump m' 0) 19) (i := 0) rfl (by simp)).trans rfl
   have WN : (ext (bump (bump m' 0) 19) [.cells [.int .i64 ((st.now l).kind : Int), .str (st.now l).text, .int .i64 ((st.now l).n : Int), .int .i64 ((st.now l).pos : Int)] 4 ap false, .cells [.int .i64 o1, .int .i64 o2] 2 lq false]).get (nb m.next 20) = .cells [.int .i64 o1, .int .i64 o2] 2 lq false := by
    rw [<- Pa]; exact (aC (m := bump (bump m' 0) 19) (i := 1) rfl (by simp)).trans rfl
   have n0 : (ext (bump (bump m' 0) 19) [.cells [.int .i64 ((st.now l).kind : Int), .str (st.now l).text, .int .i64 ((st.now l).n : Int), .int .i64 ((st.now l).pos : Int)] 4 ap false, .cells [.int .i64 o1, .int .i64 o2] 2 lq false]).next = nb m.next 21 := by rw [<- Pa, ax]; rfl
   generalize hC : run U e9 _ _ = C at hX
   obtain ⟨m1, rfl, r1, k1⟩ := JK (o1 + 1) _ _ _ _ _ _ _ on nS e r0 hC
   clear hC;have g19 := (k1.k _ p19).trans g19
   have WN := (k1.k _ p20).trans WN
   have n1 : nb m.next 21 <= m1.next := by rw [<- n0]; exact k1.n
   have n19 : nb m.next 19 < m1.next := mr (by unfold nb; omega) n1
   have n20 : nb m.next 20 < m1.next := mr (by unfold nb; omega) n1
   have Xc := g.ok on
   simp +contextual -implicitDefEqProofs (maxSteps := 1000000) (maxDischargeDepth := 8) only [h0, h1, h5, h6, hd, g19, WN, n19, n20, ES, b8, fA, List.headD_cons, aq, aa, implies_true, simprocAttr] at hX
   generalize hC : run U aD _ _ = C at hX
   obtain ⟨m5, rfl, r5, k5⟩ := pP (P := Pr P m.next (nb m.next 21)) (kids := [left, x]) ht Xc (r1.It _) (by simp) (CB (by rfl)) (fun c hc => by rw [cu hc]; exact og (by simp)) (fun c hc => ⟨.inl hc, gx.of (by have := r1.mB hc; unfold nb; omega)⟩) (by simp) hC
   clear hC;have k5' := (k1.trans (lZ r1 _)).trans k5
   have WN := ((lZ r1 _).trans k5).k _ p20 |>.trans WN
   have kk := (Vj.trans kp).trans (k5'.bQ fun c hc => .inl hc)
   have g1 := ((Gr.next hn).trans g).put (by have := g.t; simp only [RS.next] at this; omega) (d := nd 5 [left, x] o2 [] (st.now l).pos)
   have hq : (s2.put (nd 5 [left, x] o2 [] (st.now l).pos)).pos = s2.pos := by unfold RS.put RS.pQ; split <;> split <;> first | rfl | exact c9.1
   have BU : ∀ a b' c, 8 * (l.length - (s2.put (nd 5 [left, x] o2 [] (st.now l).pos)).pos) + (gU.lk a b' c).bn < k := fun _ _ _ => by have := g.p; have := g.pl; simp only [gU.bn, RS.next] at *; omega
   have o5 := g1.ok o
   have r5 := r5.bQ (Q := P) fun c hc => .inl hc
   clear r0 r1 k1 kp Vj k5 k5' FC
   simp +contextual -implicitDefEqProofs (maxSteps := 1000000) (maxDischargeDepth := 8) only [h0, h1, h5, h6, hd, WN, w2, aq, aa, implies_true, simprocAttr] at hX
   have w3 : IntKind.i64.wrap 2 = 2 := wrap_i64 (by omega) (by omega)
   by_cases h3 : o1 = 3
   ·rw [if_pos h3] at bO
    rw [AX h3] at hX;subst hL;obtain ⟨fr', m9, rfl, q5, qd, q6, q7⟩ := LN _ _ _ _ _ _ _ P _ _ _ o5 (BU _ _ _) bO r5 (by simp only [h0, ao, Nat.reduceBEq ]) (by simp only [h1, ao, Nat.reduceBEq ]) (by simp only [ao, Nat.reduceBEq ]) (by first | (simp only [ao, Nat.reduceBEq ]; done) | simp only [h3, w3, Int.reduceSub, ao, Nat.reduceBEq ]) (by simp only [hd, ao, Nat.reduceBEq ]) hX
    exact ⟨fr', m9, rfl, q5, qd, q6, kk.trans q7⟩
   ·rw [if_neg h3] at bO
    rw [AY h3] at hX;subst hL;obtain ⟨fr', m9, rfl, q5, qd, q6, q7⟩ := LN _ _ _ _ _ _ _ P _ _ _ o5 (BU _ _ _) bO r5 (by simp only [h0, ao, Nat.reduceBEq ]) (by simp only [h1, ao, Nat.reduceBEq ]) (by simp only [ao, Nat.reduceBEq ]) (by first | (simp only [ao, Nat.reduceBEq ]; done) | simp only [h3, w3, Int.reduceSub, ao, Nat.reduceBEq ]) (by simp only [hd, ao, Nat.reduceBEq ]) hX
    exact ⟨fr', m9, rfl, q5, qd, q6, kk.trans q7⟩
 ·have b1 := eU jh
  simp only [jz, jh, false_and, if_false, bj, eQ] at bO;obtain ⟨rfl, rfl⟩ := bO
  simp +contextual -implicitDefEqProofs (maxSteps := 1000000) (maxDischargeDepth := 8) only [dw, h0, h1, h5, h6, hd, hF, h, b1, dk, ak, aq, aa, implies_true, simprocAttr] at hX
  subst hX;exact ⟨_, _, rfl, by simp only [h5, List.headD_cons, ao, Nat.reduceBEq ], by simp only [hd, ao, Nat.reduceBEq ], ak h, aU h⟩
omit ht in
theorem Ma (ht : bT l) (JK : rm l tg eC [] k .front) (LN : DQ l tg k) (least : Int) : rm l tg e9 [.int .i64 least] (k + 1) (.mg least) := by
 intro st m b P s1 r X o hk bO h hX
 rw [bZ (by simp [dN])] at hX
 generalize hL : exec (UT B K) (aE.loop dw) = L at hX
 have nS : 8 * (l.length - st.pos) + gU.front.bn < k := by simp only [gU.bn] at *; omega
 obtain ⟨s2, r2, e, g, ar, _⟩ := go_ok ht k .front st o.p nS trivial
 obtain ⟨x, rfl⟩ := jV ar
 simp only [jz, e, Option.bind_some, List.headD_cons] at bO;simp +contextual -implicitDefEqProofs (maxSteps := 1000000) (maxDischargeDepth := 8) only [dN, aq, aa, implies_true, simprocAttr] at hX
 generalize hC : run U eC _ _ = C at hX
 obtain ⟨m1, rfl, r1, k1⟩ := JK _ _ _ _ _ _ _ o nS e h hC
 clear hC;simp +contextual -implicitDefEqProofs (maxSteps := 1000000) (maxDischargeDepth := 8) only [List.headD_cons, aq, aa, implies_true, simprocAttr] at hX
 subst hL;generalize hC : exec _ (.loop dw) _ _ = C at hX
 obtain ⟨fr', m9, rfl, q5, qd, q6, q7⟩ := LN _ _ _ _ _ _ _ P _ _ _ (g.ok o) (by have := g.p; simp only [gU.bn] at *; omega) bO r1 (by simp only [ao, Nat.reduceBEq ]) (by simp only [ao, Nat.reduceBEq ]) (by simp only [ao, Nat.reduceBEq ]) (by simp only [ao, Nat.reduceBEq ]) (by simp only [ao, Nat.reduceBEq ]) hC
 clear hC;simp +contextual -implicitDefEqProofs (maxSteps := 1000000) (maxDischargeDepth := 8) only [q5, qd, aq, aa, implies_true, simprocAttr] at hX
 subst hX;exact ⟨_, rfl, q6, k1.trans q7⟩
structure adE (l : List Tok) (tg k : Nat) : Prop where
 expr : rm l tg aY [] k .expr
 mg : ∀ n : Int, rm l tg e9 [.int .i64 n] k (.mg n)
 lk : DQ l tg k
 front : rm l tg eC [] k .front
 atom : rm l tg jv [] k .atom
 cells : IB l tg k
 inner : ∀ a z : cm, rm l tg cz [.str a, .str z] k (.inner a z)
 args : N7 l tg k
 mn : IC l tg k
omit ht in
theorem DX (ht : bT l) : ∀ k, adE l tg k := by
 intro k
 induction k with
 | zero =>
  exact ⟨fun _ _ _ _ _ _ _ _ q => absurd q (by omega), fun _ _ _ _ _ _ _ _ _ q => absurd q (by omega), fun _ _ _ _ _ _ _ _ _ _ _ _ q => absurd q (by omega), fun _ _ _ _ _ _ _ _ q => absurd q (by omega), fun _ _ _ _ _ _ _ _ q => absurd q (by omega), fun _ _ _ _ _ _ _ _ _ _ q => absurd q (by omega), fun _ _ _ _ _ _ _ _ _ _ q => absurd q (by omega), fun _ _ _ _ _ _ _ _ q => absurd q (by omega), fun _ _ _ _ _ _ _ _ _ _ _ _ q => absurd q (by omega)⟩
 | succ k ih =>
  exact ⟨Po ht (ih.mg 1), Ma ht ih.front ih.lk, Mb ht ih.mg ih.lk, LZ ht ih.front ih.atom (Md ih.cells), PG ht (ih.inner _ _) ih.args, Me ht (ih.inner _ _) ih.cells, fun a z => LM ht ih.expr, PI ht ih.mn, PJ ht ih.expr ih.mn⟩
end
end
section
section
variable {tg : Nat} {l : List Tok} {st : RS} {tv hv : EV} {b : Nat} {m : Mem}
theorem EZ (hg : m.get b = .cells (bf tg l st tv hv) 7 ai false) (hb : b < m.next) :
  run U oj [.ptr b 0] m = some (.ret (.agg [.int .i64 st.fe, .int .i64 st.fp]) (bump m 1)) := by
 rw [lX];obtain ⟨X, hE⟩ : ∃ X, pO bz.results (exec B3 bz.body (aa [.ptr b 0] 0 pz) m) = X := ⟨_, rfl⟩
 have hX := hE
 simp +contextual -implicitDefEqProofs (maxSteps := 1000000) (maxDischargeDepth := 8) only [bz, hg, hb, aq, aa, implies_true, simprocAttr] at hX
 subst hX;exact zh (by simp [bz]) hE rfl rfl AU
theorem K6 (hg : m.get b = .cells (bf tg l st tv hv) 7 ai false) (hb : b < m.next) :
  run U oi [.agg [.ptr b 0]] m = some (.ret (bo (st.fe = 0)) (bump m 2)) := by
 have h1 : ∀ M : Mem, M.get b = .cells (bf tg l st tv hv) 7 ai false -> b < M.next -> kP B3 bz [.ptr b 0] M = some (.ret (.agg [.int .i64 st.fe, .int .i64 st.fp]) (bump M 1)) := fun M h1 h2 => by
  have := EZ (m := M) h1 h2
  rwa [lX] at this
 rw [th];obtain ⟨X, hE⟩ : ∃ X, pO bG.results (exec B4 bG.body (aa [.agg [.ptr b 0]] 0 pz) m) = X := ⟨_, rfl⟩
 have hX := hE
 simp +contextual -implicitDefEqProofs (maxSteps := 1000000) (maxDischargeDepth := 8) only [bG, rN, h1, hg, hb, aq, aa, implies_true, simprocAttr] at hX
 subst hX;exact zh (by simp [bG]) hE rfl rfl (tu AU)
theorem Qc (h : KK b tg l st tv hv) (hg : m.get b = .cells (bf tg l st tv hv) 7 ai false) (hb : b < m.next) : ∃ m', run U xQ [.ptr b 0] m = some (.ret (.agg (st.now l).cells) m') /\ qZ m m' b (.cells (bf tg l st.next tv hv) 7 ai false) := by
 have ht := h.token
 have hw := bJ (i := st.pos) (by have := h.p; omega)
 rw [bZ (by simp [eo])]
 generalize hY : pO _ _ = Y
 simp +contextual -implicitDefEqProofs (maxSteps := 1000000) (maxDischargeDepth := 8) only [eo, ht, hg, hb, hw, aq, aa, implies_true, simprocAttr] at hY
 have h1 : qZ m (m.set b (.cells (bf tg l st.next tv hv) 7 ai false)) b (.cells (bf tg l st.next tv hv) 7 ai false) := .set (eX _) fun _ _ _ => rfl
 refine ⟨_, hY.symm, ?_⟩
 have h2 := h1.trans (qZ.ext (ys := [.cells [.int .i64 ((st.now l).kind : Int), .str (st.now l).text, .int .i64 ((st.now l).n : Int), .int .i64 ((st.now l).pos : Int)] 4 ap false]) h1.g hb)
 have h3 := h2.trans (qZ.bump (k := 19) h2.g)
 exact h3.trans (qZ.ext h3.g (mr hb h3.n))
theorem QS (h : KK b tg l st tv hv) (hg : m.get b = .cells (bf tg l st tv hv) 7 ai false) (hb : b < m.next) : ∃ m', run U eN [.ptr b 0] m = some (.ret (.str (st.c7 l)) m') /\ qZ m m' b (.cells (bf tg l (st.name l) tv hv) 7 ai false) := by
 have ht := h.token
 have hf := h.abW
 rw [bZ (by simp [cN])]
 generalize hY : pO _ _ = Y
 have bad : ¬ st.qu l -> ∀ M : Mem, qZ m M b (.cells (bf tg l st tv hv) 7 ai false) -> ∃ m2, run U ed [.ptr b 0, .int .i64 8, .int .i64 ((st.now l).pos : Int)] M = some (.ret (.tuple []) m2) /\ qZ m m2 b (.cells (bf tg l (st.name l) tv hv) 7 ai false) := by
  intro hc M u
  obtain ⟨m2, e2, u2⟩ := vi u.g (mr hb u.n) 8 ((st.now l).pos : Int)
  have : st.name l = st.fail 8 (st.now l).pos := if_neg hc
  exact ⟨m2, e2, by rw [this]; exact u.trans u2⟩
 have hk : ((st.now l).kind : Int) = 1 ↔ (st.now l).kind = 1 := by omega
 by_cases jh : st.fe = 0
 ·by_cases KF : (st.now l).kind = 1
  ·have hc : st.qu l := ⟨jh, KF⟩
   have e1 : st.c7 l = (st.now l).text := if_pos hc
   have e2 : st.name l = st.next := if_pos hc
   have u1 : qZ m (bump (bump m 0) 19) b (.cells (bf tg l st tv hv) 7 ai false) := (qZ.bump hg).trans (qZ.bump hg)
   obtain ⟨m2, q2, u2⟩ := Qc h u1.g (mr hb u1.n)
   unfold Tok.cells at q2;simp +contextual -implicitDefEqProofs (maxSteps := 1000000) (maxDischargeDepth := 8) only [cN, ht, hf, hg, hb, jh, KF, q2, gl, aq, aa, implies_true, simprocAttr] at hY
   rw [e1, e2];exact ⟨_, hY.symm, u1.trans u2⟩
  ·have hc : ¬ st.qu l := fun q => KF q.2
   have BU : ¬ (((st.now l).kind : Int) = 1) := by omega
   have e1 : st.c7 l = [] := if_neg hc
   have u1 : qZ m (bump (bump (bump m 0) 19) 19) b (.cells (bf tg l st tv hv) 7 ai false) := ((qZ.bump hg).trans (qZ.bump hg)).trans (qZ.bump hg)
   obtain ⟨m2, q2, u2⟩ := bad hc _ u1
   simp +contextual -implicitDefEqProofs (maxSteps := 1000000) (maxDischargeDepth := 8) only [cN, ht, hf, hg, hb, jh, BU, q2, gl, fG, aq, aa, implies_true, simprocAttr] at hY
   rw [e1];exact ⟨_, hY.symm, u2⟩
 ·have hc : ¬ st.qu l := fun q => jh q.1
  have e1 : st.c7 l = [] := if_neg hc
  have u1 : qZ m (bump (bump m 0) 19) b (.cells (bf tg l st tv hv) 7 ai false) := (qZ.bump hg).trans (qZ.bump hg)
  obtain ⟨m2, q2, u2⟩ := bad hc _ u1
  simp +contextual -implicitDefEqProofs (maxSteps := 1000000) (maxDischargeDepth := 8) only [cN, ht, hf, hg, hb, jh, q2, gl, fG, aq, aa, implies_true, simprocAttr] at hY
  rw [e1];exact ⟨_, hY.symm, u2⟩
end
section
variable {m M : Mem} {b tg : Nat} {l : List Tok} {st : RS} {P Q : Nat -> Prop} {X : Option Fin}
theorem xM : ∀ M : Mem, Rd M b tg l st P -> run U oi [.agg [.ptr b 0]] M = some (.ret (bo (st.fe = 0)) (bump M 2)) := fun M h => by
 obtain ⟨tv, hv, xs, h⟩ := h; exact K6 h.g h.lt
theorem V6 : ∀ M : Mem, Rd M b tg l st P -> run U oj [.ptr b 0] M = some (.ret (.agg [.int .i64 st.fe, .int .i64 st.fp]) (bump M 1)) := fun M h => by
 obtain ⟨tv, hv, xs, h⟩ := h; exact EZ h.g h.lt
theorem qu (ht : bT l) (o : eJ l st) (h : Rd m b tg l st P) (hX : run U eN [.ptr b 0] m = X) : ∃ m', X = some (.ret (.str (st.c7 l)) m') /\ Rd m' b tg l (st.name l) P /\ Kp m m' P := by
 obtain ⟨tv, hv, xs, h⟩ := h
 obtain ⟨m', e', u⟩ := QS (o.U1 ht) h.g h.lt
 have q : (st.name l).tree = st.tree /\ (st.name l).high = st.high := by
  unfold RS.name; split
  ·exact ⟨rfl, rfl⟩
  ·exact c9.2.2
 exact ⟨m', hX.symm.trans e', ⟨_, _, _, h.Ok q.1 q.2 u⟩, h.kp u⟩
end
end
section
section
variable {m M : Mem} {b tg : Nat} {l : List Tok} {st : RS} {P Q : Nat -> Prop} {X : Option Fin}
theorem zQ (ht : bT l) (o : eJ l st) (h : Rd m b tg l st P) (hX : run U aY [.ptr b 0] m = X) : ∃ m', X = some (.ret (.int .i64 (kj l st).2) m') /\ Rd m' b tg l (kj l st).1 P /\ Kp m m' P := by
 obtain ⟨k, r, e, hk, hv, _⟩ := lh ht o.p
 rw [hv];exact (DX ht k).expr _ _ _ _ _ _ _ o hk e h hX
theorem aa0 (ht : bT l) (o : eJ l st) (h : Rd m b tg l st P) {a z : cm} (hX : run U cz [.ptr b 0, .str a, .str z] m = X) : ∃ m', X = some (.ret (.int .i64 (CR l a z st).2) m') /\ Rd m' b tg l (CR l a z st).1 P /\ Kp m m' P := by
 obtain ⟨k, r, e, hk, hv, _⟩ := EL ht o.p a z
 rw [hv];exact (DX ht k).inner _ _ _ _ _ _ _ _ _ o hk e h hX
theorem Yr (ht : bT l) (o : eJ l st) (h : Rd m b tg l st P) {s : cm} {p : Int} (hX : run U jx [.ptr b 0, .str s, .int .i64 p] m = X) : ∃ m', X = some (.ret (.int .i64 ((xj l st).1.iI (nd 11 (xj l st).2 0 s p))) m') /\ Rd m' b tg l ((xj l st).1.put (nd 11 (xj l st).2 0 s p)) P /\ Kp m m' P := by
 obtain ⟨k, e, hk, _⟩ := Ix ht o.p
 exact G0 ht (DX ht k).args o hk e h hX
theorem tI (ht : bT l) (o : eJ l st) : Gr l st (kj l st).1 := by obtain ⟨_, _, _, _, _, g, _⟩ := lh ht o.p; exact g
theorem Vn (ht : bT l) (o : eJ l st) {a z : cm} : Gr l st (CR l a z st).1 := by obtain ⟨_, _, _, _, _, g, _⟩ := EL ht o.p a z; exact g
theorem Wa (ht : bT l) (o : eJ l st) : Gr l st (xj l st).1 := by obtain ⟨_, _, _, g, _⟩ := Ix ht o.p; exact g
theorem Ka (ht : bT l) (o : eJ l st) (h : Rd m b tg l st Q) {kind n p : Int} {s : cm} {kids : List Int} {kv : EV} (GM : kids.length < 1000000) (ho : ja m kv (is kids) kids.length 1 0) (hp : ∀ c, ¬ gx kv c -> Q c) (hq : ∀ c, P c -> Q c /\ gx kv c) (hz : kids = [] -> kv = .ae) (hX : run U dm [.agg [.ptr b 0], .agg [.int .i64 kind, kv, .int .i64 n, .str s, .int .i64 p]] m = X) : ∃ m', X = some (.ret (.int .i64 (mc l st (nd kind kids n s p)).2) m') /\ Rd m' b tg l (mc l st (nd kind kids n s p)).1 P /\ Kp m m' P := by
 rw [bZ (by simp [ei])] at hX
 simp +contextual -implicitDefEqProofs (maxSteps := 1000000) (maxDischargeDepth := 8) only [ei, aq, aa, implies_true, simprocAttr] at hX
 have r0 := h.It [.cells [.ptr b 0] 1 ah false, .cells [.int .i64 kind, kv, .int .i64 n, .str s, .int .i64 p] 5 ba false]
 have k0 := (lZ h [.cells [.ptr b 0] 1 ah false, .cells [.int .i64 kind, kv, .int .i64 n, .str s, .int .i64 p] 5 ba false])
 have ho0 := ho.ext [.cells [.ptr b 0] 1 ah false, .cells [.int .i64 kind, kv, .int .i64 n, .str s, .int .i64 p] 5 ba false]
 have e0 : (ext m [.cells [.ptr b 0] 1 ah false, .cells [.int .i64 kind, kv, .int .i64 n, .str s, .int .i64 p] 5 ba false]).get (nb m.next 0) = .cells [.ptr b 0] 1 ah false := by rw [aC rfl (by simp)]; rfl
 have e1 : (ext m [.cells [.ptr b 0] 1 ah false, .cells [.int .i64 kind, kv, .int .i64 n, .str s, .int .i64 p] 5 ba false]).get (nb m.next 1) = .cells [.int .i64 kind, kv, .int .i64 n, .str s, .int .i64 p] 5 ba false := by rw [aC rfl (by simp)]; rfl
 have en : (ext m [.cells [.ptr b 0] 1 ah false, .cells [.int .i64 kind, kv, .int .i64 n, .str s, .int .i64 p] 5 ba false]).next = nb m.next 2 := ax
 generalize ext m [.cells [.ptr b 0] 1 ah false, .cells [.int .i64 kind, kv, .int .i64 n, .str s, .int .i64 p] 5 ba false] = M0 at *
 generalize hC : run U aS _ _ = C at hX
 obtain ⟨m1, rfl, r1, k1⟩ := od ht o r0 hC
 clear hC;have e0 := (k1.k _ (og (by simp))).trans e0
 have e1 := (k1.k _ (og (by simp))).trans e1
 have n1 : nb m.next 2 <= m1.next := by rw [<- en]; exact k1.n
 have n0 : nb m.next 0 < m1.next := mr (by unfold nb; omega) n1
 have n1 : nb m.next 1 < m1.next := mr (by unfold nb; omega) n1
 simp +contextual -implicitDefEqProofs (maxSteps := 1000000) (maxDischargeDepth := 8) only [e0, e1, n0, n1, aq, aa, implies_true, simprocAttr] at hX
 generalize hC : run U aD _ _ = C at hX
 obtain ⟨m2, rfl, r2, k2⟩ := pP (P := P) (kids := kids) ht ((Gr.want ht o.p).ok o) r1 GM (ho0.kp k1 fun c hc => .inl (hp c hc)) (fun c hc => .inl (hp c hc)) (fun c hc => ⟨.inl (hq c hc).1, (hq c hc).2⟩) hz hC
 clear hC;simp +contextual -implicitDefEqProofs (maxSteps := 1000000) (maxDischargeDepth := 8) only [aq, aa, implies_true, simprocAttr] at hX
 subst hX;exact ⟨_, rfl, r2, ((k0.bQ fun c hc => (hq c hc).1).trans (k1.bQ fun c hc => .inl (hq c hc).1)).trans k2⟩
end
end
section
section
variable {m M : Mem} {b tg : Nat} {l : List Tok} {st : RS} {P Q : Nat -> Prop} {X : Option Fin}
theorem drawn {m0 m7 : Mem} {n c : Nat} {st' : RS} (h0 : Rd m0 b tg l st P) (hn : m0.next <= c) (hc : c < m0.next + n) (h7 : Rd m7 b tg l st' (Pr P m0.next (m0.next + n))) (k7 : Kp (bump m0 n) m7 (Pr P m0.next (m0.next + n))) (cs : List EV) :
  Rd (m7.set c (.cells cs 1 aP false)) b tg l st' (Pr P m0.next (m0.next + n)) /\ Kp m0 (m7.set c (.cells cs 1 aP false)) P /\ c < m7.next /\ Pr P m0.next (m0.next + n) c /\ (∀ a, P a -> a ≠ c) := by
 have pc : Pr P m0.next (m0.next + n) c := .inr ⟨hn, hc⟩
 have hP : ∀ a, P a -> a ≠ c := fun a ha => by have := h0.mB ha; omega
 have k7n : m0.next + n <= m7.next := k7.n
 refine ⟨?_, ⟨?_, fun a ha => ?_⟩, by omega, pc, hP⟩
 ·exact h7.Qy pc _
 ·show m0.next <= m7.next
  omega
 ·rw [aB (hP a ha)]; exact k7.k a (.inl ha)
theorem jT (h : Rd m b tg l st P) (n : Nat) : Rd (bump m n) b tg l st (Pr P m.next (m.next + n)) := h.grown (M := bump m n) (by rw [br]; exact bH) fun _ _ => rfl
theorem qm {m : Mem} {c n : Nat} {cs : List EV} (hc : c < m.next) (hl : cs.length = n) : ja (m.set c (.cells cs 1 aP false)) (.slice c 0 n (some n)) cs n 1 0 :=
 ⟨.inr ⟨c, some n, aP, rfl, kW _, hc, bM, .inr rfl⟩, by omega⟩
structure Bx (m M : Mem) (b : Nat) (P : Nat -> Prop) : Prop where
 k : Kp m M P
 g : M.get (nb m.next 0) = .cells [.ptr b 0] 1 ah false
 n : nb m.next 0 < M.next
theorem Bx.step {M' : Mem} {R : Nat -> Prop} (h : Bx m M b P) (k : Kp M M' R) (hP : ∀ c, P c -> R c) (h0 : R (nb m.next 0)) : Bx m M' b P := ⟨h.k.trans (k.bQ hP), (k.k _ h0).trans h.g, mr h.n k.n⟩
theorem rH : Pr P m.next (nb m.next 1) (nb m.next 0) := og (by simp)
theorem Bx.start (h : Rd m b tg l st P) (n : Nat) : Rd (bump (ext m [.cells [.ptr b 0] 1 ah false]) n) b tg l st (Pr P m.next (nb m.next 1)) /\ Bx m (bump (ext m [.cells [.ptr b 0] 1 ah false]) n) b P := by
 have r0 := h.It [.cells [.ptr b 0] 1 ah false]
 refine ⟨ak r0, (lZ h _).trans ((aU r0).bQ fun c hc => .inl hc), ?_, ?_⟩
 ·rw [gF, aC rfl (by simp)]; rfl
 ·rw [br, ax]; unfold nb; simp; omega
theorem Bx.uM (h : Rd m b tg l st P) : Rd (ext m [.cells [.ptr b 0] 1 ah false]) b tg l st (Pr P m.next (nb m.next 1)) /\ Bx m (ext m [.cells [.ptr b 0] 1 ah false]) b P := by
 have r0 := h.It [.cells [.ptr b 0] 1 ah false]
 refine ⟨r0, lZ h _, ?_, ?_⟩
 ·rw [aC rfl (by simp)]; rfl
 ·rw [ax]; unfold nb; simp
theorem Qs (ht : bT l) (o : eJ l st) (h : Rd m b tg l st P) {p : Nat} (hX : run U nU [.agg [.ptr b 0], .int .i64 (p : Int)] m = X) : ∃ m', X = some (.ret (.int .i64 (qp l 20 p st).2) m') /\ Rd m' b tg l (qp l 20 p st).1 P /\ Kp m m' P := by
 rw [bZ (by simp [fm])] at hX
 simp +contextual -implicitDefEqProofs (maxSteps := 1000000) (maxDischargeDepth := 8) only [fm, aq, aa, implies_true, simprocAttr] at hX
 have en : (ext m [.cells [.ptr b 0] 1 ah false]).next = nb m.next 1 := ax
 obtain ⟨r0, x0⟩ := Bx.uM h
 generalize ext m [.cells [.ptr b 0] 1 ah false] = M0 at *
 rw [<- en] at hX;have rb := jT r0 9
 generalize hC : run U aY _ _ = C at hX
 obtain ⟨m7, rfl, r7, k7⟩ := zQ ht o rb hC
 clear hC;generalize hx : (kj l st).2 = x at *
 have e7 := (k7.k _ (.inl rH)).trans x0.g
 have hM : ∀ B, Mem.mk m7.next (ext (Mem.mk (M0.next + 4) m7.gM) [B]).gM = m7.set (M0.next + 4) B := fun _ => rfl
 obtain ⟨r8, k8, n8, p8, Ph⟩ := drawn (c := M0.next + 4) r0 (by omega) (by omega) r7 k7 [.int .i64 x]
 simp +contextual -implicitDefEqProofs (maxSteps := 1000000) (maxDischargeDepth := 8) only [e7, hM, aq, aa, implies_true, simprocAttr] at hX
 generalize hC : run U dm _ _ = C at hX
 obtain ⟨m9, rfl, r9, k9⟩ := Ka (P := Pr P m.next (nb m.next 1)) (kids := [x]) ht ((tI ht o).ok o) r8 (by simp) (qm n8 rfl) (fun c hc => by rw [cu hc]; exact p8) (fun c hc => ⟨.inl hc, gx.of (Ph c hc)⟩) (by simp) hC
 clear hC;simp +contextual -implicitDefEqProofs (maxSteps := 1000000) (maxDischargeDepth := 8) only [aq, aa, implies_true, simprocAttr] at hX
 subst hX;subst hx;exact ⟨_, rfl, r9.bQ fun c hc => .inl hc, x0.k.trans ((k8.trans k9).bQ fun c hc => .inl hc)⟩
theorem K8 (ht : bT l) (o : eJ l st) (h : Rd m b tg l st P) {p : Nat} (hX : run U nT [.agg [.ptr b 0], .int .i64 (p : Int)] m = X) : ∃ m', X = some (.ret (.int .i64 (qp l 21 p st).2) m') /\ Rd m' b tg l (qp l 21 p st).1 P /\ Kp m m' P := by
 rw [bZ (by simp [fi])] at hX
 simp +contextual -implicitDefEqProofs (maxSteps := 1000000) (maxDischargeDepth := 8) only [fi, aq, aa, implies_true, simprocAttr] at hX
 have en : (ext m [.cells [.ptr b 0] 1 ah false]).next = nb m.next 1 := ax
 obtain ⟨r0, x0⟩ := Bx.uM h
 generalize ext m [.cells [.ptr b 0] 1 ah false] = M0 at *
 rw [<- en] at hX;have rb := jT r0 9
 generalize hC : run U aY _ _ = C at hX
 obtain ⟨m7, rfl, r7, k7⟩ := zQ ht o rb hC
 clear hC;generalize hx : (kj l st).2 = x at *
 have e7 := (k7.k _ (.inl rH)).trans x0.g
 have hM : ∀ B, Mem.mk m7.next (ext (Mem.mk (M0.next + 4) m7.gM) [B]).gM = m7.set (M0.next + 4) B := fun _ => rfl
 obtain ⟨r8, k8, n8, p8, Ph⟩ := drawn (c := M0.next + 4) r0 (by omega) (by omega) r7 k7 [.int .i64 x]
 simp +contextual -implicitDefEqProofs (maxSteps := 1000000) (maxDischargeDepth := 8) only [e7, hM, aq, aa, implies_true, simprocAttr] at hX
 generalize hC : run U dm _ _ = C at hX
 obtain ⟨m9, rfl, r9, k9⟩ := Ka (P := Pr P m.next (nb m.next 1)) (kids := [x]) ht ((tI ht o).ok o) r8 (by simp) (qm n8 rfl) (fun c hc => by rw [cu hc]; exact p8) (fun c hc => ⟨.inl hc, gx.of (Ph c hc)⟩) (by simp) hC
 clear hC;simp +contextual -implicitDefEqProofs (maxSteps := 1000000) (maxDischargeDepth := 8) only [aq, aa, implies_true, simprocAttr] at hX
 subst hX;subst hx;exact ⟨_, rfl, r9.bQ fun c hc => .inl hc, x0.k.trans ((k8.trans k9).bQ fun c hc => .inl hc)⟩
theorem Mo (ht : bT l) (o : eJ l st) (h : Rd m b tg l st P) {p : Nat} (hX : run U nW [.agg [.ptr b 0], .int .i64 (p : Int)] m = X) : ∃ m', X = some (.ret (.int .i64 (mc l st (nd 18 [] 0 [] p)).2) m') /\ Rd m' b tg l (mc l st (nd 18 [] 0 [] p)).1 P /\ Kp m m' P := by
 rw [bZ (by simp [fq])] at hX
 simp +contextual -implicitDefEqProofs (maxSteps := 1000000) (maxDischargeDepth := 8) only [fq, aq, aa, implies_true, simprocAttr] at hX
 obtain ⟨r0, x0⟩ := Bx.uM h
 generalize ext m [.cells [.ptr b 0] 1 ah false] = M0 at *
 generalize hC : run U dm _ _ = C at hX
 obtain ⟨m9, rfl, r9, k9⟩ := Ka (P := P) (kids := []) ht o r0 (by simp) ⟨.inl ⟨rfl, rfl, rfl⟩, rfl⟩ (fun c hc => absurd gx.nil hc) (fun c hc => ⟨.inl hc, gx.nil⟩) (by simp) hC
 clear hC;simp +contextual -implicitDefEqProofs (maxSteps := 1000000) (maxDischargeDepth := 8) only [aq, aa, implies_true, simprocAttr] at hX
 subst hX;exact ⟨_, rfl, r9, x0.k.trans k9⟩
theorem Px (ht : bT l) (o : eJ l st) (h : Rd m b tg l st P) {p : Nat} (hX : run U nV [.agg [.ptr b 0], .int .i64 (p : Int)] m = X) : ∃ m', X = some (.ret (.int .i64 (mc l st (nd 19 [] 0 [] p)).2) m') /\ Rd m' b tg l (mc l st (nd 19 [] 0 [] p)).1 P /\ Kp m m' P := by
 rw [bZ (by simp [fo])] at hX
 simp +contextual -implicitDefEqProofs (maxSteps := 1000000) (maxDischargeDepth := 8) only [fo, aq, aa, implies_true, simprocAttr] at hX
 obtain ⟨r0, x0⟩ := Bx.uM h
 generalize ext m [.cells [.ptr b 0] 1 ah false] = M0 at *
 generalize hC : run U dm _ _ = C at hX
 obtain ⟨m9, rfl, r9, k9⟩ := Ka (P := P) (kids := []) ht o r0 (by simp) ⟨.inl ⟨rfl, rfl, rfl⟩, rfl⟩ (fun c hc => absurd gx.nil hc) (fun c hc => ⟨.inl hc, gx.nil⟩) (by simp) hC
 clear hC;simp +contextual -implicitDefEqProofs (maxSteps := 1000000) (maxDischargeDepth := 8) only [aq, aa, implies_true, simprocAttr] at hX
 subst hX;exact ⟨_, rfl, r9, x0.k.trans k9⟩
theorem Q4 (ht : bT l) (o : eJ l st) (h : Rd m b tg l st P) {p : Int} (hX : run U lb [.agg [.ptr b 0], .int .i64 p] m = X) : ∃ m', X = some (.ret (.int .i64 (EE l st).2) m') /\ Rd m' b tg l (EE l st).1 P /\ Kp m m' P := by
 rw [bZ (by simp [eh])] at hX
 have hT := jR (b := b) (tg := tg) (P := P) ht o
 simp +contextual -implicitDefEqProofs (maxSteps := 1000000) (maxDischargeDepth := 8) only [eh, hT, h, dk, ak, aq, aa, implies_true, simprocAttr] at hX
 obtain ⟨r0, x0⟩ := Bx.start h 19
 generalize bump (ext m [.cells [.ptr b 0] 1 ah false]) 19 = M0 at *
 generalize hC : run U eN _ _ = C at hX
 obtain ⟨m1, rfl, r1, k1⟩ := qu ht o r0 hC
 clear hC;have x1 := x0.step k1 (fun c hc => .inl hc) rH
 have g1 := Gr.name ht o.p
 have o1 := g1.ok o
 have y1 := x1.g
 have z1 := x1.n
 simp +contextual -implicitDefEqProofs (maxSteps := 1000000) (maxDischargeDepth := 8) only [y1, z1, aq, aa, implies_true, simprocAttr] at hX
 generalize hC : run U aS _ _ = C at hX
 obtain ⟨m2, rfl, r2, k2⟩ := od ht o1 r1 hC
 clear hC;have x2 := x1.step k2 (fun c hc => .inl hc) rH
 have o2 := (Gr.want ht o1.p (s := [61])).ok o1
 have y2 := x2.g
 have z2 := x2.n
 simp +contextual -implicitDefEqProofs (maxSteps := 1000000) (maxDischargeDepth := 8) only [y2, z2, aq, aa, implies_true, simprocAttr] at hX
 have rb := jT r2 10
 generalize hC : run U aY _ _ = C at hX
 obtain ⟨m7, rfl, r7, k7⟩ := zQ ht o2 rb hC
 clear hC;generalize hx : (kj l ((st.name l).want l [61])).2 = x at *
 have e7 := (k7.k _ (.inl rH)).trans x2.g
 have hM : ∀ B, Mem.mk m7.next (ext (Mem.mk (m2.next + 5) m7.gM) [B]).gM = m7.set (m2.next + 5) B := fun _ => rfl
 obtain ⟨r8, k8, n8, p8, Ph⟩ := drawn (c := m2.next + 5) r2 (by omega) (by omega) r7 k7 [.int .i64 x]
 simp +contextual -implicitDefEqProofs (maxSteps := 1000000) (maxDischargeDepth := 8) only [e7, hM, aq, aa, implies_true, simprocAttr] at hX
 generalize hC : run U dm _ _ = C at hX
 obtain ⟨m9, rfl, r9, k9⟩ := Ka (P := Pr P m.next (nb m.next 1)) (kids := [x]) ht ((tI ht o2).ok o2) r8 (by simp) (qm n8 rfl) (fun c hc => by rw [cu hc]; exact p8) (fun c hc => ⟨.inl hc, gx.of (Ph c hc)⟩) (by simp) hC
 clear hC;simp +contextual -implicitDefEqProofs (maxSteps := 1000000) (maxDischargeDepth := 8) only [aq, aa, implies_true, simprocAttr] at hX
 subst hX;subst hx;exact ⟨_, rfl, r9.bQ fun c hc => .inl hc, x2.k.trans ((k8.trans k9).bQ fun c hc => .inl hc)⟩
end
end
section
section
variable {m M : Mem} {b tg : Nat} {l : List Tok} {st : RS} {P Q : Nat -> Prop} {X : Option Fin}
structure WV (m M : Mem) (b : Nat) (t : Tok) (P : Nat -> Prop) : Prop extends Bx m M b P where
 t : M.get (nb m.next 20) = .cells [.int .i64 (t.kind : Int), .str t.text, .int .i64 (t.n : Int), .int .i64 (t.pos : Int)] 4 ap false
 tn : nb m.next 20 < M.next
theorem WV.step {M' : Mem} {R : Nat -> Prop} {t : Tok} (h : WV m M b t P) (k : Kp M M' R) (hP : ∀ c, P c -> R c) (h0 : R (nb m.next 0)) (h1 : R (nb m.next 20)) : WV m M' b t P := ⟨h.toBx.step k hP h0, (k.k _ h1).trans h.t, mr h.tn k.n⟩
theorem KE : Pr P m.next (nb m.next 21) (nb m.next 0) := og (by simp)
theorem K7 : Pr P m.next (nb m.next 21) (nb m.next 20) := og (by simp)
theorem WV.start (h : Rd m b tg l st P) (t : Tok) : Rd (ext (bump (ext m [.cells [.ptr b 0] 1 ah false]) 19) [.cells [.int .i64 (t.kind : Int), .str t.text, .int .i64 (t.n : Int), .int .i64 (t.pos : Int)] 4 ap false]) b tg l st (Pr P m.next (nb m.next 21)) /\ WV m (ext (bump (ext m [.cells [.ptr b 0] 1 ah false]) 19) [.cells [.int .i64 (t.kind : Int), .str t.text, .int .i64 (t.n : Int), .int .i64 (t.pos : Int)] 4 ap false]) b t P := by
 obtain ⟨r0, x0⟩ := Bx.start h 19
 have hn : (bump (ext m [.cells [.ptr b 0] 1 ah false]) 19).next = nb m.next 20 := by rw [br, ax, dE]; rfl
 have hold : ∀ c, c < m.next -> (bump (ext m [.cells [.ptr b 0] 1 ah false]) 19).get c = m.get c := fun c hc => by rw [gF, aG hc]
 generalize bump (ext m [.cells [.ptr b 0] 1 ah false]) 19 = M0 at *
 have k1 := lZ r0 [.cells [.int .i64 (t.kind : Int), .str t.text, .int .i64 (t.n : Int), .int .i64 (t.pos : Int)] 4 ap false]
 have e1 : (ext M0 [.cells [.int .i64 (t.kind : Int), .str t.text, .int .i64 (t.n : Int), .int .i64 (t.pos : Int)] 4 ap false]).get (nb M0.next 0) = .cells [.int .i64 (t.kind : Int), .str t.text, .int .i64 (t.n : Int), .int .i64 (t.pos : Int)] 4 ap false := by rw [aC rfl (by simp)]; rfl
 have en : (ext M0 [.cells [.int .i64 (t.kind : Int), .str t.text, .int .i64 (t.n : Int), .int .i64 (t.pos : Int)] 4 ap false]).next = nb m.next 21 := by rw [ax, hn, dE]; rfl
 refine ⟨?_, x0.step k1 (fun c hc => .inl hc) rH, ?_, ?_⟩
 ·rw [<- en]
  exact h.grown (by rw [en]; exact bH) fun c hc => by rw [aG (by rw [hn]; exact mr hc bH)]; exact hold c hc
 ·rw [hn, dE] at e1; exact e1
 ·rw [en]; unfold nb; simp
theorem Lp (ht : bT l) (o : eJ l st) (h : Rd m b tg l st P) (hX : run U nD [.agg [.ptr b 0]] m = X) : ∃ m', X = some (.ret (.int .i64 (lR l st).2) m') /\ Rd m' b tg l (lR l st).1 P /\ Kp m m' P := by
 rw [bZ (by simp [db])] at hX
 have hT := jR (b := b) (tg := tg) (P := P) ht o
 simp +contextual -implicitDefEqProofs (maxSteps := 1000000) (maxDischargeDepth := 8) only [db, hT, h, dk, ak, aq, aa, implies_true, simprocAttr] at hX
 obtain ⟨r0, x0⟩ := WV.start h (st.now l)
 generalize ext (bump (ext m [.cells [.ptr b 0] 1 ah false]) 19) _ = M0 at *
 generalize hC : run U eN _ _ = C at hX
 obtain ⟨m1, rfl, r1, k1⟩ := qu ht o r0 hC
 clear hC;have x1 := x0.step k1 (fun c hc => .inl hc) KE K7
 have g1 := Gr.name ht o.p
 have o1 := g1.ok o
 have y1 := x1.g
 have z1 := x1.n
 have u1 := x1.t
 have w1 := x1.tn
 have hT1 := jR (b := b) (tg := tg) (P := P) ht o1
 have hI1 := Vl (b := b) (tg := tg) (P := P) ht o1
 have MK := r1.bQ (Q := P) fun c hc => .inl hc
 have Ux : lR l st = if (st.name l).is l [40] then mc l ((xj l (st.name l)).1.put (nd 11 (xj l (st.name l)).2 0 (st.c7 l) (st.now l).pos)) (nd 22 [(xj l (st.name l)).1.iI (nd 11 (xj l (st.name l)).2 0 (st.c7 l) (st.now l).pos)] 0 [] (st.now l).pos)
   else if (st.name l).is l [91] then mc l (kj l ((CR l [91] [93] (st.name l)).1.want l [61])).1 (nd 14 [(CR l [91] [93] (st.name l)).2, (kj l ((CR l [91] [93] (st.name l)).1.want l [61])).2] 0 (st.c7 l) ((st.name l).now l).pos)
   else mc l (kj l ((st.name l).want l [61])).1 (nd 13 [(kj l ((st.name l).want l [61])).2] 0 (st.c7 l) (st.now l).pos) := rfl
 by_cases c1 : (st.name l).is l [40]
 ·simp +contextual -implicitDefEqProofs (maxSteps := 1000000) (maxDischargeDepth := 8) only [y1, z1, u1, w1, hI1, MK, c1, ak, dk, gl, aq, aa, implies_true, simprocAttr] at hX
  rw [Ux, if_pos c1];have ra := ak (k := 20) r1
  have xa := x1.step (aU (k := 20) r1) (fun c hc => .inl hc) KE K7
  rw [show nb m1.next 20 = (bump m1 20).next from br.symm] at hX;generalize bump m1 20 = mA at *
  have rb := jT ra 13
  generalize hC : run U jx _ _ = C at hX
  obtain ⟨m7, rfl, r7, k7⟩ := Yr ht o1 rb hC
  clear hC;have ga := Wa ht o1
  have oc : eJ l ((xj l (st.name l)).1.put (nd 11 (xj l (st.name l)).2 0 (st.c7 l) (st.now l).pos)) := ((g1.trans ga).lay (fun _ => by
   have h1 := CL (st := st) (l := l)
   have h2 := ga.t
   rw [h1.1, h1.2.2 c1.1] at h2;omega)).ok o
  generalize (xj l (st.name l)).1.put (nd 11 (xj l (st.name l)).2 0 (st.c7 l) (st.now l).pos) = s7 at *
  generalize (xj l (st.name l)).1.iI (nd 11 (xj l (st.name l)).2 0 (st.c7 l) (st.now l).pos) = x at *
  have e7 := (k7.k _ (.inl KE)).trans xa.g
  have t7 := (k7.k _ (.inl K7)).trans xa.t
  have hM : ∀ B, Mem.mk m7.next (ext (Mem.mk (mA.next + 7) m7.gM) [B]).gM = m7.set (mA.next + 7) B := fun _ => rfl
  obtain ⟨r8, k8, n8, p8, Ph⟩ := drawn (c := mA.next + 7) ra (by omega) (by omega) r7 k7 [.int .i64 x]
  have iJ := Ph _ K7
  have n7 : nb m.next 20 < m7.next := mr xa.tn k8.n
  simp +contextual -implicitDefEqProofs (maxSteps := 1000000) (maxDischargeDepth := 8) only [e7, t7, hM, iJ, n7, aq, aa, implies_true, simprocAttr] at hX
  generalize hC : run U dm _ _ = C at hX
  obtain ⟨m9, rfl, r9, k9⟩ := Ka (P := Pr P m.next (nb m.next 21)) (kids := [x]) ht oc r8 (by simp) (qm n8 rfl) (fun c hc => by rw [cu hc]; exact p8) (fun c hc => ⟨.inl hc, gx.of (Ph c hc)⟩) (by simp) hC
  clear hC;simp +contextual -implicitDefEqProofs (maxSteps := 1000000) (maxDischargeDepth := 8) only [aq, aa, implies_true, simprocAttr] at hX
  subst hX;exact ⟨_, rfl, r9.bQ fun c hc => .inl hc, xa.k.trans ((k8.trans k9).bQ fun c hc => .inl hc)⟩
 ·rw [Ux, if_neg c1]
  by_cases c2 : (st.name l).is l [91]
  ·simp +contextual -implicitDefEqProofs (maxSteps := 1000000) (maxDischargeDepth := 8) only [y1, z1, u1, w1, hI1, hT1, MK, c1, c2, ak, dk, gl, fG, aq, aa, implies_true, simprocAttr] at hX
   rw [if_pos c2];have ra := ak (k := 19) (ak (k := 20) (ak (k := 20) r1))
   have xa := ((x1.step (aU (k := 20) r1) (fun c hc => .inl hc) KE K7).step (aU (k := 20) (ak (k := 20) r1)) (fun c hc => .inl hc) KE K7).step (aU (k := 19) (ak (k := 20) (ak (k := 20) r1))) (fun c hc => .inl hc) KE K7
   generalize bump (bump (bump m1 20) 20) 19 = mA at *
   generalize hC : run U cz _ _ = C at hX
   obtain ⟨m2, rfl, r2, k2⟩ := aa0 ht o1 ra hC
   clear hC;have x2 := xa.step k2 (fun c hc => .inl hc) KE K7
   have o2 := (Vn ht o1 (a := [91]) (z := [93])).ok o1
   have y2 := x2.g
   have z2 := x2.n
   simp +contextual -implicitDefEqProofs (maxSteps := 1000000) (maxDischargeDepth := 8) only [y2, z2, aq, aa, implies_true, simprocAttr] at hX
   generalize hC : run U aS _ _ = C at hX
   obtain ⟨m3, rfl, r3, k3⟩ := od ht o2 r2 hC
   clear hC;have x3 := x2.step k3 (fun c hc => .inl hc) KE K7
   have o3 := (Gr.want ht o2.p (s := [61])).ok o2
   have y3 := x3.g
   have z3 := x3.n
   have ES : eE 2 [EV.int .i64 0] = [EV.int .i64 0, EV.int .i64 0] := rfl
   simp +contextual -implicitDefEqProofs (maxSteps := 1000000) (maxDischargeDepth := 8) only [y3, z3, ES, b8, fA, aq, aa, implies_true, simprocAttr] at hX
   have rb := jT r3 11
   generalize hC : run U aY _ _ = C at hX
   obtain ⟨m7, rfl, r7, k7⟩ := zQ ht o3 rb hC
   clear hC;generalize (CR l [91] [93] (st.name l)).2 = y at *
   have o7 := (tI ht o3).ok o3
   generalize (kj l ((CR l [91] [93] (st.name l)).1.want l [61])).1 = s7 at *
   generalize (kj l ((CR l [91] [93] (st.name l)).1.want l [61])).2 = x at *
   have e7 := (k7.k _ (.inl KE)).trans x3.g
   have hM : ∀ B, Mem.mk m7.next (ext (Mem.mk (m3.next + 6) m7.gM) [B]).gM = m7.set (m3.next + 6) B := fun _ => rfl
   obtain ⟨r8, k8, n8, p8, Ph⟩ := drawn (c := m3.next + 6) r3 (by omega) (by omega) r7 k7 [.int .i64 y, .int .i64 x]
   simp +contextual -implicitDefEqProofs (maxSteps := 1000000) (maxDischargeDepth := 8) only [e7, hM, ES, b8, fA, aq, aa, implies_true, simprocAttr] at hX
   generalize hC : run U dm _ _ = C at hX
   obtain ⟨m9, rfl, r9, k9⟩ := Ka (P := Pr P m.next (nb m.next 21)) (kids := [y, x]) ht o7 r8 (by simp) (qm n8 rfl) (fun c hc => by rw [cu hc]; exact p8) (fun c hc => ⟨.inl hc, gx.of (Ph c hc)⟩) (by simp) hC
   clear hC;simp +contextual -implicitDefEqProofs (maxSteps := 1000000) (maxDischargeDepth := 8) only [aq, aa, implies_true, simprocAttr] at hX
   subst hX;exact ⟨_, rfl, r9.bQ fun c hc => .inl hc, x3.k.trans ((k8.trans k9).bQ fun c hc => .inl hc)⟩
  ·simp +contextual -implicitDefEqProofs (maxSteps := 1000000) (maxDischargeDepth := 8) only [y1, z1, u1, w1, hI1, hT1, MK, c1, c2, ak, dk, gl, fG, aq, aa, implies_true, simprocAttr] at hX
   rw [if_neg c2];have ra := ak (k := 20) (ak (k := 20) r1)
   have xa := (x1.step (aU (k := 20) r1) (fun c hc => .inl hc) KE K7).step (aU (k := 20) (ak (k := 20) r1)) (fun c hc => .inl hc) KE K7
   generalize bump (bump m1 20) 20 = mA at *
   generalize hC : run U aS _ _ = C at hX
   obtain ⟨m3, rfl, r3, k3⟩ := od ht o1 ra hC
   clear hC;have x3 := xa.step k3 (fun c hc => .inl hc) KE K7
   have o3 := (Gr.want ht o1.p (s := [61])).ok o1
   have y3 := x3.g
   have z3 := x3.n
   have u3 := x3.t
   have w3 := x3.tn
   simp +contextual -implicitDefEqProofs (maxSteps := 1000000) (maxDischargeDepth := 8) only [y3, z3, u3, w3, aq, aa, implies_true, simprocAttr] at hX
   have rb := jT r3 11
   generalize hC : run U aY _ _ = C at hX
   obtain ⟨m7, rfl, r7, k7⟩ := zQ ht o3 rb hC
   clear hC;have o7 := (tI ht o3).ok o3
   generalize (kj l ((st.name l).want l [61])).1 = s7 at *
   generalize (kj l ((st.name l).want l [61])).2 = x at *
   have e7 := (k7.k _ (.inl KE)).trans x3.g
   have t7 := (k7.k _ (.inl K7)).trans x3.t
   have hM : ∀ B, Mem.mk m7.next (ext (Mem.mk (m3.next + 5) m7.gM) [B]).gM = m7.set (m3.next + 5) B := fun _ => rfl
   obtain ⟨r8, k8, n8, p8, Ph⟩ := drawn (c := m3.next + 5) r3 (by omega) (by omega) r7 k7 [.int .i64 x]
   have iJ := Ph _ K7
   have n7 : nb m.next 20 < m7.next := mr x3.tn k8.n
   simp +contextual -implicitDefEqProofs (maxSteps := 1000000) (maxDischargeDepth := 8) only [e7, t7, hM, iJ, n7, aq, aa, implies_true, simprocAttr] at hX
   generalize hC : run U dm _ _ = C at hX
   obtain ⟨m9, rfl, r9, k9⟩ := Ka (P := Pr P m.next (nb m.next 21)) (kids := [x]) ht o7 r8 (by simp) (qm n8 rfl) (fun c hc => by rw [cu hc]; exact p8) (fun c hc => ⟨.inl hc, gx.of (Ph c hc)⟩) (by simp) hC
   clear hC;simp +contextual -implicitDefEqProofs (maxSteps := 1000000) (maxDischargeDepth := 8) only [aq, aa, implies_true, simprocAttr] at hX
   subst hX;exact ⟨_, rfl, r9.bQ fun c hc => .inl hc, x3.k.trans ((k8.trans k9).bQ fun c hc => .inl hc)⟩
end
end
section
section
variable {m M : Mem} {b tg : Nat} {l : List Tok} {st : RS} {P Q : Nat -> Prop} {X : Option Fin}
def Wu : List cm := [Hh, yn, Hi]
theorem O1 (ht : bT l) (o : eJ l st) {bx bw : Nat} (h : Rd m b tg l st P) (qA : m.get bx = .cells [.ptr b 0] 1 ah false) (XX : m.get bw = .cells [.str Hh, .str yn, .str Hi] 1 dT false) (px : P bx) (pw : P bw) {fr : Fr} (h1 : fr.get 1 = .ptr bx 0) (h2 : fr.get 2 = .int .i64 0) (h5 : fr.get 5 = .slice bw 0 3 (some 3)) (h6 : fr.get 6 = .int .i64 3) (h7 : fr.get 7 = .int .i64 0) (hd : fr.defers = []) :
  ∃ o, exec U (.loop dv) fr m = some o /\ ((∃ i, i < 3 /\ (∀ j, j < i -> ¬ st.is l (Wu.getD j [])) /\ st.is l (Wu.getD i []) /\ ∃ fr' m', o = .ret fr' m' /\ fr'.get 2 = .int .i64 ((i + 1 : Nat) : Int) /\ fr'.defers = [] /\ Rd m' b tg l st.next P /\ Kp m m' P) \/
   ((∀ j, j < 3 -> ¬ st.is l (Wu.getD j [])) /\ ∃ fr' m', o = .exit 0 fr' m' /\ fr'.get 1 = .ptr bx 0 /\ fr'.defers = [] /\ Rd m' b tg l st P /\ Kp m m' P)) := by
 refine fC (σ := Nat) (fun i fr M => i <= 3 /\ (∀ j, j < i -> ¬ st.is l (Wu.getD j [])) /\ Rd M b tg l st P /\ Kp m M P /\ fr.get 1 = .ptr bx 0 /\ fr.get 2 = .int .i64 0 /\ fr.get 5 = .slice bw 0 3 (some 3) /\ fr.get 6 = .int .i64 3 /\ fr.get 7 = .int .i64 (i : Int) /\ fr.defers = []) (fun i => 3 - i) _ ?_ 0 fr m ⟨kW _, fun j hj => absurd hj (by omega), h, ⟨eX _, fun _ _ => rfl⟩, h1, h2, h5, h6, h7, hd⟩
 rintro i fr M ⟨hi, mS, r, k, h1, h2, h5, h6, h7, hd⟩
 generalize hX : exec U dv fr M = X
 have ex := (k.k _ px).trans qA
 have ew := (k.k _ pw).trans XX
 have nx := r.mB px
 have nw := r.mB pw
 by_cases bg : i < 3
 ·have hc : (i : Int) < 3 := by omega
  have ol := bJ (i := i) (by omega)
  have hg : ([.str Hh, .str yn, .str Hi] : List EV)[i]? = some (.str (Wu.getD i [])) := by
   match i, bg with
   | 0, _ => rfl
   | 1, _ => rfl
   | 2, _ => rfl
  have H0 : idx 3 (.int .i64 (i : Int)) = some i := bi bg
  simp +contextual -implicitDefEqProofs (maxSteps := 1000000) (maxDischargeDepth := 8) only [dv, h1, h2, h5, h6, h7, hd, hc, ex, ew, nx, nw, H0, hg, ol, Nat.mul_one, aq, aa, implies_true, simprocAttr] at hX
  generalize Xp : Wu.getD i [] = w at *
  generalize hC : run U aX _ _ = C at hX
  obtain ⟨m1, rfl, r1, k1⟩ := pg ht o r hC
  clear hC;by_cases hq : st.is l w
  ·rw [eA hq] at hX
   simp +contextual -implicitDefEqProofs (maxSteps := 1000000) (maxDischargeDepth := 8) only [hd, ol, aq, aa, implies_true, simprocAttr] at hX
   subst hX;rw [show st.skip l w = st.next from if_pos hq] at r1;exact il (.inl ⟨i, bg, mS, by rw [Xp]; exact hq, _, _, rfl, by simp only [ao, Nat.reduceBEq ], by simp only [hd, ao, Nat.reduceBEq ], r1, k.trans k1⟩)
  ·rw [eU hq] at hX
   simp +contextual -implicitDefEqProofs (maxSteps := 1000000) (maxDischargeDepth := 8) only [h7, hd, ol, aq, aa, implies_true, simprocAttr] at hX
   subst hX;rw [show st.skip l w = st from if_neg hq] at r1;refine dq (i + 1) (by omega) ⟨bg, fun j hj => ?_, r1, k.trans k1, by simp only [h1, ao, Nat.reduceBEq ], by simp only [h2, ao, Nat.reduceBEq ], by simp only [h5, ao, Nat.reduceBEq ], by simp only [h6, ao, Nat.reduceBEq ], by simp only [ao, Nat.reduceBEq ], by simp only [hd, ao, Nat.reduceBEq ]⟩
   by_cases q : j = i
   ·rw [q, Xp]; exact hq
   ·exact mS j (by omega)
 ·have hc : ¬ ((i : Int) < 3) := by omega
  simp +contextual -implicitDefEqProofs (maxSteps := 1000000) (maxDischargeDepth := 8) only [dv, h6, h7, hd, hc, aq, aa, implies_true, simprocAttr] at hX
  subst hX;exact dr (.inr ⟨fun j hj => mS j (by omega), _, _, rfl, by simp only [h1, ao, Nat.reduceBEq ], by simp only [hd, ao, Nat.reduceBEq ], r, k⟩)
theorem Q7 (ht : bT l) (o : eJ l st) (h : Rd m b tg l st P) (hX : run U iO [.agg [.ptr b 0]] m = X) : ∃ m', X = some (.ret (.int .i64 (ly l st).2) m') /\ Rd m' b tg l (ly l st).1 P /\ Kp m m' P := by
 rw [bZ (by simp [dL])] at hX
 generalize hL : exec (UT B K) (aE.loop dv) = L at hX
 have ES : eE 3 [EV.str []] = [EV.str [], EV.str [], EV.str []] := rfl
 simp +contextual -implicitDefEqProofs (maxSteps := 1000000) (maxDischargeDepth := 8) only [dL, ES, b8, fA, aq, aa, implies_true, simprocAttr] at hX
 subst hL;have r0 := h.It [.cells [.ptr b 0] 1 ah false, .cells [.str Hh, .str yn, .str Hi] 1 dT false]
 have k0 := lZ h [.cells [.ptr b 0] 1 ah false, .cells [.str Hh, .str yn, .str Hi] 1 dT false]
 have e0 : (ext m [.cells [.ptr b 0] 1 ah false, .cells [.str Hh, .str yn, .str Hi] 1 dT false]).get (nb m.next 0) = .cells [.ptr b 0] 1 ah false := by rw [aC rfl (by simp)]; rfl
 have e1 : (ext m [.cells [.ptr b 0] 1 ah false, .cells [.str Hh, .str yn, .str Hi] 1 dT false]).get (nb m.next 1) = .cells [.str Hh, .str yn, .str Hi] 1 dT false := by rw [aC rfl (by simp)]; rfl
 have p0 : Pr P m.next (nb m.next 2) (nb m.next 0) := og (by simp)
 have p1 : Pr P m.next (nb m.next 2) (nb m.next 1) := og (by simp)
 generalize hC : exec (UT B K) (aE.loop dv) _ _ = C at hX
 obtain ⟨o', rfl, hh⟩ := ft hC (O1 ht o r0 e0 e1 p0 p1 (by simp only [ao, Nat.reduceBEq ]) (by simp only [ao, Nat.reduceBEq ]) (by simp only [ao, Nat.reduceBEq ]) (by simp only [ao, Nat.reduceBEq ]) (by simp only [ao, Nat.reduceBEq ]) (by simp only [ao, Nat.reduceBEq ]))
 clear hC;rcases hh with ⟨i, hi, mS, zt, fr', m', rfl, f2, fd, r1, k1⟩ | ⟨mS, fr', m', rfl, f1, fd, r1, k1⟩
 ·have hk : ly l st = (st.next, ((i + 1 : Nat) : Int)) := by
   match i, hi with
   | 0, _ => exact if_pos zt
   | 1, _ => exact (if_neg (mS 0 (by omega))).trans (if_pos zt)
   | 2, _ => exact (if_neg (mS 0 (by omega))).trans ((if_neg (mS 1 (by omega))).trans (if_pos zt))
  simp +contextual -implicitDefEqProofs (maxSteps := 1000000) (maxDischargeDepth := 8) only [f2, fd, aq, aa, implies_true, simprocAttr] at hX
  subst hX;rw [hk];exact ⟨_, rfl, r1.bQ fun c hc => .inl hc, k0.trans (k1.bQ fun c hc => .inl hc)⟩
 ·have hk : ly l st = (st.fail 8 (st.now l).pos, 0) := (if_neg (mS 0 (by omega))).trans ((if_neg (mS 1 (by omega))).trans (if_neg (mS 2 (by omega))))
  have e2 := (k1.k _ p0).trans e0
  have n2 := r1.mB p0
  have hT := jR (b := b) (tg := tg) (P := P) ht o
  have r2 := r1.bQ (Q := P) fun c hc => .inl hc
  have k2 := k0.trans (k1.bQ fun c hc => .inl hc)
  have n4 : ([.int .i64 ((st.now l).kind : Int), .str (st.now l).text, .int .i64 ((st.now l).n : Int), .int .i64 ((st.now l).pos : Int)] : List EV)[3]? = some (.int .i64 ((st.now l).pos : Int)) := rfl
  simp +contextual -implicitDefEqProofs (maxSteps := 1000000) (maxDischargeDepth := 8) only [f1, fd, e2, n2, n4, hT, r2, ak, aq, aa, implies_true, simprocAttr] at hX
  generalize hC : run U ed _ _ = C at hX
  obtain ⟨m5, rfl, r5, k5⟩ := J5 (ak (ak r2)) hC
  clear hC;simp +contextual -implicitDefEqProofs (maxSteps := 1000000) (maxDischargeDepth := 8) only [fd, aq, aa, implies_true, simprocAttr] at hX
  subst hX;rw [hk];exact ⟨_, rfl, r5, ((k2.trans (aU r2)).trans (aU (ak r2))).trans k5⟩
end
end
section
def PK (l : List Tok) (tg k : Nat) : Prop := ∀ (st : RS) (m : Mem) (b : Nat) (P : Nat -> Prop) (s1 : RS) (r : List Int) (X : Option Fin), eJ l st -> 8 * (l.length - st.pos) + PC.block.bn < k -> oG l k .block st = some (s1, r) -> Rd m b tg l st P -> run U eR [.agg [.ptr b 0]] m = X -> ∃ m', X = some (.ret (.int .i64 (r.headD 0)) m') /\ Rd m' b tg l s1 P /\ Kp m m' P
section
variable {m M : Mem} {b tg : Nat} {l : List Tok} {st : RS} {P Q : Nat -> Prop} {X : Option Fin}
theorem rG {v : EV} {out : List Int} {x : Int} {n0 : Nat} (h : Rd m b tg l st (Pv P v)) (hP : ∀ c, P c -> c < n0) (pR : n0 <= m.next) (cF : ja m v (is out) out.length 1 n0) (hl : out.length < 1000000) :
  ∃ v2 M2, fV (ext m [.cells [.int .i64 x] 1 aP false]) aP 1 v (.slice (nb m.next 0) 0 1 (some 1)) = some (v2, M2) /\ ja M2 v2 (is (out ++ [x])) (out ++ [x]).length 1 n0 /\ Rd M2 b tg l st (Pv P v2) /\ Kp m M2 P := by
 obtain ⟨ha, jI⟩ := fg (e := aP) (cF.ext [.cells [.int .i64 x] 1 aP false]) (by rw [ax]; exact pU pR bH) (sW rfl) rfl (by decide) (by unfold room; omega)
 have Rq := Rd.grow (e := aP) (n := out.length + 1) (cs := is out ++ [.int .i64 x]) (dk (ys := [.cells [.int .i64 x] 1 aP false]) h) fun c hc => cF.lt (.inr (hP c hc))
 have BU : Kp (ext m [.cells [.int .i64 x] 1 aP false]) (grow (ext m [.cells [.int .i64 x] 1 aP false]) v aP 1 (is out ++ [.int .i64 x])) P := ⟨by rw [gu]; exact bH, fun c hc => iW ((dk (ys := [.cells [.int .i64 x] 1 aP false]) h).mB (.inl hc)) (cF.lt (.inr (hP c hc)))⟩
 refine ⟨_, _, ha, ?_, Rq, ((LD h).bQ fun c hc => .inl hc).trans BU⟩
 rw [CP, kL]; exact jI
theorem sl (ht : bT l) {k : Nat} (o : eJ l st) (hk : 8 * (l.length - st.pos) + PC.block.bn < k) {s1 : RS} {r : List Int} (e : oG l k .block st = some (s1, r)) : Gr l st s1 /\ ∃ x, r = [x] := by
 obtain ⟨s2, r2, e2, g, a, _⟩ := lf ht k .block st o.p hk trivial
 rw [e] at e2;obtain ⟨rfl, rfl⟩ := eQ _ _ _ _ ▸ pN e2
 exact ⟨g, jV a⟩
theorem Qt {c n : Nat} {cap : Option Nat} (hc : Q c) : ∀ a, Pv P (.slice c 0 n cap) a -> P a \/ Q a := fun a ha => ha.elim .inl fun q => .inr (by rw [cu q]; exact hc)
theorem KL (ht : bT l) {k : Nat} (ih : PK l tg k) (o : eJ l st) (hk : 8 * (l.length - st.pos) + PC.block.bn < k) (h : Rd m b tg l st P) {p : Nat} {s1 : RS} {r : List Int} (bO : DV l (oG l k .block) p st = some (s1, r)) (hX : run U jW [.agg [.ptr b 0], .int .i64 (p : Int)] m = X) : ∃ m', X = some (.ret (.int .i64 (r.headD 0)) m') /\ Rd m' b tg l s1 P /\ Kp m m' P := by
 rw [bZ (by simp [da])] at hX
 have ES : eE 2 [EV.int .i64 0] = [EV.int .i64 0, EV.int .i64 0] := rfl
 simp +contextual -implicitDefEqProofs (maxSteps := 1000000) (maxDischargeDepth := 8) only [da, ES, b8, fA, aq, aa, implies_true, simprocAttr] at hX
 have en : (ext m [.cells [.ptr b 0] 1 ah false]).next = nb m.next 1 := ax
 obtain ⟨r0, x0⟩ := Bx.uM h
 generalize ext m [.cells [.ptr b 0] 1 ah false] = M0 at *
 rw [<- en] at hX;have rb := jT r0 7
 have ge := tI ht o
 have oe := ge.ok o
 obtain ⟨s2, r2, e2, g2, _, _⟩ := lf ht k .block (kj l st).1 oe.p (by have := ge.p; simp only [PC.bn] at *; omega) trivial
 obtain ⟨_, y, rfl⟩ := sl ht oe (by have := ge.p; simp only [PC.bn] at *; omega) e2
 have FQ : some (s2.put (nd 16 [(kj l st).2, y] 0 [] p), [s2.iI (nd 16 [(kj l st).2, y] 0 [] p)]) = some (s1, r) := by
  rw [<- bO]; unfold DV; simp only [e2, Option.bind_some]; rfl
 generalize hC : run U aY _ _ = C at hX
 obtain ⟨m7, rfl, r7, k7⟩ := zQ ht o rb hC
 clear hC;generalize (kj l st).2 = x at *
 generalize (kj l st).1 = s7 at *
 have e7 := (k7.k _ (.inl rH)).trans x0.g
 simp +contextual -implicitDefEqProofs (maxSteps := 1000000) (maxDischargeDepth := 8) only [e7, ES, b8, fA, aq, aa, implies_true, simprocAttr] at hX
 generalize hC : run U eR _ _ = C at hX
 obtain ⟨m8, rfl, r8, k8⟩ := ih _ _ _ _ _ _ _ oe (by have := ge.p; simp only [PC.bn] at *; omega) e2 r7 hC
 clear hC;have hM : ∀ B, Mem.mk m8.next (ext (Mem.mk (M0.next + 5) m8.gM) [B]).gM = m8.set (M0.next + 5) B := fun _ => rfl
 obtain ⟨r9, k9, n9, p9, TG⟩ := drawn (c := M0.next + 5) r0 (by omega) (by omega) r8 (k7.trans k8) [.int .i64 x, .int .i64 y]
 have e8 : (m8.set (M0.next + 5) (.cells [.int .i64 x, .int .i64 y] 1 aP false)).get (nb m.next 0) = .cells [.ptr b 0] 1 ah false := by rw [aB (TG _ rH)]; exact (k8.k _ (.inl rH)).trans e7
 have n8 : nb m.next 0 < (m8.set (M0.next + 5) (.cells [.int .i64 x, .int .i64 y] 1 aP false)).next := r9.mB (.inl rH)
 simp +contextual -implicitDefEqProofs (maxSteps := 1000000) (maxDischargeDepth := 8) only [hM, ES, b8, fA, List.headD_cons, aq, aa, implies_true, simprocAttr] at hX
 have cF := qm (m := m8) (cs := [.int .i64 x, .int .i64 y]) n9 rfl
 generalize m8.set (M0.next + 5) (.cells [.int .i64 x, .int .i64 y] 1 aP false) = M9 at *
 simp +contextual -implicitDefEqProofs (maxSteps := 1000000) (maxDischargeDepth := 8) only [e8, n8, aq, aa, implies_true, simprocAttr] at hX
 generalize hC : run U aD _ _ = C at hX
 obtain ⟨m5, rfl, r5, k5⟩ := pP (P := Pr P m.next (nb m.next 1)) (kids := [x, y]) ht (g2.ok oe) r9 (by simp) cF (fun c hc => by rw [cu hc]; exact p9) (fun c hc => ⟨.inl hc, gx.of (TG c hc)⟩) (by simp) hC
 clear hC;simp +contextual -implicitDefEqProofs (maxSteps := 1000000) (maxDischargeDepth := 8) only [aq, aa, implies_true, simprocAttr] at hX
 subst hX;obtain ⟨rfl, rfl⟩ := eQ _ _ _ _ ▸ pN FQ
 exact ⟨_, rfl, r5.bQ fun c hc => .inl hc, x0.k.trans ((k9.trans k5).bQ fun c hc => .inl hc)⟩
theorem U2 {m : Mem} {c n lo : Nat} {cs : List EV} (mU : lo <= c) (hc : c < m.next) (hl : cs.length = n) : ja (m.set c (.cells cs 1 aP false)) (.slice c 0 n (some n)) cs n 1 lo :=
 ⟨.inr ⟨c, some n, aP, rfl, mU, hc, bM, .inr rfl⟩, by omega⟩
theorem Of (ht : bT l) {k : Nat} (ih : PK l tg k) (o : eJ l st) (hk : 8 * (l.length - st.pos) + PC.block.bn < k) (h : Rd m b tg l st P) {p : Nat} {s1 : RS} {r : List Int} (bO : Xk l (oG l k .block) p st = some (s1, r)) (hX : run U kF [.agg [.ptr b 0], .int .i64 (p : Int)] m = X) : ∃ m', X = some (.ret (.int .i64 (r.headD 0)) m') /\ Rd m' b tg l s1 P /\ Kp m m' P := by
 rw [bZ (by simp [dK])] at hX
 have ES : eE 2 [EV.int .i64 0] = [EV.int .i64 0, EV.int .i64 0] := rfl
 simp +contextual -implicitDefEqProofs (maxSteps := 1000000) (maxDischargeDepth := 8) only [dK, ES, b8, fA, aq, aa, implies_true, simprocAttr] at hX
 have en : (ext m [.cells [.ptr b 0] 1 ah false]).next = nb m.next 1 := ax
 obtain ⟨r0, x0⟩ := Bx.uM h
 generalize ext m [.cells [.ptr b 0] 1 ah false] = M0 at *
 rw [<- en] at hX;have rb := jT r0 7
 have ge := tI ht o
 have oe := ge.ok o
 obtain ⟨s2, r2, e2, g2, _, _⟩ := lf ht k .block (kj l st).1 oe.p (by have := ge.p; simp only [PC.bn] at *; omega) trivial
 obtain ⟨_, y, rfl⟩ := sl ht oe (by have := ge.p; simp only [PC.bn] at *; omega) e2
 have FQ : (if s2.is l P3 then (oG l k .block s2.next).bind fun c => xU c.1 (nd 15 ((kj l st).2 :: [y] ++ c.2) 0 [] p) else xU s2 (nd 15 ((kj l st).2 :: [y]) 0 [] p)) = some (s1, r) := by
  rw [<- bO]; unfold Xk; simp only [e2, Option.bind_some]
 generalize hC : run U aY _ _ = C at hX
 obtain ⟨m7, rfl, r7, k7⟩ := zQ ht o rb hC
 clear hC;generalize (kj l st).2 = x at *
 generalize (kj l st).1 = s7 at *
 have e7 := (k7.k _ (.inl rH)).trans x0.g
 simp +contextual -implicitDefEqProofs (maxSteps := 1000000) (maxDischargeDepth := 8) only [e7, ES, b8, fA, aq, aa, implies_true, simprocAttr] at hX
 generalize hC : run U eR _ _ = C at hX
 obtain ⟨m8, rfl, r8, k8⟩ := ih _ _ _ _ _ _ _ oe (by have := ge.p; simp only [PC.bn] at *; omega) e2 r7 hC
 clear hC;have hM : ∀ B, Mem.mk m8.next (ext (Mem.mk (M0.next + 5) m8.gM) [B]).gM = m8.set (M0.next + 5) B := fun _ => rfl
 obtain ⟨r9, k9, n9, p9, TG⟩ := drawn (c := M0.next + 5) r0 (by omega) (by omega) r8 (k7.trans k8) [.int .i64 x, .int .i64 y]
 have e8 : (m8.set (M0.next + 5) (.cells [.int .i64 x, .int .i64 y] 1 aP false)).get (nb m.next 0) = .cells [.ptr b 0] 1 ah false := by rw [aB (TG _ rH)]; exact (k8.k _ (.inl rH)).trans e7
 have n8 : nb m.next 0 < (m8.set (M0.next + 5) (.cells [.int .i64 x, .int .i64 y] 1 aP false)).next := r9.mB (.inl rH)
 simp +contextual -implicitDefEqProofs (maxSteps := 1000000) (maxDischargeDepth := 8) only [hM, ES, b8, fA, List.headD_cons, aq, aa, implies_true, simprocAttr] at hX
 have cF := U2 (m := m8) (cs := [.int .i64 x, .int .i64 y]) (Nat.le_add_right M0.next 5) n9 rfl
 have hn9 : M0.next <= (m8.set (M0.next + 5) (.cells [.int .i64 x, .int .i64 y] 1 aP false)).next := by show M0.next <= m8.next; omega
 generalize m8.set (M0.next + 5) (.cells [.int .i64 x, .int .i64 y] 1 aP false) = M9 at *
 have r9 := r9.bQ (Q := Pv (Pr P m.next (nb m.next 1)) (.slice (M0.next + 5) 0 2 (some 2))) fun c hc => (Qt p9 c hc).elim .inl id
 have hP1 : ∀ c, Pr P m.next (nb m.next 1) c -> c < M0.next := fun c hc => r0.mB hc
 have hs : nb (M0.next + 5) 0 = M0.next + 5 := rfl
 rw [hs] at hX;generalize EV.slice (M0.next + 5) 0 2 (some 2) = kv at *
 have o9 := g2.ok oe
 have hkv : kv.cells = some [kv] := by rcases cF.is with ⟨rfl, _⟩ | ⟨_, _, _, rfl, _⟩ <;> rfl
 simp +contextual -implicitDefEqProofs (maxSteps := 1000000) (maxDischargeDepth := 8) only [e8, n8, aq, aa, implies_true, simprocAttr] at hX
 generalize hC : run U aX _ _ = C at hX
 obtain ⟨m10, rfl, YK, Re⟩ := pg ht o9 r9 hC
 clear hC;have cF := cF.kp Re fun c hc => .inr hc
 have e10 := (Re.k _ (.inl rH)).trans e8
 have n10 := mr n8 Re.n
 have abo := pU hn9 Re.n
 by_cases hq : s2.is l P3
 ·rw [eA (show s2.is l [101, 108, 115, 101] from hq)] at hX
  rw [if_pos hq] at FQ;rw [show s2.skip l [101, 108, 115, 101] = s2.next from if_pos hq] at YK
  have FC := is_lt ht o9.p hq
  have gnx := Gr.next FC
  have YM := gnx.ok o9
  have WE : 8 * (l.length - s2.next.pos) + PC.block.bn < k := by have := ge.p; have := g2.p; simp only [PC.bn, RS.next] at *; omega
  obtain ⟨s3, r3, e3, g3, _, _⟩ := lf ht k .block s2.next YM.p WE trivial
  obtain ⟨_, z, rfl⟩ := sl ht YM WE e3
  simp only [e3, Option.bind_some, xU] at FQ;simp +contextual -implicitDefEqProofs (maxSteps := 1000000) (maxDischargeDepth := 8) only [e10, n10, aq, aa, implies_true, simprocAttr] at hX
  generalize hC : run U eR _ _ = C at hX
  obtain ⟨m11, rfl, r11, Ut⟩ := ih _ _ _ _ _ _ _ YM WE e3 YK hC
  clear hC;have cF := cF.kp Ut fun c hc => .inr hc
  have e11 := (Ut.k _ (.inl rH)).trans e10
  have n11 := mr n10 Ut.n
  obtain ⟨v2, M2, ha, jI, r12, Tj⟩ := rG (out := [x, y]) (x := z) r11 hP1 (pU abo Ut.n) cF (by simp)
  have e12 := (Tj.k _ rH).trans e11
  have n12 := mr n11 Tj.n
  simp +contextual -implicitDefEqProofs (maxSteps := 1000000) (maxDischargeDepth := 8) only [ha, e12, n12, List.headD_cons, aq, aa, implies_true, simprocAttr] at hX
  have Vq : v2.cells = some [v2] := by rcases jI.is with ⟨rfl, _⟩ | ⟨_, _, _, rfl, _⟩ <;> rfl
  simp +contextual -implicitDefEqProofs (maxSteps := 1000000) (maxDischargeDepth := 8) only [Vq, aq, aa, implies_true, simprocAttr] at hX
  generalize hC : run U aD _ _ = C at hX
  obtain ⟨m5, rfl, r5, k5⟩ := pP (P := Pr P m.next (nb m.next 1)) (kids := [x, y] ++ [z]) ht (g3.ok YM) r12 (by simp) jI.Vf (fun c hc => .inr hc) (fun c hc => ⟨.inl hc, jI.lt (.inr (hP1 c hc))⟩) (by simp) hC
  clear hC;simp +contextual -implicitDefEqProofs (maxSteps := 1000000) (maxDischargeDepth := 8) only [aq, aa, implies_true, simprocAttr] at hX
  subst hX;obtain ⟨rfl, rfl⟩ := eQ _ _ _ _ ▸ pN FQ
  exact ⟨_, rfl, r5.bQ fun c hc => .inl hc, x0.k.trans ((k9.trans ((Re.bQ fun c hc => .inl hc).trans ((Ut.bQ fun c hc => .inl hc).trans (Tj.trans k5)))).bQ fun c hc => .inl hc)⟩
 ·rw [eU (show ¬ s2.is l [101, 108, 115, 101] from hq)] at hX
  rw [if_neg hq] at FQ;rw [show s2.skip l [101, 108, 115, 101] = s2 from if_neg hq] at YK
  simp only [xU] at FQ;simp +contextual -implicitDefEqProofs (maxSteps := 1000000) (maxDischargeDepth := 8) only [e10, n10, hkv, aq, aa, implies_true, simprocAttr] at hX
  generalize hC : run U aD _ _ = C at hX
  obtain ⟨m5, rfl, r5, k5⟩ := pP (P := Pr P m.next (nb m.next 1)) (kids := [x, y]) ht o9 YK (by simp) cF.Vf (fun c hc => .inr hc) (fun c hc => ⟨.inl hc, cF.lt (.inr (hP1 c hc))⟩) (by simp) hC
  clear hC;simp +contextual -implicitDefEqProofs (maxSteps := 1000000) (maxDischargeDepth := 8) only [aq, aa, implies_true, simprocAttr] at hX
  subst hX;obtain ⟨rfl, rfl⟩ := eQ _ _ _ _ ▸ pN FQ
  exact ⟨_, rfl, r5.bQ fun c hc => .inl hc, x0.k.trans ((k9.trans ((Re.bQ fun c hc => .inl hc).trans k5)).bQ fun c hc => .inl hc)⟩
theorem RT (ht : bT l) {k : Nat} (ih : PK l tg k) (o : eJ l st) (hk : 8 * (l.length - st.pos) + PC.block.bn < k) (h : Rd m b tg l st P) {p : Int} {s1 : RS} {r : List Int} (bO : RU l (oG l k .block) st = some (s1, r)) (hX : run U jX [.agg [.ptr b 0], .int .i64 p] m = X) : ∃ m', X = some (.ret (.int .i64 (r.headD 0)) m') /\ Rd m' b tg l s1 P /\ Kp m m' P := by
 rw [bZ (by simp [dc])] at hX
 have hT := jR (b := b) (tg := tg) (P := P) ht o
 have ES : eE 3 [EV.int .i64 0] = [EV.int .i64 0, EV.int .i64 0, EV.int .i64 0] := rfl
 simp +contextual -implicitDefEqProofs (maxSteps := 1000000) (maxDischargeDepth := 8) only [dc, hT, h, dk, ak, aq, aa, implies_true, simprocAttr] at hX
 obtain ⟨r0, x0⟩ := Bx.start h 19
 generalize bump (ext m [.cells [.ptr b 0] 1 ah false]) 19 = M0 at *
 generalize hC : run U eN _ _ = C at hX
 obtain ⟨m1, rfl, r1, k1⟩ := qu ht o r0 hC
 clear hC;have x1 := x0.step k1 (fun c hc => .inl hc) rH
 have g1 := Gr.name ht o.p
 have o1 := g1.ok o
 have y1 := x1.g
 have z1 := x1.n
 simp +contextual -implicitDefEqProofs (maxSteps := 1000000) (maxDischargeDepth := 8) only [y1, z1, aq, aa, implies_true, simprocAttr] at hX
 generalize hC : run U aS _ _ = C at hX
 obtain ⟨m2, rfl, r2, k2⟩ := od ht o1 r1 hC
 clear hC;have x2 := x1.step k2 (fun c hc => .inl hc) rH
 have g2 := g1.trans (Gr.want ht o1.p (s := [61]))
 have o2 := g2.ok o
 have y2 := x2.g
 have z2 := x2.n
 simp +contextual -implicitDefEqProofs (maxSteps := 1000000) (maxDischargeDepth := 8) only [y2, z2, aq, aa, implies_true, simprocAttr] at hX
 generalize hC : run U aY _ _ = C at hX
 obtain ⟨m3, rfl, r3, k3⟩ := zQ ht o2 r2 hC
 clear hC;have x3 := x2.step k3 (fun c hc => .inl hc) rH
 have g3 := g2.trans (tI ht o2)
 have o3 := g3.ok o
 have y3 := x3.g
 have z3 := x3.n
 simp +contextual -implicitDefEqProofs (maxSteps := 1000000) (maxDischargeDepth := 8) only [y3, z3, aq, aa, implies_true, simprocAttr] at hX
 generalize hC : run U aS _ _ = C at hX
 obtain ⟨m4, rfl, r4, k4⟩ := od ht o3 r3 hC
 clear hC;have x4 := x3.step k4 (fun c hc => .inl hc) rH
 have g4 := g3.trans (Gr.want ht o3.p (s := [44]))
 have o4 := g4.ok o
 have y4 := x4.g
 have z4 := x4.n
 simp +contextual -implicitDefEqProofs (maxSteps := 1000000) (maxDischargeDepth := 8) only [y4, z4, ES, b8, fA, aq, aa, implies_true, simprocAttr] at hX
 have rb := jT r4 8
 have ge := g4.trans (tI ht o4)
 have oe := ge.ok o
 have hke : 8 * (l.length - (kj l ((kj l ((st.name l).want l [61])).1.want l [44])).1.pos) + PC.block.bn < k := by have := ge.p; simp only [PC.bn] at *; omega
 obtain ⟨s2, r2', e2, g2', _, _⟩ := lf ht k .block _ oe.p hke trivial
 obtain ⟨_, y, rfl⟩ := sl ht oe hke e2
 have FQ : some (s2.put (nd 17 [(kj l ((st.name l).want l [61])).2, (kj l ((kj l ((st.name l).want l [61])).1.want l [44])).2, y] 0 (st.c7 l) (st.now l).pos), [s2.iI (nd 17 [(kj l ((st.name l).want l [61])).2, (kj l ((kj l ((st.name l).want l [61])).1.want l [44])).2, y] 0 (st.c7 l) (st.now l).pos)]) = some (s1, r) := by
  rw [<- bO]; unfold RU; simp only [e2, Option.bind_some]; rfl
 generalize hC : run U aY _ _ = C at hX
 obtain ⟨m7, rfl, r7, k7⟩ := zQ ht o4 rb hC
 clear hC;generalize (kj l ((kj l ((st.name l).want l [61])).1.want l [44])).2 = x at *
 generalize (kj l ((kj l ((st.name l).want l [61])).1.want l [44])).1 = s7 at *
 generalize (kj l ((st.name l).want l [61])).2 = w at *
 have e7 := (k7.k _ (.inl rH)).trans x4.g
 simp +contextual -implicitDefEqProofs (maxSteps := 1000000) (maxDischargeDepth := 8) only [e7, ES, b8, fA, aq, aa, implies_true, simprocAttr] at hX
 generalize hC : run U eR _ _ = C at hX
 obtain ⟨m8, rfl, r8, k8⟩ := ih _ _ _ _ _ _ _ oe hke e2 r7 hC
 clear hC;have hM : ∀ B, Mem.mk m8.next (ext (Mem.mk (m4.next + 6) m8.gM) [B]).gM = m8.set (m4.next + 6) B := fun _ => rfl
 obtain ⟨r9, k9, n9, p9, TG⟩ := drawn (c := m4.next + 6) r4 (by omega) (by omega) r8 (k7.trans k8) [.int .i64 w, .int .i64 x, .int .i64 y]
 have e8 : (m8.set (m4.next + 6) (.cells [.int .i64 w, .int .i64 x, .int .i64 y] 1 aP false)).get (nb m.next 0) = .cells [.ptr b 0] 1 ah false := by rw [aB (TG _ rH)]; exact (k8.k _ (.inl rH)).trans e7
 have n8 : nb m.next 0 < (m8.set (m4.next + 6) (.cells [.int .i64 w, .int .i64 x, .int .i64 y] 1 aP false)).next := r9.mB (.inl rH)
 simp +contextual -implicitDefEqProofs (maxSteps := 1000000) (maxDischargeDepth := 8) only [hM, ES, b8, fA, List.headD_cons, aq, aa, implies_true, simprocAttr] at hX
 have cF := qm (m := m8) (cs := [.int .i64 w, .int .i64 x, .int .i64 y]) n9 rfl
 generalize m8.set (m4.next + 6) (.cells [.int .i64 w, .int .i64 x, .int .i64 y] 1 aP false) = M9 at *
 simp +contextual -implicitDefEqProofs (maxSteps := 1000000) (maxDischargeDepth := 8) only [e8, n8, aq, aa, implies_true, simprocAttr] at hX
 generalize hC : run U aD _ _ = C at hX
 obtain ⟨m5, rfl, r5, k5⟩ := pP (P := Pr P m.next (nb m.next 1)) (kids := [w, x, y]) ht (g2'.ok oe) r9 (by simp) cF (fun c hc => by rw [cu hc]; exact p9) (fun c hc => ⟨.inl hc, gx.of (TG c hc)⟩) (by simp) hC
 clear hC;simp +contextual -implicitDefEqProofs (maxSteps := 1000000) (maxDischargeDepth := 8) only [aq, aa, implies_true, simprocAttr] at hX
 subst hX;obtain ⟨rfl, rfl⟩ := eQ _ _ _ _ ▸ pN FQ
 exact ⟨_, rfl, r5.bQ fun c hc => .inl hc, x4.k.trans ((k9.trans k5).bQ fun c hc => .inl hc)⟩
end
end
section
section
variable {m M : Mem} {b tg : Nat} {l : List Tok} {st : RS} {P Q : Nat -> Prop} {X : Option Fin}
def St : List cm := [Og, Wi, AG, Oh, AH, oS, vC, DY]
def YJ : List Nat := [lb, kF, jW, jX, nW, nV, nU, nT]
def rB : List EV := [.str Og, .func lb [] [], .str Wi, .func kF [] [], .str AG, .func jW [] [], .str Oh, .func jX [] [], .str AH, .func nW [] [], .str oS, .func nV [] [], .str vC, .func nU [] [], .str DY, .func nT [] []]
theorem Oy (m : Mem) : run U FN [] m = some (.ret (.slice (nb m.next 0) 0 8 (some 8)) (ext m [.cells rB 2 cT false])) := by
 rw [bZ (by simp [gq])]
 have ES : eE 8 [EV.str [], EV.aO] = [EV.str [], EV.aO, EV.str [], EV.aO, EV.str [], EV.aO, EV.str [], EV.aO, EV.str [], EV.aO, EV.str [], EV.aO, EV.str [], EV.aO, EV.str [], EV.aO] := rfl
 generalize hX : pO _ _ = X
 simp +contextual -implicitDefEqProofs (maxSteps := 1000000) (maxDischargeDepth := 8) only [gq, ES, b8, fA, aq, aa, implies_true, simprocAttr] at hX
 exact hX.symm
theorem Ov (ht : bT l) (o : eJ l st) {bx bs : Nat} (h : Rd m b tg l st P) (qA : m.get bx = .cells [.ptr b 0] 1 ah false) (XY : m.get bs = .cells rB 2 cT false) (px : P bx) (ps : P bs) {p : Nat} {s1 : RS} {r : List Int}
  (bI : ∀ i, i < 8 -> (∀ j, j < i -> ¬ st.is l (St.getD j [])) -> st.is l (St.getD i []) -> ∀ (M : Mem) (X : Option Fin), Rd M b tg l st.next P -> run U (YJ.getD i 0) [.agg [.ptr b 0], .int .i64 (p : Int)] M = X -> ∃ m', X = some (.ret (.int .i64 (r.headD 0)) m') /\ Rd m' b tg l s1 P /\ Kp M m' P)
  {fr : Fr} (h1 : fr.get 1 = .ptr bx 0) (h3 : fr.get 3 = .int .i64 (p : Int)) (CW : fr.get 10 = .slice bs 0 8 (some 8)) (IR : fr.get 11 = .int .i64 8) (KJ : fr.get 12 = .int .i64 0) (hd : fr.defers = []) :
  ∃ o, exec U (.loop b9) fr m = some o /\ ((∃ i, i < 8 /\ (∀ j, j < i -> ¬ st.is l (St.getD j [])) /\ st.is l (St.getD i []) /\ ∃ fr' m', o = .ret fr' m' /\ fr'.get 2 = .int .i64 (r.headD 0) /\ fr'.defers = [] /\ Rd m' b tg l s1 P /\ Kp m m' P) \/
   ((∀ j, j < 8 -> ¬ st.is l (St.getD j [])) /\ ∃ fr' m', o = .exit 0 fr' m' /\ fr'.get 1 = .ptr bx 0 /\ fr'.defers = [] /\ Rd m' b tg l st P /\ Kp m m' P)) := by
 refine fC (σ := Nat) (fun i fr M => i <= 8 /\ (∀ j, j < i -> ¬ st.is l (St.getD j [])) /\ Rd M b tg l st P /\ Kp m M P /\ fr.get 1 = .ptr bx 0 /\ fr.get 3 = .int .i64 (p : Int) /\ fr.get 10 = .slice bs 0 8 (some 8) /\ fr.get 11 = .int .i64 8 /\ fr.get 12 = .int .i64 (i : Int) /\ fr.defers = []) (fun i => 8 - i) _ ?_ 0 fr m ⟨kW _, fun j hj => absurd hj (by omega), h, ⟨eX _, fun _ _ => rfl⟩, h1, h3, CW, IR, KJ, hd⟩
 rintro i fr M ⟨hi, mS, r0, k, h1, h3, CW, IR, KJ, hd⟩
 generalize hX : exec U b9 fr M = X
 have ex := (k.k _ px).trans qA
 have es := (k.k _ ps).trans XY
 have nx := r0.mB px
 have ns := r0.mB ps
 by_cases bg : i < 8
 ·have hc : (i : Int) < 8 := by omega
  have ol := bJ (i := i) (by omega)
  have H0 : idx 8 (.int .i64 (i : Int)) = some i := bi bg
  have XC : partOf (some 2) rB (i * 2) = some (.agg [.str (St.getD i []), .func (YJ.getD i 0) [] []]) := by
   match i, bg with
   | 0, _ => rfl
   | 1, _ => rfl
   | 2, _ => rfl
   | 3, _ => rfl
   | 4, _ => rfl
   | 5, _ => rfl
   | 6, _ => rfl
   | 7, _ => rfl
  have hci := bI i bg mS
  simp +contextual -implicitDefEqProofs (maxSteps := 1000000) (maxDischargeDepth := 8) only [b9, h1, h3, CW, IR, KJ, hd, hc, ex, es, nx, ns, H0, ol, XC, aq, aa, implies_true, simprocAttr] at hX
  generalize Xp : St.getD i [] = w at *
  generalize YJ.getD i 0 = f at *
  have r1 := r0.It [.cells [.str w, .func f [] []] 2 cT false]
  have k1 := lZ r0 [.cells [.str w, .func f [] []] 2 cT false]
  have e1 : (ext M [.cells [.str w, .func f [] []] 2 cT false]).get (nb M.next 0) = .cells [.str w, .func f [] []] 2 cT false := by rw [aC rfl (by simp)]; rfl
  have p1 : Pr P M.next (nb M.next 1) (nb M.next 0) := og (by simp)
  generalize hC : run U aX _ _ = C at hX
  obtain ⟨m2, rfl, r2, k2⟩ := pg ht o r1 hC
  clear hC;have e2 := (k2.k _ p1).trans e1
  have n2 := r2.mB p1
  have PV := (k2.k _ (.inl px)).trans ((k1.k _ px).trans ex)
  have Ul := r2.mB (.inl px)
  have k3 := k.trans (k1.trans (k2.bQ fun c hc => .inl hc))
  have r3 := r2.bQ (Q := P) fun c hc => .inl hc
  by_cases hq : st.is l w
  ·rw [eA hq] at hX
   rw [show st.skip l w = st.next from if_pos hq] at r3;simp +contextual -implicitDefEqProofs (maxSteps := 1000000) (maxDischargeDepth := 8) only [h1, h3, e2, n2, PV, Ul, aq, aa, implies_true, simprocAttr] at hX
   generalize hC : run U f _ _ = C at hX
   obtain ⟨m4, rfl, r4, k4⟩ := hci hq _ _ r3 hC
   clear hC;simp +contextual -implicitDefEqProofs (maxSteps := 1000000) (maxDischargeDepth := 8) only [hd, aq, aa, implies_true, simprocAttr] at hX
   subst hX;exact il (.inl ⟨i, bg, mS, by rw [Xp]; exact hq, _, _, rfl, by simp only [ao, Nat.reduceBEq ], by simp only [hd, ao, Nat.reduceBEq ], r4, k3.trans k4⟩)
  ·rw [eU hq] at hX
   rw [show st.skip l w = st from if_neg hq] at r3;simp +contextual -implicitDefEqProofs (maxSteps := 1000000) (maxDischargeDepth := 8) only [KJ, ol, aq, aa, implies_true, simprocAttr] at hX
   subst hX;refine dq (i + 1) (by omega) ⟨bg, fun j hj => ?_, r3, k3, by simp only [h1, ao, Nat.reduceBEq ], by simp only [h3, ao, Nat.reduceBEq ], by simp only [CW, ao, Nat.reduceBEq ], by simp only [IR, ao, Nat.reduceBEq ], by simp only [ao, Nat.reduceBEq ], by simp only [hd, ao, Nat.reduceBEq ]⟩
   by_cases q : j = i
   ·rw [q, Xp]; exact hq
   ·exact mS j (by omega)
 ·have hc : ¬ ((i : Int) < 8) := by omega
  simp +contextual -implicitDefEqProofs (maxSteps := 1000000) (maxDischargeDepth := 8) only [b9, IR, KJ, hd, hc, aq, aa, implies_true, simprocAttr] at hX
  subst hX;exact dr (.inr ⟨fun j hj => mS j (by omega), _, _, rfl, by simp only [h1, ao, Nat.reduceBEq ], by simp only [hd, ao, Nat.reduceBEq ], r0, k⟩)
def Wb (l : List Tok) (tg k : Nat) : Prop := ∀ (st : RS) (m : Mem) (b : Nat) (P : Nat -> Prop) (s1 : RS) (r : List Int) (X : Option Fin), eJ l st -> 8 * (l.length - st.pos) + PC.stmt.bn < k -> oG l k .stmt st = some (s1, r) -> Rd m b tg l st P -> run U kM [.agg [.ptr b 0]] m = X -> ∃ m', X = some (.ret (.int .i64 (r.headD 0)) m') /\ Rd m' b tg l s1 P /\ Kp m m' P
theorem Ou (ht : bT l) {k : Nat} (ih : PK l tg k) : Wb l tg (k + 1) := by
 intro st m b P s1 r X o hk bO h hX
 rw [bZ (by simp [cd])] at hX
 generalize hL : exec (UT B K) (aE.loop b9) = L at hX
 have hT := jR (b := b) (tg := tg) (P := P) ht o
 have hS := Oy
 simp +contextual -implicitDefEqProofs (maxSteps := 1000000) (maxDischargeDepth := 8) only [cd, hT, hS, h, dk, ak, aq, aa, implies_true, simprocAttr] at hX
 subst hL;have pR : (bump (ext m [.cells [.ptr b 0] 1 ah false]) 19).next = nb m.next 20 := by rw [br, ax, dE]; rfl
 have hold : ∀ c, c < m.next -> (bump (ext m [.cells [.ptr b 0] 1 ah false]) 19).get c = m.get c := fun c hc => by rw [gF, aG hc]
 have eb : (bump (ext m [.cells [.ptr b 0] 1 ah false]) 19).get (nb m.next 0) = .cells [.ptr b 0] 1 ah false := by rw [gF, aC rfl (by simp)]; rfl
 generalize bump (ext m [.cells [.ptr b 0] 1 ah false]) 19 = MA at *
 have en : (ext MA [.cells rB 2 cT false]).next = nb m.next 21 := by rw [ax, pR, dE]; rfl
 have r0 : Rd (ext MA [.cells rB 2 cT false]) b tg l st (Pr P m.next (nb m.next 21)) := by
  have := h.grown (M := ext MA [.cells rB 2 cT false]) (by rw [en]; exact bH) fun c hc => by rw [aG (by rw [pR]; exact mr hc bH)]; exact hold c hc
  rwa [en] at this
 have k0 : Kp m (ext MA [.cells rB 2 cT false]) P := h.kp (by rw [en]; exact bH) fun c hc => by rw [aG (by rw [pR]; exact mr hc bH)]; exact hold c hc
 have e0 : (ext MA [.cells rB 2 cT false]).get (nb m.next 0) = .cells [.ptr b 0] 1 ah false := by rw [aG (by rw [pR]; unfold nb; omega)]; exact eb
 have e1 : (ext MA [.cells rB 2 cT false]).get (nb m.next 20) = .cells rB 2 cT false := by
  have : (ext MA [.cells rB 2 cT false]).get (nb MA.next 0) = .cells rB 2 cT false := by rw [aC rfl (by simp)]; rfl
  rw [pR, dE] at this; exact this
 generalize ext MA [.cells rB 2 cT false] = M0 at *
 have bI : ∀ i, i < 8 -> (∀ j, j < i -> ¬ st.is l (St.getD j [])) -> st.is l (St.getD i []) -> ∀ (M : Mem) (X : Option Fin), Rd M b tg l st.next (Pr P m.next (nb m.next 21)) -> run U (YJ.getD i 0) [.agg [.ptr b 0], .int .i64 ((st.now l).pos : Int)] M = X -> ∃ m', X = some (.ret (.int .i64 (r.headD 0)) m') /\ Rd m' b tg l s1 (Pr P m.next (nb m.next 21)) /\ Kp M m' (Pr P m.next (nb m.next 21)) := by
  intro i hi mS zt M X hr hX
  have hn := is_lt ht o.p zt
  have on : eJ l st.next := (Gr.next hn).ok o
  have VG : 8 * (l.length - st.next.pos) + PC.block.bn < k := by simp only [PC.bn, RS.next] at *; omega
  simp only [oG] at bO;have n0 : 0 < i -> ¬ st.is l Og := fun q => mS 0 q
  have n1 : 1 < i -> ¬ st.is l Wi := fun q => mS 1 q
  have n2 : 2 < i -> ¬ st.is l AG := fun q => mS 2 q
  have n3 : 3 < i -> ¬ st.is l Oh := fun q => mS 3 q
  have n4 : 4 < i -> ¬ st.is l AH := fun q => mS 4 q
  have n5 : 5 < i -> ¬ st.is l oS := fun q => mS 5 q
  have n6 : 6 < i -> ¬ st.is l vC := fun q => mS 6 q
  match i, hi with
  | 0, _ =>
   rw [if_pos (show st.is l Og from zt)] at bO;obtain ⟨rfl, rfl⟩ := eQ _ _ _ _ ▸ pN bO
   exact Q4 ht on hr hX
  | 1, _ =>
   rw [if_neg (n0 (by omega)), if_pos (show st.is l Wi from zt)] at bO;exact Of ht ih on VG hr bO hX
  | 2, _ =>
   rw [if_neg (n0 (by omega)), if_neg (n1 (by omega)), if_pos (show st.is l AG from zt)] at bO;exact KL ht ih on VG hr bO hX
  | 3, _ =>
   rw [if_neg (n0 (by omega)), if_neg (n1 (by omega)), if_neg (n2 (by omega)), if_pos (show st.is l Oh from zt)] at bO;exact RT ht ih on VG hr bO hX
  | 4, _ =>
   rw [if_neg (n0 (by omega)), if_neg (n1 (by omega)), if_neg (n2 (by omega)), if_neg (n3 (by omega)), if_pos (show st.is l AH from zt)] at bO;obtain ⟨rfl, rfl⟩ := eQ _ _ _ _ ▸ pN bO
   exact Mo ht on hr hX
  | 5, _ =>
   rw [if_neg (n0 (by omega)), if_neg (n1 (by omega)), if_neg (n2 (by omega)), if_neg (n3 (by omega)), if_neg (n4 (by omega)), if_pos (show st.is l oS from zt)] at bO;obtain ⟨rfl, rfl⟩ := eQ _ _ _ _ ▸ pN bO
   exact Px ht on hr hX
  | 6, _ =>
   rw [if_neg (n0 (by omega)), if_neg (n1 (by omega)), if_neg (n2 (by omega)), if_neg (n3 (by omega)), if_neg (n4 (by omega)), if_neg (n5 (by omega)), if_pos (show st.is l vC from zt)] at bO;obtain ⟨rfl, rfl⟩ := eQ _ _ _ _ ▸ pN bO
   exact Qs ht on hr hX
  | 7, _ =>
   rw [if_neg (n0 (by omega)), if_neg (n1 (by omega)), if_neg (n2 (by omega)), if_neg (n3 (by omega)), if_neg (n4 (by omega)), if_neg (n5 (by omega)), if_neg (n6 (by omega)), if_pos (show st.is l DY from zt)] at bO;obtain ⟨rfl, rfl⟩ := eQ _ _ _ _ ▸ pN bO
   exact K8 ht on hr hX
 generalize hC : exec (UT B K) (aE.loop b9) _ _ = C at hX
 obtain ⟨o', rfl, hh⟩ := ft hC (Ov ht o r0 e0 e1 KE K7 bI (by simp only [ao, Nat.reduceBEq ]) (by simp only [ao, Nat.reduceBEq ]) (by simp only [ao, Nat.reduceBEq ]) (by simp only [ao, Nat.reduceBEq ]) (by simp only [ao, Nat.reduceBEq ]) (by simp only [ao, Nat.reduceBEq ]))
 clear hC;rcases hh with ⟨i, hi, mS, zt, fr', m', rfl, f2, fd, r1, k1⟩ | ⟨mS, fr', m', rfl, f1, fd, r1, k1⟩
 ·simp +contextual -implicitDefEqProofs (maxSteps := 1000000) (maxDischargeDepth := 8) only [f2, fd, aq, aa, implies_true, simprocAttr] at hX
  subst hX;exact ⟨_, rfl, r1.bQ fun c hc => .inl hc, k0.trans (k1.bQ fun c hc => .inl hc)⟩
 ·simp only [oG] at bO
  rw [if_neg (show ¬ st.is l Og from mS 0 (by omega)), if_neg (show ¬ st.is l Wi from mS 1 (by omega)), if_neg (show ¬ st.is l AG from mS 2 (by omega)), if_neg (show ¬ st.is l Oh from mS 3 (by omega)), if_neg (show ¬ st.is l AH from mS 4 (by omega)), if_neg (show ¬ st.is l oS from mS 5 (by omega)), if_neg (show ¬ st.is l vC from mS 6 (by omega)), if_neg (show ¬ st.is l DY from mS 7 (by omega))] at bO;obtain ⟨rfl, rfl⟩ := eQ _ _ _ _ ▸ pN bO
  have e2 := (k1.k _ KE).trans e0
  have n2 := r1.mB KE
  simp +contextual -implicitDefEqProofs (maxSteps := 1000000) (maxDischargeDepth := 8) only [f1, fd, e2, n2, aq, aa, implies_true, simprocAttr] at hX
  generalize hC : run U nD _ _ = C at hX
  obtain ⟨m3, rfl, r3, k3⟩ := Lp ht o r1 hC
  clear hC;simp +contextual -implicitDefEqProofs (maxSteps := 1000000) (maxDischargeDepth := 8) only [fd, aq, aa, implies_true, simprocAttr] at hX
  subst hX;exact ⟨_, rfl, r3.bQ fun c hc => .inl hc, k0.trans ((k1.trans k3).bQ fun c hc => .inl hc)⟩
end
end
end Go.Proofs.YtdiccmapankckaaDoor.Ev
