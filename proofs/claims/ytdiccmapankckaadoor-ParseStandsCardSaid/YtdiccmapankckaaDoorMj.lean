/- WPa8, WPa9, WPa10, PUp, WTree4, WExprT, PLs, WIx0, WPl1, WIxi, WIxs, WPl2, WPl3, WPl4, WPl5, WPl6, WPl7, WPl8. -/
import Derived.Lib.IndexAny
import Derived.Test.YtdiccmapankckaaDoorMi
set_option linter.unusedSimpArgs false
set_option linter.unusedVariables false
set_option linter.unusedSectionVars false
set_option linter.defProp false
set_option maxRecDepth 20000
set_option maxHeartbeats 8000000
namespace Go.Proofs.YtdiccmapankckaaDoor.Ev
open Go
section
def N6 (l : List Tok) (tg k : Nat) : Prop := ∀ (out : List Int) (v pv : EV) (st : RS) (fr : Fr) (m : Mem) (b n0 bx : Nat) (P : Nat -> Prop) (s1 : RS) (r : List Int) (X : Option Out), eJ l st -> 8 * (l.length - st.pos) + (PC.ll out).bn < k -> st.fe = 0 -> out.length <= st.pos -> oG l k (.ll out) st = some (s1, r) -> Rd m b tg l st (Pv P v) -> (∀ c, P c -> c < n0) -> n0 <= m.next -> ja m v (is out) out.length 1 n0 -> (out = [] -> v = .ae) -> m.get bx = .cells [.ptr b 0] 1 ah false -> P bx -> fr.get 1 = .ptr bx 0 -> fr.get 3 = pv -> fr.get 4 = v -> fr.defers = [] -> exec U (.loop dY) fr m = X -> ∃ fr' m' v', X = some (.exit 0 fr' m') /\ fr'.get 1 = .ptr bx 0 /\ fr'.get 3 = pv /\ fr'.get 4 = v' /\ fr'.defers = [] /\ ja m' v' (is r) r.length 1 n0 /\ Rd m' b tg l s1 (Pv P v') /\ Kp m m' P /\ (r = [] -> v' = .ae)
section
variable {tg : Nat} {l : List Tok}
theorem Qg (ht : bT l) {k : Nat} {st : RS} (o : eJ l st) (hk : 8 * (l.length - st.pos) + PC.stmt.bn < k) {s1 : RS} {r : List Int} (e : oG l k .stmt st = some (s1, r)) : Gr l st s1 /\ (s1.fe = 0 -> st.pos < s1.pos) /\ ∃ x, r = [x] := by
 obtain ⟨s2, r2, e2, g, a, mo⟩ := lf ht k .stmt st o.p hk trivial
 rw [e] at e2;obtain ⟨rfl, rfl⟩ := eQ _ _ _ _ ▸ pN e2
 exact ⟨g, mo, jV a⟩
theorem Mr (ht : bT l) {k : Nat} (JK : Wb l tg k) (LN : N6 l tg k) : N6 l tg (k + 1) := by
 intro out v pv st fr m b n0 bx P s1 r X o hk jh hm bO h hP pR cF hz qA px h1 h3 h4 hd hX
 have hkv : v.cells = some [v] := by rcases cF.is with ⟨rfl, _⟩ | ⟨_, _, _, rfl, _⟩ <;> rfl
 rw [eS] at hX;generalize hL : exec U (.loop dY) = L at hX
 have nx := h.mB (.inl px)
 simp +contextual -implicitDefEqProofs (maxSteps := 1000000) (maxDischargeDepth := 8) only [dY, h1, h3, h4, hd, qA, nx, aq, aa, implies_true, simprocAttr] at hX
 generalize hC : run U aX _ _ = C at hX
 obtain ⟨m1, rfl, r1, k1⟩ := pg ht o h hC
 clear hC;have EN := cF.kp k1 fun c hc => .inr hc
 have Y8 := (k1.k _ (.inl px)).trans qA
 have nx1 := r1.mB (.inl px)
 simp only [oG] at bO;by_cases hq : st.is l [125]
 ·rw [eA hq] at hX
  rw [if_pos hq] at bO;rw [show st.skip l [125] = st.next from if_pos hq] at r1
  obtain ⟨rfl, rfl⟩ := eQ _ _ _ _ ▸ pN bO
  simp +contextual -implicitDefEqProofs (maxSteps := 1000000) (maxDischargeDepth := 8) only [h1, h3, h4, hd, aq, aa, implies_true, simprocAttr] at hX
  subst hX;exact ⟨_, _, v, rfl, by simp only [h1, ao, Nat.reduceBEq ], by simp only [h3, ao, Nat.reduceBEq ], by simp only [h4, ao, Nat.reduceBEq ], by simp only [hd, ao, Nat.reduceBEq ], EN, r1, k1.bQ fun c hc => .inl hc, hz⟩
 ·rw [eU hq] at hX
  rw [if_neg hq] at bO;rw [show st.skip l [125] = st from if_neg hq] at r1
  simp +contextual -implicitDefEqProofs (maxSteps := 1000000) (maxDischargeDepth := 8) only [h1, h3, h4, hd, Y8, nx1, aq, aa, implies_true, simprocAttr] at hX
  have PS : 8 * (l.length - st.pos) + PC.stmt.bn < k := by simp only [PC.bn] at *; omega
  obtain ⟨s2, r2, e, _⟩ := lf ht k .stmt st o.p PS trivial
  obtain ⟨g, mo, x, rfl⟩ := Qg ht o PS e
  simp only [e, Option.bind_some] at bO;have o2 := g.ok o
  generalize hC : run U kM _ _ = C at hX
  obtain ⟨m2, rfl, r2, k2⟩ := JK _ _ _ _ _ _ _ o PS e r1 hC
  clear hC;have jI := EN.kp k2 fun c hc => .inr hc
  have PV := (k2.k _ (.inl px)).trans Y8
  have Tj := (k1.trans k2).bQ (Q := P) fun c hc => .inl hc
  obtain ⟨v2, M2, ha, mE, r3, k3⟩ := rG (out := out) (x := x) r2 hP (pU pR Tj.n) jI (by have := o.p; have := ht.lt; omega)
  have ex3 := (k3.k _ px).trans PV
  have nx3 := r3.mB (.inl px)
  have Wv := Tj.trans k3
  have hF := xM (b := b) (tg := tg) (l := l) (st := s2) (P := Pv P v2)
  by_cases hf : s2.fe = 0
  ·rw [if_pos hf] at bO
   simp +contextual -implicitDefEqProofs (maxSteps := 1000000) (maxDischargeDepth := 8) only [h1, h3, h4, hd, ha, ex3, nx3, hF, r3, hf, List.headD_cons, gl, aq, aa, implies_true, simprocAttr] at hX
   subst hL;have bg := mo hf
   have IN := g.pl
   obtain ⟨fr', m', v', rfl, q1, q3, q4, qd, qo, qr, qk, qz⟩ := LN (out ++ [x]) v2 pv _ _ _ _ n0 bx P _ _ _ o2 (by simp only [PC.bn] at *; omega) hf (by rw [kL, List.length_singleton]; omega) bO (ak r3) hP (pU pR (pU Wv.n (by rw [br]; exact bH))) (mE.kp (aU r3) fun c hc => .inr hc) (by simp) ex3 px (by simp only [h1, ao, Nat.reduceBEq ]) (by simp only [h3, ao, Nat.reduceBEq ]) (by simp only [ao, Nat.reduceBEq ]) (by simp only [hd, ao, Nat.reduceBEq ]) hX
   exact ⟨fr', m', v', rfl, q1, q3, q4, qd, qo, qr, (Wv.trans ((aU r3).bQ fun c hc => .inl hc)).trans qk, qz⟩
  ·rw [if_neg hf] at bO
   obtain ⟨rfl, rfl⟩ := eQ _ _ _ _ ▸ pN bO
   simp +contextual -implicitDefEqProofs (maxSteps := 1000000) (maxDischargeDepth := 8) only [h1, h3, h4, hd, ha, ex3, nx3, hF, r3, hf, List.headD_cons, fG, aq, aa, implies_true, simprocAttr] at hX
   subst hX;exact ⟨_, _, v2, rfl, by simp only [h1, ao, Nat.reduceBEq ], by simp only [h3, ao, Nat.reduceBEq ], by simp only [ao, Nat.reduceBEq ], by simp only [hd, ao, Nat.reduceBEq ], mE.kp (aU r3) fun c hc => .inr hc, ak r3, Wv.trans ((aU r3).bQ fun c hc => .inl hc), by simp⟩
theorem Mq (ht : bT l) {k : Nat} (ih : N6 l tg k) : PK l tg (k + 1) := by
 intro st m b P s1 r X o hk bO h hX
 rw [bZ (by simp [de])] at hX
 generalize hL : exec (UT B K) (aE.loop dY) = L at hX
 have hT := jR (b := b) (tg := tg) (P := P) ht o
 simp +contextual -implicitDefEqProofs (maxSteps := 1000000) (maxDischargeDepth := 8) only [de, hT, h, dk, ak, aq, aa, implies_true, simprocAttr] at hX
 obtain ⟨r0, x0⟩ := Bx.start h 19
 generalize bump (ext m [.cells [.ptr b 0] 1 ah false]) 19 = M0 at *
 generalize hC : run U aS _ _ = C at hX
 obtain ⟨m1, rfl, r1, k1⟩ := od ht o r0 hC
 clear hC;have x1 := x0.step k1 (fun c hc => .inl hc) rH
 have y1 := x1.g
 have z1 := x1.n
 simp only [oG] at bO;by_cases hq : st.is l [123]
 ·rw [eA hq] at hX
  rw [if_pos hq] at bO;have hn := is_lt ht o.p hq
  have on : eJ l st.next := (Gr.next hn).ok o
  rw [show st.want l [123] = st.next from if_pos hq] at r1
  simp +contextual -implicitDefEqProofs (maxSteps := 1000000) (maxDischargeDepth := 8) only [y1, z1, aq, aa, implies_true, simprocAttr] at hX
  generalize hC : run U eM _ _ = C at hX
  obtain ⟨m2, rfl, r2, k2⟩ := Jg ht on r1 hC
  clear hC;have x2 := x1.step k2 (fun c hc => .inl hc) rH
  have y2 := x2.g
  have z2 := x2.n
  have go := Gr.open hn (p := ((st.now l).pos : Int))
  have oo := go.ok o
  obtain ⟨q1, q2, q3⟩ := lM (st := st.next) (p := ((st.now l).pos : Int))
  by_cases hf : (st.next.open (st.now l).pos).fe = 0
  ·rw [if_pos hf] at bO
   have GM : 8 * (l.length - (st.next.open (st.now l).pos).pos) + (PC.ll []).bn < k := by rw [q1]; simp only [PC.bn, RS.next] at *; omega
   obtain ⟨s2, rr, e, g, a, _⟩ := lf ht k (.ll []) (st.next.open (st.now l).pos) oo.p GM ⟨hf, kW _⟩
   simp only [e, Option.bind_some, xU] at bO;simp +contextual -implicitDefEqProofs (maxSteps := 1000000) (maxDischargeDepth := 8) only [y2, z2, hf, gl, aq, aa, implies_true, simprocAttr] at hX
   subst hL;generalize hC : exec (UT B K) (aE.loop dY) _ _ = C at hX
   obtain ⟨fr', m3, v, rfl, f1, f3, f4, fd, cF, r3, k3, hz⟩ := ih [] .ae (.int .i64 ((st.now l).pos : Int)) _ _ _ _ m2.next (nb m.next 0) (Pr P m.next (nb m.next 1)) _ _ _ oo GM hf (kW _) e r2.pv (fun c hc => r2.mB hc) (eX _) ⟨.inl ⟨rfl, rfl, rfl⟩, rfl⟩ (fun _ => rfl) y2 rH (by simp only [ao, Nat.reduceBEq ]) (by simp only [ao, Nat.reduceBEq ]) (by simp only [ao, Nat.reduceBEq ]) (by simp only [ao, Nat.reduceBEq ]) hC
   clear hC;have x3 := x2.step k3 (fun c hc => .inl hc) rH
   have y3 := x3.g
   have z3 := x3.n
   have o3 := g.ok oo
   have gc := (go.trans g).close (by have := g.d0; rw [q2] at this; simp only [RS.next] at this; exact this)
   have WA : v.cells = some [v] := by rcases cF.is with ⟨rfl, _⟩ | ⟨_, _, _, rfl, _⟩ <;> rfl
   simp +contextual -implicitDefEqProofs (maxSteps := 1000000) (maxDischargeDepth := 8) only [f1, f3, f4, fd, y3, z3, aq, aa, implies_true, simprocAttr] at hX
   generalize hC : run U dH _ _ = C at hX
   obtain ⟨m4, rfl, r4, k4⟩ := Bd ht o3 r3 hC
   clear hC;have x4 := x3.step k4 (fun c hc => .inl (.inl hc)) (.inl rH)
   have y4 := x4.g
   have z4 := x4.n
   have nI := cF.kp k4 fun c hc => .inr hc
   simp +contextual -implicitDefEqProofs (maxSteps := 1000000) (maxDischargeDepth := 8) only [f1, f3, f4, fd, y4, z4, WA, aq, aa, implies_true, simprocAttr] at hX
   generalize hC : run U aD _ _ = C at hX
   obtain ⟨m5, rfl, r5, k5⟩ := pP (P := Pr P m.next (nb m.next 1)) (kids := rr) ht (gc.ok o) r4 (by have : rr.length <= s2.pos + 1 := a; have := o3.p; have := ht.lt; omega) nI.Vf (fun c hc => .inr hc) (fun c hc => ⟨.inl hc, nI.lt (.inr (r2.mB hc))⟩) hz hC
   clear hC;simp +contextual -implicitDefEqProofs (maxSteps := 1000000) (maxDischargeDepth := 8) only [fd, aq, aa, implies_true, simprocAttr] at hX
   subst hX;obtain ⟨rfl, rfl⟩ := eQ _ _ _ _ ▸ pN bO
   exact ⟨_, rfl, r5.bQ fun c hc => .inl hc, x4.k.trans (k5.bQ fun c hc => .inl hc)⟩
  ·rw [if_neg hf] at bO
   obtain ⟨rfl, rfl⟩ := eQ _ _ _ _ ▸ pN bO
   simp +contextual -implicitDefEqProofs (maxSteps := 1000000) (maxDischargeDepth := 8) only [y2, z2, hf, fG, aq, aa, implies_true, simprocAttr] at hX
   subst hX;exact ⟨_, rfl, r2.bQ fun c hc => .inl hc, x2.k⟩
 ·rw [eU hq] at hX
  rw [if_neg hq] at bO;obtain ⟨rfl, rfl⟩ := eQ _ _ _ _ ▸ pN bO
  rw [show st.want l [123] = st.fail 8 (st.now l).pos from if_neg hq] at r1
  simp +contextual -implicitDefEqProofs (maxSteps := 1000000) (maxDischargeDepth := 8) only [y1, z1, aq, aa, implies_true, simprocAttr] at hX
  subst hX;exact ⟨_, rfl, r1.bQ fun c hc => .inl hc, x1.k⟩
structure adG (l : List Tok) (tg k : Nat) : Prop where
 SQ : Wb l tg k
 dj : PK l tg k
 Yu : N6 l tg k
theorem P0 (ht : bT l) : ∀ k, adG l tg k := by
 intro k
 induction k with
 | zero => exact ⟨fun _ _ _ _ _ _ _ _ q => absurd q (by omega), fun _ _ _ _ _ _ _ _ q => absurd q (by omega), fun _ _ _ _ _ _ _ _ _ _ _ _ _ _ q => absurd q (by omega)⟩
 | succ k ih => exact ⟨Ou ht ih.dj, Mq ht ih.Yu, Mr ht ih.SQ ih.Yu⟩
end
end
section
def Sf (l : List Tok) (tg k : Nat) : Prop := ∀ (out : List Int) (v : EV) (st : RS) (fr : Fr) (m : Mem) (b n0 bx : Nat) (P : Nat -> Prop) (s1 : RS) (r : List Int) (X : Option Out), eJ l st -> 8 * (l.length - st.pos) + (PC.uy out).bn < k -> out.length <= 8 -> oG l k (.uy out) st = some (s1, r) -> Rd m b tg l st (Pv P v) -> (∀ c, P c -> c < n0) -> n0 <= m.next -> ja m v (is out) out.length 1 n0 -> (out = [] -> v = .ae) -> m.get bx = .cells [.ptr b 0] 1 ah false -> P bx -> fr.get 1 = .ptr bx 0 -> fr.get 3 = v -> fr.get 4 = .bool true -> fr.defers = [] -> exec U (.loop aK) fr m = X -> ∃ fr' m' v', X = some (.exit 0 fr' m') /\ fr'.get 1 = .ptr bx 0 /\ fr'.get 3 = v' /\ fr'.defers = [] /\ ja m' v' (is r) r.length 1 n0 /\ Rd m' b tg l s1 (Pv P v') /\ Kp m m' P /\ (r = [] -> v' = .ae)
section
variable {tg : Nat} {l : List Tok} {m : Mem} {b : Nat} {st : RS} {P : Nat -> Prop}
theorem MM {v : EV} {out : List Int} {x : Int} {n0 c : Nat} (h : Rd m b tg l st (Pv P v)) (hP : ∀ c, P c -> c < n0) (pR : n0 <= m.next) (cF : ja m v (is out) out.length 1 n0) (hl : out.length < 1000000) (hc : m.get c = .cells [.int .i64 x] 1 aP false) :
  ∃ v2 M2, fV m aP 1 v (.slice c 0 1 (some 1)) = some (v2, M2) /\ ja M2 v2 (is (out ++ [x])) (out ++ [x]).length 1 n0 /\ Rd M2 b tg l st (Pv P v2) /\ Kp m M2 P := by
 obtain ⟨ha, jI⟩ := fg (e := aP) cF pR (mI (cap := some 1) hc rfl) rfl (by decide) (by unfold room; omega)
 have Rq := Rd.grow (e := aP) (n := out.length + 1) (cs := is out ++ [.int .i64 x]) h fun c hc => cF.lt (.inr (hP c hc))
 have BU : Kp m (grow m v aP 1 (is out ++ [.int .i64 x])) P := ⟨by rw [gu]; exact bH, fun c hc => iW (h.mB (.inl hc)) (cF.lt (.inr (hP c hc)))⟩
 refine ⟨_, _, ha, ?_, Rq, BU⟩
 rw [CP, kL]; exact jI
theorem Qz (ht : bT l) {k : Nat} (ih : Sf l tg k) : Sf l tg (k + 1) := by
 intro out v st fr m b n0 bx P s1 r X o hk hm bO h hP pR cF hz qA px h1 h3 h4 hd hX
 have hlen : ∀ M, BS v M = some (.val (.int .i64 (out.length : Int)) M) := fun M => by
  rcases cF.is with ⟨rfl, q, _⟩ | ⟨kb, cap, t, rfl, _⟩
  ·rw [q]; rfl
  ·rfl
 have hF := xM (b := b) (tg := tg) (l := l) (st := st) (P := Pv P v)
 have hT := jR (b := b) (tg := tg) (P := Pv P v) ht o
 have nx := h.mB (.inl px)
 rw [eS] at hX;generalize hL : exec U (.loop aK) = L at hX
 simp only [oG] at bO;by_cases hf : st.fe = 0
 ·rw [if_pos hf] at bO
  simp +contextual -implicitDefEqProofs (maxSteps := 1000000) (maxDischargeDepth := 8) only [aK, h1, h3, h4, hd, qA, nx, hF, hT, h, hf, gl, ak, aq, aa, implies_true, simprocAttr] at hX
  have h0 := ak (k := 19) (ak (k := 2) h)
  have k0 := (aU (k := 2) h).trans (aU (k := 19) (ak (k := 2) h))
  generalize hC : run U eN _ _ = C at hX
  obtain ⟨m1, rfl, r1, k1⟩ := qu ht o h0 hC
  clear hC;have YN := k0.trans k1
  have EN := cF.kp YN fun c hc => .inr hc
  have Y8 := (YN.k _ (.inl px)).trans qA
  have nx1 := r1.mB (.inl px)
  have g1 := Gr.name ht o.p
  have o1 := g1.ok o
  have h8 : ((out.length : Int) = 8) = (out.length = 8) := propext (by omega)
  simp +contextual -implicitDefEqProofs (maxSteps := 1000000) (maxDischargeDepth := 8) only [h1, h3, h4, hd, Y8, nx1, hlen, h8, aq, aa, implies_true, simprocAttr] at hX
  obtain ⟨na1, na2, na3⟩ := CL (st := st) (l := l)
  by_cases q8 : out.length = 8
  ·rw [AX q8] at hX
   rw [if_pos q8] at bO;generalize hC : run U ed _ _ = C at hX
   obtain ⟨m2, rfl, r2, k2⟩ := J5 r1 hC
   clear hC;have g2 : Gr l st ((st.name l).fail 3 (st.now l).pos) := g1.trans (.fail g1.pl (by decide))
   have t2 : ((st.name l).fail 3 (st.now l).pos).tree = st.tree := by rw [c9.2.2.1, na1]
   have f2 : ((st.name l).fail 3 (st.now l).pos).fe = 0 -> st.pos + 1 <= ((st.name l).fail 3 (st.now l).pos).pos := fun q => absurd q (ey (by decide))
   have lt8 : ((st.name l).fail 3 (st.now l).pos).fe = 0 -> out.length < 8 := fun q => absurd q (ey (by decide))
   generalize hS0 : (st.name l).fail 3 (st.now l).pos = S0 at *
   have GD := YN.trans k2
   have o2 := g2.ok o
   have jI := cF.kp GD fun c hc => .inr hc
   have PV := (GD.k _ (.inl px)).trans qA
   have Ul := r2.mB (.inl px)
   have p8 : ((ly l S0).1.put (nd 24 [] (ly l S0).2 (st.c7 l) (st.now l).pos)).fe = 0 -> st.pos < ((ly l S0).1.put (nd 24 [] (ly l S0).2 (st.c7 l) (st.now l).pos)).pos := fun q => by
    have gk := (py ht o2.p).1
    have := f2 (gk.f (xN q)); have := gk.p
    rw [oC]; omega
   have l8 : ((ly l S0).1.put (nd 24 [] (ly l S0).2 (st.c7 l) (st.now l).pos)).fe = 0 -> out.length < 8 := fun q => by
    have gk := (py ht o2.p).1
    exact lt8 (gk.f (xN q))
   simp +contextual -implicitDefEqProofs (maxSteps := 1000000) (maxDischargeDepth := 8) only [h1, h3, h4, hd, PV, Ul, aq, aa, implies_true, simprocAttr] at hX
   have rb := jT r2 12
   generalize hC : run U iO _ _ = C at hX
   obtain ⟨m7, rfl, r7, k7⟩ := Q7 ht o2 rb hC
   clear hC;obtain ⟨gk, tk, _, _⟩ := py ht o2.p
   have o7 := gk.ok o2
   have e7 := (k7.k _ (.inl (.inl px))).trans PV
   generalize hS7 : (ly l S0).1 = s7 at *
   generalize (ly l S0).2 = kd at *
   simp +contextual -implicitDefEqProofs (maxSteps := 1000000) (maxDischargeDepth := 8) only [e7, aq, aa, implies_true, simprocAttr] at hX
   generalize hC : run U aD _ _ = C at hX
   obtain ⟨m8, rfl, r8, k8⟩ := pP (P := Pr (Pv P v) m2.next (m2.next + 12)) (kids := []) ht o7 r7 (by simp) ⟨.inl ⟨rfl, rfl, rfl⟩, rfl⟩ (fun c hc => absurd gx.nil hc) (fun c hc => ⟨hc, gx.nil⟩) (by simp) hC
   clear hC;have o8 : eJ l (s7.put (nd 24 [] kd (st.c7 l) (st.now l).pos)) := ((g2.trans gk).lay (fun w => by have := gk.p; have := f2 (gk.f w); rw [tk, t2]; omega)).ok o
   generalize s7.put (nd 24 [] kd (st.c7 l) (st.now l).pos) = s8 at *
   generalize s7.iI (nd 24 [] kd (st.c7 l) (st.now l).pos) = y at *
   have hM : ∀ B, Mem.mk m8.next (ext (Mem.mk (m2.next + 9) m8.gM) [B]).gM = m8.set (m2.next + 9) B := fun _ => rfl
   obtain ⟨r9, k9, n9, p9, TG⟩ := drawn (c := m2.next + 9) r2 (by omega) (by omega) r8 (k7.trans k8) [.int .i64 y]
   have hM9 : (m8.set (m2.next + 9) (.cells [.int .i64 y] 1 aP false)).get (m2.next + 9) = .cells [.int .i64 y] 1 aP false := bM
   have Rt := jI.kp k9 fun c hc => .inr hc
   have Xg := (GD.trans k9).bQ (Q := P) fun c hc => .inl hc
   simp +contextual -implicitDefEqProofs (maxSteps := 1000000) (maxDischargeDepth := 8) only [hM, aq, aa, implies_true, simprocAttr] at hX
   generalize m8.set (m2.next + 9) (.cells [.int .i64 y] 1 aP false) = M9 at *
   have hs : nb (m2.next + 9) 0 = m2.next + 9 := rfl
   rw [hs] at hX;obtain ⟨v2, M2, ha, mE, r3, k3⟩ := MM (x := y) (r9.bQ (Q := Pv P v) fun c hc => .inl hc) hP (pU pR Xg.n) Rt (by omega) hM9
   have Nb := Xg.trans k3
   have e3 := (Nb.k _ px).trans qA
   have n3 := r3.mB (.inl px)
   simp +contextual -implicitDefEqProofs (maxSteps := 1000000) (maxDischargeDepth := 8) only [ha, e3, n3, h1, aq, aa, implies_true, simprocAttr] at hX
   generalize hC : run U aX _ _ = C at hX
   obtain ⟨m4, rfl, r4, k4⟩ := pg ht o8 r3 hC
   clear hC;have nI := mE.kp k4 fun c hc => .inr hc
   have CO := Nb.trans (k4.bQ fun c hc => .inl hc)
   have e4 := (CO.k _ px).trans qA
   have n4 := r4.mB (.inl px)
   by_cases hq : s8.is l [44]
   ·rw [if_pos hq] at bO
    rw [eA hq] at hX;rw [show s8.skip l [44] = s8.next from if_pos hq] at r4
    simp +contextual -implicitDefEqProofs (maxSteps := 1000000) (maxDischargeDepth := 8) only [aq, aa, implies_true, simprocAttr] at hX
    subst hL;have hn := is_lt ht o8.p hq
    obtain ⟨fr', m', v', rfl, q1, q3, qd, qo, qr, qk, qz⟩ := ih (out ++ [y]) v2 _ _ _ _ n0 bx P _ _ _ ((Gr.next hn).ok o8) (by have := p8 hq.1; have := o8.p; simp only [PC.bn, RS.next] at *; omega) (by rw [kL, List.length_singleton]; have := l8 hq.1; omega) bO r4 hP (pU pR CO.n) nI (by simp) e4 px (by simp only [h1, ao, Nat.reduceBEq ]) (by simp only [ao, Nat.reduceBEq ]) (by simp only [ao, Nat.reduceBEq ]) (by simp only [hd, ao, Nat.reduceBEq ]) hX
    exact ⟨fr', m', v', rfl, q1, q3, qd, qo, qr, CO.trans qk, qz⟩
   ·rw [if_neg hq] at bO
    obtain ⟨rfl, rfl⟩ := eQ _ _ _ _ ▸ pN bO
    rw [eU hq] at hX;rw [show s8.skip l [44] = s8 from if_neg hq] at r4
    simp +contextual -implicitDefEqProofs (maxSteps := 1000000) (maxDischargeDepth := 8) only [aq, aa, implies_true, simprocAttr] at hX
    subst hL;rw [eS] at hX;generalize exec U (.loop aK) = L at hX
    simp +contextual -implicitDefEqProofs (maxSteps := 1000000) (maxDischargeDepth := 8) only [aK, h1, hd, aq, aa, implies_true, simprocAttr] at hX
    subst hX;exact ⟨_, _, v2, rfl, by simp only [h1, ao, Nat.reduceBEq ], by simp only [ao, Nat.reduceBEq ], by simp only [hd, ao, Nat.reduceBEq ], nI, r4, CO, by simp⟩
  ·rw [AY q8] at hX
   rw [if_neg q8] at bO;have g2 := g1
   have t2 := na1
   have f2 : (st.name l).fe = 0 -> st.pos + 1 <= (st.name l).pos := fun q => by rw [na3 q]; exact eX _
   have lt8 : (st.name l).fe = 0 -> out.length < 8 := fun _ => by omega
   have r2 := r1
   have GD := YN
   generalize hm2 : m1 = m2 at r2 GD hX
   clear hm2;generalize hS0 : st.name l = S0 at *
   have o2 := g2.ok o
   have jI := cF.kp GD fun c hc => .inr hc
   have PV := (GD.k _ (.inl px)).trans qA
   have Ul := r2.mB (.inl px)
   have p8 : ((ly l S0).1.put (nd 24 [] (ly l S0).2 (st.c7 l) (st.now l).pos)).fe = 0 -> st.pos < ((ly l S0).1.put (nd 24 [] (ly l S0).2 (st.c7 l) (st.now l).pos)).pos := fun q => by
    have gk := (py ht o2.p).1
    have := f2 (gk.f (xN q)); have := gk.p
    rw [oC]; omega
   have l8 : ((ly l S0).1.put (nd 24 [] (ly l S0).2 (st.c7 l) (st.now l).pos)).fe = 0 -> out.length < 8 := fun q => by
    have gk := (py ht o2.p).1
    exact lt8 (gk.f (xN q))
   have rb := jT r2 12
   generalize hC : run U iO _ _ = C at hX
   obtain ⟨m7, rfl, r7, k7⟩ := Q7 ht o2 rb hC
   clear hC;obtain ⟨gk, tk, _, _⟩ := py ht o2.p
   have o7 := gk.ok o2
   have e7 := (k7.k _ (.inl (.inl px))).trans PV
   generalize hS7 : (ly l S0).1 = s7 at *
   generalize (ly l S0).2 = kd at *
   simp +contextual -implicitDefEqProofs (maxSteps := 1000000) (maxDischargeDepth := 8) only [e7, aq, aa, implies_true, simprocAttr] at hX
   generalize hC : run U aD _ _ = C at hX
   obtain ⟨m8, rfl, r8, k8⟩ := pP (P := Pr (Pv P v) m2.next (m2.next + 12)) (kids := []) ht o7 r7 (by simp) ⟨.inl ⟨rfl, rfl, rfl⟩, rfl⟩ (fun c hc => absurd gx.nil hc) (fun c hc => ⟨hc, gx.nil⟩) (by simp) hC
   clear hC;have o8 : eJ l (s7.put (nd 24 [] kd (st.c7 l) (st.now l).pos)) := ((g2.trans gk).lay (fun w => by have := gk.p; have := f2 (gk.f w); rw [tk, t2]; omega)).ok o
   generalize s7.put (nd 24 [] kd (st.c7 l) (st.now l).pos) = s8 at *
   generalize s7.iI (nd 24 [] kd (st.c7 l) (st.now l).pos) = y at *
   have hM : ∀ B, Mem.mk m8.next (ext (Mem.mk (m2.next + 9) m8.gM) [B]).gM = m8.set (m2.next + 9) B := fun _ => rfl
   obtain ⟨r9, k9, n9, p9, TG⟩ := drawn (c := m2.next + 9) r2 (by omega) (by omega) r8 (k7.trans k8) [.int .i64 y]
   have hM9 : (m8.set (m2.next + 9) (.cells [.int .i64 y] 1 aP false)).get (m2.next + 9) = .cells [.int .i64 y] 1 aP false := bM
   have Rt := jI.kp k9 fun c hc => .inr hc
   have Xg := (GD.trans k9).bQ (Q := P) fun c hc => .inl hc
   simp +contextual -implicitDefEqProofs (maxSteps := 1000000) (maxDischargeDepth := 8) only [hM, aq, aa, implies_true, simprocAttr] at hX
   generalize m8.set (m2.next + 9) (.cells [.int .i64 y] 1 aP false) = M9 at *
   have hs : nb (m2.next + 9) 0 = m2.next + 9 := rfl
   rw [hs] at hX;obtain ⟨v2, M2, ha, mE, r3, k3⟩ := MM (x := y) (r9.bQ (Q := Pv P v) fun c hc => .inl hc) hP (pU pR Xg.n) Rt (by omega) hM9
   have Nb := Xg.trans k3
   have e3 := (Nb.k _ px).trans qA
   have n3 := r3.mB (.inl px)
   simp +contextual -implicitDefEqProofs (maxSteps := 1000000) (maxDischargeDepth := 8) only [ha, e3, n3, h1, aq, aa, implies_true, simprocAttr] at hX
   generalize hC : run U aX _ _ = C at hX
   obtain ⟨m4, rfl, r4, k4⟩ := pg ht o8 r3 hC
   clear hC;have nI := mE.kp k4 fun c hc => .inr hc
   have CO := Nb.trans (k4.bQ fun c hc => .inl hc)
   have e4 := (CO.k _ px).trans qA
   have n4 := r4.mB (.inl px)
   by_cases hq : s8.is l [44]
   ·rw [if_pos hq] at bO
    rw [eA hq] at hX;rw [show s8.skip l [44] = s8.next from if_pos hq] at r4
    simp +contextual -implicitDefEqProofs (maxSteps := 1000000) (maxDischargeDepth := 8) only [aq, aa, implies_true, simprocAttr] at hX
    subst hL;have hn := is_lt ht o8.p hq
    obtain ⟨fr', m', v', rfl, q1, q3, qd, qo, qr, qk, qz⟩ := ih (out ++ [y]) v2 _ _ _ _ n0 bx P _ _ _ ((Gr.next hn).ok o8) (by have := p8 hq.1; have := o8.p; simp only [PC.bn, RS.next] at *; omega) (by rw [kL, List.length_singleton]; have := l8 hq.1; omega) bO r4 hP (pU pR CO.n) nI (by simp) e4 px (by simp only [h1, ao, Nat.reduceBEq ]) (by simp only [ao, Nat.reduceBEq ]) (by simp only [ao, Nat.reduceBEq ]) (by simp only [hd, ao, Nat.reduceBEq ]) hX
    exact ⟨fr', m', v', rfl, q1, q3, qd, qo, qr, CO.trans qk, qz⟩
   ·rw [if_neg hq] at bO
    obtain ⟨rfl, rfl⟩ := eQ _ _ _ _ ▸ pN bO
    rw [eU hq] at hX;rw [show s8.skip l [44] = s8 from if_neg hq] at r4
    simp +contextual -implicitDefEqProofs (maxSteps := 1000000) (maxDischargeDepth := 8) only [aq, aa, implies_true, simprocAttr] at hX
    subst hL;rw [eS] at hX;generalize exec U (.loop aK) = L at hX
    simp +contextual -implicitDefEqProofs (maxSteps := 1000000) (maxDischargeDepth := 8) only [aK, h1, hd, aq, aa, implies_true, simprocAttr] at hX
    subst hX;exact ⟨_, _, v2, rfl, by simp only [h1, ao, Nat.reduceBEq ], by simp only [ao, Nat.reduceBEq ], by simp only [hd, ao, Nat.reduceBEq ], nI, r4, CO, by simp⟩
 ·rw [if_neg hf] at bO
  obtain ⟨rfl, rfl⟩ := eQ _ _ _ _ ▸ pN bO
  simp +contextual -implicitDefEqProofs (maxSteps := 1000000) (maxDischargeDepth := 8) only [aK, h1, h3, h4, hd, qA, nx, hF, hT, h, hf, gl, fG, ak, aq, aa, implies_true, simprocAttr] at hX
  subst hX;exact ⟨_, _, v, rfl, by simp only [h1, ao, Nat.reduceBEq ], by simp only [h3, ao, Nat.reduceBEq ], by simp only [hd, ao, Nat.reduceBEq ], cF.kp (aU h) fun c hc => .inr hc, ak h, (aU h).bQ fun c hc => .inl hc, hz⟩
end
end
section
theorem P1 {l : List Tok} {tg : Nat} (ht : bT l) : ∀ k, Sf l tg k := by
 intro k
 induction k with
 | zero => exact fun _ _ _ _ _ _ _ _ _ _ _ _ _ q => absurd q (by omega)
 | succ k ih => exact Qz ht ih
theorem ja.le {m : Mem} {v : EV} {cs : List EV} {n esz lo EC : Nat} (h : ja m v cs n esz lo) (hl : EC <= lo) : ja m v cs n esz EC := by
 refine ⟨?_, h.len⟩
 rcases h.is with h | ⟨b, cap, t, rfl, h1, h2, h3, h4⟩
 ·exact .inl h
 ·exact .inr ⟨b, cap, t, rfl, pU hl h1, h2, h3, h4⟩
section
variable {tg : Nat} {l : List Tok} {m : Mem} {b : Nat} {st : RS} {P : Nat -> Prop} {X : Option Fin}
theorem Je (ht : bT l) {k : Nat} (o : eJ l st) (hk : 8 * (l.length - st.pos) + 1 <= k) {s1 : RS} {r : List Int} (bO : (if (st.want l [40]).is l [41] then some (st.want l [40], []) else oG l k (.uy []) (st.want l [40])) = some (s1, r)) (hg : Gr l (st.want l [40]) s1) (h : Rd m b tg l st P) (hX : run U kA [.agg [.ptr b 0]] m = X) :
  ∃ m' v, X = some (.ret v m') /\ ja m' v (is r) r.length 1 m.next /\ Rd m' b tg l (s1.want l [41]) (Pv P v) /\ Kp m m' P /\ (r = [] -> v = .ae) := by
 rw [bZ (by simp [bV])] at hX
 generalize hL : exec (UT B K) (aE.loop aK) = L at hX
 simp +contextual -implicitDefEqProofs (maxSteps := 1000000) (maxDischargeDepth := 8) only [bV, aq, aa, implies_true, simprocAttr] at hX
 obtain ⟨r0, x0⟩ := Bx.uM h
 generalize ext m [.cells [.ptr b 0] 1 ah false] = M0 at *
 generalize hC : run U aS _ _ = C at hX
 obtain ⟨m1, rfl, r1, k1⟩ := od ht o r0 hC
 clear hC;have x1 := x0.step k1 (fun c hc => .inl hc) rH
 have y1 := x1.g
 have z1 := x1.n
 have gw := Gr.want ht o.p (s := [40])
 have o1 := gw.ok o
 generalize hS : st.want l [40] = sw at *
 have hI := Vl (b := b) (tg := tg) (P := Pr P m.next (nb m.next 1)) ht o1
 have MK : Rd m1 b tg l sw (Pr P m.next (nb m.next 1)) := r1
 have o2 := hg.ok o1
 by_cases hq : sw.is l [41]
 ·rw [if_pos hq] at bO
  obtain ⟨rfl, rfl⟩ := eQ _ _ _ _ ▸ pN bO
  simp +contextual -implicitDefEqProofs (maxSteps := 1000000) (maxDischargeDepth := 8) only [y1, z1, hI, MK, hq, gl, aq, aa, implies_true, simprocAttr] at hX
  subst hL;rw [eS] at hX;generalize exec (UT B K) (.loop aK) = L at hX
  simp +contextual -implicitDefEqProofs (maxSteps := 1000000) (maxDischargeDepth := 8) only [aK, y1, z1, aq, aa, implies_true, simprocAttr] at hX
  generalize hC : run U aS _ _ = C at hX
  obtain ⟨m2, rfl, r2, k2⟩ := od ht o1 (ak MK) hC
  clear hC;simp +contextual -implicitDefEqProofs (maxSteps := 1000000) (maxDischargeDepth := 8) only [aq, aa, implies_true, simprocAttr] at hX
  subst hX;exact ⟨_, _, rfl, ⟨.inl ⟨rfl, rfl, rfl⟩, rfl⟩, (r2.bQ fun c hc => .inl hc).pv, x1.k.trans (((aU MK).trans k2).bQ fun c hc => .inl hc), fun _ => rfl⟩
 ·rw [if_neg hq] at bO
  simp +contextual -implicitDefEqProofs (maxSteps := 1000000) (maxDischargeDepth := 8) only [y1, z1, hI, MK, hq, fG, aq, aa, implies_true, simprocAttr] at hX
  subst hL;have rb := ak (k := 20) MK
  have xb := x1.step (aU (k := 20) MK) (fun c hc => .inl hc) rH
  generalize hC : exec (UT B K) (aE.loop aK) _ _ = C at hX
  obtain ⟨fr', m2, v, rfl, f1, f3, fd, cF, r2, k2, hz⟩ := P1 ht k [] .ae _ _ _ _ (bump m1 20).next (nb m.next 0) (Pr P m.next (nb m.next 1)) _ _ _ o1 (by have := gw.p; simp only [PC.bn] at *; omega) (kW _) bO rb.pv (fun c hc => rb.mB hc) (eX _) ⟨.inl ⟨rfl, rfl, rfl⟩, rfl⟩ (fun _ => rfl) xb.g rH (by simp only [ao, Nat.reduceBEq ]) (by simp only [ao, Nat.reduceBEq ]) (by simp only [ao, Nat.reduceBEq ]) (by simp only [ao, Nat.reduceBEq ]) hC
  clear hC;have x2 := xb.step k2 (fun c hc => .inl hc) rH
  have y2 := x2.g
  have z2 := x2.n
  simp +contextual -implicitDefEqProofs (maxSteps := 1000000) (maxDischargeDepth := 8) only [f1, f3, fd, y2, z2, aq, aa, implies_true, simprocAttr] at hX
  generalize hC : run U aS _ _ = C at hX
  obtain ⟨m3, rfl, r3, k3⟩ := od ht o2 r2 hC
  clear hC;simp +contextual -implicitDefEqProofs (maxSteps := 1000000) (maxDischargeDepth := 8) only [f1, f3, fd, aq, aa, implies_true, simprocAttr] at hX
  subst hX;refine ⟨_, v, rfl, (cF.kp k3 fun c hc => .inr hc).le ?_, r3.bQ ?_, x2.k.trans (k3.bQ fun c hc => .inl (.inl hc)), hz⟩
  ·exact pU x1.k.n (by rw [br]; exact bH)
  ·exact fun c hc => hc.elim (fun q => .inl (.inl q)) .inr
theorem EW (ht : bT l) {k : Nat} (o : eJ l st) (hk : 8 * (l.length - st.pos) + PC.func.bn < k + 1) {s1 : RS} {r : List Int} (bO : oG l (k + 1) .func st = some (s1, r)) (h : Rd m b tg l st P) (hX : run U fO [.agg [.ptr b 0]] m = X) : ∃ m', X = some (.ret (.int .i64 (r.headD 0)) m') /\ Rd m' b tg l s1 P /\ Kp m m' P := by
 rw [bZ (by simp [cx])] at hX
 simp +contextual -implicitDefEqProofs (maxSteps := 1000000) (maxDischargeDepth := 8) only [cx, aq, aa, implies_true, simprocAttr] at hX
 obtain ⟨r0, x0⟩ := Bx.uM h
 generalize ext m [.cells [.ptr b 0] 1 ah false] = M0 at *
 generalize hC : run U aS _ _ = C at hX
 obtain ⟨m1, rfl, r1, k1⟩ := od ht o r0 hC
 clear hC;have x1 := x0.step k1 (fun c hc => .inl hc) rH
 have y1 := x1.g
 have z1 := x1.n
 simp only [oG] at bO;have g0 := Gr.want ht o.p (s := BK)
 have o1 := g0.ok o
 have MK : Rd m1 b tg l (st.want l BK) (Pr P m.next (nb m.next 1)) := r1
 have w0 := Cb (st := st) (l := l) (s := BK)
 have d0 := (rq (st := st) (l := l) (s := BK)).2
 clear r1;generalize st.want l BK = s0 at *
 have hT := jR (b := b) (tg := tg) (P := Pr P m.next (nb m.next 1)) ht o1
 simp +contextual -implicitDefEqProofs (maxSteps := 1000000) (maxDischargeDepth := 8) only [y1, z1, hT, MK, aq, aa, implies_true, simprocAttr] at hX
 have rb := ak (k := 19) MK
 have xb := x1.step (aU (k := 19) MK) (fun c hc => .inl hc) rH
 generalize bump m1 19 = m1 at *
 generalize hC : run U eN _ _ = C at hX
 obtain ⟨m2, rfl, r2, k2⟩ := qu ht o1 rb hC
 clear hC;have x2 := xb.step k2 (fun c hc => .inl hc) rH
 have y2 := x2.g
 have z2 := x2.n
 have g1 : Gr l s0 (s0.name l) := Gr.name ht o1.p
 have o2 := g1.ok o1
 have g2 := g1.trans (Gr.want ht g1.pl (s := [40]))
 obtain ⟨s2, rr, e, g3, l9⟩ : ∃ s2 rr, (if ((s0.name l).want l [40]).is l [41] then some ((s0.name l).want l [40], []) else oG l k (.uy []) ((s0.name l).want l [40])) = some (s2, rr) /\ Gr l ((s0.name l).want l [40]) s2 /\ rr.length <= 9 := by
  split
  ·exact ⟨_, _, rfl, .refl g2.pl, kW _⟩
  ·obtain ⟨s2, r2, e2, g4, a2, _⟩ := lf ht k (.uy []) ((s0.name l).want l [40]) g2.pl (by have := g0.p; have := g2.p; simp only [PC.bn] at *; omega) (kW _)
   exact ⟨_, _, e2, g4, a2⟩
 rw [e] at bO;simp only [Option.bind_some] at bO;simp +contextual -implicitDefEqProofs (maxSteps := 1000000) (maxDischargeDepth := 8) only [y2, z2, aq, aa, implies_true, simprocAttr] at hX
 generalize hC : run U kA _ _ = C at hX
 obtain ⟨m3, v, rfl, cF, r3, k3, hz⟩ := Je ht o2 (by have := g0.p; have := g1.p; simp only [PC.bn] at *; omega) e g3 r2 hC
 clear hC;have x3 := x2.step k3 (fun c hc => .inl hc) rH
 have y3 := x3.g
 have z3 := x3.n
 have g4 := (g2.trans g3).trans (Gr.want ht g3.pl (s := [41]))
 have o3 := g4.ok o1
 have WA : v.cells = some [v] := by rcases cF.is with ⟨rfl, _⟩ | ⟨_, _, _, rfl, _⟩ <;> rfl
 simp +contextual -implicitDefEqProofs (maxSteps := 1000000) (maxDischargeDepth := 8) only [y3, z3, aq, aa, implies_true, simprocAttr] at hX
 generalize hC : run U iO _ _ = C at hX
 obtain ⟨m4, rfl, r4, k4⟩ := Q7 ht o3 r3 hC
 clear hC;have x4 := x3.step k4 (fun c hc => .inl (.inl hc)) (.inl rH)
 have y4 := x4.g
 have z4 := x4.n
 obtain ⟨g5, _⟩ := py ht o3.p
 have g6 := g4.trans g5
 have o4 := g6.ok o1
 have VG : 8 * (l.length - (ly l (s2.want l [41])).1.pos) + PC.block.bn < k := by have := g0.p; have := g6.p; simp only [PC.bn] at *; omega
 obtain ⟨s5, r5, e5, g7, a5, _⟩ := lf ht k .block (ly l (s2.want l [41])).1 o4.p VG trivial
 obtain ⟨_, y, rfl⟩ := sl ht o4 VG e5
 simp only [e5, Option.bind_some, xU] at bO;simp +contextual -implicitDefEqProofs (maxSteps := 1000000) (maxDischargeDepth := 8) only [y4, z4, aq, aa, implies_true, simprocAttr] at hX
 generalize hC : run U eR _ _ = C at hX
 obtain ⟨m5, rfl, r5, k5⟩ := (P0 ht k).dj _ _ _ _ _ _ _ o4 VG e5 r4 hC
 clear hC;have g8 := g6.trans g7
 have o5 := g8.ok o1
 have k35 := k4.trans k5
 have XD := cF.kp k35 fun c hc => .inr hc
 obtain ⟨v2, M2, ha, Ru, r6, k6⟩ := rG (x := y) r5 (fun c hc => r2.mB hc) (pU k3.n k35.n) XD (by omega)
 have x6 := (x4.step k5 (fun c hc => .inl (.inl hc)) (.inl rH)).step k6 (fun c hc => .inl hc) rH
 have y6 := x6.g
 have z6 := x6.n
 have Vq : v2.cells = some [v2] := by rcases Ru.is with ⟨rfl, _⟩ | ⟨_, _, _, rfl, _⟩ <;> rfl
 simp +contextual -implicitDefEqProofs (maxSteps := 1000000) (maxDischargeDepth := 8) only [ha, y6, z6, Vq, List.headD_cons, aq, aa, implies_true, simprocAttr] at hX
 generalize hC : run U aD _ _ = C at hX
 obtain ⟨m7, rfl, r7, k7⟩ := pP (P := Pr P m.next (nb m.next 1)) (kids := rr ++ [y]) ht o5 r6 (by rw [kL, List.length_singleton]; omega) Ru.Vf (fun c hc => .inr hc) (fun c hc => ⟨.inl hc, Ru.lt (.inr (r2.mB hc))⟩) (by simp) hC
 clear hC;simp +contextual -implicitDefEqProofs (maxSteps := 1000000) (maxDischargeDepth := 8) only [aq, aa, implies_true, simprocAttr] at hX
 subst hX;obtain ⟨rfl, rfl⟩ := eQ _ _ _ _ ▸ pN bO
 exact ⟨_, rfl, r7.bQ fun c hc => .inl hc, x6.k.trans (k7.bQ fun c hc => .inl hc)⟩
end
end
section
theorem EF {α : Type} [DecidableEq α] : ∀ {a b : List α}, a.Nodup -> (∀ x ∈ a, x ∈ b) -> a.length <= b.length
 | [], b, _, _ => kW _
 | x :: a, b, h, hs => by
  rw [List.nodup_cons] at h;have h1 := EF (b := b.erase x) h.2 fun y hy => by
   have iJ : y ≠ x := by rintro rfl; exact h.1 hy
   exact (List.mem_erase_of_ne iJ).2 (hs y (by simp [hy]))
  have h2 := List.length_erase_of_mem (hs x (by simp))
  have h3 := List.length_pos_of_mem (hs x (by simp))
  rw [List.length_cons];omega
def upto (n : Nat) : List Int := (List.range n).map fun (j : Nat) => (j : Int)
theorem P6 {n : Nat} : (upto n).length = n := by simp [upto]
theorem P5 {n : Nat} {x : Int} : x ∈ upto n ↔ 0 <= x /\ x < (n : Int) := by
 unfold upto;rw [List.mem_map]
 constructor
 ·rintro ⟨j, hj, rfl⟩; have := List.mem_range.1 hj; omega
 ·rintro ⟨h1, h2⟩; exact ⟨x.toNat, List.mem_range.2 (by omega), by omega⟩
theorem Oi {l : List Nd} {x : Int} : x ∈ gW l ↔ ∃ (i : Nat) (d : Nd), l[i]? = some d /\ x ∈ d.kids := by
 unfold gW;rw [List.mem_flatten]
 constructor
 ·rintro ⟨k, hk, hx⟩
  obtain ⟨d, hd, rfl⟩ := List.mem_map.1 hk
  obtain ⟨i, hi⟩ := List.mem_iff_getElem?.1 hd
  exact ⟨i, d, hi, hx⟩
 ·rintro ⟨i, d, hi, hx⟩
  exact ⟨d.kids, List.mem_map.2 ⟨d, List.mem_iff_getElem?.2 ⟨i, hi⟩, rfl⟩, hx⟩
theorem EG {i : Nat} {ks : List Int} (h : ∀ x ∈ ks, 0 <= x /\ x < (i : Int)) (hn : ks.Nodup) : ks.length <= i := by
 have := EF (b := upto i) hn fun x hx => P5.2 (h x hx)
 rwa [P6] at this
theorem P4 {l : List Nd} {i : Nat} (h : ∀ (j : Nat) (d : Nd), j < i -> l[j]? = some d -> ∀ x ∈ d.kids, 0 <= x /\ x < (j : Int)) : ∀ x ∈ gW (l.take i), 0 <= x /\ x < (i : Int) := by
 intro x hx
 obtain ⟨j, d, hj, hxd⟩ := Oi.1 hx
 rw [List.getElem?_take] at hj
 split at hj
 ·have := h j d ‹_› hj x hxd; omega
 ·cases hj
end
section
theorem O7 (l : List Int) (x : Int) : (ints (l ++ [x])).flatten = (ints l).flatten ++ [.int .i64 x] := by rw [GI, GI]; simp
theorem Qq {l : List Nd} {t : Nat} {nl : Bool} {i lo : Nat} {d : Nd} {u : List Int} (hd0 : l[i]? = some d) (GM : d.kids.length <= 9223372036854775807) (afY : i < 100000) (hu0 : ∀ x ∈ u, 0 <= x /\ x < (i : Int)) (hu : u.Nodup) {m0 : Mem} {fr : Fr} {v : EV} (h0 : fr.get 0 = row nl t 5 (oV l)) (h3 : fr.get 3 = v) (cF : ja m0 v (ints u).flatten u.length 1 lo) (mU : lo <= m0.next) (h4 : fr.get 4 = .int .i64 (i : Int)) (h5 : fr.get 5 = .int .i64 0) (hd : fr.defers = []) :
  ∃ o, exec U (.loop gI) fr m0 = some o /\ ((((∀ x ∈ d.kids, 0 <= x /\ x < (i : Int)) /\ (u ++ d.kids).Nodup) /\ ∃ fr' m' v', o = .exit 2 fr' m' /\ fr'.get 0 = row nl t 5 (oV l) /\ fr'.get 3 = v' /\ ja m' v' (ints (u ++ d.kids)).flatten (u ++ d.kids).length 1 lo /\ lo <= m'.next /\ fr'.get 4 = .int .i64 (i : Int) /\ fr'.defers = []) \/
   (¬ ((∀ x ∈ d.kids, 0 <= x /\ x < (i : Int)) /\ (u ++ d.kids).Nodup) /\ ∃ fr' m', o = .ret fr' m' /\ fr'.get 2 = .bool false /\ fr'.defers = [])) := by
 have SF : i < l.length := (rn.1 hd0).1
 refine fC (σ := Nat) (fun j fr m => j <= d.kids.length /\ fr.get 0 = row nl t 5 (oV l) /\ (∃ v, fr.get 3 = v /\ ja m v (ints (u ++ d.kids.take j)).flatten (u ++ d.kids.take j).length 1 lo) /\ lo <= m.next /\ (∀ x ∈ d.kids.take j, 0 <= x /\ x < (i : Int)) /\ (u ++ d.kids.take j).Nodup /\ fr.get 4 = .int .i64 (i : Int) /\ fr.get 5 = .int .i64 (j : Int) /\ fr.defers = []) (fun j => d.kids.length - j) _ ?_ 0 fr m0
  ⟨kW _, h0, ⟨v, h3, by simpa using cF⟩, mU, by simp, by simpa using hu, h4, h5, hd⟩
 rintro j fr m ⟨hj, h0, ⟨v, h3, cF⟩, mU, hall, hnd, h4, h5, hd⟩
 generalize hX : exec U gI fr m = X
 by_cases bg : j < d.kids.length
 ·have hc : (j : Int) < (d.kids.length : Int) := by omega
  have hg : d.kids[j]? = some d.kids[j] := lp bg
  have Ni : d.kids.take (j + 1) = d.kids.take j ++ [d.kids[j]] := List.take_succ_eq_append_getElem bg
  have pS := BI bg
  have ol := bJ (i := j) (by omega)
  have afp : (u ++ d.kids.take j).length < 600000000 := by
   have := EG (i := i) (fun x hx => (uD.1 hx).elim (hu0 x) (hall x)) hnd
   omega
  obtain ⟨nl2, hfz⟩ := cF.oZ (by rw [bp]) (JD _) (EI _)
  generalize hx : d.kids[j] = x at *
  have aby := fun t2 nl2 => wK (l := u ++ d.kids.take j) (t := t2) (nl := nl2) (x := x) (by omega)
  have hM : (ext m [.cells [EV.int .i64 x] 1 aP false]).get (nb m.next 0) = .cells [EV.int .i64 x] 1 aP false := by rw [aC rfl (by simp)]; rfl
  obtain ⟨ha, By⟩ := fg (e := aP) (cF.ext [.cells [EV.int .i64 x] 1 aP false]) (by rw [ax]; unfold nb; omega) (mI (cap := some 1) hM rfl) rfl (by decide) (by unfold room; omega)
  rw [ax, dE] at ha;generalize hG : grow _ v aP 1 _ = M2 at ha By
  have Y4 : lo <= M2.next := by rw [<- hG, gu, ax]; unfold nb; omega
  simp +contextual -implicitDefEqProofs (maxSteps := 1000000) (maxDischargeDepth := 8) only [gI, h0, h3, h4, h5, hd, hd0, SF, hc, hg, bg, ol, bi, nG, bp, lQ, jt, Nd.cells, hfz, aby, ha, aq, aa, implies_true, simprocAttr] at hX
  subst hX;refine mC (fun hp => il (Or.inr ⟨fun q => ?_, _, _, rfl, by simp only [ao, Nat.reduceBEq ], by simp only [hd, ao, Nat.reduceBEq ]⟩)) (fun hp => dq (j + 1) (by omega) ⟨bg, by simp only [h0, ao, Nat.reduceBEq ], ⟨_, by simp only [ao, Nat.reduceBEq ]; rfl, ?_⟩, Y4, ?_, ?_, by simp only [h4, ao, Nat.reduceBEq ], by simp only [ao, Nat.reduceBEq ], by simp only [hd, ao, Nat.reduceBEq ]⟩)
  ·have q1 := q.1 x pS
   rcases hp with (hp | hp) | hp
   ·omega
   ·omega
   ·have q2 : (u ++ d.kids.take j ++ [x]).Nodup := by
     rw [List.append_assoc, <- Ni];exact List.Nodup.sublist (List.Sublist.append (List.Sublist.refl u) (List.take_sublist _ _)) q.2
    rw [List.nodup_append] at q2;exact q2.2.2 x hp x (by simp) rfl
  ·rw [Ni, <- List.append_assoc, O7]
   simp only [kL, List.length_cons, List.length_nil, ax, dE, Nat.zero_add, Nat.add_zero] at By ⊢
   exact By
  ·intro y hy
   rw [Ni, uD] at hy;rcases hy with hy | hy
   ·exact hall y hy
   ·rw [yl.1 hy]; omega
  ·rw [Ni, <- List.append_assoc, List.nodup_append]
   refine ⟨hnd, by simp, fun a ha2 b hb => ?_⟩
   rw [yl.1 hb]
   rintro rfl
   exact hp (.inr ha2)
 ·have hc : ¬ ((j : Int) < (d.kids.length : Int)) := by omega
  have Ni : d.kids.take j = d.kids := Gc (by omega)
  rw [Ni] at hall hnd cF;simp +contextual -implicitDefEqProofs (maxSteps := 1000000) (maxDischargeDepth := 8) only [gI, h0, h3, h4, h5, hd, hd0, SF, hc, bi, bp, lQ, jt, Nd.cells, aq, aa, implies_true, simprocAttr] at hX
  subst hX;exact dr (Or.inl ⟨⟨hall, hnd⟩, _, _, v, rfl, by simp only [h0, ao, Nat.reduceBEq ], by simp only [h3, ao, Nat.reduceBEq ], cF, mU, by simp only [h4, ao, Nat.reduceBEq ], by simp only [hd, ao, Nat.reduceBEq ]⟩)
def yP (l : List Nd) (i : Nat) : Prop := (∀ (j : Nat) (d : Nd), j < i -> l[j]? = some d -> (∀ x ∈ d.kids, 0 <= x /\ x < (j : Int)) /\ BO d /\ cD l d) /\ (gW (l.take i)).Nodup
theorem DZ {l : List Nd} {i : Nat} {d : Nd} (h : l[i]? = some d) : gW (l.take (i + 1)) = gW (l.take i) ++ d.kids := by
 obtain ⟨h1, h2⟩ := rn.1 h
 unfold gW;rw [List.take_succ_eq_append_getElem h1, h2]; simp
theorem Gd {l : List Nd} (i : Nat) : List.Sublist (gW (l.take i)) (gW l) := by
 unfold gW
 conv => rhs; rw [<- List.take_append_drop i l, List.map_append, List.flatten_append]
 exact List.sublist_append_left _ _
structure Small (l : List Nd) : Prop where
 len : l.length < 100000
 kids : ∀ d ∈ l, d.kids.length <= 9223372036854775807
 s : ∀ d ∈ l, d.s.length < 1000000
theorem JA {l : List Nd} {d : Nd} (h : d ∈ l) : List.Sublist d.kids (gW l) := by
 obtain ⟨i, hi⟩ := List.mem_iff_getElem?.1 h
 have h1 := DZ hi
 have h2 := Gd (l := l) (i + 1)
 rw [h1] at h2;exact (List.sublist_append_right _ _).trans h2
theorem Th {l : List Nd} (hk : l6 l) (hu : (gW l).Nodup) {d : Nd} (h : d ∈ l) : d.kids.length <= l.length := by
 obtain ⟨i, hi⟩ := List.mem_iff_getElem?.1 h
 have h1 := EG (hk i d hi) (hu.sublist (JA h))
 have := (rn.1 hi).1
 omega
theorem Qp {l : List Nd} {t : Nat} {nl : Bool} (hs : Small l) {m0 : Mem} {fr : Fr} {v : EV} {lo : Nat} (h0 : fr.get 0 = row nl t 5 (oV l)) (h3 : fr.get 3 = v) (cF : ja m0 v [] 0 1 lo) (mU : lo <= m0.next) (h4 : fr.get 4 = .int .i64 0) (hd : fr.defers = []) :
  ∃ o, exec U (.loop gH) fr m0 = some o /\ ((yP l l.length /\ ∃ fr' m' v', o = .exit 0 fr' m' /\ fr'.get 0 = row nl t 5 (oV l) /\ fr'.get 3 = v' /\ ja m' v' (ints (gW l)).flatten (gW l).length 1 lo /\ fr'.defers = []) \/
   (¬ yP l l.length /\ ∃ fr' m', o = .ret fr' m' /\ fr'.get 2 = .bool false /\ fr'.defers = [])) := by
 have hlen := hs.len
 refine fC (σ := Nat) (fun i fr m => i <= l.length /\ yP l i /\ fr.get 0 = row nl t 5 (oV l) /\ (∃ v, fr.get 3 = v /\ ja m v (ints (gW (l.take i))).flatten (gW (l.take i)).length 1 lo) /\ lo <= m.next /\ fr.get 4 = .int .i64 (i : Int) /\ fr.defers = []) (fun i => l.length - i) _ ?_ 0 fr m0
  ⟨kW _, ⟨fun j d hj => by omega, by simp [gW]⟩, h0, ⟨v, h3, cF⟩, mU, h4, hd⟩
 rintro i fr m ⟨hi, hr, h0, ⟨v, h3, cF⟩, mU, h4, hd⟩
 generalize hX : exec U gH fr m = X
 by_cases bg : i < l.length
 ·have hc : (i : Int) < (l.length : Int) := by omega
  have hd0 : l[i]? = some l[i] := lp bg
  have pS := BI bg
  have KF := hs.kids _ pS
  have BU := hs.s _ pS
  have LQ := DZ hd0
  generalize l[i] = d at *
  have ol := bJ (i := i) (by omega)
  generalize hL : exec (UT B K) (aE.loop gI) = L
  simp +contextual -implicitDefEqProofs (maxSteps := 1000000) (maxDischargeDepth := 8) only [gH, h0, h3, h4, hd, hc, jt, aq, aa, implies_true, simprocAttr] at hX
  subst hL;generalize hY : exec _ (.loop gI) _ _ = Y at hX
  obtain ⟨o, rfl, h⟩ := ft hY (Qq (l := l) (t := t) (nl := nl) (i := i) (d := d) (u := gW (l.take i)) hd0 KF (by omega) (P4 fun j d hj hd => (hr.1 j d hj hd).1) hr.2 (by simp only [h0, ao, Nat.reduceBEq ]) (by simp only [h3, ao, Nat.reduceBEq ]) cF mU (by simp only [h4, ao, Nat.reduceBEq ]) (by simp only [ao, Nat.reduceBEq ]) (by simp only [hd, ao, Nat.reduceBEq ]))
  rcases h with ⟨⟨g1, g2⟩, fr', m', v', rfl, h0, h3, cF, mU, h4, hd⟩ | ⟨g, fr', m', rfl, h2, hd⟩
  ·have hv : xI l d.kids := fun x hx => by have := g1 x hx; omega
   have Rz := EG g1 (List.nodup_append.1 g2).2.1
   have ho : bA B K Gw [.agg [.int .i64 d.kind, row d.nl 0 1 (ints d.kids), .int .i64 d.n, .str d.s, .int .i64 d.pos]] = some (bo (BO d)) := U3 (d := d) (by omega)
   have SD : ∀ t1 nl1, bA B K Ex [row nl1 t1 5 (oV l), .agg [.int .i64 d.kind, row d.nl 0 1 (ints d.kids), .int .i64 d.n, .str d.s, .int .i64 d.pos]] = some (bo (cD l d)) := fun t1 nl1 => Ti (l := l) (d := d) (t1 := t1) (nl1 := nl1) hv (by omega)
   simp +contextual -implicitDefEqProofs (maxSteps := 1000000) (maxDischargeDepth := 8) only [h0, h3, h4, hd, hd0, bg, ol, bi, lQ, jt, Nd.cells, ho, SD, aq, aa, implies_true, simprocAttr] at hX
   subst hX;refine mC (fun hp => il (Or.inr ⟨fun q => ?_, _, _, rfl, by simp only [ao, Nat.reduceBEq ], by simp only [hd, ao, Nat.reduceBEq ]⟩)) (fun hp => dq (i + 1) (by omega) ⟨bg, ⟨fun j e hj he => ?_, by rw [LQ]; exact g2⟩, by simp only [h0, ao, Nat.reduceBEq ], ⟨v', by simp only [h3, ao, Nat.reduceBEq ], by rw [LQ]; exact cF⟩, mU, by simp only [ao, Nat.reduceBEq ], by simp only [hd, ao, Nat.reduceBEq ]⟩)
   ·obtain ⟨_, q1, q2⟩ := q.1 i d bg hd0
    exact hp.elim (fun h => h q1) (fun h => h q2)
   ·by_cases SE : j < i
    ·exact hr.1 j e SE he
    ·obtain rfl : j = i := by omega
     rw [hd0] at he; cases he
     exact ⟨g1, B9 fun h => hp (.inl h), B9 fun h => hp (.inr h)⟩
  ·simp +contextual -implicitDefEqProofs (maxSteps := 1000000) (maxDischargeDepth := 8) only [h2, hd, aq, aa, implies_true, simprocAttr] at hX
   subst hX;refine il (Or.inr ⟨fun q => g ⟨(q.1 i d bg hd0).1, ?_⟩, _, _, rfl, h2, hd⟩)
   rw [<- LQ];exact q.2.sublist (by rw [Gc (eX _)]; exact Gd _)
 ·have hc : ¬ ((i : Int) < (l.length : Int)) := by omega
  obtain rfl : i = l.length := by omega
  rw [Gc (eX _)] at cF;simp +contextual -implicitDefEqProofs (maxSteps := 1000000) (maxDischargeDepth := 8) only [gH, h0, h3, h4, hd, hc, jt, aq, aa, implies_true, simprocAttr] at hX
  subst hX;exact dr (Or.inl ⟨hr, _, _, v, rfl, by simp only [h0, ao, Nat.reduceBEq ], by simp only [h3, ao, Nat.reduceBEq ], cF, by simp only [hd, ao, Nat.reduceBEq ]⟩)
theorem Bn {l : List Nd} : yP l l.length ↔ l6 l /\ (gW l).Nodup /\ ∀ d ∈ l, BO d /\ cD l d := by
 unfold yP;rw [Gc (eX _)]
 constructor
 ·rintro ⟨h1, h2⟩
  refine ⟨fun i d hd => (h1 i d (rn.1 hd).1 hd).1, h2, fun d hd => ?_⟩
  obtain ⟨i, hi⟩ := List.mem_iff_getElem?.1 hd
  exact (h1 i d (rn.1 hi).1 hi).2
 ·rintro ⟨h1, h2, h3⟩
  exact ⟨fun j d _ hd => ⟨h1 j d hd, h3 d (List.mem_iff_getElem?.2 ⟨j, hd⟩)⟩, h2⟩
theorem Qr {l : List Nd} {t : Nat} {nl : Bool} (hs : Small l) : bA B K Jq [row nl t 5 (oV l)] = some (bo (Ep l)) := by
 have hlen := hs.len
 rw [cO (by simp [jj])]
 generalize hL : exec (UT B K) (aE.loop gH) = L
 simp +contextual -implicitDefEqProofs (maxSteps := 1000000) (maxDischargeDepth := 8) only [jj, aq, aa, implies_true, simprocAttr]
 subst hL;generalize hX : exec _ (.loop gH) _ _ = X
 obtain ⟨o, rfl, h⟩ := ft hX (Qp (l := l) (t := t) (nl := nl) hs (v := .slice (nb aQ.next 0) 0 0 (some 0)) (lo := aQ.next) (by simp only [ao, Nat.reduceBEq ]) (by simp only [ao, Nat.reduceBEq ]) ⟨.inr ⟨_, _, aP, rfl, eX _, by rw [ax]; unfold nb; simp, by rw [aC rfl (by simp)]; rfl, .inr rfl⟩, rfl⟩ (by rw [ax]; exact bH) (by simp only [ao, Nat.reduceBEq ]) (by simp only [ao, Nat.reduceBEq ]))
 rcases h with ⟨h, fr', m', v', rfl, h0, h3, cF, hd⟩ | ⟨h, fr', m', rfl, h2, hd⟩
 ·have hr := Bn.1 h
  by_cases hl0 : l.length = 0
  ·have : ¬ Ep l := fun q => by have := q.2.1; omega
   rcases cF.len with _
   simp +contextual -implicitDefEqProofs (maxSteps := 1000000) (maxDischargeDepth := 8) only [h0, h3, hd, hl0, jt, aq, aa, implies_true, simprocAttr]
   exact congrArg some (sa this)
  ·have hc : (0 : Int) < (l.length : Int) := by omega
   have hw : IntKind.i64.wrap ((l.length : Int) - 1) = ((l.length - 1 : Nat) : Int) := by rw [wrap_i64 (by omega) (by omega)]; omega
   have hh := fun t => Pe (l := l) (nl := nl) hr.1 (by omega) (fun d hd => by have := Th hr.1 hr.2.1 hd; omega) (l.length - 1) (by omega) t
   have xu : ∀ m, BS v' m = some (.val (.int .i64 ((gW l).length : Int)) m) := by
    intro m
    rcases cF.is with ⟨rfl, q, _⟩ | ⟨b, cap, ty, rfl, _⟩
    ·rw [q]; rfl
    ·rfl
   have hq : (((gW l).length : Int) = ((l.length - 1 : Nat) : Int)) = ((gW l).length = l.length - 1) := propext (by omega)
   have hq2 : ((gQ l (l.length - 1) : Int) <= 200) = (gQ l (l.length - 1) <= 200) := propext (by omega)
   simp +contextual -implicitDefEqProofs (maxSteps := 1000000) (maxDischargeDepth := 8) only [h0, h3, hd, hc, hw, hh, xu, hq, hq2, jt, aq, aa, implies_true, simprocAttr]
   refine eZ ?_
   unfold Ep
   grind
 ·simp +contextual -implicitDefEqProofs (maxSteps := 1000000) (maxDischargeDepth := 8) only [h2, hd, aq, aa, implies_true, simprocAttr]
  exact congrArg some (sa fun q => h (Bn.2 q.1))
end
section
theorem Bz {F : List EV -> Option (List EV)} {m : Mem} : ∀ {a b a' b' : List EV}, jA F m a = some a' -> jA F m b = some b' -> jA F m (a ++ b) = some (a' ++ b')
 | [], b, a', b', h, h' => by simp only [jA, bj] at h; subst h; exact h'
 | v :: a, b, a', b', h, h' => by
  simp only [jA] at h
  cases hv : oZ F m v with
  | none => simp only [hv] at h; cases h
  | some w =>
   cases ha : jA F m a with
   | none => simp only [hv, ha] at h; cases h
   | some c =>
    simp only [hv, ha, bj] at h;subst h;simp only [List.cons_append, jA, hv, Bz ha h']
theorem CQ {l : List Int} : is l = (ints l).flatten := by
 unfold is ints
 induction l with
 | nil => rfl
 | cons x l ih => simp only [List.map_cons, List.flatten_cons, List.cons_append, List.nil_append, ih]
theorem TO {m : Mem} {b : Nat} {tv hv : EV} {d : Nd} {kv : EV} {n : Nat} (h : BG m b tv hv d kv) : oZ (cG (n + 1) m) m kv = some (row d.nl 0 1 (ints d.kids)) := by
 rcases h.o.is with ⟨rfl, h1, _⟩ | ⟨kb, cap, t, rfl, _, h2, h3, h4⟩
 ·have : d.kids = [] := List.eq_nil_of_length_eq_zero h1
  rw [h.nl, this]; simp only [oZ]; rfl
 ·have iJ : d.kids ≠ [] := fun q => by have := h.z q; cases this
  have XG : d.nl = false := by rw [h.nl]; cases hk : d.kids with | nil => exact absurd hk iJ | cons => rfl
  have hc : Al cap d.kids.length = true := by rcases h4 with rfl | rfl <;> simp [Al]
  simp only [oZ, h3, hc, cond_true, BH (show 0 + d.kids.length * 1 <= (is d.kids).length by rw [LJ]; omega), List.drop_zero]
  rw [Nat.mul_one, <- LJ, List.take_length, XG];have hp : jr (is d.kids) = true := by
   rw [CQ]; exact pn fun el xY => by
    obtain ⟨x, _, rfl⟩ := List.mem_map.1 xY; rfl
  rw [show cG (n + 1) m (is d.kids) = some (is d.kids) from lg hp, Option.map_some]
  congr 1
  simp only [row, Bool.false_and, cond_false]
  congr 1
  rw [LJ, CQ, <- show (ints d.kids).length = d.kids.length from List.length_map ..];exact np fun el xY => by obtain ⟨x, _, rfl⟩ := List.mem_map.1 xY; rfl
theorem GS {m : Mem} {b : Nat} {tv hv : EV} {n : Nat} : ∀ {xs : List Nv}, (∀ x ∈ xs, BG m b tv hv x.d x.kv) -> jA (cG (n + 1) m) m (IL xs) = some (oV (xs.map Nv.d)).flatten
 | [], _ => rfl
 | x :: xs, h => by
  have h1 := TO (n := n) (h x (by simp))
  have h2 := GS (n := n) (xs := xs) fun y hy => h y (by simp [hy])
  refine Bz ?_ h2
  simp only [Nv.cells, wz, jA, oZ, h1]
  rfl
theorem RQ {m : Mem} {b : Nat} {tv hv v : EV} {lo : Nat} {xs : List Nv} (hx : ∀ x ∈ xs, BG m b tv hv x.d x.kv) (h : ja m v (IL xs) xs.length 5 lo) (h0 : xs ≠ []) : kQ m v = some (.fz 0 5 (oV (xs.map Nv.d))) := by
 rcases h.is with ⟨rfl, h1, _⟩ | ⟨b', cap, t, rfl, _, h2, h3, h4⟩
 ·exact absurd (List.eq_nil_of_length_eq_zero h1) h0
 ·have hc : Al cap xs.length = true := by rcases h4 with rfl | rfl <;> simp [Al]
  simp only [kQ, oZ, h3, hc, cond_true, BH (show 0 + xs.length * 5 <= (IL xs).length by rw [h.len]; omega), List.drop_zero]
  rw [<- h.len, List.take_length, show cG 7 m (IL xs) = jA (cG 6 m) m (IL xs) from rfl, GS hx, Option.map_some]
  congr 2
  have e1 : xs.length = (oV (xs.map Nv.d)).length := by simp [oV]
  rw [e1];exact np fun el xY => by obtain ⟨x, _, rfl⟩ := List.mem_map.1 xY; rfl
theorem Fp.Qy {m : Mem} {b tg : Nat} {l : List Tok} {st : RS} {P : Nat -> Prop} {tv hv : EV} {xs : List Nv} (h : Fp m b tg l st P tv hv xs) {c0 : Nat} (hp : P c0) (B : fM) : Fp (m.set c0 B) b tg l st P tv hv xs := by
 have f := (h.p c0 hp).2
 have fk := h.pk c0 hp
 have key : ∀ c, c ≠ c0 -> (m.set c0 B).get c = m.get c := fun c hc => aB hc
 exact ⟨(key b (fun q => f.ne q.symm)).trans h.g, h.lt, h.t.gD (eX _) fun c _ _ ho => key c fun q => ho (q ▸ f.t), h.h.gD (eX _) fun c _ _ ho => key c fun q => ho (q ▸ f.h), h.a, h.x, h.hl, fun x hx => ⟨(h.k x hx).o.gD (eX _) fun c _ _ ho => key c fun q => ho (q ▸ fk x hx), (h.k x hx).f, (h.k x hx).nl, (h.k x hx).z⟩, h.p, h.pk⟩
theorem P9 {m : Mem} {b tg : Nat} {l : List Tok} {st : RS} {P : Nat -> Prop} {tv hv : EV} {xs : List Nv} (h : Fp m b tg l st P tv hv xs) (h0 : st.tree ≠ []) (hl : st.tree.length < 1000000) : ∃ m' v, run U ld [.ptr b 0] m = some (.ret v m') /\ Fp m' b tg l st P tv hv xs /\ ja m' v (IL xs) xs.length 5 m.next /\ Kp m m' P /\ (∃ c n, v = .slice c 0 n none) := by
 have Tq : xs.length = st.tree.length := by rw [<- h.x, List.length_map]
 have Ts : xs.length ≠ 0 := fun q => h0 (List.eq_nil_of_length_eq_zero (Tq ▸ q))
 have hg := h.g
 have hb := h.lt
 have ht : tv.cells = some [tv] /\ eO (.aL 4) tv .ae = some false := by
  rcases h.t.is with ⟨_, q, _⟩ | ⟨_, _, _, rfl, _⟩
  ·exact absurd q Ts
  ·exact ⟨rfl, rfl⟩
 obtain ⟨ht1, ht2⟩ := ht
 have Lb : ja (ext m [.cells [] 5 ba false]) (.slice (nb m.next 0) 0 0 (some 0)) [] 0 5 m.next := ⟨.inr ⟨nb m.next 0, some 0, ba, rfl, bH, by rw [ax]; unfold nb; simp, by rw [aC rfl (by simp)]; rfl, .inr rfl⟩, rfl⟩
 obtain ⟨ha, ho⟩ := fg (e := ba) Lb (by rw [ax]; exact bH) (h.t.ext [.cells [] 5 ba false]).source h.t.len Ts (by unfold room; omega)
 have hn : m.next <= (grow (ext m [.cells [] 5 ba false]) (.slice (nb m.next 0) 0 0 (some 0)) ba 5 ([] ++ IL xs)).next := by rw [gu, ax]; unfold nb; omega
 have hold : ∀ c, c < m.next -> (grow (ext m [.cells [] 5 ba false]) (.slice (nb m.next 0) 0 0 (some 0)) ba 5 ([] ++ IL xs)).get c = m.get c := fun c hc => by
  rw [iW (by rw [ax]; unfold nb; omega) (gx.of (by unfold nb; omega)), aG hc]
 have hr : run U ld [.ptr b 0] m = some (.ret (.slice (nb (ext m [.cells [] 5 ba false]).next 0) 0 (0 + xs.length) none) (grow (ext m [.cells [] 5 ba false]) (.slice (nb m.next 0) 0 0 (some 0)) ba 5 ([] ++ IL xs))) := by
  generalize grow (ext m [.cells [] 5 ba false]) (.slice (nb m.next 0) 0 0 (some 0)) ba 5 ([] ++ IL xs) = G at *
  rw [ax, dE] at ha ⊢
  rw [bZ (by simp [ep])]
  have hC : run U rM [tv] m = some (.ret (.slice (nb m.next 1) 0 (0 + xs.length) none) G) := by
   rw [bZ (by simp [cw])]
   simp +contextual -implicitDefEqProofs (maxSteps := 1000000) (maxDischargeDepth := 8) only [cw, ht2, ha, aq, aa, implies_true, simprocAttr]
  simp +contextual -implicitDefEqProofs (maxSteps := 1000000) (maxDischargeDepth := 8) only [ep, hg, hb, hC, aq, aa, implies_true, simprocAttr]
 refine ⟨_, _, hr, ?_, ?_, ⟨hn, fun c hc => hold c (h.p c hc).1⟩, _, _, rfl⟩
 ·exact h.Ok rfl rfl ⟨hn, (hold b hb).trans h.g, fun c hc _ => hold c hc⟩
 ·rw [Nat.zero_add] at ho ⊢; exact ho
def RS.start : RS := ⟨0, 0, [], [], 0, 0⟩
theorem uL {l : List Tok} (ht : bT l) : eJ l .start := ⟨ht.pos, eX _, Int.le_refl _, Int.le_refl _, by simp [RS.start]⟩
end
section
def ph : List cm := D5 ++ S8.map fun c => [c]
def Bh (x s : cm) : Prop := x.length <= s.length /\ s.take x.length = x
def vr (n : Int) (b : Bool) : Int := if cg n then 3 else if aR n then 4 else if n = 35 then 2 else if dX n then 1 else if b = true then 5 else 0
def SW : cm := [124, 38, 61, 33, 60, 62, 43, 45, 42, 47, 37, 40, 41, 123, 125, 91, 93, 44, 59]
def eP (n : Int) : Int := vr n (decide (∃ c ∈ SW, n = cI c))
abbrev eB (s : cm) : Nat := lead (fun n => n ≠ 10) s
def je : Nat -> cm -> Nat -> AE (List Tok)
 | 0, _, p => .bad 0 p
 | _ + 1, [], _ => .ok []
 | k + 1, c :: s, p => if dX (cI c) then je k ((c :: s).drop (lead dX (c :: s))) (p + lead dX (c :: s))
  else if cI c = 35 then je k ((c :: s).drop (eB (c :: s))) (p + eB (c :: s))
  else match mu (c :: s) p with
   | .bad e q => .bad e q
   | .ok t => (je k ((c :: s).drop t.text.length) (p + t.text.length)).map (t :: ·)
theorem Eg : ∀ s : cm, cW false s = lead dX s + cW false (s.drop (lead dX s))
 | [] => rfl
 | c :: s => by
  by_cases h : dX (cI c)
  ·have WM : ¬ cI c = 35 := by unfold dX at h; omega
   have e : cW false (c :: s) = 1 + cW false s := by
    simp only [cW];rw [if_neg (by rintro ⟨_, q⟩; exact q h)]
    congr 1
    split <;> simp [WM]
   rw [e, lead, if_pos h, Eg s, Nat.add_comm 1 (lead dX s), List.drop_succ_cons]; omega
  ·rw [lead, if_neg h, Nat.zero_add, List.drop_zero]
theorem Gj : ∀ s : cm, cW true s = eB s + cW false (s.drop (eB s))
 | [] => rfl
 | c :: s => by
  by_cases h : cI c = 10
  ·have e : ∀ r, cW r (c :: s) = 1 + cW false s := fun r => by
    simp only [cW, if_pos h];rw [if_neg (by rintro ⟨_, q⟩; exact q (by rw [h]; decide))]
   unfold eB;rw [lead, if_neg (by simpa using h), Nat.zero_add, List.drop_zero, e, e]
  ·have e : cW true (c :: s) = 1 + cW true s := by
    simp only [cW, if_neg h, ite_self];rw [if_neg (by simp)]
   unfold eB;rw [lead, if_pos h, e, Gj s, Nat.add_comm 1 (lead _ s), List.drop_succ_cons]; unfold eB; omega
theorem wb : ∀ (k : Nat) (s : cm) (p k' : Nat), s.length < k -> s.length < k' -> je k s p = jd k' (s.drop (cW false s)) (p + cW false s)
 | 0, s, p, k', h, _ => by omega
 | k + 1, [], p, 0, _, h' => by omega
 | k + 1, [], p, k' + 1, _, h' => rfl
 | k + 1, c :: s, p, 0, h, h' => by omega
 | k + 1, c :: s, p, k' + 1, h, h' => by
  simp only [List.length_cons] at h h'
  by_cases hb : dX (cI c)
  ·have dD : 1 <= lead dX (c :: s) := by rw [lead, if_pos hb]; omega
   simp only [je];rw [if_pos hb, wb k _ _ (k' + 1) (by rw [uE, List.length_cons]; omega) (by rw [uE, List.length_cons]; omega), List.drop_drop, Eg (c :: s), Nat.add_assoc]
  ·by_cases WM : cI c = 35
   ·have dD : 1 <= eB (c :: s) := by unfold eB; rw [lead, if_pos (by omega)]; omega
    have e : cW false (c :: s) = eB (c :: s) + cW false ((c :: s).drop (eB (c :: s))) := by
     have CW : ¬ cI c = 10 := by omega
     have e1 : cW false (c :: s) = 1 + cW true s := by
      simp only [cW, if_neg CW, if_pos WM];rw [if_neg (by simp)]
     rw [e1, Gj s];have e2 : eB (c :: s) = eB s + 1 := by unfold eB; rw [lead, if_pos CW]; omega
     rw [e2, List.drop_succ_cons]; omega
    simp only [je];rw [if_neg hb, if_pos WM, wb k _ _ (k' + 1) (by rw [uE, List.length_cons]; omega) (by rw [uE, List.length_cons]; omega), List.drop_drop, e, Nat.add_assoc]
   ·have e0 : cW false (c :: s) = 0 := by
     simp only [cW];rw [if_pos];refine ⟨?_, hb⟩
     split <;> simp [WM]
    rw [e0, List.drop_zero, KQ (by simp)];simp only [Nat.add_zero];simp only [je];rw [if_neg hb, if_neg WM]
    cases ho : mu (c :: s) p with
    | bad e q => rfl
    | ok t =>
     obtain ⟨g1, g2, _, _⟩ := uW (by simp) ho
     simp only
     rw [wb k _ _ k' (by rw [uE, List.length_cons]; omega) (by rw [uE, List.length_cons]; omega)]
theorem Qj {s : cm} (h : s.length <= 65536) : xT s = (je (s.length + 1) s 0).map (· ++ [⟨0, [], 0, s.length⟩]) := by
 rw [wb _ s 0 (s.length + 1) (by omega) (by omega), Nat.zero_add];unfold xT;rw [if_neg (by omega)]
theorem Hk : ∀ x ∈ D5, x.length = 2 := by decide
theorem I7 {i : Nat} {x : cm} (h : ph[i]? = some x) : (i < 9 /\ x ∈ D5 /\ x.length = 2) \/ (9 <= i /\ ∃ c ∈ S8, x = [c]) := by
 unfold ph at h;rw [List.getElem?_append] at h;have h9 : D5.length = 9 := rfl
 split at h
 ·have := List.mem_of_getElem? h
  exact .inl ⟨by omega, this, Hk x this⟩
 ·rw [List.getElem?_map] at h
  obtain ⟨c, hc, rfl⟩ := kr.1 h
  exact .inr ⟨by omega, c, List.mem_of_getElem? hc, rfl⟩
theorem KY {s : cm} {i : Nat} {y : cm} (hi : ph[i]? = some y) (h1 : Bh y s) (h2 : ∀ j, j < i -> ∀ x, ph[j]? = some x -> ¬ Bh x s) : gN s = y.length := by
 obtain ⟨q1, q2⟩ := h1
 rcases I7 hi with ⟨_, hm, hl⟩ | ⟨h9, c, hc, rfl⟩
 ·rw [hl] at q1 q2
  unfold gN;rw [if_pos ⟨q1, by rw [q2]; exact hm⟩, hl]
 ·simp only [List.length_cons, List.length_nil] at q1 q2
  have TA : ¬ (2 <= s.length /\ s.take 2 ∈ D5) := by
   rintro ⟨r1, r2⟩
   obtain ⟨j, hj⟩ := List.getElem?_of_mem r2
   have h9' : D5.length = 9 := rfl
   have hjl := (rn.1 hj).1
   have hx : ph[j]? = some (s.take 2) := by
    unfold ph; rw [B8 hjl, hj]
   exact h2 j (by omega) _ hx ⟨by rw [Hk _ r2]; exact r1, by rw [Hk _ r2]⟩
  have h0 : s[0]? = some c := by
   cases s with
   | nil => simp at q1
   | cons a s => simp at q2; simp [q2]
  unfold gN;rw [if_neg TA, if_pos ⟨c, hc, h0⟩]
  rfl
theorem Gk {s : cm} (h : ∀ x ∈ ph, ¬ Bh x s) : gN s = 0 := by
 unfold gN;have TA : ¬ (2 <= s.length /\ s.take 2 ∈ D5) := by
  rintro ⟨r1, r2⟩
  have hlj : ∀ x ∈ D5, x.length = 2 := by decide
  exact h _ (List.mem_append_left _ r2) ⟨by rw [hlj _ r2]; exact r1, by rw [hlj _ r2]⟩
 rw [if_neg TA, if_neg]
 rintro ⟨c, hc, hs⟩
 cases s with
 | nil => simp at hs
 | cons a s =>
  simp at hs; subst hs
  exact h [a] (List.mem_append_right _ (List.mem_map.2 ⟨a, hc, rfl⟩)) ⟨by simp, by simp⟩
theorem Lh {c : UInt8} {s : cm} {p : Nat} (h : eP (cI c) = 0) : mu (c :: s) p = .bad 6 p := by
 unfold eP vr at h;simp only [decide_eq_true_eq] at h
 split at h
 ·cases h
 split at h
 ·cases h
 split at h
 ·cases h
 split at h
 ·cases h
 split at h
 ·cases h
 rename_i h1 h2 h3 h4 h5
 have hw : cP (c :: s) = 0 := by unfold cP; exact if_neg h1
 have hs : gN (c :: s) = 0 := by
  refine Gk fun x hx q => h5 ?_
  have : ∀ x ∈ ph, ∃ a ∈ SW, x[0]? = some a := by decide
  obtain ⟨a, ha, hxa⟩ := this x hx
  obtain ⟨q1, q2⟩ := q
  refine ⟨a, ha, ?_⟩
  cases x with
  | nil => simp at hxa
  | cons b x =>
   simp only [List.getElem?_cons_zero, bj] at hxa;subst hxa;simp only [List.length_cons, List.take_succ_cons, List.cons.injEq] at q2;rw [q2.1]
 rw [td (by simp)];simp only [List.getElem_cons_zero];rw [if_neg h2, hw, hs];simp
theorem ua {n : Int} : eP n = 3 ↔ cg n := by
 unfold eP vr;simp only [decide_eq_true_eq];by_cases h : cg n
 ·simp [h]
 ·rw [if_neg h]
  constructor
  ·intro q
   repeat' split at q
   all_goals cases q
  ·intro q; exact absurd q h
theorem qR {n : Int} : eP n = 4 ↔ aR n := by
 unfold eP vr;simp only [decide_eq_true_eq];by_cases h : aR n
 ·rw [if_neg (by unfold cg; unfold aR at h; omega), if_pos h]; simp [h]
 ·rw [if_neg h]
  constructor
  ·intro q
   repeat' split at q
   all_goals cases q
  ·intro q; exact absurd q h
theorem vq {n : Int} : eP n = 1 ↔ dX n := by
 unfold eP vr;simp only [decide_eq_true_eq];by_cases h : dX n
 ·rw [if_neg (by unfold cg; unfold dX at h; omega), if_neg (by unfold aR; unfold dX at h; omega), if_neg (by unfold dX at h; omega), if_pos h]; simp [h]
 ·rw [if_neg h]
  constructor
  ·intro q
   repeat' split at q
   all_goals cases q
  ·intro q; exact absurd q h
theorem Ag {n : Int} : eP n = 2 ↔ n = 35 := by
 unfold eP vr;simp only [decide_eq_true_eq];by_cases h : n = 35
 ·subst h; decide
 ·rw [if_neg h]
  constructor
  ·intro q
   repeat' split at q
   all_goals cases q
  ·intro q; exact absurd q h
theorem R7 {n : Int} : 0 <= eP n /\ eP n <= 5 := by
 unfold eP vr;simp only [decide_eq_true_eq]
 repeat' split
 all_goals decide
end
section
theorem AN {l : List cm} {i : Nat} : (lr l)[i]? = (l[i]?).map fun s => [.str s] := by unfold lr; rw [List.getElem?_map]
theorem rz {l : List cm} : (lr l).length = l.length := by unfold lr; rw [List.length_map]
theorem M6 {l : List cm} {m : Mem} : m.load none (V4 l) = some (.fz 0 1 (lr l)) := rfl
def jO (l : List Int) : List (List EV) := l.map fun s => [.int .i64 s]
theorem O8 {l : List Int} {i : Nat} : (jO l)[i]? = (l[i]?).map fun s => [.int .i64 s] := by unfold jO; rw [List.getElem?_map]
theorem GJ {l : List Int} : (jO l).length = l.length := by unfold jO; rw [List.length_map]
def Tl {α : Type} [DecidableEq α] (x : α) : List α -> Nat
 | [] => 0
 | a :: l => if a = x then 0 else Tl x l + 1
theorem LI {α : Type} [DecidableEq α] {x : α} : ∀ {l : List α} {i : Nat}, x ∉ l.take i -> l[i]? = some x -> Tl x l = i
 | [], i, _, h => by simp at h
 | a :: l, 0, _, h => by simp only [List.getElem?_cons_zero, bj] at h; simp only [Tl, if_pos h]
 | a :: l, i + 1, hn, h => by
  simp only [List.take_succ_cons, o6, not_or] at hn;simp only [Tl, if_neg (Ne.symm hn.1), LI hn.2 (by simpa using h)]
def Uu {α : Type} [DecidableEq α] (x : α) (l : List α) : Int := if x ∈ l then (Tl x l : Int) else -1
theorem Nf {α : Type} [DecidableEq α] {x : α} {l : List α} : (0 <= Uu x l) = (x ∈ l) := by
 unfold Uu;by_cases h : x ∈ l
 ·rw [if_pos h]; simp [h]
 ·rw [if_neg h]; simp [h]
end
section
theorem Mn {s : cm} {c : Int} {m : Mem} : run U gB [.str s, .int .u8 c] m = some (.ret (.int .i64 (Go.Lib.indexByte s c.toNat.toUInt8)) m) := by
 rw [Hu (g := gy) (by unfold U UT PT; rfl)]
 simp [gy]
theorem Ow {s : cm} {c : Int} : bA B K eY [.str s, .int .u8 c] = some (.int .i64 (Go.Lib.indexByte s c.toNat.toUInt8)) := by
 rw [cO (by simp [aM])]
 simp +contextual -implicitDefEqProofs (maxSteps := 1000000) (maxDischargeDepth := 8) only [aM, Mn, aq, aa, implies_true, simprocAttr]
theorem KV {s : cm} {c : Int} : bA B K oh [.str s, .int .u8 c] = some (.int .i64 (Go.Lib.indexByte s c.toNat.toUInt8)) := by
 rw [cO (by simp [dI])]
 simp +contextual -implicitDefEqProofs (maxSteps := 1000000) (maxDischargeDepth := 8) only [dI, Ow, aq, aa, implies_true, simprocAttr]
theorem Vk {s : cm} {c : UInt8} : (0 <= Go.Lib.indexByte s c) = (∃ a ∈ s, cI c = cI a) := by
 have := Go.Lib.contains_iff_indexByte s c
 refine propext ?_
 rw [<- decide_eq_true_iff (p := 0 <= Go.Lib.indexByte s c), <- this, List.contains_iff_mem]
 constructor
 ·intro h; exact ⟨c, h, rfl⟩
 ·rintro ⟨a, ha, h⟩
  have : c = a := UInt8.toNat_inj.1 (by unfold cI at h; omega)
  rw [this]; exact ha
theorem Ki {n : Int} {Q : Prop} (h1 : n < 48 -> n = 35 -> Q) (h2 : n < 48 -> n = 32 -> Q) (h3 : n < 48 -> n = 9 -> Q) (h4 : n < 48 -> n = 10 -> Q) (h5 : n < 48 -> n = 13 -> Q)
  (h6 : ¬ 97 <= n -> ¬ 65 <= n -> ¬ n = 95 -> ¬ 48 <= n -> ¬ n = 35 -> ¬ n = 32 -> ¬ n = 9 -> ¬ n = 10 -> ¬ n = 13 -> Q)
  (h7 : ¬ 97 <= n -> ¬ 65 <= n -> ¬ n = 95 -> 48 <= n -> n <= 57 -> Q)
  (h8 : ¬ 97 <= n -> ¬ 65 <= n -> ¬ n = 95 -> 48 <= n -> ¬ n <= 57 -> ¬ n = 35 -> ¬ n = 32 -> ¬ n = 9 -> ¬ n = 10 -> ¬ n = 13 -> Q)
  (h9 : ¬ 97 <= n -> 65 <= n -> n <= 90 -> Q)
  (CW : ¬ 97 <= n -> 65 <= n -> ¬ n <= 90 -> n = 95 -> Q)
  (IR : ¬ 97 <= n -> 65 <= n -> ¬ n <= 90 -> ¬ n = 95 -> 48 <= n -> ¬ n <= 57 -> ¬ n = 35 -> ¬ n = 32 -> ¬ n = 9 -> ¬ n = 10 -> ¬ n = 13 -> Q)
  (KJ : 97 <= n -> n <= 122 -> Q)
  (TL : 97 <= n -> ¬ n <= 122 -> 65 <= n -> ¬ n <= 90 -> ¬ n = 95 -> 48 <= n -> ¬ n <= 57 -> ¬ n = 35 -> ¬ n = 32 -> ¬ n = 9 -> ¬ n = 10 -> ¬ n = 13 -> Q) : Q := by
 by_cases a : 97 <= n
 ·by_cases b : n <= 122
  ·exact KJ a b
  ·exact TL a b (by omega) (by omega) (by omega) (by omega) (by omega) (by omega) (by omega) (by omega) (by omega) (by omega)
 ·by_cases b : 65 <= n
  ·by_cases c : n <= 90
   ·exact h9 a b c
   ·by_cases d : n = 95
    ·exact CW a b c d
    ·exact IR a b c d (by omega) (by omega) (by omega) (by omega) (by omega) (by omega) (by omega)
  ·by_cases c : 48 <= n
   ·by_cases d : n <= 57
    ·exact h7 a b (by omega) c d
    ·exact h8 a b (by omega) c d (by omega) (by omega) (by omega) (by omega) (by omega)
   ·by_cases e1 : n = 35
    ·exact h1 (by omega) e1
    by_cases e2 : n = 32
    ·exact h2 (by omega) e2
    by_cases e3 : n = 9
    ·exact h3 (by omega) e3
    by_cases e4 : n = 10
    ·exact h4 (by omega) e4
    by_cases e5 : n = 13
    ·exact h5 (by omega) e5
    exact h6 a b (by omega) c e1 e2 e3 e4 e5
theorem pG {c : UInt8} : bA B K jg [.int .u8 (cI c)] = some (.int .i64 (eP (cI c))) := by
 rw [cO (by simp [ig])]
 have H0 : ∀ s : cm, bA B K oh [.str s, .int .u8 (cI c)] = some (.int .i64 (Go.Lib.indexByte s c)) := fun s => by rw [KV]; simp
 have hm : (0 <= Go.Lib.indexByte [124, 38, 61, 33, 60, 62, 43, 45, 42, 47, 37, 40, 41, 123, 125, 91, 93, 44, 59] c) = (decide (∃ a ∈ SW, cI c = cI a) = true) := by rw [decide_eq_true_eq]; exact Vk
 unfold eP vr cg aR dX;generalize decide (∃ a ∈ SW, cI c = cI a) = Q at hm ⊢
 generalize cI c = n at *
 refine Ki (n := n) ?_ ?_ ?_ ?_ ?_ ?_ ?_ ?_ ?_ ?_ ?_ ?_ ?_
 all_goals intros
 case refine_1 | refine_2 | refine_3 | refine_4 | refine_5 | refine_10 => subst n; simp +contextual -implicitDefEqProofs (maxSteps := 1000000) (maxDischargeDepth := 8) only [ig, H0, hm, aq, aa, implies_true, simprocAttr]
 all_goals
  simp +contextual -implicitDefEqProofs (maxSteps := 1000000) (maxDischargeDepth := 8) only [ig, H0, hm, *, aq, aa, implies_true, simprocAttr]
 all_goals first | (simp_all; done) | (cases Q <;> simp_all [Sy])
end
section
theorem JE {l : List Int} {x : Int} (hl : l.length < 1000000000) {tg : Nat} {m0 : Mem} {fr : Fr} (h0 : fr.get 0 = .fz tg 1 (jO l)) (h1 : fr.get 1 = .int .i64 x) (h7 : fr.get 7 = .int .i64 (l.length : Int)) (h8 : fr.get 8 = .int .i64 0) (hd : fr.defers = []) :
  ∃ o, exec U (.loop dS) fr m0 = some o /\ ((x ∈ l /\ ∃ fr', o = .ret fr' m0 /\ fr'.get 4 = .int .i64 (Tl x l : Int) /\ fr'.defers = []) \/ (x ∉ l /\ ∃ fr', o = .exit 0 fr' m0 /\ fr'.defers = [])) := by
 refine fC (σ := Nat) (fun i fr m => m = m0 /\ i <= l.length /\ x ∉ l.take i /\ fr.get 0 = .fz tg 1 (jO l) /\ fr.get 1 = .int .i64 x /\ fr.get 7 = .int .i64 (l.length : Int) /\ fr.get 8 = .int .i64 (i : Int) /\ fr.defers = []) (fun i => l.length - i) _ ?_ 0 fr m0 ⟨rfl, kW _, by simp, h0, h1, h7, h8, hd⟩
 rintro i fr m ⟨rfl, hi, hn, h0, h1, h7, h8, hd⟩
 generalize hX : exec U dS fr m = X
 by_cases bg : i < l.length
 ·have hc : (i : Int) < (l.length : Int) := by omega
  have hg : l[i]? = some l[i] := lp bg
  have ol := bJ (i := i) (by omega)
  simp +contextual -implicitDefEqProofs (maxSteps := 1000000) (maxDischargeDepth := 8) only [dS, h0, h1, h7, h8, hd, hc, hg, bg, ol, bi, O8, GJ, aq, aa, implies_true, simprocAttr] at hX
  subst hX;refine mC (fun he => il (.inl ⟨by rw [he]; exact BI bg, _, rfl, ?_, by simp only [hd, ao, Nat.reduceBEq ]⟩)) (fun he => dq (i + 1) (by omega) ⟨rfl, bg, ?_, by simp only [h0, ao, Nat.reduceBEq ], by simp only [h1, ao, Nat.reduceBEq ], by simp only [h7, ao, Nat.reduceBEq ], by simp only [ao, Nat.reduceBEq ], by simp only [hd, ao, Nat.reduceBEq ]⟩)
  ·have : Tl x l = i := LI hn (by rw [hg, he])
   rw [this]; simp only [ao, Nat.reduceBEq ]
  ·rw [List.take_succ_eq_append_getElem bg, uD]
   rintro (q | q)
   ·exact hn q
   ·exact he (yl.1 q)
 ·have hc : ¬ ((i : Int) < (l.length : Int)) := by omega
  simp +contextual -implicitDefEqProofs (maxSteps := 1000000) (maxDischargeDepth := 8) only [dS, h0, h7, h8, hd, hc, aq, aa, implies_true, simprocAttr] at hX
  subst hX;have : l.take i = l := Gc (by omega)
  rw [this] at hn;exact dr (.inr ⟨hn, _, rfl, by simp only [hd, ao, Nat.reduceBEq ]⟩)
theorem LK {l : List Int} {x : Int} (hl : l.length < 1000000000) {tg : Nat} {m : Mem} : run U xO [.fz tg 1 (jO l), .int .i64 x] m = some (.ret (.int .i64 (Uu x l)) m) := by
 rw [bZ (by simp [eg])]
 generalize hL : exec (UT B K) (aE.loop dS) = L
 simp +contextual -implicitDefEqProofs (maxSteps := 1000000) (maxDischargeDepth := 8) only [eg, GJ, aq, aa, implies_true, simprocAttr]
 subst hL;generalize hX : exec _ (.loop dS) _ _ = X
 obtain ⟨o, rfl, h⟩ := ft hX (JE (l := l) (x := x) hl (tg := tg) (by simp only [ao, Nat.reduceBEq ]) (by simp only [ao, Nat.reduceBEq ]) (by simp only [ao, Nat.reduceBEq ]) (by simp only [ao, Nat.reduceBEq ]) (by simp only [ao, Nat.reduceBEq ]))
 rcases h with ⟨h, fr', rfl, h4, hd⟩ | ⟨h, fr', rfl, hd⟩
 ·simp +contextual -implicitDefEqProofs (maxSteps := 1000000) (maxDischargeDepth := 8) only [h, h4, hd, Uu, aq, aa, implies_true, simprocAttr]
 ·simp +contextual -implicitDefEqProofs (maxSteps := 1000000) (maxDischargeDepth := 8) only [h, hd, Uu, aq, aa, implies_true, simprocAttr]
theorem LL {l : List Int} {x : Int} (hl : l.length < 1000000000) {tg : Nat} {m : Mem} : run U uA [.fz tg 1 (jO l), .int .i64 x] m = some (.ret (bo (x ∈ l)) m) := by
 rw [bZ (by simp [cS])]
 have h := fun m => LK (x := x) hl (tg := tg) (m := m)
 simp +contextual -implicitDefEqProofs (maxSteps := 1000000) (maxDischargeDepth := 8) only [cS, h, Nf, aq, aa, implies_true, simprocAttr]
end
section
theorem Eb {l : List cm} {x : cm} (hl : l.length < 1000000000) {tg : Nat} {m0 : Mem} {fr : Fr} (h0 : fr.get 0 = .fz tg 1 (lr l)) (h1 : fr.get 1 = .str x) (h7 : fr.get 7 = .int .i64 (l.length : Int)) (h8 : fr.get 8 = .int .i64 0) (hd : fr.defers = []) :
  ∃ o, exec U (.loop cL) fr m0 = some o /\ ((x ∈ l /\ ∃ fr', o = .ret fr' m0 /\ fr'.get 4 = .int .i64 (Tl x l : Int) /\ fr'.defers = []) \/ (x ∉ l /\ ∃ fr', o = .exit 0 fr' m0 /\ fr'.defers = [])) := by
 refine fC (σ := Nat) (fun i fr m => m = m0 /\ i <= l.length /\ x ∉ l.take i /\ fr.get 0 = .fz tg 1 (lr l) /\ fr.get 1 = .str x /\ fr.get 7 = .int .i64 (l.length : Int) /\ fr.get 8 = .int .i64 (i : Int) /\ fr.defers = []) (fun i => l.length - i) _ ?_ 0 fr m0 ⟨rfl, kW _, by simp, h0, h1, h7, h8, hd⟩
 rintro i fr m ⟨rfl, hi, hn, h0, h1, h7, h8, hd⟩
 generalize hX : exec U cL fr m = X
 by_cases bg : i < l.length
 ·have hc : (i : Int) < (l.length : Int) := by omega
  have hg : l[i]? = some l[i] := lp bg
  have ol := bJ (i := i) (by omega)
  simp +contextual -implicitDefEqProofs (maxSteps := 1000000) (maxDischargeDepth := 8) only [cL, h0, h1, h7, h8, hd, hc, hg, bg, ol, bi, AN, rz, aq, aa, implies_true, simprocAttr] at hX
  subst hX;refine mC (fun he => il (.inl ⟨by rw [he]; exact BI bg, _, rfl, ?_, by simp only [hd, ao, Nat.reduceBEq ]⟩)) (fun he => dq (i + 1) (by omega) ⟨rfl, bg, ?_, by simp only [h0, ao, Nat.reduceBEq ], by simp only [h1, ao, Nat.reduceBEq ], by simp only [h7, ao, Nat.reduceBEq ], by simp only [ao, Nat.reduceBEq ], by simp only [hd, ao, Nat.reduceBEq ]⟩)
  ·have : Tl x l = i := LI hn (by rw [hg, he])
   rw [this]; simp only [ao, Nat.reduceBEq ]
  ·rw [List.take_succ_eq_append_getElem bg, uD]
   rintro (q | q)
   ·exact hn q
   ·exact he (yl.1 q)
 ·have hc : ¬ ((i : Int) < (l.length : Int)) := by omega
  simp +contextual -implicitDefEqProofs (maxSteps := 1000000) (maxDischargeDepth := 8) only [cL, h0, h7, h8, hd, hc, aq, aa, implies_true, simprocAttr] at hX
  subst hX;have : l.take i = l := Gc (by omega)
  rw [this] at hn;exact dr (.inr ⟨hn, _, rfl, by simp only [hd, ao, Nat.reduceBEq ]⟩)
theorem FH {l : List cm} {x : cm} (hl : l.length < 1000000000) {tg : Nat} {m : Mem} : run U uz [.fz tg 1 (lr l), .str x] m = some (.ret (.int .i64 (Uu x l)) m) := by
 rw [bZ (by simp [cR])]
 generalize hL : exec (UT B K) (aE.loop cL) = L
 simp +contextual -implicitDefEqProofs (maxSteps := 1000000) (maxDischargeDepth := 8) only [cR, rz, aq, aa, implies_true, simprocAttr]
 subst hL;generalize hX : exec _ (.loop cL) _ _ = X
 obtain ⟨o, rfl, h⟩ := ft hX (Eb (l := l) (x := x) hl (tg := tg) (by simp only [ao, Nat.reduceBEq ]) (by simp only [ao, Nat.reduceBEq ]) (by simp only [ao, Nat.reduceBEq ]) (by simp only [ao, Nat.reduceBEq ]) (by simp only [ao, Nat.reduceBEq ]))
 rcases h with ⟨h, fr', rfl, h4, hd⟩ | ⟨h, fr', rfl, hd⟩
 ·simp +contextual -implicitDefEqProofs (maxSteps := 1000000) (maxDischargeDepth := 8) only [h, h4, hd, Uu, aq, aa, implies_true, simprocAttr]
 ·simp +contextual -implicitDefEqProofs (maxSteps := 1000000) (maxDischargeDepth := 8) only [h, hd, Uu, aq, aa, implies_true, simprocAttr]
theorem FI {l : List cm} {x : cm} (hl : l.length < 1000000000) {tg : Nat} {m : Mem} : run U rh [.fz tg 1 (lr l), .str x] m = some (.ret (bo (x ∈ l)) m) := by
 rw [bZ (by simp [cb])]
 have h := fun m => FH (x := x) hl (tg := tg) (m := m)
 simp +contextual -implicitDefEqProofs (maxSteps := 1000000) (maxDischargeDepth := 8) only [cb, h, Nf, aq, aa, implies_true, simprocAttr]
end
section
theorem Jx {s : cm} : bA B K xP [.str s] = some (bo (s ∈ jm)) := by
 rw [cO (by simp [pI])]
 have h := fun m => FI (l := jm) (x := s) (by decide) (tg := 0) (m := m)
 have hl := fun m => M6 (l := jm) (m := m)
 have e : L_lex_words = jm := rfl
 simp +contextual -implicitDefEqProofs (maxSteps := 1000000) (maxDischargeDepth := 8) only [pI, e, hl, h, aq, aa, implies_true, simprocAttr]
end
section
theorem tq {P Q : Int -> Prop} [DecidablePred P] [DecidablePred Q] (h : ∀ n, P n ↔ Q n) : ∀ s : cm, lead P s = lead Q s
 | [] => rfl
 | c :: s => by
  simp only [lead, tq h s];by_cases q : Q (cI c)
  ·rw [if_pos q, if_pos ((h _).2 q)]
  ·rw [if_neg q, if_neg (fun w => q ((h _).1 w))]
abbrev BT (cl : List Int) : Int -> Prop := fun n => eP n ∈ cl
theorem Qm {s : cm} {cl : List Int} {tg : Nat} (hs : s.length < 1000000000) (oY : cl.length < 1000) {m0 : Mem} {fr : Fr} (h0 : fr.get 0 = .str s) (h1 : fr.get 1 = .fz tg 1 (jO cl)) (h5 : fr.get 5 = .int .i64 0) (hd : fr.defers = []) :
  ∃ o, exec U (.loop ie) fr m0 = some o /\ ∃ fr', o = .exit 0 fr' m0 /\ fr'.get 5 = .int .i64 (lead (BT cl) s : Int) /\ fr'.defers = [] := by
 refine fC (σ := Nat) (fun i fr m => m = m0 /\ i <= s.length /\ fr.get 0 = .str s /\ fr.get 1 = .fz tg 1 (jO cl) /\ fr.get 5 = .int .i64 (i : Int) /\ lead (BT cl) s = i + lead (BT cl) (s.drop i) /\ fr.defers = []) (fun i => s.length - i) _ ?_ 0 fr m0 ⟨rfl, kW _, h0, h1, h5, by simp, hd⟩
 rintro i fr m ⟨rfl, hi, h0, h1, h5, hr, hd⟩
 generalize hX : exec U ie fr m = X
 by_cases bg : i < s.length
 ·have hc : (i : Int) < (s.length : Int) := by omega
  have hg : s[i]? = some s[i] := lp bg
  have ol := bJ (i := i) (by omega)
  rw [drop_cons bg, lead] at hr;generalize s[i] = c at hg hr
  have RF : bA B K jg [.int .u8 (c.toNat : Int)] = some (.int .i64 (eP (cI c))) := pG
  have hh := fun m => LL (l := cl) (x := eP (cI c)) (by omega) (tg := tg) (m := m)
  by_cases hq : eP (cI c) ∈ cl
  ·rw [if_pos hq] at hr
   simp +contextual -implicitDefEqProofs (maxSteps := 1000000) (maxDischargeDepth := 8) only [ie, h0, h1, h5, hd, hc, hg, bg, ol, RF, hh, hq, gl, bi, aq, aa, implies_true, simprocAttr] at hX
   subst hX;exact dq (i + 1) (by omega) ⟨rfl, bg, by simp only [h0, ao, Nat.reduceBEq ], by simp only [h1, ao, Nat.reduceBEq ], by simp only [ao, Nat.reduceBEq ], by omega, by simp only [hd, ao, Nat.reduceBEq ]⟩
  ·rw [if_neg hq] at hr
   simp +contextual -implicitDefEqProofs (maxSteps := 1000000) (maxDischargeDepth := 8) only [ie, h0, h1, h5, hd, hc, hg, bg, ol, RF, hh, hq, fG, bi, aq, aa, implies_true, simprocAttr] at hX
   subst hX;exact dr ⟨_, rfl, by simp only [h5, hr, Nat.add_zero, ao, Nat.reduceBEq ], by simp only [hd, ao, Nat.reduceBEq ]⟩
 ·have hc : ¬ ((i : Int) < (s.length : Int)) := by omega
  obtain rfl : i = s.length := by omega
  rw [List.drop_length, lead, Nat.add_zero] at hr;simp +contextual -implicitDefEqProofs (maxSteps := 1000000) (maxDischargeDepth := 8) only [ie, h0, h1, h5, hd, hc, aq, aa, implies_true, simprocAttr] at hX
  subst hX;exact dr ⟨_, rfl, by simp only [h5, hr, ao, Nat.reduceBEq ], by simp only [hd, ao, Nat.reduceBEq ]⟩
theorem run_eq {s : cm} {cl : List Int} {tg : Nat} (hs : s.length < 1000000000) (oY : cl.length < 1000) : bA B K oW [.str s, .fz tg 1 (jO cl)] = some (.int .i64 (lead (BT cl) s : Int)) := by
 rw [cO (by simp [lG])]
 generalize hL : exec (UT B K) (aE.loop ie) = L
 simp +contextual -implicitDefEqProofs (maxSteps := 1000000) (maxDischargeDepth := 8) only [lG, aq, aa, implies_true, simprocAttr]
 subst hL;generalize hX : exec _ (.loop ie) _ _ = X
 obtain ⟨o, rfl, fr', rfl, h5, hd⟩ := ft hX (Qm (s := s) (cl := cl) (tg := tg) hs oY (by simp only [ao, Nat.reduceBEq ]) (by simp only [ao, Nat.reduceBEq ]) (by simp only [ao, Nat.reduceBEq ]) (by simp only [ao, Nat.reduceBEq ]))
 simp +contextual -implicitDefEqProofs (maxSteps := 1000000) (maxDischargeDepth := 8) only [h5, hd, aq, aa, implies_true, simprocAttr]
theorem KW {s x : cm} : bA B K lT [.str s, .str x] = some (bo (Bh x s)) := by
 rw [cO (by simp [aT])]
 by_cases h : x.length <= s.length
 ·have hc : (x.length : Int) <= (s.length : Int) := by omega
  have hb : ay (some (.int .i64 (x.length : Int))) s.length s.length = some x.length := cJ h
  have Nm : ay none 0 x.length = some 0 := rfl
  simp +contextual -implicitDefEqProofs (maxSteps := 1000000) (maxDischargeDepth := 8) only [aT, hc, hb, Nm, Option.map_none, aq, aa, implies_true, simprocAttr]
  exact eZ ⟨fun q => ⟨h, q⟩, fun q => q.2⟩
 ·have hc : ¬ (x.length : Int) <= (s.length : Int) := by omega
  simp +contextual -implicitDefEqProofs (maxSteps := 1000000) (maxDischargeDepth := 8) only [aT, hc, aq, aa, implies_true, simprocAttr]
  exact congrArg some (sa fun q => h q.1)
theorem I0 {s x : cm} : bA B K xo [.str s, .str x] = some (bo (Bh x s)) := by
 rw [cO (by simp [dJ])]
 simp +contextual -implicitDefEqProofs (maxSteps := 1000000) (maxDischargeDepth := 8) only [dJ, KW, aq, aa, implies_true, simprocAttr]
theorem S5 {s x : cm} {b t : Nat} {m : Mem} (hb : m.get b = .cells [.str s] 1 t false) (bg : b < m.next) : run U fK [.str x, .ptr b 0] m = some (.ret (bo (Bh x s)) m) := by
 rw [bZ (by simp [dh])]
 simp +contextual -implicitDefEqProofs (maxSteps := 1000000) (maxDischargeDepth := 8) only [dh, hb, bg, I0, aq, aa, implies_true, simprocAttr]
theorem Pn {l : List cm} {s : cm} {b t tg : Nat} (hl : l.length < 1000000000) {m0 : Mem} {fr : Fr} (hb : m0.get b = .cells [.str s] 1 t false) (VX : b < m0.next) (h0 : fr.get 0 = .fz tg 1 (lr l)) (h1 : fr.get 1 = .func fK [] [.ptr b 0]) (h7 : fr.get 7 = .int .i64 (l.length : Int)) (h8 : fr.get 8 = .int .i64 0) (hd : fr.defers = []) :
  ∃ o, exec U (.loop bR) fr m0 = some o /\ ((∃ (i : Nat) (y : cm), l[i]? = some y /\ Bh y s /\ (∀ j : Nat, j < i -> ∀ x, l[j]? = some x -> ¬ Bh x s) /\ ∃ fr', o = .ret fr' m0 /\ fr'.get 4 = .int .i64 (i : Int) /\ fr'.defers = []) \/ ((∀ x ∈ l, ¬ Bh x s) /\ ∃ fr', o = .exit 0 fr' m0 /\ fr'.defers = [])) := by
 refine fC (σ := Nat) (fun i fr m => m = m0 /\ i <= l.length /\ (∀ j, j < i -> ∀ x, l[j]? = some x -> ¬ Bh x s) /\ fr.get 0 = .fz tg 1 (lr l) /\ fr.get 1 = .func fK [] [.ptr b 0] /\ fr.get 7 = .int .i64 (l.length : Int) /\ fr.get 8 = .int .i64 (i : Int) /\ fr.defers = []) (fun i => l.length - i) _ ?_ 0 fr m0 ⟨rfl, kW _, by omega, h0, h1, h7, h8, hd⟩
 rintro i fr m ⟨rfl, hi, hn, h0, h1, h7, h8, hd⟩
 generalize hX : exec U bR fr m = X
 by_cases bg : i < l.length
 ·have hc : (i : Int) < (l.length : Int) := by omega
  have hg : l[i]? = some l[i] := lp bg
  have ol := bJ (i := i) (by omega)
  have hp := fun x => S5 (x := x) hb VX
  simp +contextual -implicitDefEqProofs (maxSteps := 1000000) (maxDischargeDepth := 8) only [bR, h0, h1, h7, h8, hd, hc, hg, bg, ol, hp, bi, AN, rz, aq, aa, implies_true, simprocAttr] at hX
  subst hX;refine mC (fun he => il (.inl ⟨i, l[i], hg, he, hn, _, rfl, by simp only [ao, Nat.reduceBEq ], by simp only [hd, ao, Nat.reduceBEq ]⟩)) (fun he => dq (i + 1) (by omega) ⟨rfl, bg, fun j hj x hx => ?_, by simp only [h0, ao, Nat.reduceBEq ], by simp only [h1, ao, Nat.reduceBEq ], by simp only [h7, ao, Nat.reduceBEq ], by simp only [ao, Nat.reduceBEq ], by simp only [hd, ao, Nat.reduceBEq ]⟩)
  by_cases SE : j < i
  ·exact hn j SE x hx
  ·obtain rfl : j = i := by omega
   rw [hg] at hx; cases hx; exact he
 ·have hc : ¬ ((i : Int) < (l.length : Int)) := by omega
  obtain rfl : i = l.length := by omega
  simp +contextual -implicitDefEqProofs (maxSteps := 1000000) (maxDischargeDepth := 8) only [bR, h0, h7, h8, hd, hc, aq, aa, implies_true, simprocAttr] at hX
  subst hX;refine dr (.inr ⟨fun x hx => ?_, _, rfl, by simp only [hd, ao, Nat.reduceBEq ]⟩)
  obtain ⟨j, hj⟩ := List.getElem?_of_mem hx
  exact hn j (rn.1 hj).1 x hj
theorem RW {l : List cm} {s : cm} {b t tg : Nat} (hl : l.length < 1000000000) {m : Mem} (hb : m.get b = .cells [.str s] 1 t false) (VX : b < m.next) :
  (∃ (i : Nat) (y : cm), l[i]? = some y /\ Bh y s /\ (∀ j : Nat, j < i -> ∀ x, l[j]? = some x -> ¬ Bh x s) /\ run U kz [.fz tg 1 (lr l), .func fK [] [.ptr b 0]] m = some (.ret (.int .i64 (i : Int)) m)) \/
  ((∀ x ∈ l, ¬ Bh x s) /\ run U kz [.fz tg 1 (lr l), .func fK [] [.ptr b 0]] m = some (.ret (.int .i64 (-1)) m)) := by
 rw [bZ (by simp [bU])]
 generalize hL : exec (UT B K) (aE.loop bR) = L
 simp +contextual -implicitDefEqProofs (maxSteps := 1000000) (maxDischargeDepth := 8) only [bU, rz, aq, aa, implies_true, simprocAttr]
 subst hL;generalize hX : exec _ (.loop bR) _ _ = X
 obtain ⟨o, rfl, h⟩ := ft hX (Pn (l := l) (s := s) hl (tg := tg) hb VX (by simp only [ao, Nat.reduceBEq ]) (by simp only [ao, Nat.reduceBEq ]) (by simp only [ao, Nat.reduceBEq ]) (by simp only [ao, Nat.reduceBEq ]) (by simp only [ao, Nat.reduceBEq ]))
 rcases h with ⟨i, y, h1, h2, h3, fr', rfl, h4, hd⟩ | ⟨h, fr', rfl, hd⟩
 ·refine .inl ⟨i, y, h1, h2, h3, ?_⟩
  simp +contextual -implicitDefEqProofs (maxSteps := 1000000) (maxDischargeDepth := 8) only [h4, hd, aq, aa, implies_true, simprocAttr]
 ·refine .inr ⟨h, ?_⟩
  simp +contextual -implicitDefEqProofs (maxSteps := 1000000) (maxDischargeDepth := 8) only [hd, aq, aa, implies_true, simprocAttr]
theorem Nc : ∀ s : cm, (Go.Lib.indexByte s 10 = (eB s : Int) /\ eB s < s.length) \/ (Go.Lib.indexByte s 10 = -1 /\ eB s = s.length)
 | [] => .inr ⟨rfl, rfl⟩
 | c :: s => by
  unfold eB;rw [lead, Go.Lib.indexByte];by_cases h : cI c = 10
  ·have hc : c = 10 := UInt8.toNat_inj.1 (by unfold cI at h; simp; omega)
   subst hc;have h' : (cI 10 ≠ 10) = False := eq_false (by decide)
   simp only [h', if_false, beq_self_eq_true, if_true];exact .inl ⟨rfl, by simp⟩
  ·have hc : ¬ (c == 10) = true := by
    rw [beq_iff_eq]; rintro rfl; exact h rfl
   rw [if_neg hc, if_pos h];rcases Nc s with ⟨h1, h2⟩ | ⟨h1, h2⟩
   ·unfold eB at h1 h2
    refine .inl ⟨?_, by simp only [List.length_cons]; omega⟩
    rw [h1, if_neg (by simp)]; omega
   ·unfold eB at h2
    refine .inr ⟨?_, by simp only [List.length_cons]; omega⟩
    rw [h1]; rfl
theorem R3 {s : cm} (hs : s.length < 1000000000) : ∃ a b, bA B K FM [.str s, .str [10]] = some (.tuple [.str (s.take (eB s)), .str a, .bool b]) := by
 have H0 : ∀ m : Mem, run U dF [.str s, .str [10]] m = some (.ret (.int .i64 (Go.Lib.indexByte s 10)) m) := fun m => by
  rw [run_pure (g := Ca) (by unfold U UT PT; rfl)]; rfl
 have h2 : ∃ a b, bA B K po [.str s, .str [10]] = some (.tuple [.str (s.take (eB s)), .str a, .bool b]) := by
  rw [cO (by simp [bC])]
  rcases Nc s with ⟨h1, h2⟩ | ⟨h1, h2⟩
  ·have hc : (0 : Int) <= (eB s : Int) := by omega
   have hw : IntKind.i64.wrap ((eB s : Int) + 1) = ((eB s + 1 : Nat) : Int) := bJ (by omega)
   have hb : ay (some (.int .i64 (eB s : Int))) s.length s.length = some (eB s) := cJ (by omega)
   have Nm : ay none 0 (eB s) = some 0 := rfl
   have Pf : ay (some (.int .i64 ((eB s + 1 : Nat) : Int))) 0 s.length = some (eB s + 1) := cJ (by omega)
   have FX : ay none s.length s.length = some s.length := rfl
   generalize eB s = j at *
   simp +contextual -implicitDefEqProofs (maxSteps := 1000000) (maxDischargeDepth := 8) only [bC, H0, h1, hc, hw, hb, Nm, Pf, FX, Option.map_none, aq, aa, implies_true, simprocAttr]
   exact ⟨_, _, rfl⟩
  ·rw [h2, List.take_length]
   simp +contextual -implicitDefEqProofs (maxSteps := 1000000) (maxDischargeDepth := 8) only [bC, H0, h1, aq, aa, implies_true, simprocAttr]
   exact ⟨_, _, rfl⟩
 obtain ⟨a, b, h⟩ := h2
 refine ⟨a, b, ?_⟩
 rw [cO (by simp [gm])]
 simp +contextual -implicitDefEqProofs (maxSteps := 1000000) (maxDischargeDepth := 8) only [gm, h, aq, aa, implies_true, simprocAttr]
end
section
structure Sn (m : Mem) (b : Nat) (s : cm) (p : Nat) (ov : EV) (l : List Tok) : Prop where
 g : m.get b = .cells [.str s, .int .i64 (p : Int), ov] 3 eV false
 lt : b < m.next
 o : ja m ov (jP l).flatten l.length 4 (b + 1)
 n : l.length <= p
 le : p <= s.length
structure Kn (m m' : Mem) (b : Nat) (ov IK : EV) : Prop where
 n : m.next <= m'.next
 k : ∀ c, c < m.next -> c ≠ b -> gx ov c -> m'.get c = m.get c
 f : ∀ c, c < m.next -> c ≠ b -> gx ov c -> gx IK c
theorem Kn.trans {m m' Ur : Mem} {b : Nat} {ov IK W6 : EV} (h : Kn m m' b ov IK) (h' : Kn m' Ur b IK W6) : Kn m Ur b ov W6 :=
 ⟨pU h.n h'.n, fun c hc hb ho => (h'.k c (mr hc h.n) hb (h.f c hc hb ho)).trans (h.k c hc hb ho), fun c hc hb ho => h'.f c (mr hc h.n) hb (h.f c hc hb ho)⟩
theorem u0 {m : Mem} {b p : Nat} {s : cm} {ov : EV} {l : List Tok} (h : Sn m b s p ov l) {k n num : Nat} (hn : p + n <= s.length) (hs : s.length < 1000000) (Vx : num < 9223372036854775808) :
  ∃ m' IK, run U fP [.ptr b 0, .int .i64 (k : Int), .int .i64 (n : Int), .int .i64 (num : Int)] m = some (.ret (.tuple []) m') /\ ja m' IK (jP (l ++ [⟨k, (s.drop p).take n, num, p⟩])).flatten (l.length + 1) 4 (b + 1) /\ m'.get b = .cells [.str s, .int .i64 ((p + n : Nat) : Int), IK] 3 eV false /\ Kn m m' b ov IK := by
 rw [bZ (by simp [eH])]
 have hg := h.g
 have hb := h.lt
 have hw : IntKind.i64.wrap ((p : Int) + (n : Int)) = ((p + n : Nat) : Int) := by rw [wrap_i64 (by omega) (by omega)]; omega
 have A2 : ay (some (.int .i64 (p : Int))) 0 (p + n) = some p := cJ (by omega)
 have Pf : ay (some (.int .i64 ((p + n : Nat) : Int))) s.length s.length = some (p + n) := cJ hn
 have ht : (s.take (p + n)).drop p = (s.drop p).take n := by rw [List.drop_take, Nat.add_sub_cancel_left]
 simp +contextual -implicitDefEqProofs (maxSteps := 1000000) (maxDischargeDepth := 8) only [eH, hg, hb, hw, A2, Pf, ht, aq, aa, implies_true, simprocAttr]
 generalize hA : fV _ ap 4 ov _ = A
 generalize tA : Mem.mk (nb m.next 32) _ = D1 at hA ⊢
 have tU : D1.next = nb m.next 32 := by rw [<- tA]
 have E5 : ∀ c, c < m.next -> D1.get c = m.get c := fun c hc => by
  rw [<- tA];exact (aG (m := Mem.mk (m.next + 27) (bump m 32).gM) (by show c < m.next + 27; omega)).trans rfl
 have Il : D1.get (nb (m.next + 27) 0) = .cells (Tok.cells ⟨k, (s.drop p).take n, num, p⟩) 4 ap false := by
  rw [<- tA];exact (aC (m := Mem.mk (m.next + 27) (bump m 32).gM) rfl (by simp)).trans rfl
 clear tA;have YV : ja D1 ov (jP l).flatten l.length 4 (b + 1) := h.o.gD (by rw [tU]; exact bH) fun c hc _ _ => E5 c hc
 have hln := h.n
 obtain ⟨a1, o1⟩ := fg (e := ap) YV (by rw [tU]; unfold nb; omega) (mI (cap := some 1) Il rfl) rfl (by decide) (by unfold room; omega)
 rw [a1] at hA;subst hA;have Ya : (grow D1 ov ap 4 ((jP l).flatten ++ Tok.cells ⟨k, (s.drop p).take n, num, p⟩)).next = nb m.next 33 := by rw [gu, tU, dE]
 have X9 : ∀ c, c < D1.next -> gx ov c -> (grow D1 ov ap 4 ((jP l).flatten ++ Tok.cells ⟨k, (s.drop p).take n, num, p⟩)).get c = D1.get c := fun c hc ho => iW hc ho
 generalize grow D1 ov ap 4 ((jP l).flatten ++ Tok.cells ⟨k, (s.drop p).take n, num, p⟩) = G1 at *
 rw [<- AK] at o1;have hbo : gx ov b := h.o.lt (.inr (Nat.lt_succ_self _))
 have KI : b < D1.next := by rw [tU]; unfold nb; omega
 have VL : G1.get b = .cells [.str s, .int .i64 (p : Int), ov] 3 eV false := by rw [X9 b KI hbo, E5 b hb, hg]
 simp +contextual -implicitDefEqProofs (maxSteps := 1000000) (maxDischargeDepth := 8) only [VL, tU, Ya, dE, hw, aq, aa, implies_true, simprocAttr]
 rw [tU, dE] at o1;refine ⟨_, _, rfl, o1.gD (by rw [cq, cq]; exact eX _) fun c _ mU _ => by rw [aB (by omega), aB (by omega)], by rw [bM], ⟨by rw [cq, cq, Ya]; exact bH, fun c hc VV ho => ?_, fun c hc VV ho => gx.of (by unfold nb; omega)⟩⟩
 rw [aB VV, aB VV, X9 c (by rw [tU]; unfold nb; omega) ho, E5 c hc]
theorem SY {M : Mem} {b t : Nat} {x : Int} {s : cm} (hb : M.get b = .cells [.int .i64 x] 1 t false) (hs : s.length < 1000000000) : run U oW [.str s, .slice b 0 1 (some 1)] M = some (.ret (.int .i64 (lead (BT [x]) s : Int)) M) := by
 have h := mV (m := M) (e := 1) (els := jO [x]) (ty := t) (b := b) (cap := some 1) (ro := false) (by rw [hb]; rfl) (by simp [jO]) (by simp [jO]; rfl) rfl
 have hl : (jO [x]).length = 1 := rfl
 rw [hl] at h;have hr := run_eq (cl := [x]) (tg := 2) hs (by simp)
 simp +contextual -implicitDefEqProofs (maxSteps := 1000000) (maxDischargeDepth := 8) only [h, hr, aq, aa, implies_true, simprocAttr]
theorem SX {M : Mem} {b t : Nat} {x y : Int} {s : cm} (hb : M.get b = .cells [.int .i64 x, .int .i64 y] 1 t false) (hs : s.length < 1000000000) : run U oW [.str s, .slice b 0 2 (some 2)] M = some (.ret (.int .i64 (lead (BT [x, y]) s : Int)) M) := by
 have h := mV (m := M) (e := 1) (els := jO [x, y]) (ty := t) (b := b) (cap := some 2) (ro := false) (by rw [hb]; rfl) (by simp [jO]) (by simp [jO]; exact ⟨rfl, rfl⟩) rfl
 have hl : (jO [x, y]).length = 2 := rfl
 rw [hl] at h;have hr := run_eq (cl := [x, y]) (tg := 2) hs (by simp)
 simp +contextual -implicitDefEqProofs (maxSteps := 1000000) (maxDischargeDepth := 8) only [h, hr, aq, aa, implies_true, simprocAttr]
end
section
theorem QI {s : cm} {k : Nat} (hk : k <= s.length) (hs : s.length < 1000000) (KG : ∀ c ∈ s.take k, aR (cI c)) {v0 : EV} {m0 : Mem} {fr : Fr} (h0 : fr.get 0 = v0) (h1 : fr.get 1 = .str s) (h5 : fr.get 5 = .int .i64 0) (h6 : fr.get 6 = .int .i64 (k : Int)) (KJ : fr.get 12 = .int .i64 (k : Int)) (TL : fr.get 13 = .int .i64 0) (hd : fr.defers = []) :
  ∃ o, exec U (.loop cX) fr m0 = some o /\ ((rJ 0 (s.take k) = none /\ ∃ fr', o = .ret fr' m0 /\ fr'.get 4 = .int .i64 7 /\ fr'.defers = []) \/
   (∃ n : Nat, rJ 0 (s.take k) = some n /\ n < 9223372036854775808 /\ ∃ fr', o = .exit 0 fr' m0 /\ fr'.get 0 = v0 /\ fr'.get 5 = .int .i64 (n : Int) /\ fr'.get 6 = .int .i64 (k : Int) /\ fr'.defers = [])) := by
 refine fC (σ := Nat) (fun i fr m => m = m0 /\ i <= k /\ fr.get 0 = v0 /\ fr.get 1 = .str s /\ (∃ n : Nat, fr.get 5 = .int .i64 (n : Int) /\ n <= 9223372036854775807 /\ rJ 0 (s.take k) = rJ n ((s.take k).drop i)) /\ fr.get 6 = .int .i64 (k : Int) /\ fr.get 12 = .int .i64 (k : Int) /\ fr.get 13 = .int .i64 (i : Int) /\ fr.defers = []) (fun i => k - i) _ ?_ 0 fr m0 ⟨rfl, kW _, h0, h1, ⟨0, h5, by omega, by simp⟩, h6, KJ, TL, hd⟩
 rintro i fr m ⟨rfl, hi, h0, h1, ⟨n, h5, hn, hr⟩, h6, KJ, TL, hd⟩
 generalize hX : exec U cX fr m = X
 by_cases bg : i < k
 ·have hc : (i : Int) < (k : Int) := by omega
  have hl : i < (s.take k).length := by rw [List.length_take]; omega
  have hls : i < s.length := by omega
  have hg : s[i]? = some (s.take k)[i] := by rw [List.getElem_take, lp hls]
  have VQ := KG _ (BI hl)
  have ol := bJ (i := i) (by omega)
  rw [drop_cons hl, rJ] at hr;generalize (s.take k)[i] = c at hg hr VQ
  unfold aR cI at VQ;obtain ⟨d, hd1, FV⟩ : ∃ d : Nat, (c.toNat : Int) - 48 = (d : Int) /\ c.toNat - 48 = d := ⟨c.toNat - 48, by omega, rfl⟩
  rw [FV] at hr;have Tt : IntKind.u8.wrap ((c.toNat : Int) - 48) = (d : Int) := by rw [ME]; omega
  have hw3 : IntKind.i64.wrap (d : Int) = (d : Int) := wrap_i64 (by omega) (by omega)
  have hw6 : IntKind.i64.wrap (9223372036854775807 - (d : Int)) = 9223372036854775807 - (d : Int) := wrap_i64 (by omega) (by omega)
  have hq : IntKind.i64.wrap ((9223372036854775807 - (d : Int)).tdiv 10) = (9223372036854775807 - (d : Int)) / 10 := by
   rw [Int.tdiv_eq_ediv_of_nonneg (by omega), wrap_i64 (by omega) (by omega)]
  simp +contextual -implicitDefEqProofs (maxSteps := 1000000) (maxDischargeDepth := 8) only [cX, h0, h1, h5, h6, KJ, TL, hd, hc, hg, hls, ol, Tt, hw3, hw6, hq, bi, aq, aa, implies_true, simprocAttr] at hX
  subst hX;refine mC (fun hp => il (Or.inl ⟨?_, _, rfl, ?_, ?_⟩)) (fun hp => ?_)
  ·rw [hr, if_pos (by omega)]
  ·simp only [ao, Nat.reduceBEq ]
  ·simp only [hd, ao, Nat.reduceBEq ]
  ·have hw4 : IntKind.i64.wrap (10 * (n : Int)) = 10 * (n : Int) := wrap_i64 (by omega) (by omega)
   have Xq : IntKind.i64.wrap (10 * (n : Int) + (d : Int)) = ((10 * n + d : Nat) : Int) := by rw [wrap_i64 (by omega) (by omega)]; omega
   refine dq (i + 1) (by omega) ⟨rfl, bg, by simp only [h0, ao, Nat.reduceBEq ], by simp only [h1, ao, Nat.reduceBEq ], ⟨10 * n + d, by simp only [hw4, Xq, ao, Nat.reduceBEq ], by omega, ?_⟩, by simp only [h6, ao, Nat.reduceBEq ], by simp only [KJ, ao, Nat.reduceBEq ], by simp only [ao, Nat.reduceBEq ], by simp only [hd, ao, Nat.reduceBEq ]⟩
   rw [hr, if_neg (by omega)]
 ·have hc : ¬ ((i : Int) < (k : Int)) := by omega
  obtain rfl : i = k := by omega
  simp +contextual -implicitDefEqProofs (maxSteps := 1000000) (maxDischargeDepth := 8) only [cX, KJ, TL, hd, hc, aq, aa, implies_true, simprocAttr] at hX
  subst hX;rw [List.drop_of_length_le (by rw [List.length_take]; omega)] at hr
  simp only [rJ] at hr;exact dr (Or.inr ⟨n, hr, by omega, _, rfl, by simp only [h0, ao, Nat.reduceBEq ], by simp only [h5, ao, Nat.reduceBEq ], by simp only [h6, ao, Nat.reduceBEq ], by simp only [hd, ao, Nat.reduceBEq ]⟩)
theorem Ke (s : cm) : lead (BT [4]) s = lead aR s := tq (fun n => by
 unfold BT; rw [yl, qR]) s
theorem Kw (s : cm) : lead (BT [1]) s = lead dX s := tq (fun n => by
 unfold BT; rw [yl, vq]) s
theorem Oe (s : cm) : lead (BT [3, 4]) s = lead (fun n => cg n \/ aR n) s := tq (fun n => by
 unfold BT; rw [o6, yl, ua, qR]) s
theorem Sn.ext {m : Mem} {b p : Nat} {s : cm} {ov : EV} {l : List Tok} (h : Sn m b s p ov l) (ys : List fM) : Sn (ext m ys) b s p ov l :=
 ⟨by rw [aG h.lt]; exact h.g, by rw [ax]; exact mr h.lt bH, h.o.ext ys, h.n, h.le⟩
theorem Kn.ext (m : Mem) (b : Nat) (ov : EV) (ys : List fM) : Kn m (ext m ys) b ov ov :=
 ⟨by rw [ax]; exact bH, fun c hc _ _ => aG hc, fun c _ _ ho => ho⟩
def Laid (m m' : Mem) (b : Nat) (s : cm) (ov : EV) (l : List Tok) (t : Tok) (q : Nat) : Prop := ∃ IK, Sn m' b s q IK (l ++ [t]) /\ Kn m m' b ov IK
theorem Lj {m : Mem} {b p : Nat} {s : cm} {ov : EV} {l : List Tok} (h : Sn m b s p ov l) (hs : s.length < 1000000) (hd0 : 0 < lead aR (s.drop p)) :
  ∃ m', (rJ 0 ((s.drop p).take (lead aR (s.drop p))) = none /\ run U nE [.ptr b 0, .str (s.drop p)] m = some (.ret (.int .i64 7) m') /\ Sn m' b s p ov l /\ Kn m m' b ov ov) \/
   (∃ n, rJ 0 ((s.drop p).take (lead aR (s.drop p))) = some n /\ run U nE [.ptr b 0, .str (s.drop p)] m = some (.ret (.int .i64 0) m') /\ Laid m m' b s ov l ⟨2, (s.drop p).take (lead aR (s.drop p)), n, p⟩ (p + lead aR (s.drop p))) := by
 have hlen : (s.drop p).length = s.length - p := uE ..
 have hle := lY aR (s.drop p)
 have KG := wF aR (s.drop p)
 have Tx : ∀ (M : Mem) (c : Nat), M.get c = .cells [.int .i64 4] 1 aP false -> run U oW [.str (s.drop p), .slice c 0 1 (some 1)] M = some (.ret (.int .i64 (lead aR (s.drop p) : Int)) M) := fun M c hc => by
  rw [SY hc (by omega), Ke]
 rw [bZ (by simp [dg])]
 generalize hL : exec (UT B K) (aE.loop cX) = L
 have hb := h.lt
 simp +contextual -implicitDefEqProofs (maxSteps := 1000000) (maxDischargeDepth := 8) only [dg, Tx, aq, aa, implies_true, simprocAttr]
 subst hL;generalize hX : exec _ (.loop cX) _ _ = X
 generalize lead aR (s.drop p) = k at *
 obtain ⟨o, rfl, hh⟩ := ft hX (QI (s := s.drop p) (k := k) (v0 := .ptr b 0) hle (by omega) KG (by simp only [ao, Nat.reduceBEq ]) (by simp only [ao, Nat.reduceBEq ]) (by simp only [ao, Nat.reduceBEq ]) (by simp only [ao, Nat.reduceBEq ]) (by simp only [ao, Nat.reduceBEq ]) (by simp only [ao, Nat.reduceBEq ]) (by simp only [ao, Nat.reduceBEq ]))
 clear hX;generalize pM : Ev.ext m _ = M1 at *
 have h1 : Sn M1 b s p ov l := by rw [<- pM]; exact h.ext _
 have k1 : Kn m M1 b ov ov := by rw [<- pM]; exact Kn.ext ..
 rcases hh with ⟨hn, fr', rfl, f4, fd⟩ | ⟨n, hn, hn2, fr', rfl, f0, f5, f6, fd⟩
 ·refine ⟨M1, .inl ⟨hn, ?_, h1, k1⟩⟩
  simp +contextual -implicitDefEqProofs (maxSteps := 1000000) (maxDischargeDepth := 8) only [f4, fd, aq, aa, implies_true, simprocAttr]
 ·have IN := h.le
  obtain ⟨m2, Ld, e2, o2, g2, k2⟩ := u0 h1 (k := 2) (n := k) (num := n) (by omega) hs hn2
  refine ⟨m2, .inr ⟨n, hn, ?_, Ld, ⟨g2, ?_, ?_, ?_, by omega⟩, k1.trans k2⟩⟩
  ·have Pt : run U fP [.ptr b 0, .int .i64 2, .int .i64 (k : Int), .int .i64 (n : Int)] M1 = some (.ret (.tuple []) m2) := e2
   simp +contextual -implicitDefEqProofs (maxSteps := 1000000) (maxDischargeDepth := 8) only [f0, f5, f6, fd, Pt, aq, aa, implies_true, simprocAttr]
  ·have := k2.n; have := h1.lt; omega
  ·rw [kL]; exact o2
  ·rw [kL, List.length_singleton]; have := h.n; omega
end
section
theorem Hf {c : UInt8} {s : cm} (h : cg (cI c)) : lead (fun n => cg n \/ aR n) (c :: s) = cP (c :: s) := by
 have e0 : cP (c :: s) = 1 + lead (fun n => cg n \/ aR n) s := if_pos h
 have e : lead (fun n => cg n \/ aR n) (c :: s) = if cg (cI c) \/ aR (cI c) then 1 + lead (fun n => cg n \/ aR n) s else 0 := rfl
 rw [e, if_pos (.inl h), e0]
theorem Ir {fr : Fr} {M : Mem} : aF fr.eval (.bB aP 1 2 [.int .i64 0] [(0, .const (.int .i64 3)), (1, .const (.int .i64 4))]) M = some (.val (.slice (nb M.next 0) 0 2 (some 2)) (Ev.ext M [.cells [.int .i64 3, .int .i64 4] 1 aP false])) := by
 rw [b8]
 rfl
theorem PY {m : Mem} {b p : Nat} {s : cm} {ov : EV} {l : List Tok} (h : Sn m b s p ov l) (hs : s.length < 1000000) {k : Nat} (hk : lead (fun n => cg n \/ aR n) (s.drop p) = k) (hd0 : 0 < k) :
  ∃ m', ((s.drop p).take k ∈ jm /\ run U lc [.ptr b 0, .str (s.drop p)] m = some (.ret (.int .i64 0) m') /\ Laid m m' b s ov l ⟨3, (s.drop p).take k, 0, p⟩ (p + k)) \/
   (¬ (s.drop p).take k ∈ jm /\ 32 < k /\ run U lc [.ptr b 0, .str (s.drop p)] m = some (.ret (.int .i64 3) m') /\ Sn m' b s p ov l /\ Kn m m' b ov ov) \/
   (¬ (s.drop p).take k ∈ jm /\ ¬ 32 < k /\ run U lc [.ptr b 0, .str (s.drop p)] m = some (.ret (.int .i64 0) m') /\ Laid m m' b s ov l ⟨1, (s.drop p).take k, 0, p⟩ (p + k)) := by
 have hlen : (s.drop p).length = s.length - p := uE ..
 have hle := lY (fun n => cg n \/ aR n) (s.drop p)
 rw [hk] at hle;have Tx : ∀ (M : Mem) (c : Nat), M.get c = .cells [.int .i64 3, .int .i64 4] 1 aP false -> run U oW [.str (s.drop p), .slice c 0 2 (some 2)] M = some (.ret (.int .i64 (k : Int)) M) := fun M c hc => by
  rw [SX hc (by omega), Oe, hk]
 have KI : ay (some (.int .i64 (k : Int))) (s.drop p).length (s.drop p).length = some k := cJ hle
 have Nm : ay none 0 k = some 0 := rfl
 have hb := h.lt
 have IN := h.le
 have hln := h.n
 generalize pM : Ev.ext m [.cells [.int .i64 3, .int .i64 4] 1 aP false] = M1 at *
 have h1 : Sn M1 b s p ov l := by rw [<- pM]; exact h.ext _
 have k1 : Kn m M1 b ov ov := by rw [<- pM]; exact Kn.ext ..
 have g1 : M1.get (nb m.next 0) = .cells [.int .i64 3, .int .i64 4] 1 aP false := by rw [<- pM, aC rfl (by simp)]; rfl
 rw [bZ (by simp [cM])]
 by_cases hw : (s.drop p).take k ∈ jm
 ·obtain ⟨m2, Ld, e2, o2, g2, k2⟩ := u0 h1 (k := 3) (n := k) (num := 0) (by omega) hs (by omega)
  have Pt : run U fP [.ptr b 0, .int .i64 3, .int .i64 (k : Int), .int .i64 0] M1 = some (.ret (.tuple []) m2) := e2
  have YR : bA B K xP [.str ((s.drop p).take k)] = some (.bool true) := by rw [Jx, eA hw]
  refine ⟨m2, .inl ⟨hw, ?_, Ld, ⟨g2, ?_, ?_, ?_, by omega⟩, k1.trans k2⟩⟩
  ·simp +contextual -implicitDefEqProofs (maxSteps := 1000000) (maxDischargeDepth := 8) only [cM, Ir, Tx, pM, g1, KI, Nm, YR, Pt, Option.map_none, aq, aa, implies_true, simprocAttr]
  ·have := k2.n; have := h1.lt; omega
  ·rw [kL]; exact o2
  ·rw [kL, List.length_singleton]; omega
 ·have YR : bA B K xP [.str ((s.drop p).take k)] = some (.bool false) := by rw [Jx, eU hw]
  by_cases h32 : 32 < k
  ·have hc : (32 : Int) < (k : Int) := by omega
   refine ⟨M1, .inr (.inl ⟨hw, h32, ?_, h1, k1⟩)⟩
   simp +contextual -implicitDefEqProofs (maxSteps := 1000000) (maxDischargeDepth := 8) only [cM, Ir, Tx, pM, g1, KI, Nm, YR, hc, Option.map_none, aq, aa, implies_true, simprocAttr]
  ·have hc : ¬ (32 : Int) < (k : Int) := by omega
   obtain ⟨m2, Ld, e2, o2, g2, k2⟩ := u0 h1 (k := 1) (n := k) (num := 0) (by omega) hs (by omega)
   have Pt : run U fP [.ptr b 0, .int .i64 1, .int .i64 (k : Int), .int .i64 0] M1 = some (.ret (.tuple []) m2) := e2
   refine ⟨m2, .inr (.inr ⟨hw, h32, ?_, Ld, ⟨g2, ?_, ?_, ?_, by omega⟩, k1.trans k2⟩)⟩
   ·simp +contextual -implicitDefEqProofs (maxSteps := 1000000) (maxDischargeDepth := 8) only [cM, Ir, Tx, pM, g1, KI, Nm, YR, hc, Pt, Option.map_none, aq, aa, implies_true, simprocAttr]
   ·have := k2.n; have := h1.lt; omega
   ·rw [kL]; exact o2
   ·rw [kL, List.length_singleton]; omega
theorem TN {M : Mem} {b t : Nat} {x : Int} (hb : M.get b = .cells [.int .i64 x] 1 t false) : kQ M (.slice b 0 1 (some 1)) = some (.fz 0 1 (jO [x])) := by
 have h := mV (m := M) (e := 1) (els := jO [x]) (ty := t) (b := b) (cap := some 1) (ro := false) (by rw [hb]; rfl) (by simp [jO]) (by simp [jO]; rfl) rfl
 exact h
theorem Lo {m : Mem} {b p : Nat} {s : cm} {ov : EV} {l : List Tok} (h : Sn m b s p ov l) (hs : s.length < 1000000) {c : UInt8} {r : cm} (hc : s.drop p = c :: r) (oY : eP (cI c) = 1) :
  ∃ m', run U bh [.ptr b 0] m = some (.ret (.int .i64 0) m') /\ Sn m' b s (p + lead dX (s.drop p)) ov l /\ Kn m m' b ov ov := by
 have hlen : (s.drop p).length = s.length - p := uE ..
 have hle := lY dX (s.drop p)
 have dD : 0 < (s.drop p).length := by rw [hc]; simp
 have hg := h.g
 have hb := h.lt
 have A2 : ay (some (.int .i64 (p : Int))) 0 s.length = some p := cJ h.le
 have FX : ay none s.length s.length = some s.length := rfl
 have hi : idx (s.drop p).length (.int .i64 0) = some 0 := bi (i := 0) dD
 have h0 : (s.drop p)[0]? = some c := by rw [hc]; rfl
 have xy : bA B K jg [.int .u8 (c.toNat : Int)] = some (.int .i64 1) := by rw [show (c.toNat : Int) = cI c from rfl, pG, oY]
 have Tx : bA B K oW [.str (s.drop p), .fz 2 1 (jO [1])] = some (.int .i64 (lead dX (s.drop p) : Int)) := by
  rw [run_eq (by omega) (by simp), Kw]
 have IN := h.le
 have hw : IntKind.i64.wrap ((p : Int) + (lead dX (s.drop p) : Int)) = ((p + lead dX (s.drop p) : Nat) : Int) := by rw [wrap_i64 (by omega) (by omega)]; omega
 rw [bZ (by simp [bt])]
 simp +contextual -implicitDefEqProofs (maxSteps := 1000000) (maxDischargeDepth := 8) only [bt, hg, hb, A2, FX, hi, h0, xy, Tx, hw, List.take_length, Option.map_none, aq, aa, implies_true, simprocAttr]
 generalize tA : Mem.mk (nb m.next 11) _ = D1
 have tU : D1.next = nb m.next 11 := by rw [<- tA]
 have E5 : ∀ c, c < m.next -> D1.get c = m.get c := fun c hc => by
  rw [<- tA];exact (aG (m := Mem.mk (m.next + 9) (bump m 11).gM) (by show c < m.next + 9; omega)).trans rfl
 have Il : D1.get (nb (m.next + 9) 0) = .cells [.str []] 1 dT false := by
  rw [<- tA];exact (aC (m := Mem.mk (m.next + 9) (bump m 11).gM) rfl (by simp)).trans rfl
 clear tA;have d1b : D1.get b = .cells [.str s, .int .i64 (p : Int), ov] 3 eV false := by rw [E5 b hb, hg]
 have iJ : b ≠ nb (m.next + 9) 0 := by unfold nb; omega
 have pT : b < D1.next := by rw [tU]; unfold nb; omega
 have mT : nb (m.next + 9) 0 < D1.next := by rw [tU]; unfold nb; omega
 have AB : m.next <= nb (m.next + 9) 0 := by unfold nb; omega
 generalize nb (m.next + 9) 0 = c0 at *
 simp +contextual -implicitDefEqProofs (maxSteps := 1000000) (maxDischargeDepth := 8) only [Il, d1b, iJ, iJ.symm, pT, mT, A2, FX, hi, h0, xy, Tx, hw, List.take_length, Option.map_none, aq, aa, implies_true, simprocAttr]
 generalize TJ : Mem.mk (nb D1.next 11) _ = D2
 have PW : D2.next = nb D1.next 11 := by rw [<- TJ]
 have WS : ∀ c, c < D1.next -> c ≠ c0 -> D2.get c = D1.get c := fun c hc AB => by
  rw [<- TJ];refine (aG (m := Mem.mk (D1.next + 5) (bump (D1.set c0 (.cells [.str (s.drop p)] 1 dT false)) 11).gM) (by show c < D1.next + 5; omega)).trans ?_
  exact aB AB
 have d2g : D2.get (nb (D1.next + 5) 0) = .cells [.int .i64 1] 1 aP false := by
  rw [<- TJ];exact (aC (m := Mem.mk (D1.next + 5) (bump (D1.set c0 (.cells [.str (s.drop p)] 1 dT false)) 11).gM) rfl (by simp)).trans rfl
 clear TJ;have d2b : D2.get b = .cells [.str s, .int .i64 (p : Int), ov] 3 eV false := by rw [WS b pT iJ, d1b]
 have hf := TN d2g
 have tx : b < D2.next := by rw [PW]; unfold nb; omega
 simp +contextual -implicitDefEqProofs (maxSteps := 1000000) (maxDischargeDepth := 8) only [d2b, tx, hf, Tx, hw, aq, aa, implies_true, simprocAttr]
 refine ⟨_, rfl, ?_, ?_⟩
 ·refine ⟨by rw [bM], by rw [cq]; exact tx, ?_, by have := h.n; omega, by omega⟩
  refine h.o.gD (by rw [cq, PW, tU]; unfold nb; omega) fun c hc mU _ => ?_
  rw [aB (by omega), WS c (by rw [tU]; unfold nb; omega) (by omega), E5 c hc]
 ·refine ⟨by rw [cq, PW, tU]; unfold nb; omega, fun c hc VV ho => ?_, fun c _ _ ho => ho⟩
  rw [aB VV, WS c (by rw [tU]; unfold nb; omega) (by omega), E5 c hc]
end
section
theorem OP {m : Mem} {b p : Nat} {s : cm} {ov : EV} {l : List Tok} (h : Sn m b s p ov l) (hs : s.length < 1000000) {c : UInt8} {r : cm} (hc : s.drop p = c :: r) (oY : eP (cI c) = 0) :
  ∃ m', run U bh [.ptr b 0] m = some (.ret (.int .i64 6) m') /\ Sn m' b s p ov l /\ Kn m m' b ov ov := by
 have hlen : (s.drop p).length = s.length - p := uE ..
 have dD : 0 < (s.drop p).length := by rw [hc]; simp
 have hg := h.g
 have hb := h.lt
 have A2 : ay (some (.int .i64 (p : Int))) 0 s.length = some p := cJ h.le
 have FX : ay none s.length s.length = some s.length := rfl
 have hi : idx (s.drop p).length (.int .i64 0) = some 0 := bi (i := 0) dD
 have h0 : (s.drop p)[0]? = some c := by rw [hc]; rfl
 have xy : bA B K jg [.int .u8 (c.toNat : Int)] = some (.int .i64 0) := by rw [show (c.toNat : Int) = cI c from rfl, pG, oY]
 have IN := h.le
 rw [bZ (by simp [bt])]
 simp +contextual -implicitDefEqProofs (maxSteps := 1000000) (maxDischargeDepth := 8) only [bt, hg, hb, A2, FX, List.take_length, Option.map_none, aq, aa, implies_true, simprocAttr]
 generalize tA : Mem.mk (nb m.next 11) _ = D1
 have tU : D1.next = nb m.next 11 := by rw [<- tA]
 have E5 : ∀ c, c < m.next -> D1.get c = m.get c := fun c hc => by
  rw [<- tA];exact (aG (m := Mem.mk (m.next + 9) (bump m 11).gM) (by show c < m.next + 9; omega)).trans rfl
 have Il : D1.get (nb (m.next + 9) 0) = .cells [.str []] 1 dT false := by
  rw [<- tA];exact (aC (m := Mem.mk (m.next + 9) (bump m 11).gM) rfl (by simp)).trans rfl
 clear tA;have mT : nb (m.next + 9) 0 < D1.next := by rw [tU]; unfold nb; omega
 have AB : m.next <= nb (m.next + 9) 0 := by unfold nb; omega
 generalize nb (m.next + 9) 0 = c0 at *
 obtain ⟨M1, pM⟩ : ∃ M1, D1.set c0 (.cells [.str (s.drop p)] 1 dT false) = M1 := ⟨_, rfl⟩
 have HO : M1.next = nb m.next 11 := by rw [<- pM, cq, tU]
 have GA : ∀ c, c < m.next -> M1.get c = m.get c := fun c hc => by rw [<- pM, aB (by omega), E5 c hc]
 have MY : M1.get c0 = .cells [.str (s.drop p)] 1 dT false := by rw [<- pM, bM]
 have IM : M1.get b = .cells [.str s, .int .i64 (p : Int), ov] 3 eV false := by rw [GA b hb, hg]
 have pT : b < M1.next := by rw [HO]; unfold nb; omega
 have tx : c0 < M1.next := by rw [<- pM, cq]; exact mT
 have hS : Sn M1 b s p ov l := ⟨IM, pT, h.o.gD (by rw [HO]; exact bH) fun c hc _ _ => GA c hc, h.n, h.le⟩
 have hK : Kn m M1 b ov ov := ⟨by rw [HO]; exact bH, fun c hc _ _ => GA c hc, fun c _ _ ho => ho⟩
 simp +contextual -implicitDefEqProofs (maxSteps := 1000000) (maxDischargeDepth := 8) only [Il, pM, mT, MY, IM, pT, tx, hi, h0, xy, Option.map_none, aq, aa, implies_true, simprocAttr]
 exact ⟨_, rfl, hS, hK⟩
theorem Jl {m : Mem} {b p : Nat} {s : cm} {ov : EV} {l : List Tok} (h : Sn m b s p ov l) (hs : s.length < 1000000) {c : UInt8} {r : cm} (hc : s.drop p = c :: r) (oY : eP (cI c) = 2) :
  ∃ m', run U bh [.ptr b 0] m = some (.ret (.int .i64 0) m') /\ Sn m' b s (p + eB (s.drop p)) ov l /\ Kn m m' b ov ov := by
 have hlen : (s.drop p).length = s.length - p := uE ..
 have dD : 0 < (s.drop p).length := by rw [hc]; simp
 have hg := h.g
 have hb := h.lt
 have A2 : ay (some (.int .i64 (p : Int))) 0 s.length = some p := cJ h.le
 have FX : ay none s.length s.length = some s.length := rfl
 have hi : idx (s.drop p).length (.int .i64 0) = some 0 := bi (i := 0) dD
 have h0 : (s.drop p)[0]? = some c := by rw [hc]; rfl
 have xy : bA B K jg [.int .u8 (c.toNat : Int)] = some (.int .i64 2) := by rw [show (c.toNat : Int) = cI c from rfl, pG, oY]
 have IN := h.le
 rw [bZ (by simp [bt])]
 simp +contextual -implicitDefEqProofs (maxSteps := 1000000) (maxDischargeDepth := 8) only [bt, hg, hb, A2, FX, List.take_length, Option.map_none, aq, aa, implies_true, simprocAttr]
 generalize tA : Mem.mk (nb m.next 11) _ = D1
 have tU : D1.next = nb m.next 11 := by rw [<- tA]
 have E5 : ∀ c, c < m.next -> D1.get c = m.get c := fun c hc => by
  rw [<- tA];exact (aG (m := Mem.mk (m.next + 9) (bump m 11).gM) (by show c < m.next + 9; omega)).trans rfl
 have Il : D1.get (nb (m.next + 9) 0) = .cells [.str []] 1 dT false := by
  rw [<- tA];exact (aC (m := Mem.mk (m.next + 9) (bump m 11).gM) rfl (by simp)).trans rfl
 clear tA;have mT : nb (m.next + 9) 0 < D1.next := by rw [tU]; unfold nb; omega
 have AB : m.next <= nb (m.next + 9) 0 := by unfold nb; omega
 generalize nb (m.next + 9) 0 = c0 at *
 obtain ⟨M1, pM⟩ : ∃ M1, D1.set c0 (.cells [.str (s.drop p)] 1 dT false) = M1 := ⟨_, rfl⟩
 have HO : M1.next = nb m.next 11 := by rw [<- pM, cq, tU]
 have GA : ∀ c, c < m.next -> M1.get c = m.get c := fun c hc => by rw [<- pM, aB (by omega), E5 c hc]
 have MY : M1.get c0 = .cells [.str (s.drop p)] 1 dT false := by rw [<- pM, bM]
 have IM : M1.get b = .cells [.str s, .int .i64 (p : Int), ov] 3 eV false := by rw [GA b hb, hg]
 have pT : b < M1.next := by rw [HO]; unfold nb; omega
 have tx : c0 < M1.next := by rw [<- pM, cq]; exact mT
 have hS : Sn M1 b s p ov l := ⟨IM, pT, h.o.gD (by rw [HO]; exact bH) fun c hc _ _ => GA c hc, h.n, h.le⟩
 have hK : Kn m M1 b ov ov := ⟨by rw [HO]; exact bH, fun c hc _ _ => GA c hc, fun c _ _ ho => ho⟩
 have hle := lY (fun n => n ≠ 10) (s.drop p)
 obtain ⟨a, b', abF⟩ := R3 (s := s.drop p) (by omega)
 have LP : ((s.drop p).take (eB (s.drop p))).length = eB (s.drop p) := by rw [List.length_take]; unfold eB; omega
 have hw : IntKind.i64.wrap ((p : Int) + (eB (s.drop p) : Int)) = ((p + eB (s.drop p) : Nat) : Int) := by rw [wrap_i64 (by unfold eB; omega) (by unfold eB; omega)]; omega
 unfold eB at *
 generalize lead (fun n => n ≠ 10) (s.drop p) = k at *
 simp +contextual -implicitDefEqProofs (maxSteps := 1000000) (maxDischargeDepth := 8) only [Il, pM, mT, MY, IM, pT, tx, hi, h0, xy, Option.map_none, abF, LP, hw, aq, aa, implies_true, simprocAttr]
 refine ⟨_, rfl, ⟨by rw [bM], by rw [cq]; exact pT, ?_, by have := h.n; omega, by omega⟩, ⟨by rw [cq]; exact hK.n, fun c hc VV ho => ?_, fun c _ _ ho => ho⟩⟩
 ·exact hS.o.gD (by rw [cq]; exact eX _) fun c hc mU _ => aB (by omega)
 ·rw [aB VV, GA c hc]
theorem Jm {m : Mem} {b p : Nat} {s : cm} {ov : EV} {l : List Tok} (h : Sn m b s p ov l) (hs : s.length < 1000000) {c : UInt8} {r : cm} (hc : s.drop p = c :: r) (oY : eP (cI c) = 3) :
  ∃ m', (∃ e q, mu (s.drop p) p = .bad e q /\ run U bh [.ptr b 0] m = some (.ret (.int .i64 (e : Int)) m') /\ Sn m' b s p ov l /\ Kn m m' b ov ov) \/
   (∃ t, mu (s.drop p) p = .ok t /\ run U bh [.ptr b 0] m = some (.ret (.int .i64 0) m') /\ Laid m m' b s ov l t (p + t.text.length)) := by
 have hlen : (s.drop p).length = s.length - p := uE ..
 have dD : 0 < (s.drop p).length := by rw [hc]; simp
 have hg := h.g
 have hb := h.lt
 have A2 : ay (some (.int .i64 (p : Int))) 0 s.length = some p := cJ h.le
 have FX : ay none s.length s.length = some s.length := rfl
 have hi : idx (s.drop p).length (.int .i64 0) = some 0 := bi (i := 0) dD
 have h0 : (s.drop p)[0]? = some c := by rw [hc]; rfl
 have xy : bA B K jg [.int .u8 (c.toNat : Int)] = some (.int .i64 3) := by rw [show (c.toNat : Int) = cI c from rfl, pG, oY]
 have IN := h.le
 rw [bZ (by simp [bt])]
 simp +contextual -implicitDefEqProofs (maxSteps := 1000000) (maxDischargeDepth := 8) only [bt, hg, hb, A2, FX, List.take_length, Option.map_none, aq, aa, implies_true, simprocAttr]
 generalize tA : Mem.mk (nb m.next 11) _ = D1
 have tU : D1.next = nb m.next 11 := by rw [<- tA]
 have E5 : ∀ c, c < m.next -> D1.get c = m.get c := fun c hc => by
  rw [<- tA];exact (aG (m := Mem.mk (m.next + 9) (bump m 11).gM) (by show c < m.next + 9; omega)).trans rfl
 have Il : D1.get (nb (m.next + 9) 0) = .cells [.str []] 1 dT false := by
  rw [<- tA];exact (aC (m := Mem.mk (m.next + 9) (bump m 11).gM) rfl (by simp)).trans rfl
 clear tA;have mT : nb (m.next + 9) 0 < D1.next := by rw [tU]; unfold nb; omega
 have AB : m.next <= nb (m.next + 9) 0 := by unfold nb; omega
 generalize nb (m.next + 9) 0 = c0 at *
 obtain ⟨M1, pM⟩ : ∃ M1, D1.set c0 (.cells [.str (s.drop p)] 1 dT false) = M1 := ⟨_, rfl⟩
 have HO : M1.next = nb m.next 11 := by rw [<- pM, cq, tU]
 have GA : ∀ c, c < m.next -> M1.get c = m.get c := fun c hc => by rw [<- pM, aB (by omega), E5 c hc]
 have MY : M1.get c0 = .cells [.str (s.drop p)] 1 dT false := by rw [<- pM, bM]
 have IM : M1.get b = .cells [.str s, .int .i64 (p : Int), ov] 3 eV false := by rw [GA b hb, hg]
 have pT : b < M1.next := by rw [HO]; unfold nb; omega
 have tx : c0 < M1.next := by rw [<- pM, cq]; exact mT
 have hS : Sn M1 b s p ov l := ⟨IM, pT, h.o.gD (by rw [HO]; exact bH) fun c hc _ _ => GA c hc, h.n, h.le⟩
 have hK : Kn m M1 b ov ov := ⟨by rw [HO]; exact bH, fun c hc _ _ => GA c hc, fun c _ _ ho => ho⟩
 have VC := ua.1 oY
 have hk := Hf (s := r) VC
 rw [<- hc] at hk;have JP : 0 < cP (s.drop p) := by
  have e0 : cP (c :: r) = 1 + lead (fun n => cg n \/ aR n) r := if_pos VC
  rw [hc, e0]; omega
 have hwl := uH (s.drop p)
 have hnd : ¬ aR (cI c) := by unfold aR; unfold cg at VC; omega
 have zx : mu (s.drop p) p = if 0 < cP (s.drop p) /\ (s.drop p).take (cP (s.drop p)) ∈ jm then .ok ⟨3, (s.drop p).take (cP (s.drop p)), 0, p⟩ else if 32 < cP (s.drop p) then .bad 3 p else .ok ⟨1, (s.drop p).take (cP (s.drop p)), 0, p⟩ := by
  have SG : (s.drop p)[0] = c := by have := lp dD; rw [h0] at this; exact (pN this).symm
  rw [td dD, SG, if_neg hnd, if_pos JP]
 have LP : ((s.drop p).take (cP (s.drop p))).length = cP (s.drop p) := by rw [List.length_take]; omega
 obtain ⟨m2, hh⟩ := PY hS hs hk JP
 generalize cP (s.drop p) = k at *
 rcases hh with ⟨w1, e2, Ld, q1, q2⟩ | ⟨w1, w2, e2, q1, q2⟩ | ⟨w1, w2, e2, Ld, q1, q2⟩
 ·refine ⟨m2, .inr ⟨_, by rw [zx, if_pos ⟨JP, w1⟩], ?_, Ld, by simp only [LP]; exact q1, hK.trans q2⟩⟩
  simp +contextual -implicitDefEqProofs (maxSteps := 1000000) (maxDischargeDepth := 8) only [Il, pM, mT, MY, IM, pT, tx, hi, h0, xy, Option.map_none, e2, aq, aa, implies_true, simprocAttr]
 ·refine ⟨m2, .inl ⟨3, p, by rw [zx, if_neg (fun q => w1 q.2), if_pos w2], ?_, q1, hK.trans q2⟩⟩
  simp +contextual -implicitDefEqProofs (maxSteps := 1000000) (maxDischargeDepth := 8) only [Il, pM, mT, MY, IM, pT, tx, hi, h0, xy, Option.map_none, e2, aq, aa, implies_true, simprocAttr]
 ·refine ⟨m2, .inr ⟨_, by rw [zx, if_neg (fun q => w1 q.2), if_neg w2], ?_, Ld, by simp only [LP]; exact q1, hK.trans q2⟩⟩
  simp +contextual -implicitDefEqProofs (maxSteps := 1000000) (maxDischargeDepth := 8) only [Il, pM, mT, MY, IM, pT, tx, hi, h0, xy, Option.map_none, e2, aq, aa, implies_true, simprocAttr]
theorem Ln {m : Mem} {b p : Nat} {s : cm} {ov : EV} {l : List Tok} (h : Sn m b s p ov l) (hs : s.length < 1000000) {c : UInt8} {r : cm} (hc : s.drop p = c :: r) (oY : eP (cI c) = 4) :
  ∃ m', (∃ e q, mu (s.drop p) p = .bad e q /\ run U bh [.ptr b 0] m = some (.ret (.int .i64 (e : Int)) m') /\ Sn m' b s p ov l /\ Kn m m' b ov ov) \/
   (∃ t, mu (s.drop p) p = .ok t /\ run U bh [.ptr b 0] m = some (.ret (.int .i64 0) m') /\ Laid m m' b s ov l t (p + t.text.length)) := by
 have hlen : (s.drop p).length = s.length - p := uE ..
 have dD : 0 < (s.drop p).length := by rw [hc]; simp
 have hg := h.g
 have hb := h.lt
 have A2 : ay (some (.int .i64 (p : Int))) 0 s.length = some p := cJ h.le
 have FX : ay none s.length s.length = some s.length := rfl
 have hi : idx (s.drop p).length (.int .i64 0) = some 0 := bi (i := 0) dD
 have h0 : (s.drop p)[0]? = some c := by rw [hc]; rfl
 have xy : bA B K jg [.int .u8 (c.toNat : Int)] = some (.int .i64 4) := by rw [show (c.toNat : Int) = cI c from rfl, pG, oY]
 have IN := h.le
 rw [bZ (by simp [bt])]
 simp +contextual -implicitDefEqProofs (maxSteps := 1000000) (maxDischargeDepth := 8) only [bt, hg, hb, A2, FX, List.take_length, Option.map_none, aq, aa, implies_true, simprocAttr]
 generalize tA : Mem.mk (nb m.next 11) _ = D1
 have tU : D1.next = nb m.next 11 := by rw [<- tA]
 have E5 : ∀ c, c < m.next -> D1.get c = m.get c := fun c hc => by
  rw [<- tA];exact (aG (m := Mem.mk (m.next + 9) (bump m 11).gM) (by show c < m.next + 9; omega)).trans rfl
 have Il : D1.get (nb (m.next + 9) 0) = .cells [.str []] 1 dT false := by
  rw [<- tA];exact (aC (m := Mem.mk (m.next + 9) (bump m 11).gM) rfl (by simp)).trans rfl
 clear tA;have mT : nb (m.next + 9) 0 < D1.next := by rw [tU]; unfold nb; omega
 have AB : m.next <= nb (m.next + 9) 0 := by unfold nb; omega
 generalize nb (m.next + 9) 0 = c0 at *
 obtain ⟨M1, pM⟩ : ∃ M1, D1.set c0 (.cells [.str (s.drop p)] 1 dT false) = M1 := ⟨_, rfl⟩
 have HO : M1.next = nb m.next 11 := by rw [<- pM, cq, tU]
 have GA : ∀ c, c < m.next -> M1.get c = m.get c := fun c hc => by rw [<- pM, aB (by omega), E5 c hc]
 have MY : M1.get c0 = .cells [.str (s.drop p)] 1 dT false := by rw [<- pM, bM]
 have IM : M1.get b = .cells [.str s, .int .i64 (p : Int), ov] 3 eV false := by rw [GA b hb, hg]
 have pT : b < M1.next := by rw [HO]; unfold nb; omega
 have tx : c0 < M1.next := by rw [<- pM, cq]; exact mT
 have hS : Sn M1 b s p ov l := ⟨IM, pT, h.o.gD (by rw [HO]; exact bH) fun c hc _ _ => GA c hc, h.n, h.le⟩
 have hK : Kn m M1 b ov ov := ⟨by rw [HO]; exact bH, fun c hc _ _ => GA c hc, fun c _ _ ho => ho⟩
 have KG := qR.1 oY
 have JP : 0 < lead aR (s.drop p) := by rw [hc, lead, if_pos KG]; omega
 have hwl := lY aR (s.drop p)
 have zx : mu (s.drop p) p = FK ((s.drop p).take (lead aR (s.drop p))) p := by
  have SG : (s.drop p)[0] = c := by have := lp dD; rw [h0] at this; exact (pN this).symm
  rw [td dD, SG, if_pos KG]
 have LP : ((s.drop p).take (lead aR (s.drop p))).length = lead aR (s.drop p) := by rw [List.length_take]; omega
 obtain ⟨m2, hh⟩ := Lj hS hs JP
 generalize lead aR (s.drop p) = k at *
 rcases hh with ⟨w1, e2, q1, q2⟩ | ⟨n, w1, e2, Ld, q1, q2⟩
 ·refine ⟨m2, .inl ⟨7, p, by rw [zx, FK, w1], ?_, q1, hK.trans q2⟩⟩
  simp +contextual -implicitDefEqProofs (maxSteps := 1000000) (maxDischargeDepth := 8) only [Il, pM, mT, MY, IM, pT, tx, hi, h0, xy, Option.map_none, e2, aq, aa, implies_true, simprocAttr]
 ·refine ⟨m2, .inr ⟨_, by rw [zx, FK, w1], ?_, Ld, by simp only [LP]; exact q1, hK.trans q2⟩⟩
  simp +contextual -implicitDefEqProofs (maxSteps := 1000000) (maxDischargeDepth := 8) only [Il, pM, mT, MY, IM, pT, tx, hi, h0, xy, Option.map_none, e2, aq, aa, implies_true, simprocAttr]
theorem OO {m : Mem} {b p : Nat} {s : cm} {ov : EV} {l : List Tok} (h : Sn m b s p ov l) (hs : s.length < 1000000) {c : UInt8} {r : cm} (hc : s.drop p = c :: r) (oY : eP (cI c) = 5) :
  ∃ m', (∃ e q, mu (s.drop p) p = .bad e q /\ run U bh [.ptr b 0] m = some (.ret (.int .i64 (e : Int)) m') /\ Sn m' b s p ov l /\ Kn m m' b ov ov) \/
   (∃ t, mu (s.drop p) p = .ok t /\ run U bh [.ptr b 0] m = some (.ret (.int .i64 0) m') /\ Laid m m' b s ov l t (p + t.text.length)) := by
 have hlen : (s.drop p).length = s.length - p := uE ..
 have dD : 0 < (s.drop p).length := by rw [hc]; simp
 have hg := h.g
 have hb := h.lt
 have A2 : ay (some (.int .i64 (p : Int))) 0 s.length = some p := cJ h.le
 have FX : ay none s.length s.length = some s.length := rfl
 have hi : idx (s.drop p).length (.int .i64 0) = some 0 := bi (i := 0) dD
 have h0 : (s.drop p)[0]? = some c := by rw [hc]; rfl
 have xy : bA B K jg [.int .u8 (c.toNat : Int)] = some (.int .i64 5) := by rw [show (c.toNat : Int) = cI c from rfl, pG, oY]
 have IN := h.le
 rw [bZ (by simp [bt])]
 simp +contextual -implicitDefEqProofs (maxSteps := 1000000) (maxDischargeDepth := 8) only [bt, hg, hb, A2, FX, List.take_length, Option.map_none, aq, aa, implies_true, simprocAttr]
 generalize tA : Mem.mk (nb m.next 11) _ = D1
 have tU : D1.next = nb m.next 11 := by rw [<- tA]
 have E5 : ∀ c, c < m.next -> D1.get c = m.get c := fun c hc => by
  rw [<- tA];exact (aG (m := Mem.mk (m.next + 9) (bump m 11).gM) (by show c < m.next + 9; omega)).trans rfl
 have Il : D1.get (nb (m.next + 9) 0) = .cells [.str []] 1 dT false := by
  rw [<- tA];exact (aC (m := Mem.mk (m.next + 9) (bump m 11).gM) rfl (by simp)).trans rfl
 clear tA;have mT : nb (m.next + 9) 0 < D1.next := by rw [tU]; unfold nb; omega
 have AB : m.next <= nb (m.next + 9) 0 := by unfold nb; omega
 generalize nb (m.next + 9) 0 = c0 at *
 obtain ⟨M1, pM⟩ : ∃ M1, D1.set c0 (.cells [.str (s.drop p)] 1 dT false) = M1 := ⟨_, rfl⟩
 have HO : M1.next = nb m.next 11 := by rw [<- pM, cq, tU]
 have GA : ∀ c, c < m.next -> M1.get c = m.get c := fun c hc => by rw [<- pM, aB (by omega), E5 c hc]
 have MY : M1.get c0 = .cells [.str (s.drop p)] 1 dT false := by rw [<- pM, bM]
 have IM : M1.get b = .cells [.str s, .int .i64 (p : Int), ov] 3 eV false := by rw [GA b hb, hg]
 have pT : b < M1.next := by rw [HO]; unfold nb; omega
 have tx : c0 < M1.next := by rw [<- pM, cq]; exact mT
 have hS : Sn M1 b s p ov l := ⟨IM, pT, h.o.gD (by rw [HO]; exact bH) fun c hc _ _ => GA c hc, h.n, h.le⟩
 have hK : Kn m M1 b ov ov := ⟨by rw [HO]; exact bH, fun c hc _ _ => GA c hc, fun c _ _ ho => ho⟩
 have hnd : ¬ aR (cI c) := fun q => by have := qR.2 q; rw [oY] at this; exact absurd this (by decide)
 have XG : ¬ cg (cI c) := fun q => by have := ua.2 q; rw [oY] at this; exact absurd this (by decide)
 have hw0 : cP (s.drop p) = 0 := by rw [hc]; unfold cP; exact if_neg XG
 have zx : mu (s.drop p) p = if gN (s.drop p) = 0 then .bad 6 p else .ok ⟨4, (s.drop p).take (gN (s.drop p)), 0, p⟩ := by
  have SG : (s.drop p)[0] = c := by have := lp dD; rw [h0] at this; exact (pN this).symm
  rw [td dD, SG, if_neg hnd, hw0]; simp
 have hl := fun m => M6 (l := ph) (m := m)
 have hL : L_lex_signs = ph := rfl
 have Xt := Ei dD
 have LP : ((s.drop p).take (gN (s.drop p))).length = gN (s.drop p) := by rw [List.length_take]; omega
 rcases RW (l := ph) (tg := 0) (by decide) MY tx with ⟨i, y, f1, f2, f3, f4⟩ | ⟨f3, f4⟩
 ·have hsy := KY f1 f2 f3
  have SF := (rn.1 f1).1
  have hy0 : 0 < y.length := by rcases I7 f1 with ⟨_, _, q⟩ | ⟨_, a, _, rfl⟩; omega; simp
  rw [hsy] at zx Xt LP;rw [if_neg (by omega)] at zx;obtain ⟨m2, Ld, e2, o2, g2, k2⟩ := u0 hS (k := 4) (n := y.length) (num := 0) (by omega) hs (by omega)
  have Pt : run U fP [.ptr b 0, .int .i64 4, .int .i64 (y.length : Int), .int .i64 0] M1 = some (.ret (.tuple []) m2) := e2
  have hge : ¬ ((i : Int) < 0) := by omega
  refine ⟨m2, .inr ⟨_, zx, ?_, Ld, ⟨by simp only [LP]; exact g2, ?_, ?_, ?_, ?_⟩, hK.trans k2⟩⟩
  ·simp +contextual -implicitDefEqProofs (maxSteps := 1000000) (maxDischargeDepth := 8) only [Il, pM, mT, MY, IM, pT, tx, hi, h0, xy, Option.map_none, hL, hl, f4, f1, SF, hge, Pt, AN, rz, bi, aq, aa, implies_true, simprocAttr]
  ·have := k2.n; omega
  ·rw [kL]; exact o2
  ·rw [kL, List.length_singleton]; have := h.n; simp only [LP]; omega
  ·simp only [LP]; omega
 ·have hsy := Gk f3
  rw [if_pos hsy] at zx;refine ⟨M1, .inl ⟨6, p, zx, ?_, hS, hK⟩⟩
  simp +contextual -implicitDefEqProofs (maxSteps := 1000000) (maxDischargeDepth := 8) only [Il, pM, mT, MY, IM, pT, tx, hi, h0, xy, Option.map_none, hL, hl, f4, aq, aa, implies_true, simprocAttr]
end
section
theorem QP {m : Mem} {b p : Nat} {s : cm} {ov : EV} {l : List Tok} (h : Sn m b s p ov l) (hs : s.length < 1000000) (hp : p < s.length) :
  ∃ m', (∃ j, 0 < j /\ p + j <= s.length /\ (∀ k, je (k + 1) (s.drop p) p = je k (s.drop (p + j)) (p + j)) /\ run U bh [.ptr b 0] m = some (.ret (.int .i64 0) m') /\ Sn m' b s (p + j) ov l /\ Kn m m' b ov ov) \/
   (∃ e : Nat, 0 < e /\ (∀ k, je (k + 1) (s.drop p) p = .bad e p) /\ run U bh [.ptr b 0] m = some (.ret (.int .i64 (e : Int)) m') /\ Sn m' b s p ov l /\ Kn m m' b ov ov) \/
   (∃ t : Tok, 0 < t.text.length /\ p + t.text.length <= s.length /\ (∀ k, je (k + 1) (s.drop p) p = (je k (s.drop (p + t.text.length)) (p + t.text.length)).map (t :: ·)) /\ run U bh [.ptr b 0] m = some (.ret (.int .i64 0) m') /\ Laid m m' b s ov l t (p + t.text.length)) := by
 obtain ⟨c, r, hc⟩ : ∃ c r, s.drop p = c :: r := by
  cases hq : s.drop p with
  | nil => have := congrArg List.length hq; rw [uE, List.length_nil] at this; omega
  | cons c r => exact ⟨c, r, rfl⟩
 have hlen : (s.drop p).length = s.length - p := uE ..
 have dD : 0 < (s.drop p).length := by omega
 have step : ∀ k, je (k + 1) (s.drop p) p = if dX (cI c) then je k ((s.drop p).drop (lead dX (s.drop p))) (p + lead dX (s.drop p))
  else if cI c = 35 then je k ((s.drop p).drop (eB (s.drop p))) (p + eB (s.drop p))
  else match mu (s.drop p) p with
   | .bad e q => .bad e q
   | .ok t => (je k ((s.drop p).drop t.text.length) (p + t.text.length)).map (t :: ·) := fun k => by rw [hc]; rfl
 have hle := R7 (n := cI c)
 have tok : ¬ dX (cI c) -> ¬ cI c = 35 -> ∀ m', ((∃ e q, mu (s.drop p) p = .bad e q /\ run U bh [.ptr b 0] m = some (.ret (.int .i64 (e : Int)) m') /\ Sn m' b s p ov l /\ Kn m m' b ov ov) \/
   (∃ t, mu (s.drop p) p = .ok t /\ run U bh [.ptr b 0] m = some (.ret (.int .i64 0) m') /\ Laid m m' b s ov l t (p + t.text.length))) -> (∃ e : Nat, 0 < e /\ (∀ k, je (k + 1) (s.drop p) p = .bad e p) /\ run U bh [.ptr b 0] m = some (.ret (.int .i64 (e : Int)) m') /\ Sn m' b s p ov l /\ Kn m m' b ov ov) \/
   (∃ t : Tok, 0 < t.text.length /\ p + t.text.length <= s.length /\ (∀ k, je (k + 1) (s.drop p) p = (je k (s.drop (p + t.text.length)) (p + t.text.length)).map (t :: ·)) /\ run U bh [.ptr b 0] m = some (.ret (.int .i64 0) m') /\ Laid m m' b s ov l t (p + t.text.length)) := by
  rintro n1 n2 m' (⟨e, q, h1, h2, h3, h4⟩ | ⟨t, h1, h2, h3⟩)
  ·obtain ⟨rfl, he⟩ := Eu dD h1
   exact .inl ⟨e, he, fun k => by rw [step, if_neg n1, if_neg n2, h1], h2, h3, h4⟩
  ·obtain ⟨g1, g2, _, _⟩ := uW dD h1
   exact .inr ⟨t, g1, by omega, fun k => by rw [step, if_neg n1, if_neg n2, h1]; simp only; rw [List.drop_drop], h2, h3⟩
 by_cases c1 : eP (cI c) = 1
 ·have hb := vq.1 c1
  have hl := lY dX (s.drop p)
  obtain ⟨m', e1, e2, e3⟩ := Lo h hs hc c1
  refine ⟨m', .inl ⟨lead dX (s.drop p), by rw [hc, lead, if_pos hb]; omega, by omega, fun k => by rw [step, if_pos hb, List.drop_drop], e1, e2, e3⟩⟩
 have nb : ¬ dX (cI c) := fun q => c1 (vq.2 q)
 by_cases c2 : eP (cI c) = 2
 ·have hb := Ag.1 c2
  have hl := lY (fun n => n ≠ 10) (s.drop p)
  obtain ⟨m', e1, e2, e3⟩ := Jl h hs hc c2
  refine ⟨m', .inl ⟨eB (s.drop p), by rw [hc]; unfold eB; rw [lead, if_pos (by omega)]; omega, by unfold eB; omega, fun k => by rw [step, if_neg nb, if_pos hb, List.drop_drop], e1, e2, e3⟩⟩
 have nr : ¬ cI c = 35 := fun q => c2 (Ag.2 q)
 by_cases c3 : eP (cI c) = 3
 ·obtain ⟨m', hh⟩ := Jm h hs hc c3
  exact ⟨m', .inr (tok nb nr m' hh)⟩
 by_cases c4 : eP (cI c) = 4
 ·obtain ⟨m', hh⟩ := Ln h hs hc c4
  exact ⟨m', .inr (tok nb nr m' hh)⟩
 by_cases c5 : eP (cI c) = 5
 ·obtain ⟨m', hh⟩ := OO h hs hc c5
  exact ⟨m', .inr (tok nb nr m' hh)⟩
 have c0 : eP (cI c) = 0 := by omega
 obtain ⟨m', e1, e2, e3⟩ := OP h hs hc c0
 exact ⟨m', .inr (.inl ⟨6, by decide, fun k => by rw [step, if_neg nb, if_neg nr, hc, Lh c0], e1, e2, e3⟩)⟩
theorem Om {s : cm} (hs : s.length < 1000000) {fb b : Nat} {ov : EV} {fr : Fr} {m0 : Mem} (h : Sn m0 b s 0 ov []) (hfb : fb < b) (hb : m0.get fb = .cells [.int .i64 0, .int .i64 0] 2 au false) (h0 : fr.get 0 = .str s) (h3 : fr.get 3 = .ptr fb 0) (h4 : fr.get 4 = .ptr b 0) (hd : fr.defers = []) :
  ∃ o, exec U (.loop eK) fr m0 = some o /\ ((∃ l, je (s.length + 1) s 0 = .ok l /\ ∃ fr' m' IK, o = .exit 0 fr' m' /\ Sn m' b s s.length IK l /\ m'.get fb = .cells [.int .i64 0, .int .i64 0] 2 au false /\ fr'.get 3 = .ptr fb 0 /\ fr'.get 4 = .ptr b 0 /\ fr'.defers = []) \/
   (∃ e p, je (s.length + 1) s 0 = .bad e p /\ ∃ fr' m', o = .ret fr' m' /\ fr'.get 2 = .ae /\ m'.get fb = .cells [.int .i64 (e : Int), .int .i64 (p : Int)] 2 au false /\ fr'.get 3 = .ptr fb 0 /\ fr'.defers = [])) := by
 refine fC (σ := Nat) (fun p fr m => (∃ ov l k, Sn m b s p ov l /\ s.length - p < k /\ je (s.length + 1) s 0 = (je k (s.drop p) p).map (l ++ ·)) /\ m.get fb = .cells [.int .i64 0, .int .i64 0] 2 au false /\ fr.get 0 = .str s /\ fr.get 3 = .ptr fb 0 /\ fr.get 4 = .ptr b 0 /\ fr.defers = []) (fun p => s.length - p) _ ?_ 0 fr m0
  ⟨⟨ov, [], s.length + 1, h, by omega, by rw [List.drop_zero]; cases je (s.length + 1) s 0 <;> rfl⟩, hb, h0, h3, h4, hd⟩
 rintro p fr m ⟨⟨ov, l, k, h, hk, hr⟩, hb, h0, h3, h4, hd⟩
 generalize hX : exec U eK fr m = X
 have hg := h.g
 have bg := h.lt
 by_cases hp : p < s.length
 ·have hc : (p : Int) < (s.length : Int) := by omega
  obtain ⟨k, rfl⟩ : ∃ k', k = k' + 1 := ⟨k - 1, by omega⟩
  obtain ⟨m', hh⟩ := QP h hs hp
  have rP : ∀ {IK : EV}, Kn m m' b ov IK -> m'.get fb = .cells [.int .i64 0, .int .i64 0] 2 au false := fun q => by
   rw [q.k fb (by omega) (by omega) (h.o.lt (.inr (by omega))), hb]
  rcases hh with ⟨j, j1, j2, j3, e1, e2, e3⟩ | ⟨e, j1, j3, e1, e2, e3⟩ | ⟨t, j1, j2, j3, e1, IK, e2, e3⟩
  ·simp +contextual -implicitDefEqProofs (maxSteps := 1000000) (maxDischargeDepth := 8) only [eK, h0, h3, h4, hd, hg, bg, hc, e1, aq, aa, implies_true, simprocAttr] at hX
   subst hX;rw [j3] at hr;exact dq (p + j) (by omega) ⟨⟨ov, l, k, e2, by omega, hr⟩, rP e3, by simp only [h0, ao, Nat.reduceBEq ], by simp only [h3, ao, Nat.reduceBEq ], by simp only [h4, ao, Nat.reduceBEq ], by simp only [hd, ao, Nat.reduceBEq ]⟩
  ·have iJ : ¬ ((e : Int) = 0) := by omega
   have VL := e2.g
   have mT := e2.lt
   have BW := rP e3
   have FT : fb < m'.next := by omega
   simp +contextual -implicitDefEqProofs (maxSteps := 1000000) (maxDischargeDepth := 8) only [eK, h0, h3, h4, hd, hg, bg, hc, e1, iJ, VL, mT, BW, FT, aq, aa, implies_true, simprocAttr] at hX
   subst hX;rw [j3] at hr;exact il (Or.inr ⟨e, p, hr, _, _, rfl, by simp only [ao, simprocAttr], by simp +contextual -implicitDefEqProofs (maxSteps := 1000000) (maxDischargeDepth := 8) only [BW, FT, Hd, Hc, Hb, Ha, G9, G8, aa, implies_true, simprocAttr], by simp only [h3, ao, simprocAttr], by simp only [hd, ao, simprocAttr]⟩)
  ·simp +contextual -implicitDefEqProofs (maxSteps := 1000000) (maxDischargeDepth := 8) only [eK, h0, h3, h4, hd, hg, bg, hc, e1, aq, aa, implies_true, simprocAttr] at hX
   subst hX;rw [j3, AE.map_map] at hr;refine dq (p + t.text.length) (by omega) ⟨⟨IK, l ++ [t], k, e2, by omega, ?_⟩, rP e3, by simp only [h0, ao, Nat.reduceBEq ], by simp only [h3, ao, Nat.reduceBEq ], by simp only [h4, ao, Nat.reduceBEq ], by simp only [hd, ao, Nat.reduceBEq ]⟩
   rw [hr]; simp only [List.append_assoc, List.cons_append, List.nil_append]
 ·have hc : ¬ ((p : Int) < (s.length : Int)) := by omega
  obtain rfl : p = s.length := by have := h.le; omega
  simp +contextual -implicitDefEqProofs (maxSteps := 1000000) (maxDischargeDepth := 8) only [eK, h0, h3, h4, hd, hg, bg, hc, aq, aa, implies_true, simprocAttr] at hX
  subst hX;obtain ⟨k, rfl⟩ : ∃ k', k = k' + 1 := ⟨k - 1, by omega⟩
  rw [List.drop_length] at hr;simp only [je, AE.map, List.append_nil] at hr;exact dr (Or.inl ⟨l, hr, _, _, ov, rfl, h, hb, by simp only [h3, ao, Nat.reduceBEq ], by simp only [h4, ao, Nat.reduceBEq ], by simp only [hd, ao, Nat.reduceBEq ]⟩)
theorem Lz {s : cm} (hs : s.length < 1000000) : bA B K HL [.str s] = some (BR (xT s)) := by
 rw [cO (by simp [gd])]
 generalize hL : exec (UT B K) (aE.loop eK) = L
 by_cases h6 : 65536 < s.length
 ·have hc : (65536 : Int) < (s.length : Int) := by omega
  have : xT s = .bad 3 0 := if_pos h6
  rw [this];simp +contextual -implicitDefEqProofs (maxSteps := 1000000) (maxDischargeDepth := 8) only [gd, hc, BR, aq, aa, implies_true, simprocAttr]
 ·have hc : ¬ (65536 : Int) < (s.length : Int) := by omega
  rw [Qj (by omega)];simp +contextual -implicitDefEqProofs (maxSteps := 1000000) (maxDischargeDepth := 8) only [gd, hc, aq, aa, implies_true, simprocAttr]
  subst hL;generalize hX : exec _ (.loop eK) _ _ = X
  generalize Y6 : ext aQ _ = M0 at hX ⊢
  have hfb : nb aQ.next 0 < nb aQ.next 1 := by unfold nb; omega
  have hS : Sn M0 (nb aQ.next 1) s 0 .ae [] := by
   refine ⟨?_, ?_, ⟨.inl ⟨rfl, rfl, rfl⟩, rfl⟩, kW _, kW _⟩
   ·rw [<- Y6, aC rfl (by simp)]; rfl
   ·rw [<- Y6, ax]; unfold nb; simp
  have hf : M0.get (nb aQ.next 0) = .cells [.int .i64 0, .int .i64 0] 2 au false := by rw [<- Y6, aC rfl (by simp)]; rfl
  clear Y6;generalize nb aQ.next 0 = fb at *
  generalize nb aQ.next 1 = b at *
  obtain ⟨o, rfl, hh⟩ := ft hX (Om hs hS hfb hf (by simp only [ao, Nat.reduceBEq ]) (by simp only [ao, Nat.reduceBEq ]) (by simp only [ao, Nat.reduceBEq ]) (by simp only [ao, Nat.reduceBEq ]))
  rcases hh with ⟨l, hl, fr', m', IK, rfl, h2, BW, f3, f4, fd⟩ | ⟨e, p, hl, fr', m', rfl, f2, BW, f3, fd⟩
  ·rw [hl]
   obtain ⟨m2, Ld, e2, o2, g2, k2⟩ := u0 h2 (k := 0) (n := 0) (num := 0) (by omega) hs (by omega)
   have Pt : run U fP [.ptr b 0, .int .i64 0, .int .i64 0, .int .i64 0] m' = some (.ret (.tuple []) m2) := e2
   have hf3 : m2.get fb = .cells [.int .i64 0, .int .i64 0] 2 au false := by rw [k2.k fb (by have := h2.lt; omega) (by omega) (h2.o.lt (.inr (by omega))), BW]
   have mT : b < m2.next := by have := k2.n; have := h2.lt; omega
   have tx : fb < m2.next := by omega
   have hfz : kQ (m2.set fb (.cells [.int .i64 0, .int .i64 0] 2 au false)) Ld = some (.fz 0 4 (jP (l ++ [⟨0, [], 0, s.length⟩]))) := by
    refine ja.Dn (n := l.length + 1) (lo := b + 1) (o2.gD (by rw [cq]; exact eX _) fun c _ mU _ => aB (by omega)) (by simp [jP]) (by omega) (IV _) (D6 _)
   rw [Nat.add_zero] at g2;simp +contextual -implicitDefEqProofs (maxSteps := 1000000) (maxDischargeDepth := 8) only [f3, f4, fd, Pt, g2, hf3, mT, tx, hfz, BR, AE.map, aq, aa, implies_true, simprocAttr]
  ·rw [hl]
   simp +contextual -implicitDefEqProofs (maxSteps := 1000000) (maxDischargeDepth := 8) only [f2, f3, fd, BW, BR, AE.map, aq, aa, implies_true, simprocAttr]
end
end Go.Proofs.YtdiccmapankckaaDoor.Ev
