/- WPa9, WPa10, WTree2, WTree3, PUp, WTree4, WExprT, PLs, WIx0, WPl1, WIxi, WIxs, WPl2, WPl3, WPl4, WPl5, WPl6. -/
import Derived.Lib.IndexAny
import Derived.Test.YtdiccmapankckaaDoorMh
set_option linter.unusedSimpArgs false
set_option linter.unusedVariables false
set_option linter.unusedSectionVars false
set_option linter.defProp false
set_option maxRecDepth 20000
set_option maxHeartbeats 8000000
namespace Go.Proofs.YtdiccmapankckaaDoor.Ev
open Go
section
def R7 (l : List Tok) (tg k : Nat) : Prop := ∀ (out : List Int) (v : EV) (st : RS) (fr : Fr) (m : Mem) (b n0 bx : Nat) (P : Nat -> Prop) (s1 : RS) (r : List Int) (X : Option Out), ez l st -> 8 * (l.length - st.pos) + (PC.um out).bg < k -> out.length <= 8 -> lW l k (.um out) st = some (s1, r) -> Rd m b tg l st (Pv P v) -> (∀ c, P c -> c < n0) -> n0 <= m.next -> jz m v (is out) out.length 1 n0 -> (out = [] -> v = .ae) -> m.get bx = .cells [.ptr b 0] 1 ah false -> P bx -> fr.get 1 = .ptr bx 0 -> fr.get 3 = v -> fr.get 4 = .bool true -> fr.defers = [] -> exec U (.loop aD) fr m = X -> ∃ fr' m' v', X = some (.exit 0 fr' m') /\ fr'.get 1 = .ptr bx 0 /\ fr'.get 3 = v' /\ fr'.defers = [] /\ jz m' v' (is r) r.length 1 n0 /\ Rd m' b tg l s1 (Pv P v') /\ Kp m m' P /\ (r = [] -> v' = .ae)
section
variable {tg : Nat} {l : List Tok} {m : Mem} {b : Nat} {st : RS} {P : Nat -> Prop}
theorem Mr {v : EV} {out : List Int} {x : Int} {n0 c : Nat} (h : Rd m b tg l st (Pv P v)) (hP : ∀ c, P c -> c < n0) (uu : n0 <= m.next) (dJ : jz m v (is out) out.length 1 n0) (hl : out.length < 1000000) (hc : m.get c = .cells [.int .i64 x] 1 bn false) :
  ∃ v2 M2, fP m bn 1 v (.slice c 0 1 (some 1)) = some (v2, M2) /\ jz M2 v2 (is (out ++ [x])) (out ++ [x]).length 1 n0 /\ Rd M2 b tg l st (Pv P v2) /\ Kp m M2 P := by
 obtain ⟨ha, kA⟩ := gT (e := bn) dJ uu (rl (cap := some 1) hc rfl) rfl (by decide) (by unfold room; omega)
 have Rc := Rd.grow (e := bn) (n := out.length + 1) (cs := is out ++ [.int .i64 x]) h fun c hc => dJ.lt (.inr (hP c hc))
 have Fk : Kp m (grow m v bn 1 (is out ++ [.int .i64 x])) P := ⟨by rw [iL]; exact bE, fun c hc => lN (h.mb (.inl hc)) (dJ.lt (.inr (hP c hc)))⟩
 refine ⟨_, _, ha, ?_, Rc, Fk⟩
 rw [CB, ja]; exact kA
theorem Qn (ht : bS l) {k : Nat} (ih : R7 l tg k) : R7 l tg (k + 1) := by
 intro out v st fr m b n0 bx P s1 r X o hk hm bM h hP uu dJ hz xu px h1 h3 h4 hd hX
 have hlen : ∀ M, BE v M = some (.val (.int .i64 (out.length : Int)) M) := fun M => by
  rcases dJ.is with ⟨rfl, q, _⟩ | ⟨kb, cap, t, rfl, _⟩
  ·rw [q]; rfl
  ·rfl
 have hF := xC (b := b) (tg := tg) (l := l) (st := st) (P := Pv P v)
 have hT := jE (b := b) (tg := tg) (P := Pv P v) ht o
 have nx := h.mb (.inl px)
 rw [eP] at hX;generalize hL : exec U (.loop aD) = L at hX
 simp only [lW] at bM;by_cases hf : st.fe = 0
 ·rw [if_pos hf] at bM
  simp +contextual -implicitDefEqProofs (maxSteps := 1000000) (maxDischargeDepth := 8) only [aD, h1, h3, h4, hd, xu, nx, hF, hT, h, hf, fY, ak, aq, aa, implies_true, simprocAttr] at hX
  have h0 := ak (k := 19) (ak (k := 2) h)
  have k0 := (aQ (k := 2) h).trans (aQ (k := 19) (ak (k := 2) h))
  generalize hC : run U eF _ _ = C at hX
  obtain ⟨m1, rfl, r1, k1⟩ := nV ht o h0 hC
  clear hC;have YG := k0.trans k1
  have Et := dJ.kp YG fun c hc => .inr hc
  have Y0 := (YG.k _ (.inl px)).trans xu
  have nx1 := r1.mb (.inl px)
  have g1 := Gr.name ht o.p
  have o1 := g1.ok o
  have h8 : ((out.length : Int) = 8) = (out.length = 8) := propext (by omega)
  simp +contextual -implicitDefEqProofs (maxSteps := 1000000) (maxDischargeDepth := 8) only [h1, h3, h4, hd, Y0, nx1, hlen, h8, aq, aa, implies_true, simprocAttr] at hX
  obtain ⟨na1, na2, na3⟩ := Cw (st := st) (l := l)
  by_cases q8 : out.length = 8
  ·rw [AM q8] at hX
   rw [if_pos q8] at bM;generalize hC : run U dR _ _ = C at hX
   obtain ⟨m2, rfl, r2, k2⟩ := JL r1 hC
   clear hC;have g2 : Gr l st ((st.name l).fail 3 (st.now l).pos) := g1.trans (.fail g1.pl (by decide))
   have t2 : ((st.name l).fail 3 (st.now l).pos).tree = st.tree := by rw [cU.2.2.1, na1]
   have f2 : ((st.name l).fail 3 (st.now l).pos).fe = 0 -> st.pos + 1 <= ((st.name l).fail 3 (st.now l).pos).pos := fun q => absurd q (eg (by decide))
   have lt8 : ((st.name l).fail 3 (st.now l).pos).fe = 0 -> out.length < 8 := fun q => absurd q (eg (by decide))
   generalize hS0 : (st.name l).fail 3 (st.now l).pos = S0 at *
   have Gj := YG.trans k2
   have o2 := g2.ok o
   have kA := dJ.kp Gj fun c hc => .inr hc
   have PE := (Gj.k _ (.inl px)).trans xu
   have Uj := r2.mb (.inl px)
   have p8 : ((kE l S0).1.put (nd 24 [] (kE l S0).2 (st.cP l) (st.now l).pos)).fe = 0 -> st.pos < ((kE l S0).1.put (nd 24 [] (kE l S0).2 (st.cP l) (st.now l).pos)).pos := fun q => by
    have gk := (pg ht o2.p).1
    have := f2 (gk.f (xD q)); have := gk.p
    rw [oi]; omega
   have l8 : ((kE l S0).1.put (nd 24 [] (kE l S0).2 (st.cP l) (st.now l).pos)).fe = 0 -> out.length < 8 := fun q => by
    have gk := (pg ht o2.p).1
    exact lt8 (gk.f (xD q))
   simp +contextual -implicitDefEqProofs (maxSteps := 1000000) (maxDischargeDepth := 8) only [h1, h3, h4, hd, PE, Uj, aq, aa, implies_true, simprocAttr] at hX
   have rb := jG r2 12
   generalize hC : run U iA _ _ = C at hX
   obtain ⟨m7, rfl, r7, k7⟩ := QU ht o2 rb hC
   clear hC;obtain ⟨gk, tk, _, _⟩ := pg ht o2.p
   have o7 := gk.ok o2
   have e7 := (k7.k _ (.inl (.inl px))).trans PE
   generalize hS7 : (kE l S0).1 = s7 at *
   generalize (kE l S0).2 = kd at *
   simp +contextual -implicitDefEqProofs (maxSteps := 1000000) (maxDischargeDepth := 8) only [e7, aq, aa, implies_true, simprocAttr] at hX
   generalize hC : run U ay _ _ = C at hX
   obtain ⟨m8, rfl, r8, k8⟩ := pG (P := Pr (Pv P v) m2.next (m2.next + 12)) (kids := []) ht o7 r7 (by simp) ⟨.inl ⟨rfl, rfl, rfl⟩, rfl⟩ (fun c hc => absurd gz.nil hc) (fun c hc => ⟨hc, gz.nil⟩) (by simp) hC
   clear hC;have o8 : ez l (s7.put (nd 24 [] kd (st.cP l) (st.now l).pos)) := ((g2.trans gk).lay (fun w => by have := gk.p; have := f2 (gk.f w); rw [tk, t2]; omega)).ok o
   generalize s7.put (nd 24 [] kd (st.cP l) (st.now l).pos) = s8 at *
   generalize s7.gO (nd 24 [] kd (st.cP l) (st.now l).pos) = y at *
   have hM : ∀ B, Mem.mk m8.next (ext (Mem.mk (m2.next + 9) m8.gB) [B]).gB = m8.set (m2.next + 9) B := fun _ => rfl
   obtain ⟨r9, k9, n9, p9, Ty⟩ := drawn (c := m2.next + 9) r2 (by omega) (by omega) r8 (k7.trans k8) [.int .i64 y]
   have hM9 : (m8.set (m2.next + 9) (.cells [.int .i64 y] 1 bn false)).get (m2.next + 9) = .cells [.int .i64 y] 1 bn false := bK
   have Rf := kA.kp k9 fun c hc => .inr hc
   have Xc := (Gj.trans k9).bO (Q := P) fun c hc => .inl hc
   simp +contextual -implicitDefEqProofs (maxSteps := 1000000) (maxDischargeDepth := 8) only [hM, aq, aa, implies_true, simprocAttr] at hX
   generalize m8.set (m2.next + 9) (.cells [.int .i64 y] 1 bn false) = M9 at *
   have hs : nb (m2.next + 9) 0 = m2.next + 9 := rfl
   rw [hs] at hX;obtain ⟨v2, M2, ha, mf, r3, k3⟩ := Mr (x := y) (r9.bO (Q := Pv P v) fun c hc => .inl hc) hP (pJ uu Xc.n) Rf (by omega) hM9
   have MK := Xc.trans k3
   have e3 := (MK.k _ px).trans xu
   have n3 := r3.mb (.inl px)
   simp +contextual -implicitDefEqProofs (maxSteps := 1000000) (maxDischargeDepth := 8) only [ha, e3, n3, h1, aq, aa, implies_true, simprocAttr] at hX
   generalize hC : run U aT _ _ = C at hX
   obtain ⟨m4, rfl, r4, k4⟩ := oU ht o8 r3 hC
   clear hC;have nu := mf.kp k4 fun c hc => .inr hc
   have CA := MK.trans (k4.bO fun c hc => .inl hc)
   have e4 := (CA.k _ px).trans xu
   have n4 := r4.mb (.inl px)
   by_cases hq : s8.is l [44]
   ·rw [if_pos hq] at bM
    rw [eB hq] at hX;rw [show s8.skip l [44] = s8.next from if_pos hq] at r4
    simp +contextual -implicitDefEqProofs (maxSteps := 1000000) (maxDischargeDepth := 8) only [aq, aa, implies_true, simprocAttr] at hX
    subst hL;have hn := is_lt ht o8.p hq
    obtain ⟨fr', m', v', rfl, q1, q3, qd, qo, qr, qk, qz⟩ := ih (out ++ [y]) v2 _ _ _ _ n0 bx P _ _ _ ((Gr.next hn).ok o8) (by have := p8 hq.1; have := o8.p; simp only [PC.bg, RS.next] at *; omega) (by rw [ja, List.length_singleton]; have := l8 hq.1; omega) bM r4 hP (pJ uu CA.n) nu (by simp) e4 px (by simp only [h1, ap, Nat.reduceBEq ]) (by simp only [ap, Nat.reduceBEq ]) (by simp only [ap, Nat.reduceBEq ]) (by simp only [hd, ap, Nat.reduceBEq ]) hX
    exact ⟨fr', m', v', rfl, q1, q3, qd, qo, qr, CA.trans qk, qz⟩
   ·rw [if_neg hq] at bM
    obtain ⟨rfl, rfl⟩ := eM _ _ _ _ ▸ pE bM
    rw [eR hq] at hX;rw [show s8.skip l [44] = s8 from if_neg hq] at r4
    simp +contextual -implicitDefEqProofs (maxSteps := 1000000) (maxDischargeDepth := 8) only [aq, aa, implies_true, simprocAttr] at hX
    subst hL;rw [eP] at hX;generalize exec U (.loop aD) = L at hX
    simp +contextual -implicitDefEqProofs (maxSteps := 1000000) (maxDischargeDepth := 8) only [aD, h1, hd, aq, aa, implies_true, simprocAttr] at hX
    subst hX;exact ⟨_, _, v2, rfl, by simp only [h1, ap, Nat.reduceBEq ], by simp only [ap, Nat.reduceBEq ], by simp only [hd, ap, Nat.reduceBEq ], nu, r4, CA, by simp⟩
  ·rw [AN q8] at hX
   rw [if_neg q8] at bM;have g2 := g1
   have t2 := na1
   have f2 : (st.name l).fe = 0 -> st.pos + 1 <= (st.name l).pos := fun q => by rw [na3 q]; exact fh _
   have lt8 : (st.name l).fe = 0 -> out.length < 8 := fun _ => by omega
   have r2 := r1
   have Gj := YG
   generalize hm2 : m1 = m2 at r2 Gj hX
   clear hm2;generalize hS0 : st.name l = S0 at *
   have o2 := g2.ok o
   have kA := dJ.kp Gj fun c hc => .inr hc
   have PE := (Gj.k _ (.inl px)).trans xu
   have Uj := r2.mb (.inl px)
   have p8 : ((kE l S0).1.put (nd 24 [] (kE l S0).2 (st.cP l) (st.now l).pos)).fe = 0 -> st.pos < ((kE l S0).1.put (nd 24 [] (kE l S0).2 (st.cP l) (st.now l).pos)).pos := fun q => by
    have gk := (pg ht o2.p).1
    have := f2 (gk.f (xD q)); have := gk.p
    rw [oi]; omega
   have l8 : ((kE l S0).1.put (nd 24 [] (kE l S0).2 (st.cP l) (st.now l).pos)).fe = 0 -> out.length < 8 := fun q => by
    have gk := (pg ht o2.p).1
    exact lt8 (gk.f (xD q))
   have rb := jG r2 12
   generalize hC : run U iA _ _ = C at hX
   obtain ⟨m7, rfl, r7, k7⟩ := QU ht o2 rb hC
   clear hC;obtain ⟨gk, tk, _, _⟩ := pg ht o2.p
   have o7 := gk.ok o2
   have e7 := (k7.k _ (.inl (.inl px))).trans PE
   generalize hS7 : (kE l S0).1 = s7 at *
   generalize (kE l S0).2 = kd at *
   simp +contextual -implicitDefEqProofs (maxSteps := 1000000) (maxDischargeDepth := 8) only [e7, aq, aa, implies_true, simprocAttr] at hX
   generalize hC : run U ay _ _ = C at hX
   obtain ⟨m8, rfl, r8, k8⟩ := pG (P := Pr (Pv P v) m2.next (m2.next + 12)) (kids := []) ht o7 r7 (by simp) ⟨.inl ⟨rfl, rfl, rfl⟩, rfl⟩ (fun c hc => absurd gz.nil hc) (fun c hc => ⟨hc, gz.nil⟩) (by simp) hC
   clear hC;have o8 : ez l (s7.put (nd 24 [] kd (st.cP l) (st.now l).pos)) := ((g2.trans gk).lay (fun w => by have := gk.p; have := f2 (gk.f w); rw [tk, t2]; omega)).ok o
   generalize s7.put (nd 24 [] kd (st.cP l) (st.now l).pos) = s8 at *
   generalize s7.gO (nd 24 [] kd (st.cP l) (st.now l).pos) = y at *
   have hM : ∀ B, Mem.mk m8.next (ext (Mem.mk (m2.next + 9) m8.gB) [B]).gB = m8.set (m2.next + 9) B := fun _ => rfl
   obtain ⟨r9, k9, n9, p9, Ty⟩ := drawn (c := m2.next + 9) r2 (by omega) (by omega) r8 (k7.trans k8) [.int .i64 y]
   have hM9 : (m8.set (m2.next + 9) (.cells [.int .i64 y] 1 bn false)).get (m2.next + 9) = .cells [.int .i64 y] 1 bn false := bK
   have Rf := kA.kp k9 fun c hc => .inr hc
   have Xc := (Gj.trans k9).bO (Q := P) fun c hc => .inl hc
   simp +contextual -implicitDefEqProofs (maxSteps := 1000000) (maxDischargeDepth := 8) only [hM, aq, aa, implies_true, simprocAttr] at hX
   generalize m8.set (m2.next + 9) (.cells [.int .i64 y] 1 bn false) = M9 at *
   have hs : nb (m2.next + 9) 0 = m2.next + 9 := rfl
   rw [hs] at hX;obtain ⟨v2, M2, ha, mf, r3, k3⟩ := Mr (x := y) (r9.bO (Q := Pv P v) fun c hc => .inl hc) hP (pJ uu Xc.n) Rf (by omega) hM9
   have MK := Xc.trans k3
   have e3 := (MK.k _ px).trans xu
   have n3 := r3.mb (.inl px)
   simp +contextual -implicitDefEqProofs (maxSteps := 1000000) (maxDischargeDepth := 8) only [ha, e3, n3, h1, aq, aa, implies_true, simprocAttr] at hX
   generalize hC : run U aT _ _ = C at hX
   obtain ⟨m4, rfl, r4, k4⟩ := oU ht o8 r3 hC
   clear hC;have nu := mf.kp k4 fun c hc => .inr hc
   have CA := MK.trans (k4.bO fun c hc => .inl hc)
   have e4 := (CA.k _ px).trans xu
   have n4 := r4.mb (.inl px)
   by_cases hq : s8.is l [44]
   ·rw [if_pos hq] at bM
    rw [eB hq] at hX;rw [show s8.skip l [44] = s8.next from if_pos hq] at r4
    simp +contextual -implicitDefEqProofs (maxSteps := 1000000) (maxDischargeDepth := 8) only [aq, aa, implies_true, simprocAttr] at hX
    subst hL;have hn := is_lt ht o8.p hq
    obtain ⟨fr', m', v', rfl, q1, q3, qd, qo, qr, qk, qz⟩ := ih (out ++ [y]) v2 _ _ _ _ n0 bx P _ _ _ ((Gr.next hn).ok o8) (by have := p8 hq.1; have := o8.p; simp only [PC.bg, RS.next] at *; omega) (by rw [ja, List.length_singleton]; have := l8 hq.1; omega) bM r4 hP (pJ uu CA.n) nu (by simp) e4 px (by simp only [h1, ap, Nat.reduceBEq ]) (by simp only [ap, Nat.reduceBEq ]) (by simp only [ap, Nat.reduceBEq ]) (by simp only [hd, ap, Nat.reduceBEq ]) hX
    exact ⟨fr', m', v', rfl, q1, q3, qd, qo, qr, CA.trans qk, qz⟩
   ·rw [if_neg hq] at bM
    obtain ⟨rfl, rfl⟩ := eM _ _ _ _ ▸ pE bM
    rw [eR hq] at hX;rw [show s8.skip l [44] = s8 from if_neg hq] at r4
    simp +contextual -implicitDefEqProofs (maxSteps := 1000000) (maxDischargeDepth := 8) only [aq, aa, implies_true, simprocAttr] at hX
    subst hL;rw [eP] at hX;generalize exec U (.loop aD) = L at hX
    simp +contextual -implicitDefEqProofs (maxSteps := 1000000) (maxDischargeDepth := 8) only [aD, h1, hd, aq, aa, implies_true, simprocAttr] at hX
    subst hX;exact ⟨_, _, v2, rfl, by simp only [h1, ap, Nat.reduceBEq ], by simp only [ap, Nat.reduceBEq ], by simp only [hd, ap, Nat.reduceBEq ], nu, r4, CA, by simp⟩
 ·rw [if_neg hf] at bM
  obtain ⟨rfl, rfl⟩ := eM _ _ _ _ ▸ pE bM
  simp +contextual -implicitDefEqProofs (maxSteps := 1000000) (maxDischargeDepth := 8) only [aD, h1, h3, h4, hd, xu, nx, hF, hT, h, hf, fY, fA, ak, aq, aa, implies_true, simprocAttr] at hX
  subst hX;exact ⟨_, _, v, rfl, by simp only [h1, ap, Nat.reduceBEq ], by simp only [h3, ap, Nat.reduceBEq ], by simp only [hd, ap, Nat.reduceBEq ], dJ.kp (aQ h) fun c hc => .inr hc, ak h, (aQ h).bO fun c hc => .inl hc, hz⟩
end
end
section
theorem PL {l : List Tok} {tg : Nat} (ht : bS l) : ∀ k, R7 l tg k := by
 intro k
 induction k with
 | zero => exact fun _ _ _ _ _ _ _ _ _ _ _ _ _ q => absurd q (by omega)
 | succ k ih => exact Qn ht ih
theorem jz.le {m : Mem} {v : EV} {cs : List EV} {n esz lo Eg : Nat} (h : jz m v cs n esz lo) (hl : Eg <= lo) : jz m v cs n esz Eg := by
 refine ⟨?_, h.len⟩
 rcases h.is with h | ⟨b, cap, t, rfl, h1, h2, h3, h4⟩
 ·exact .inl h
 ·exact .inr ⟨b, cap, t, rfl, pJ hl h1, h2, h3, h4⟩
section
variable {tg : Nat} {l : List Tok} {m : Mem} {b : Nat} {st : RS} {P : Nat -> Prop} {X : Option Fin}
theorem IR (ht : bS l) {k : Nat} (o : ez l st) (hk : 8 * (l.length - st.pos) + 1 <= k) {s1 : RS} {r : List Int} (bM : (if (st.want l [40]).is l [41] then some (st.want l [40], []) else lW l k (.um []) (st.want l [40])) = some (s1, r)) (hg : Gr l (st.want l [40]) s1) (h : Rd m b tg l st P) (hX : run U j9 [.agg [.ptr b 0]] m = X) :
  ∃ m' v, X = some (.ret v m') /\ jz m' v (is r) r.length 1 m.next /\ Rd m' b tg l (s1.want l [41]) (Pv P v) /\ Kp m m' P /\ (r = [] -> v = .ae) := by
 rw [bX (by simp [bU])] at hX
 generalize hL : exec (UT B K) (aH.loop aD) = L at hX
 simp +contextual -implicitDefEqProofs (maxSteps := 1000000) (maxDischargeDepth := 8) only [bU, aq, aa, implies_true, simprocAttr] at hX
 obtain ⟨r0, x0⟩ := Bx.uD h
 generalize ext m [.cells [.ptr b 0] 1 ah false] = M0 at *
 generalize hC : run U aO _ _ = C at hX
 obtain ⟨m1, rfl, r1, k1⟩ := nT ht o r0 hC
 clear hC;have x1 := x0.step k1 (fun c hc => .inl hc) rz
 have y1 := x1.g
 have z1 := x1.n
 have gw := Gr.want ht o.p (s := [40])
 have o1 := gw.ok o
 generalize hS : st.want l [40] = sw at *
 have hI := Vj (b := b) (tg := tg) (P := Pr P m.next (nb m.next 1)) ht o1
 have Mp : Rd m1 b tg l sw (Pr P m.next (nb m.next 1)) := r1
 have o2 := hg.ok o1
 by_cases hq : sw.is l [41]
 ·rw [if_pos hq] at bM
  obtain ⟨rfl, rfl⟩ := eM _ _ _ _ ▸ pE bM
  simp +contextual -implicitDefEqProofs (maxSteps := 1000000) (maxDischargeDepth := 8) only [y1, z1, hI, Mp, hq, fY, aq, aa, implies_true, simprocAttr] at hX
  subst hL;rw [eP] at hX;generalize exec (UT B K) (.loop aD) = L at hX
  simp +contextual -implicitDefEqProofs (maxSteps := 1000000) (maxDischargeDepth := 8) only [aD, y1, z1, aq, aa, implies_true, simprocAttr] at hX
  generalize hC : run U aO _ _ = C at hX
  obtain ⟨m2, rfl, r2, k2⟩ := nT ht o1 (ak Mp) hC
  clear hC;simp +contextual -implicitDefEqProofs (maxSteps := 1000000) (maxDischargeDepth := 8) only [aq, aa, implies_true, simprocAttr] at hX
  subst hX;exact ⟨_, _, rfl, ⟨.inl ⟨rfl, rfl, rfl⟩, rfl⟩, (r2.bO fun c hc => .inl hc).pv, x1.k.trans (((aQ Mp).trans k2).bO fun c hc => .inl hc), fun _ => rfl⟩
 ·rw [if_neg hq] at bM
  simp +contextual -implicitDefEqProofs (maxSteps := 1000000) (maxDischargeDepth := 8) only [y1, z1, hI, Mp, hq, fA, aq, aa, implies_true, simprocAttr] at hX
  subst hL;have rb := ak (k := 20) Mp
  have xb := x1.step (aQ (k := 20) Mp) (fun c hc => .inl hc) rz
  generalize hC : exec (UT B K) (aH.loop aD) _ _ = C at hX
  obtain ⟨fr', m2, v, rfl, f1, f3, fd, dJ, r2, k2, hz⟩ := PL ht k [] .ae _ _ _ _ (bump m1 20).next (nb m.next 0) (Pr P m.next (nb m.next 1)) _ _ _ o1 (by have := gw.p; simp only [PC.bg] at *; omega) (lu _) bM rb.pv (fun c hc => rb.mb hc) (fh _) ⟨.inl ⟨rfl, rfl, rfl⟩, rfl⟩ (fun _ => rfl) xb.g rz (by simp only [ap, Nat.reduceBEq ]) (by simp only [ap, Nat.reduceBEq ]) (by simp only [ap, Nat.reduceBEq ]) (by simp only [ap, Nat.reduceBEq ]) hC
  clear hC;have x2 := xb.step k2 (fun c hc => .inl hc) rz
  have y2 := x2.g
  have z2 := x2.n
  simp +contextual -implicitDefEqProofs (maxSteps := 1000000) (maxDischargeDepth := 8) only [f1, f3, fd, y2, z2, aq, aa, implies_true, simprocAttr] at hX
  generalize hC : run U aO _ _ = C at hX
  obtain ⟨m3, rfl, r3, k3⟩ := nT ht o2 r2 hC
  clear hC;simp +contextual -implicitDefEqProofs (maxSteps := 1000000) (maxDischargeDepth := 8) only [f1, f3, fd, aq, aa, implies_true, simprocAttr] at hX
  subst hX;refine ⟨_, v, rfl, (dJ.kp k3 fun c hc => .inr hc).le ?_, r3.bO ?_, x2.k.trans (k3.bO fun c hc => .inl (.inl hc)), hz⟩
  ·exact pJ x1.k.n (by rw [bz]; exact bE)
  ·exact fun c hc => hc.elim (fun q => .inl (.inl q)) .inr
theorem ED (ht : bS l) {k : Nat} (o : ez l st) (hk : 8 * (l.length - st.pos) + PC.func.bg < k + 1) {s1 : RS} {r : List Int} (bM : lW l (k + 1) .func st = some (s1, r)) (h : Rd m b tg l st P) (hX : run U fI [.agg [.ptr b 0]] m = X) : ∃ m', X = some (.ret (.int .i64 (r.headD 0)) m') /\ Rd m' b tg l s1 P /\ Kp m m' P := by
 rw [bX (by simp [cr])] at hX
 simp +contextual -implicitDefEqProofs (maxSteps := 1000000) (maxDischargeDepth := 8) only [cr, aq, aa, implies_true, simprocAttr] at hX
 obtain ⟨r0, x0⟩ := Bx.uD h
 generalize ext m [.cells [.ptr b 0] 1 ah false] = M0 at *
 generalize hC : run U aO _ _ = C at hX
 obtain ⟨m1, rfl, r1, k1⟩ := nT ht o r0 hC
 clear hC;have x1 := x0.step k1 (fun c hc => .inl hc) rz
 have y1 := x1.g
 have z1 := x1.n
 simp only [lW] at bM;have g0 := Gr.want ht o.p (s := Ap)
 have o1 := g0.ok o
 have Mp : Rd m1 b tg l (st.want l Ap) (Pr P m.next (nb m.next 1)) := r1
 have w0 := BR (st := st) (l := l) (s := Ap)
 have d0 := (rf (st := st) (l := l) (s := Ap)).2
 clear r1;generalize st.want l Ap = s0 at *
 have hT := jE (b := b) (tg := tg) (P := Pr P m.next (nb m.next 1)) ht o1
 simp +contextual -implicitDefEqProofs (maxSteps := 1000000) (maxDischargeDepth := 8) only [y1, z1, hT, Mp, aq, aa, implies_true, simprocAttr] at hX
 have rb := ak (k := 19) Mp
 have xb := x1.step (aQ (k := 19) Mp) (fun c hc => .inl hc) rz
 generalize bump m1 19 = m1 at *
 generalize hC : run U eF _ _ = C at hX
 obtain ⟨m2, rfl, r2, k2⟩ := nV ht o1 rb hC
 clear hC;have x2 := xb.step k2 (fun c hc => .inl hc) rz
 have y2 := x2.g
 have z2 := x2.n
 have g1 : Gr l s0 (s0.name l) := Gr.name ht o1.p
 have o2 := g1.ok o1
 have g2 := g1.trans (Gr.want ht g1.pl (s := [40]))
 obtain ⟨s2, rr, e, g3, l9⟩ : ∃ s2 rr, (if ((s0.name l).want l [40]).is l [41] then some ((s0.name l).want l [40], []) else lW l k (.um []) ((s0.name l).want l [40])) = some (s2, rr) /\ Gr l ((s0.name l).want l [40]) s2 /\ rr.length <= 9 := by
  split
  ·exact ⟨_, _, rfl, .refl g2.pl, lu _⟩
  ·obtain ⟨s2, r2, e2, g4, a2, _⟩ := kP ht k (.um []) ((s0.name l).want l [40]) g2.pl (by have := g0.p; have := g2.p; simp only [PC.bg] at *; omega) (lu _)
   exact ⟨_, _, e2, g4, a2⟩
 rw [e] at bM;simp only [Option.bind_some] at bM;simp +contextual -implicitDefEqProofs (maxSteps := 1000000) (maxDischargeDepth := 8) only [y2, z2, aq, aa, implies_true, simprocAttr] at hX
 generalize hC : run U j9 _ _ = C at hX
 obtain ⟨m3, v, rfl, dJ, r3, k3, hz⟩ := IR ht o2 (by have := g0.p; have := g1.p; simp only [PC.bg] at *; omega) e g3 r2 hC
 clear hC;have x3 := x2.step k3 (fun c hc => .inl hc) rz
 have y3 := x3.g
 have z3 := x3.n
 have g4 := (g2.trans g3).trans (Gr.want ht g3.pl (s := [41]))
 have o3 := g4.ok o1
 have Wt : v.cells = some [v] := by rcases dJ.is with ⟨rfl, _⟩ | ⟨_, _, _, rfl, _⟩ <;> rfl
 simp +contextual -implicitDefEqProofs (maxSteps := 1000000) (maxDischargeDepth := 8) only [y3, z3, aq, aa, implies_true, simprocAttr] at hX
 generalize hC : run U iA _ _ = C at hX
 obtain ⟨m4, rfl, r4, k4⟩ := QU ht o3 r3 hC
 clear hC;have x4 := x3.step k4 (fun c hc => .inl (.inl hc)) (.inl rz)
 have y4 := x4.g
 have z4 := x4.n
 obtain ⟨g5, _⟩ := pg ht o3.p
 have g6 := g4.trans g5
 have o4 := g6.ok o1
 have VB : 8 * (l.length - (kE l (s2.want l [41])).1.pos) + PC.block.bg < k := by have := g0.p; have := g6.p; simp only [PC.bg] at *; omega
 obtain ⟨s5, r5, e5, g7, a5, _⟩ := kP ht k .block (kE l (s2.want l [41])).1 o4.p VB trivial
 obtain ⟨_, y, rfl⟩ := rZ ht o4 VB e5
 simp only [e5, Option.bind_some, uU] at bM;simp +contextual -implicitDefEqProofs (maxSteps := 1000000) (maxDischargeDepth := 8) only [y4, z4, aq, aa, implies_true, simprocAttr] at hX
 generalize hC : run U eO _ _ = C at hX
 obtain ⟨m5, rfl, r5, k5⟩ := (PK ht k).c9 _ _ _ _ _ _ _ o4 VB e5 r4 hC
 clear hC;have g8 := g6.trans g7
 have o5 := g8.ok o1
 have k35 := k4.trans k5
 have Xz := dJ.kp k35 fun c hc => .inr hc
 obtain ⟨v2, M2, ha, Rg, r6, k6⟩ := rv (x := y) r5 (fun c hc => r2.mb hc) (pJ k3.n k35.n) Xz (by omega)
 have x6 := (x4.step k5 (fun c hc => .inl (.inl hc)) (.inl rz)).step k6 (fun c hc => .inl hc) rz
 have y6 := x6.g
 have z6 := x6.n
 have Vo : v2.cells = some [v2] := by rcases Rg.is with ⟨rfl, _⟩ | ⟨_, _, _, rfl, _⟩ <;> rfl
 simp +contextual -implicitDefEqProofs (maxSteps := 1000000) (maxDischargeDepth := 8) only [ha, y6, z6, Vo, List.headD_cons, aq, aa, implies_true, simprocAttr] at hX
 generalize hC : run U ay _ _ = C at hX
 obtain ⟨m7, rfl, r7, k7⟩ := pG (P := Pr P m.next (nb m.next 1)) (kids := rr ++ [y]) ht o5 r6 (by rw [ja, List.length_singleton]; omega) Rg.Vd (fun c hc => .inr hc) (fun c hc => ⟨.inl hc, Rg.lt (.inr (r2.mb hc))⟩) (by simp) hC
 clear hC;simp +contextual -implicitDefEqProofs (maxSteps := 1000000) (maxDischargeDepth := 8) only [aq, aa, implies_true, simprocAttr] at hX
 subst hX;obtain ⟨rfl, rfl⟩ := eM _ _ _ _ ▸ pE bM
 exact ⟨_, rfl, r7.bO fun c hc => .inl hc, x6.k.trans (k7.bO fun c hc => .inl hc)⟩
end
end
section
def xx (l : List Nd) (k : List Int) : Prop := ∀ x ∈ k, 0 <= x /\ x < (l.length : Int)
theorem LH {l : List Nd} {k : List Int} {n t1 t2 : Nat} {nl1 nl2 : Bool} (hv : xx l k) (hk : n <= k.length) (hl : k.length < 1000000000) {m0 : Mem} {fr : Fr} (h0 : fr.get 0 = row nl1 t1 5 (qS l)) (h1 : fr.get 1 = row nl2 t2 1 (ints k)) (h2 : fr.get 2 = .int .i64 (n : Int)) (h7 : fr.get 7 = .int .i64 0) (hd : fr.defers = []) :
  ∃ o, exec U (.loop gq) fr m0 = some o /\ ((¬ (∀ x ∈ k.take n, kc (kindOf l x)) /\ ∃ fr', o = .ret fr' m0 /\ fr'.get 6 = .bool false /\ fr'.defers = []) \/ ((∀ x ∈ k.take n, kc (kindOf l x)) /\ ∃ fr', o = .exit 0 fr' m0 /\ fr'.defers = [])) := by
 refine ia (σ := Nat) (fun i fr m => m = m0 /\ i <= n /\ (∀ x ∈ k.take i, kc (kindOf l x)) /\ fr.get 0 = row nl1 t1 5 (qS l) /\ fr.get 1 = row nl2 t2 1 (ints k) /\ fr.get 2 = .int .i64 (n : Int) /\ fr.get 7 = .int .i64 (i : Int) /\ fr.defers = []) (fun i => n - i) _ ?_ 0 fr m0 ⟨rfl, lu _, by simp, h0, h1, h2, h7, hd⟩
 rintro i fr m ⟨rfl, hi, hn, h0, h1, h2, h7, hd⟩
 generalize hX : exec U gq fr m = X
 by_cases bt : i < n
 ·have hc : (i : Int) < (n : Int) := by omega
  have Gq : i < k.length := by omega
  have hg : k[i]? = some k[i] := mZ Gq
  obtain ⟨x0, x1⟩ := hv k[i] (Fm Gq)
  obtain ⟨d, hd1, Ir⟩ := yU x0 x1
  have HC := zf (k := .i64) x0 x1
  have uW := cx (i := i) (by omega)
  have Ts : ∀ q : Prop, (¬ q) = (¬ q) := fun _ => rfl
  simp +contextual -implicitDefEqProofs (maxSteps := 1000000) (maxDischargeDepth := 8) only [gq, h0, h1, h2, h7, hd, hc, hg, Gq, uW, bJ, nq, bh, lB, jf, HC, hd1, Nd.cells, TL, aq, aa, implies_true, simprocAttr] at hX
  subst hX;refine ud (fun he => kl (Or.inl ⟨fun q => he ?_, _, rfl, by simp only [ap, Nat.reduceBEq ], by simp only [hd, ap, Nat.reduceBEq ]⟩)) (fun he => et (i + 1) (by omega) ⟨rfl, bt, ?_, by simp only [h0, ap, Nat.reduceBEq ], by simp only [h1, ap, Nat.reduceBEq ], by simp only [h2, ap, Nat.reduceBEq ], by simp only [ap, Nat.reduceBEq ], by simp only [hd, ap, Nat.reduceBEq ]⟩)
  ·rw [<- Ir]; exact q _ (List.mem_take_iff_getElem.2 ⟨i, by omega, rfl⟩)
  ·intro x hx
   rw [List.take_succ_eq_append_getElem Gq, uy] at hx;rcases hx with hx | hx
   ·exact hn x hx
   ·rw [Ar.1 hx, Ir]; exact Classical.not_not.1 he
 ·have hc : ¬ ((i : Int) < (n : Int)) := by omega
  obtain rfl : i = n := by omega
  simp +contextual -implicitDefEqProofs (maxSteps := 1000000) (maxDischargeDepth := 8) only [gq, h0, h1, h2, h7, hd, hc, aq, aa, implies_true, simprocAttr] at hX
  subst hX;exact fi (Or.inr ⟨hn, _, rfl, by simp only [hd, ap, Nat.reduceBEq ]⟩)
theorem EH {l : List Nd} {k : List Int} {n t1 t2 : Nat} {nl1 nl2 : Bool} (hv : xx l k) (hl : k.length < 1000000000) (hn : n < 1000000000) : bA B K qg [row nl1 t1 5 (qS l), row nl2 t2 1 (ints k), .int .i64 (n : Int)] = some (bo (iO l k n)) := by
 rw [dQ (by simp [gU])]
 generalize hL : exec (UT B K) (aH.loop gq) = L
 by_cases hk : n <= k.length
 ·have hc : ¬ ((k.length : Int) < (n : Int)) := by omega
  simp +contextual -implicitDefEqProofs (maxSteps := 1000000) (maxDischargeDepth := 8) only [gU, hc, bh, aq, aa, implies_true, simprocAttr]
  subst hL;generalize hX : exec _ (.loop gq) _ _ = X
  obtain ⟨o, rfl, h⟩ := hZ hX (LH (l := l) (k := k) (n := n) (t1 := t1) (t2 := t2) (nl1 := nl1) (nl2 := nl2) hv hk hl (by simp only [ap, Nat.reduceBEq ]) (by simp only [ap, Nat.reduceBEq ]) (by simp only [ap, Nat.reduceBEq ]) (by simp only [ap, Nat.reduceBEq ]) (by simp only [ap, Nat.reduceBEq ]))
  rcases h with ⟨h, fr', rfl, h2, hd⟩ | ⟨h, fr', rfl, hd⟩
  ·simp +contextual -implicitDefEqProofs (maxSteps := 1000000) (maxDischargeDepth := 8) only [h2, hd, aq, aa, implies_true, simprocAttr]
   exact congrArg some (rR fun q => h q.2)
  ·simp +contextual -implicitDefEqProofs (maxSteps := 1000000) (maxDischargeDepth := 8) only [hd, aq, aa, implies_true, simprocAttr]
   exact congrArg some (T4 ⟨hk, h⟩)
 ·have hc : (k.length : Int) < (n : Int) := by omega
  simp +contextual -implicitDefEqProofs (maxSteps := 1000000) (maxDischargeDepth := 8) only [gU, hc, bh, aq, aa, implies_true, simprocAttr]
  exact congrArg some (rR fun q => hk q.1)
theorem R5 {l : List Nd} {k : List Int} {t1 t2 : Nat} {nl1 nl2 : Bool} {kd : Int} {v3 : EV} (hv : xx l k) (hl : k.length < 1000000000) {m0 : Mem} {fr : Fr} (h0 : fr.get 0 = row nl1 t1 5 (qS l)) (h1 : fr.get 1 = row nl2 t2 1 (ints k)) (h2 : fr.get 2 = .int .i64 kd) (h3 : fr.get 3 = v3) (h9 : fr.get 9 = .int .i64 0) (hd : fr.defers = []) :
  ∃ o, exec U (.loop jq) fr m0 = some o /\ ((¬ (∀ x ∈ k, kindOf l x = kd) /\ ∃ fr', o = .ret fr' m0 /\ fr'.get 8 = .bool false /\ fr'.defers = []) \/ ((∀ x ∈ k, kindOf l x = kd) /\ ∃ fr', o = .exit 0 fr' m0 /\ fr'.get 1 = row nl2 t2 1 (ints k) /\ fr'.get 3 = v3 /\ fr'.defers = [])) := by
 refine ia (σ := Nat) (fun i fr m => m = m0 /\ i <= k.length /\ (∀ x ∈ k.take i, kindOf l x = kd) /\ fr.get 0 = row nl1 t1 5 (qS l) /\ fr.get 1 = row nl2 t2 1 (ints k) /\ fr.get 2 = .int .i64 kd /\ fr.get 3 = v3 /\ fr.get 9 = .int .i64 (i : Int) /\ fr.defers = []) (fun i => k.length - i) _ ?_ 0 fr m0 ⟨rfl, lu _, by simp, h0, h1, h2, h3, h9, hd⟩
 rintro i fr m ⟨rfl, hi, hn, h0, h1, h2, h3, h9, hd⟩
 generalize hX : exec U jq fr m = X
 by_cases Gq : i < k.length
 ·have hc : (i : Int) < (k.length : Int) := by omega
  have hg : k[i]? = some k[i] := mZ Gq
  obtain ⟨x0, x1⟩ := hv k[i] (Fm Gq)
  obtain ⟨d, hd1, Ir⟩ := yU x0 x1
  have HC := zf (k := .i64) x0 x1
  have uW := cx (i := i) (by omega)
  simp +contextual -implicitDefEqProofs (maxSteps := 1000000) (maxDischargeDepth := 8) only [jq, h0, h1, h2, h3, h9, hd, hc, hg, Gq, uW, bJ, nq, bh, lB, jf, HC, hd1, Nd.cells, aq, aa, implies_true, simprocAttr] at hX
  subst hX;refine ud (fun he => kl (Or.inl ⟨fun q => he ?_, _, rfl, by simp only [ap, Nat.reduceBEq ], by simp only [hd, ap, Nat.reduceBEq ]⟩)) (fun he => et (i + 1) (by omega) ⟨rfl, Gq, ?_, by simp only [h0, ap, Nat.reduceBEq ], by simp only [h1, ap, Nat.reduceBEq ], by simp only [h2, ap, Nat.reduceBEq ], by simp only [h3, ap, Nat.reduceBEq ], by simp only [ap, Nat.reduceBEq ], by simp only [hd, ap, Nat.reduceBEq ]⟩)
  ·rw [<- Ir]; exact q _ (Fm Gq)
  ·intro x hx
   rw [List.take_succ_eq_append_getElem Gq, uy] at hx;rcases hx with hx | hx
   ·exact hn x hx
   ·rw [Ar.1 hx, Ir]; exact Classical.not_not.1 he
 ·have hc : ¬ ((i : Int) < (k.length : Int)) := by omega
  rw [Ij (by omega)] at hn;simp +contextual -implicitDefEqProofs (maxSteps := 1000000) (maxDischargeDepth := 8) only [jq, h0, h1, h2, h3, h9, hd, hc, bh, aq, aa, implies_true, simprocAttr] at hX
  subst hX;exact fi (Or.inr ⟨hn, _, rfl, by simp only [h1, ap, Nat.reduceBEq ], by simp only [h3, ap, Nat.reduceBEq ], by simp only [hd, ap, Nat.reduceBEq ]⟩)
theorem all_eq {l : List Nd} {k : List Int} {t1 t2 : Nat} {nl1 nl2 : Bool} {kd : Int} {n : Nat} (hv : xx l k) (hl : k.length < 1000000000) : bA B K mC [row nl1 t1 5 (qS l), row nl2 t2 1 (ints k), .int .i64 kd, .int .i64 (n : Int)] = some (bo (tY l k kd n)) := by
 rw [dQ (by simp [li])]
 generalize hL : exec (UT B K) (aH.loop jq) = L
 simp +contextual -implicitDefEqProofs (maxSteps := 1000000) (maxDischargeDepth := 8) only [li, aq, aa, implies_true, simprocAttr]
 subst hL;generalize hX : exec _ (.loop jq) _ _ = X
 obtain ⟨o, rfl, h⟩ := hZ hX (R5 (l := l) (k := k) (t1 := t1) (t2 := t2) (nl1 := nl1) (nl2 := nl2) (kd := kd) hv hl (by simp only [ap, Nat.reduceBEq ]) (by simp only [ap, Nat.reduceBEq ]) (by simp only [ap, Nat.reduceBEq ]) rfl (by simp only [ap, Nat.reduceBEq ]) (by simp only [ap, Nat.reduceBEq ]))
 rcases h with ⟨h, fr', rfl, h2, hd⟩ | ⟨h, fr', rfl, h1, h3, hd⟩
 ·simp +contextual -implicitDefEqProofs (maxSteps := 1000000) (maxDischargeDepth := 8) only [h2, hd, aq, aa, implies_true, simprocAttr]
  exact congrArg some (rR fun q => h q.1)
 ·simp only [ap, Nat.reduceBEq ] at h3
  simp +contextual -implicitDefEqProofs (maxSteps := 1000000) (maxDischargeDepth := 8) only [h1, h3, hd, bh, aq, aa, implies_true, simprocAttr]
  exact eW ⟨fun q => ⟨h, by omega⟩, fun q => by have := q.2; omega⟩
theorem OJ {l : List Nd} {k : List Int} {t1 t2 : Nat} {nl1 nl2 : Bool} (hv : xx l k) (hl : k.length < 1000000000) {m0 : Mem} {fr : Fr} (h0 : fr.get 0 = row nl1 t1 5 (qS l)) (h5 : fr.get 5 = row nl2 t2 1 (ints k)) (h6 : fr.get 6 = .int .i64 0) (hd : fr.defers = []) :
  ∃ o, exec U (.loop ij) fr m0 = some o /\ ((¬ (∀ x ∈ k, iE (kindOf l x)) /\ ∃ fr', o = .ret fr' m0 /\ fr'.get 4 = .bool false /\ fr'.defers = []) \/ ((∀ x ∈ k, iE (kindOf l x)) /\ ∃ fr', o = .exit 1 fr' m0 /\ fr'.defers = [])) := by
 refine ia (σ := Nat) (fun i fr m => m = m0 /\ i <= k.length /\ (∀ x ∈ k.take i, iE (kindOf l x)) /\ fr.get 0 = row nl1 t1 5 (qS l) /\ fr.get 5 = row nl2 t2 1 (ints k) /\ fr.get 6 = .int .i64 (i : Int) /\ fr.defers = []) (fun i => k.length - i) _ ?_ 0 fr m0 ⟨rfl, lu _, by simp, h0, h5, h6, hd⟩
 rintro i fr m ⟨rfl, hi, hn, h0, h5, h6, hd⟩
 generalize hX : exec U ij fr m = X
 by_cases Gq : i < k.length
 ·have hc : (i : Int) < (k.length : Int) := by omega
  have hg : k[i]? = some k[i] := mZ Gq
  obtain ⟨x0, x1⟩ := hv k[i] (Fm Gq)
  obtain ⟨d, hd1, Ir⟩ := yU x0 x1
  have HC := zf (k := .i64) x0 x1
  have uW := cx (i := i) (by omega)
  simp +contextual -implicitDefEqProofs (maxSteps := 1000000) (maxDischargeDepth := 8) only [ij, h0, h5, h6, hd, hc, hg, Gq, uW, bJ, nq, bh, lB, jf, HC, hd1, Nd.cells, SL, aq, aa, implies_true, simprocAttr] at hX
  subst hX;refine ud (fun he => kl (Or.inl ⟨fun q => he ?_, _, rfl, by simp only [ap, Nat.reduceBEq ], by simp only [hd, ap, Nat.reduceBEq ]⟩)) (fun he => et (i + 1) (by omega) ⟨rfl, Gq, ?_, by simp only [h0, ap, Nat.reduceBEq ], by simp only [h5, ap, Nat.reduceBEq ], by simp only [ap, Nat.reduceBEq ], by simp only [hd, ap, Nat.reduceBEq ]⟩)
  ·rw [<- Ir]; exact q _ (Fm Gq)
  ·intro x hx
   rw [List.take_succ_eq_append_getElem Gq, uy] at hx;rcases hx with hx | hx
   ·exact hn x hx
   ·rw [Ar.1 hx, Ir]; exact Classical.not_not.1 he
 ·have hc : ¬ ((i : Int) < (k.length : Int)) := by omega
  rw [Ij (by omega)] at hn;simp +contextual -implicitDefEqProofs (maxSteps := 1000000) (maxDischargeDepth := 8) only [ij, h0, h5, h6, hd, hc, bh, aq, aa, implies_true, simprocAttr] at hX
  subst hX;exact fi (Or.inr ⟨hn, _, rfl, by simp only [hd, ap, Nat.reduceBEq ]⟩)
theorem Tc {l : List Nd} {d : Nd} {t1 : Nat} {nl1 : Bool} (hv : xx l d.kids) (hl : d.kids.length < 1000000000) : bA B K Eb [row nl1 t1 5 (qS l), .agg d.cells] = some (bo (cA l d)) := by
 rw [dQ (by simp [bi])]
 generalize hL : exec (UT B K) (aH.loop ij) = L
 obtain ⟨kind, kids, nl, n, s, pos⟩ := d
 simp only at hv hl
 have e1 : ∀ t1 t2 nl1 nl2, bA B K qg [row nl1 t1 5 (qS l), row nl2 t2 1 (ints kids), .int .i64 1] = some (bo (iO l kids 1)) := fun t1 t2 nl1 nl2 => EH (n := 1) hv hl (by omega)
 have e2 : ∀ t1 t2 nl1 nl2, bA B K qg [row nl1 t1 5 (qS l), row nl2 t2 1 (ints kids), .int .i64 2] = some (bo (iO l kids 2)) := fun t1 t2 nl1 nl2 => EH (n := 2) hv hl (by omega)
 have ek : ∀ t1 t2 nl1 nl2, bA B K qg [row nl1 t1 5 (qS l), row nl2 t2 1 (ints kids), .int .i64 (kids.length : Int)] = some (bo (iO l kids kids.length)) := fun t1 t2 nl1 nl2 => EH hv hl hl
 have Q8 : ∀ k : List Int, (∀ x ∈ k, x ∈ kids) -> k.length <= kids.length -> ∀ (kd : Int) (n t1 t2 : Nat) (nl1 nl2 : Bool), bA B K mC [row nl1 t1 5 (qS l), row nl2 t2 1 (ints k), .int .i64 kd, .int .i64 (n : Int)] = some (bo (tY l k kd n)) := fun k h1 h2 kd n t1 t2 nl1 nl2 => all_eq (fun x hx => hv x (h1 x hx)) (by omega)
 have a1 : ∀ t1 t2 nl1 nl2, bA B K mC [row nl1 t1 5 (qS l), row nl2 t2 1 (ints (kids.drop 1)), .int .i64 23, .int .i64 1] = some (bo (tY l (kids.drop 1) 23 1)) := Q8 _ (fun x hx => List.mem_of_mem_drop hx) (by rw [x9]; omega) 23 1
 have a2 : ∀ t1 t2 nl1 nl2, bA B K mC [row nl1 t1 5 (qS l), row nl2 t2 1 (ints (kids.drop 1)), .int .i64 23, .int .i64 2] = some (bo (tY l (kids.drop 1) 23 2)) := Q8 _ (fun x hx => List.mem_of_mem_drop hx) (by rw [x9]; omega) 23 2
 have a3 : ∀ t1 t2 nl1 nl2, bA B K mC [row nl1 t1 5 (qS l), row nl2 t2 1 (ints (kids.drop 2)), .int .i64 23, .int .i64 1] = some (bo (tY l (kids.drop 2) 23 1)) := Q8 _ (fun x hx => List.mem_of_mem_drop hx) (by rw [x9]; omega) 23 1
 have a4 : ∀ t1 t2 nl1 nl2, bA B K mC [row nl1 t1 5 (qS l), row nl2 t2 1 (ints (kids.take (kids.length - 1))), .int .i64 24, .int .i64 8] = some (bo (tY l (kids.take (kids.length - 1)) 24 8)) := Q8 _ (fun x hx => List.mem_of_mem_take hx) (by rw [List.length_take]; omega) 24 8
 have a5 : ∀ t1 t2 nl1 nl2, bA B K mC [row nl1 t1 5 (qS l), row nl2 t2 1 (ints kids), .int .i64 25, .int .i64 200] = some (bo (tY l kids 25 200)) := Q8 _ (fun x hx => hx) (fh _) 25 200
 have c0 : ((kids.length : Int) = 0) = (kids.length = 0) := propext (by omega)
 have c1 : ((kids.length : Int) = 1) = (kids.length = 1) := propext (by omega)
 have c2 : ((kids.length : Int) = 2) = (kids.length = 2) := propext (by omega)
 have c3 : ((kids.length : Int) = 3) = (kids.length = 3) := propext (by omega)
 have c8 : ((kids.length : Int) <= 8) = (kids.length <= 8) := propext (by omega)
 have d1 : ((1 : Int) <= (kids.length : Int)) = (1 <= kids.length) := propext (by omega)
 have d2 : ((2 : Int) <= (kids.length : Int)) = (2 <= kids.length) := propext (by omega)
 by_cases k5 : kind = 5
 ·subst k5
  simp +contextual -implicitDefEqProofs (maxSteps := 1000000) (maxDischargeDepth := 8) only [bi, Nd.cells, bh, c2, e2, aq, aa, implies_true, simprocAttr]
  refine eW ?_
  simp only [cA]
  grind
 by_cases k8 : kind = 8
 ·subst k8
  simp +contextual -implicitDefEqProofs (maxSteps := 1000000) (maxDischargeDepth := 8) only [bi, Nd.cells, bh, c2, e2, aq, aa, implies_true, simprocAttr]
  refine eW ?_
  simp only [cA]
  grind
 by_cases k14 : kind = 14
 ·subst k14
  simp +contextual -implicitDefEqProofs (maxSteps := 1000000) (maxDischargeDepth := 8) only [bi, Nd.cells, bh, c2, e2, aq, aa, implies_true, simprocAttr]
  refine eW ?_
  simp only [cA]
  grind
 by_cases k6 : kind = 6
 ·subst k6
  simp +contextual -implicitDefEqProofs (maxSteps := 1000000) (maxDischargeDepth := 8) only [bi, Nd.cells, bh, c1, e1, aq, aa, implies_true, simprocAttr]
  refine eW ?_
  simp only [cA]
  grind
 by_cases k7 : kind = 7
 ·subst k7
  simp +contextual -implicitDefEqProofs (maxSteps := 1000000) (maxDischargeDepth := 8) only [bi, Nd.cells, bh, c1, e1, aq, aa, implies_true, simprocAttr]
  refine eW ?_
  simp only [cA]
  grind
 by_cases k9 : kind = 9
 ·subst k9
  simp +contextual -implicitDefEqProofs (maxSteps := 1000000) (maxDischargeDepth := 8) only [bi, Nd.cells, bh, c1, e1, aq, aa, implies_true, simprocAttr]
  refine eW ?_
  simp only [cA]
  grind
 by_cases Q0 : kind = 10
 ·subst Q0
  simp +contextual -implicitDefEqProofs (maxSteps := 1000000) (maxDischargeDepth := 8) only [bi, Nd.cells, bh, c1, e1, aq, aa, implies_true, simprocAttr]
  refine eW ?_
  simp only [cA]
  grind
 by_cases Td : kind = 12
 ·subst Td
  simp +contextual -implicitDefEqProofs (maxSteps := 1000000) (maxDischargeDepth := 8) only [bi, Nd.cells, bh, c1, e1, aq, aa, implies_true, simprocAttr]
  refine eW ?_
  simp only [cA]
  grind
 by_cases Wn : kind = 13
 ·subst Wn
  simp +contextual -implicitDefEqProofs (maxSteps := 1000000) (maxDischargeDepth := 8) only [bi, Nd.cells, bh, c1, e1, aq, aa, implies_true, simprocAttr]
  refine eW ?_
  simp only [cA]
  grind
 by_cases k20 : kind = 20
 ·subst k20
  simp +contextual -implicitDefEqProofs (maxSteps := 1000000) (maxDischargeDepth := 8) only [bi, Nd.cells, bh, c1, e1, aq, aa, implies_true, simprocAttr]
  refine eW ?_
  simp only [cA]
  grind
 by_cases k21 : kind = 21
 ·subst k21
  simp +contextual -implicitDefEqProofs (maxSteps := 1000000) (maxDischargeDepth := 8) only [bi, Nd.cells, bh, c1, e1, aq, aa, implies_true, simprocAttr]
  refine eW ?_
  simp only [cA]
  grind
 by_cases Ur : kind = 11
 ·subst Ur
  simp +contextual -implicitDefEqProofs (maxSteps := 1000000) (maxDischargeDepth := 8) only [bi, Nd.cells, bh, c8, ek, aq, aa, implies_true, simprocAttr]
  refine eW ?_
  simp only [cA]
  grind
 by_cases k26 : kind = 26
 ·subst k26
  simp +contextual -implicitDefEqProofs (maxSteps := 1000000) (maxDischargeDepth := 8) only [bi, Nd.cells, bh, a5, aq, aa, implies_true, simprocAttr]
  refine eW ?_
  simp only [cA]
  grind
 by_cases k23 : kind = 23
 ·subst k23
  simp +contextual -implicitDefEqProofs (maxSteps := 1000000) (maxDischargeDepth := 8) only [bi, Nd.cells, bh, aq, aa, implies_true, simprocAttr]
  subst hL;generalize hX : exec _ (.loop ij) _ _ = X
  obtain ⟨o, rfl, h⟩ := hZ hX (OJ (l := l) (k := kids) (t1 := t1) (t2 := 0) (nl1 := nl1) (nl2 := nl) hv hl (by simp only [ap, Nat.reduceBEq ]) (by simp only [ap, Nat.reduceBEq ]) (by simp only [ap, Nat.reduceBEq ]) (by simp only [ap, Nat.reduceBEq ]))
  rcases h with ⟨h, fr', rfl, h2, hd⟩ | ⟨h, fr', rfl, hd⟩
  ·simp +contextual -implicitDefEqProofs (maxSteps := 1000000) (maxDischargeDepth := 8) only [h2, hd, aq, aa, implies_true, simprocAttr]
   refine congrArg some (rR fun q => h ?_)
   simp only [cA] at q
   grind
  ·simp +contextual -implicitDefEqProofs (maxSteps := 1000000) (maxDischargeDepth := 8) only [hd, aq, aa, implies_true, simprocAttr]
   refine congrArg some (T4 ?_)
   simp only [cA]
   grind
 by_cases k22 : kind = 22
 ·subst k22
  by_cases h1 : kids.length = 1
  ·obtain ⟨x, rfl⟩ : ∃ x, kids = [x] := List.length_eq_one_iff.1 h1
   obtain ⟨x0, x1⟩ := hv x (by simp)
   obtain ⟨d, hd1, Ir⟩ := yU x0 x1
   have HC := zf (k := .i64) x0 x1
   have hg : ([x] : List Int)[0]? = some x := rfl
   have bt : 0 < ([x] : List Int).length := Nat.zero_lt_one
   have c1' : (([x] : List Int).length : Int) = 1 := rfl
   simp +contextual -implicitDefEqProofs (maxSteps := 1000000) (maxDischargeDepth := 8) only [bi, Nd.cells, bh, c1', hg, bt, Q4, nq, lB, jf, HC, hd1, aq, aa, implies_true, simprocAttr]
   refine eW ?_
   simp only [cA];rw [<- Ir]; simp
  ·simp +contextual -implicitDefEqProofs (maxSteps := 1000000) (maxDischargeDepth := 8) only [bi, Nd.cells, bh, c1, h1, aq, aa, implies_true, simprocAttr]
   refine congrArg some (rR fun q => h1 ?_)
   simp only [cA] at q
   grind
 have s1 : 1 <= kids.length -> au (some (.int .i64 1)) 0 kids.length = some 1 := fun h => eJ (i := 1) h
 have s2 : 2 <= kids.length -> au (some (.int .i64 2)) 0 kids.length = some 2 := fun h => eJ (i := 2) h
 have sn : au none kids.length kids.length = some kids.length := rfl
 have st : (ints kids).take kids.length = ints kids := Ij (by rw [bh]; omega)
 have g1 : (2 <= kids.length) -> 1 <= kids.length := by omega
 have g2 : (kids.length = 2) -> 1 <= kids.length := by omega
 have g3 : (kids.length = 3) -> 2 <= kids.length := by omega
 by_cases k15 : kind = 15
 ·subst k15
  by_cases hk : 1 <= kids.length
  ·have sb := s1 hk
   simp +contextual -implicitDefEqProofs (maxSteps := 1000000) (maxDischargeDepth := 8) only [bi, Nd.cells, bh, AK, d2, e1, a2, sb, sn, st, aq, aa, implies_true, simprocAttr]
   refine eW ?_
   simp only [cA]
   grind
  ·have iQ : ¬ iO l kids 1 := fun q => hk q.1
   simp +contextual -implicitDefEqProofs (maxSteps := 1000000) (maxDischargeDepth := 8) only [bi, Nd.cells, bh, d2, e1, a2, iQ, aq, aa, implies_true, simprocAttr]
   refine congrArg some (rR fun q => ?_)
   simp only [cA] at q
   grind
 by_cases k16 : kind = 16
 ·subst k16
  by_cases hk : kids.length = 2
  ·have sb : au (some (.int .i64 1)) 0 2 = some 1 := rfl
   have sn : au none 2 2 = some 2 := rfl
   have st : (ints kids).take 2 = ints kids := Ij (by rw [bh]; omega)
   simp +contextual -implicitDefEqProofs (maxSteps := 1000000) (maxDischargeDepth := 8) only [bi, Nd.cells, bh, AK, hk, e1, a1, sb, sn, st, c2, aq, aa, implies_true, simprocAttr]
   refine eW ?_
   simp only [cA]
   grind
  ·simp +contextual -implicitDefEqProofs (maxSteps := 1000000) (maxDischargeDepth := 8) only [bi, Nd.cells, bh, e1, c2, hk, aq, aa, implies_true, simprocAttr]
   refine congrArg some (rR fun q => ?_)
   simp only [cA] at q
   grind
 by_cases k17 : kind = 17
 ·subst k17
  by_cases hk : kids.length = 3
  ·have sb : au (some (.int .i64 2)) 0 3 = some 2 := rfl
   have sn : au none 3 3 = some 3 := rfl
   have st : (ints kids).take 3 = ints kids := Ij (by rw [bh]; omega)
   simp +contextual -implicitDefEqProofs (maxSteps := 1000000) (maxDischargeDepth := 8) only [bi, Nd.cells, bh, AK, hk, e2, a3, sb, sn, st, c3, aq, aa, implies_true, simprocAttr]
   refine eW ?_
   simp only [cA]
   grind
  ·simp +contextual -implicitDefEqProofs (maxSteps := 1000000) (maxDischargeDepth := 8) only [bi, Nd.cells, bh, e2, c3, hk, aq, aa, implies_true, simprocAttr]
   refine congrArg some (rR fun q => ?_)
   simp only [cA] at q
   grind
 by_cases k25 : kind = 25
 ·subst k25
  by_cases hk : 1 <= kids.length
  ·have bt : kids.length - 1 < kids.length := by omega
   have hg : kids[kids.length - 1]? = some kids[kids.length - 1] := mZ bt
   obtain ⟨x0, x1⟩ := hv kids[kids.length - 1] (Fm bt)
   obtain ⟨d, hd1, Ir⟩ := yU x0 x1
   have HC := zf (k := .i64) x0 x1
   have hw : IntKind.i64.wrap ((kids.length : Int) - 1) = ((kids.length - 1 : Nat) : Int) := by rw [wrap_i64 (by omega) (by omega)]; omega
   have sb : au (some (.int .i64 ((kids.length - 1 : Nat) : Int))) kids.length kids.length = some (kids.length - 1) := eJ (by omega)
   have s0 : ∀ n, au none 0 n = some 0 := fun _ => rfl
   have nH : (1 : Int) <= (kids.length : Int) := by omega
   simp +contextual -implicitDefEqProofs (maxSteps := 1000000) (maxDischargeDepth := 8) only [bi, Nd.cells, bh, OM, nH, hw, hg, bt, sb, s0, a4, bJ, nq, lB, jf, HC, hd1, List.drop_zero, aq, aa, implies_true, simprocAttr]
   refine eW ?_
   simp only [cA];rw [<- Ir, List.getLast?_eq_getElem?, hg]; simp [hk]
  ·have nH : ¬ (1 : Int) <= (kids.length : Int) := by omega
   simp +contextual -implicitDefEqProofs (maxSteps := 1000000) (maxDischargeDepth := 8) only [bi, Nd.cells, bh, nH, aq, aa, implies_true, simprocAttr]
   refine congrArg some (rR fun q => ?_)
   simp only [cA] at q
   grind
 simp +contextual -implicitDefEqProofs (maxSteps := 1000000) (maxDischargeDepth := 8) only [bi, Nd.cells, bh, c0, k5, k8, k14, k6, k7, k9, Q0, Td, Wn, k20, k21, Ur, k26, k23, k22, k15, k16, k17, k25, aq, aa, implies_true, simprocAttr]
 refine eW ?_
 simp only [cA]
 grind
end
section
theorem LC {l : List Nd} (hk : lJ l) : ∀ (f i : Nat), i < f -> ug l f i = gH l i := by
 have key : ∀ (i f g : Nat), i < f -> i < g -> ug l f i = ug l g i := by
  intro i
  induction i using Nat.strongRecOn with
  | _ i ih =>
   intro f g hf hg
   obtain ⟨f, rfl⟩ : ∃ f', f = f' + 1 := ⟨f - 1, by omega⟩
   obtain ⟨g, rfl⟩ : ∃ g', g = g' + 1 := ⟨g - 1, by omega⟩
   simp only [ug]
   cases hd : l[i]? with
   | none => rfl
   | some d =>
    simp only
    have hx := hk i d hd
    generalize d.kids = ks at hx
    have : ∀ (ks : List Int) (a : Nat), (∀ x ∈ ks, 0 <= x /\ x < (i : Int)) -> ks.foldl (fun h x => max h (1 + ug l f x.toNat)) a = ks.foldl (fun h x => max h (1 + ug l g x.toNat)) a := by
     intro ks
     induction ks with
     | nil => intro a _; rfl
     | cons x ks Q3 =>
      intro a h
      have := h x (by simp)
      rw [List.foldl_cons, List.foldl_cons, ih x.toNat (by omega) f g (by omega) (by omega)];exact Q3 _ fun y hy => h y (by simp [hy])
    exact this ks 1 hx
 intro f i h
 exact key i f (i + 1) h (by omega)
theorem uX {l : List Nd} (hk : lJ l) {i : Nat} {d : Nd} (hd : l[i]? = some d) : gH l i = d.kids.foldl (fun h x => max h (1 + gH l x.toNat)) 1 := by
 unfold gH;rw [ug];simp only [hd];have hx := hk i d hd
 generalize d.kids = ks at hx
 have : ∀ (ks : List Int) (a : Nat), (∀ x ∈ ks, 0 <= x /\ x < (i : Int)) -> ks.foldl (fun h x => max h (1 + ug l i x.toNat)) a = ks.foldl (fun h x => max h (1 + ug l (x.toNat + 1) x.toNat)) a := by
  intro ks
  induction ks with
  | nil => intro a _; rfl
  | cons x ks Q3 =>
   intro a h
   have := h x (by simp)
   rw [List.foldl_cons, List.foldl_cons, LC hk i x.toNat (by omega)];exact Q3 _ fun y hy => h y (by simp [hy])
 exact this ks 1 hx
theorem Ju {l : List Nd} (hk : lJ l) : ∀ i, gH l i <= i + 1 := by
 intro i
 induction i using Nat.strongRecOn with
 | _ i ih =>
  cases hd : l[i]? with
  | none => unfold gH ug; rw [hd]; simp
  | some d =>
   rw [uX hk hd];have hx := hk i d hd
   generalize d.kids = ks at hx
   have : ∀ (ks : List Int) (a : Nat), a <= i + 1 -> (∀ x ∈ ks, 0 <= x /\ x < (i : Int)) -> ks.foldl (fun h x => max h (1 + gH l x.toNat)) a <= i + 1 := by
    intro ks
    induction ks with
    | nil => intro a h _; exact h
    | cons x ks Q3 =>
     intro a ha h
     have h1 := h x (by simp)
     have h2 := ih x.toNat (by omega)
     rw [List.foldl_cons];exact Q3 _ (by omega) fun y hy => h y (by simp [hy])
   exact this ks 1 (by omega) hx
theorem Jy {l : List Nd} {t : Nat} {nl : Bool} {i : Nat} {d : Nd} (hk : lJ l) (hl : l.length < 1000000) (hd0 : l[i]? = some d) (Gs : d.kids.length < 1000000000) (ih : ∀ j : Nat, j < i -> bA B K yX [row nl 1 5 (qS l), .int .i64 (j : Int)] = some (.int .i64 (gH l j : Int))) {m0 : Mem} {fr : Fr} (h0 : fr.get 0 = row nl t 5 (qS l)) (h1 : fr.get 1 = .int .i64 (i : Int)) (h5 : fr.get 5 = .int .i64 1) (h6 : fr.get 6 = .int .i64 0) (hd : fr.defers = []) :
  ∃ o, exec U (.loop fN) fr m0 = some o /\ ∃ fr', o = .exit 0 fr' m0 /\ fr'.get 5 = .int .i64 (gH l i : Int) /\ fr'.defers = [] := by
 have Lw := hk i d hd0
 have Sz : i < l.length := (rc.1 hd0).1
 have OT : ∀ (ks : List Int) (a : Nat), (∀ x ∈ ks, 0 <= x /\ x < (i : Int)) -> a <= i + 1 -> ks.foldl (fun h x => max h (1 + gH l x.toNat)) a <= i + 1 := by
  intro ks
  induction ks with
  | nil => intro a _ h; exact h
  | cons x ks Q3 =>
   intro a h ha
   have h1 := h x (by simp)
   have h2 := Ju hk x.toNat
   rw [List.foldl_cons];exact Q3 _ (fun y hy => h y (by simp [hy])) (by omega)
 refine ia (σ := Nat) (fun j fr m => m = m0 /\ j <= d.kids.length /\ fr.get 0 = row nl t 5 (qS l) /\ fr.get 1 = .int .i64 (i : Int) /\ fr.get 5 = .int .i64 (((d.kids.take j).foldl (fun h x => max h (1 + gH l x.toNat)) 1 : Nat) : Int) /\ fr.get 6 = .int .i64 (j : Int) /\ fr.defers = []) (fun j => d.kids.length - j) _ ?_ 0 fr m0 ⟨rfl, lu _, h0, h1, by simpa using h5, h6, hd⟩
 rintro j fr m ⟨rfl, hj, h0, h1, h5, h6, hd⟩
 generalize hX : exec U fN fr m = X
 by_cases bt : j < d.kids.length
 ·have hc : (j : Int) < (d.kids.length : Int) := by omega
  have hg : d.kids[j]? = some d.kids[j] := mZ bt
  obtain ⟨x0, x1⟩ := Lw d.kids[j] (Fm bt)
  have hih := ih d.kids[j].toNat (by omega)
  have FE : (d.kids.take (j + 1)).foldl (fun h x => max h (1 + gH l x.toNat)) 1 = max ((d.kids.take j).foldl (fun h x => max h (1 + gH l x.toNat)) 1) (1 + gH l d.kids[j].toNat) := by
   rw [List.take_succ_eq_append_getElem bt, List.foldl_append]; rfl
  have hle := OT (d.kids.take j) 1 (fun x hx => Lw x (List.mem_of_mem_take hx)) (by omega)
  have Lz := Ju hk d.kids[j].toNat
  have Q7 : ((d.kids[j].toNat : Nat) : Int) = d.kids[j] := Int.toNat_of_nonneg x0
  rw [Q7] at hih;generalize d.kids[j] = x at *
  generalize hA : (d.kids.take j).foldl (fun h x => max h (1 + gH l x.toNat)) 1 = A at *
  have uW := cx (i := j) (by omega)
  have Xm : IntKind.i64.wrap (1 + (gH l x.toNat : Int)) = ((1 + gH l x.toNat : Nat) : Int) := by rw [wrap_i64 (by omega) (by omega)]; omega
  have zj : ui [.int .i64 (A : Int), .int .i64 ((1 + gH l x.toNat : Nat) : Int)] = some (.int .i64 ((max A (1 + gH l x.toNat) : Nat) : Int)) := by
   simp only [ui, lF, Nat.beq_refl, cond_true]
   congr 2
   split <;> omega
  simp +contextual -implicitDefEqProofs (maxSteps := 1000000) (maxDischargeDepth := 8) only [fN, h0, h1, h5, h6, hd, hd0, Sz, hc, hg, bt, uW, Xm, zj, bJ, nq, bh, lB, jf, Nd.cells, hih, aq, aa, implies_true, simprocAttr] at hX
  subst hX;exact et (j + 1) (by omega) ⟨rfl, bt, by simp only [h0, ap, Nat.reduceBEq ], by simp only [h1, ap, Nat.reduceBEq ], by simp only [FE, ap, Nat.reduceBEq ], by simp only [ap, Nat.reduceBEq ], by simp only [hd, ap, Nat.reduceBEq ]⟩
 ·have hc : ¬ ((j : Int) < (d.kids.length : Int)) := by omega
  rw [Ij (by omega), <- uX hk hd0] at h5;simp +contextual -implicitDefEqProofs (maxSteps := 1000000) (maxDischargeDepth := 8) only [fN, h0, h1, h5, h6, hd, hd0, Sz, hc, bJ, bh, lB, jf, Nd.cells, aq, aa, implies_true, simprocAttr] at hX
  subst hX;exact fi ⟨_, rfl, by simp only [h5, ap, Nat.reduceBEq ], by simp only [hd, ap, Nat.reduceBEq ]⟩
theorem OV {l : List Nd} {nl : Bool} (hk : lJ l) (hl : l.length < 1000000) (Gs : ∀ d ∈ l, d.kids.length < 1000000000) : ∀ i : Nat, i < l.length -> ∀ t, bA B K yX [row nl t 5 (qS l), .int .i64 (i : Int)] = some (.int .i64 (gH l i : Int)) := by
 intro i
 induction i using Nat.strongRecOn with
 | _ i ih =>
  intro Sz t
  have hd0 : l[i]? = some l[i] := mZ Sz
  rw [dQ (by simp [gX])]
  generalize hL : exec (UT B K) (aH.loop fN) = L
  simp +contextual -implicitDefEqProofs (maxSteps := 1000000) (maxDischargeDepth := 8) only [gX, aq, aa, implies_true, simprocAttr]
  subst hL;generalize hX : exec _ (.loop fN) _ _ = X
  obtain ⟨o, rfl, fr', rfl, h5, hd⟩ := hZ hX (Jy (l := l) (t := t) (nl := nl) (i := i) hk hl hd0 (Gs _ (Fm Sz)) (fun j hj => ih j hj (by omega) 1) (by simp only [ap, Nat.reduceBEq ]) (by simp only [ap, Nat.reduceBEq ]) (by simp only [ap, Nat.reduceBEq ]) (by simp only [ap, Nat.reduceBEq ]) (by simp only [ap, Nat.reduceBEq ]))
  simp +contextual -implicitDefEqProofs (maxSteps := 1000000) (maxDischargeDepth := 8) only [h5, hd, aq, aa, implies_true, simprocAttr]
end
section
theorem Ej {α : Type} [DecidableEq α] : ∀ {a b : List α}, a.Nodup -> (∀ x ∈ a, x ∈ b) -> a.length <= b.length
 | [], b, _, _ => lu _
 | x :: a, b, h, hs => by
  rw [List.nodup_cons] at h;have h1 := Ej (b := b.erase x) h.2 fun y hy => by
   have iQ : y ≠ x := by rintro rfl; exact h.1 hy
   exact (List.mem_erase_of_ne iQ).2 (hs y (by simp [hy]))
  have h2 := List.length_erase_of_mem (hs x (by simp))
  have h3 := List.length_pos_of_mem (hs x (by simp))
  rw [List.length_cons];omega
def upto (n : Nat) : List Int := (List.range n).map fun (j : Nat) => (j : Int)
theorem PR {n : Nat} : (upto n).length = n := by simp [upto]
theorem PQ {n : Nat} {x : Int} : x ∈ upto n ↔ 0 <= x /\ x < (n : Int) := by
 unfold upto;rw [List.mem_map]
 constructor
 ·rintro ⟨j, hj, rfl⟩; have := List.mem_range.1 hj; omega
 ·rintro ⟨h1, h2⟩; exact ⟨x.toNat, List.mem_range.2 (by omega), by omega⟩
theorem NW {l : List Nd} {x : Int} : x ∈ gM l ↔ ∃ (i : Nat) (d : Nd), l[i]? = some d /\ x ∈ d.kids := by
 unfold gM;rw [List.mem_flatten]
 constructor
 ·rintro ⟨k, hk, hx⟩
  obtain ⟨d, hd, rfl⟩ := List.mem_map.1 hk
  obtain ⟨i, hi⟩ := List.mem_iff_getElem?.1 hd
  exact ⟨i, d, hi, hx⟩
 ·rintro ⟨i, d, hi, hx⟩
  exact ⟨d.kids, List.mem_map.2 ⟨d, List.mem_iff_getElem?.2 ⟨i, hi⟩, rfl⟩, hx⟩
theorem Ek {i : Nat} {ks : List Int} (h : ∀ x ∈ ks, 0 <= x /\ x < (i : Int)) (hn : ks.Nodup) : ks.length <= i := by
 have := Ej (b := upto i) hn fun x hx => PQ.2 (h x hx)
 rwa [PR] at this
theorem PO {l : List Nd} {i : Nat} (h : ∀ (j : Nat) (d : Nd), j < i -> l[j]? = some d -> ∀ x ∈ d.kids, 0 <= x /\ x < (j : Int)) : ∀ x ∈ gM (l.take i), 0 <= x /\ x < (i : Int) := by
 intro x hx
 obtain ⟨j, d, hj, hxd⟩ := NW.1 hx
 rw [List.getElem?_take] at hj
 split at hj
 ·have := h j d ‹_› hj x hxd; omega
 ·cases hj
end
section
theorem ON (l : List Int) (x : Int) : (ints (l ++ [x])).flatten = (ints l).flatten ++ [.int .i64 x] := by rw [Gm, Gm]; simp
theorem Qe {l : List Nd} {t : Nat} {nl : Bool} {i lo : Nat} {d : Nd} {u : List Int} (hd0 : l[i]? = some d) (Gs : d.kids.length <= 9223372036854775807) (afE : i < 100000) (hu0 : ∀ x ∈ u, 0 <= x /\ x < (i : Int)) (hu : u.Nodup) {m0 : Mem} {fr : Fr} {v : EV} (h0 : fr.get 0 = row nl t 5 (qS l)) (h3 : fr.get 3 = v) (dJ : jz m0 v (ints u).flatten u.length 1 lo) (nv : lo <= m0.next) (h4 : fr.get 4 = .int .i64 (i : Int)) (h5 : fr.get 5 = .int .i64 0) (hd : fr.defers = []) :
  ∃ o, exec U (.loop gu) fr m0 = some o /\ ((((∀ x ∈ d.kids, 0 <= x /\ x < (i : Int)) /\ (u ++ d.kids).Nodup) /\ ∃ fr' m' v', o = .exit 2 fr' m' /\ fr'.get 0 = row nl t 5 (qS l) /\ fr'.get 3 = v' /\ jz m' v' (ints (u ++ d.kids)).flatten (u ++ d.kids).length 1 lo /\ lo <= m'.next /\ fr'.get 4 = .int .i64 (i : Int) /\ fr'.defers = []) \/
   (¬ ((∀ x ∈ d.kids, 0 <= x /\ x < (i : Int)) /\ (u ++ d.kids).Nodup) /\ ∃ fr' m', o = .ret fr' m' /\ fr'.get 2 = .bool false /\ fr'.defers = [])) := by
 have Sz : i < l.length := (rc.1 hd0).1
 refine ia (σ := Nat) (fun j fr m => j <= d.kids.length /\ fr.get 0 = row nl t 5 (qS l) /\ (∃ v, fr.get 3 = v /\ jz m v (ints (u ++ d.kids.take j)).flatten (u ++ d.kids.take j).length 1 lo) /\ lo <= m.next /\ (∀ x ∈ d.kids.take j, 0 <= x /\ x < (i : Int)) /\ (u ++ d.kids.take j).Nodup /\ fr.get 4 = .int .i64 (i : Int) /\ fr.get 5 = .int .i64 (j : Int) /\ fr.defers = []) (fun j => d.kids.length - j) _ ?_ 0 fr m0
  ⟨lu _, h0, ⟨v, h3, by simpa using dJ⟩, nv, by simp, by simpa using hu, h4, h5, hd⟩
 rintro j fr m ⟨hj, h0, ⟨v, h3, dJ⟩, nv, hall, hnd, h4, h5, hd⟩
 generalize hX : exec U gu fr m = X
 by_cases bt : j < d.kids.length
 ·have hc : (j : Int) < (d.kids.length : Int) := by omega
  have hg : d.kids[j]? = some d.kids[j] := mZ bt
  have Wu : d.kids.take (j + 1) = d.kids.take j ++ [d.kids[j]] := List.take_succ_eq_append_getElem bt
  have pH := Fm bt
  have uW := cx (i := j) (by omega)
  have ae5 : (u ++ d.kids.take j).length < 600000000 := by
   have := Ek (i := i) (fun x hx => (uy.1 hx).elim (hu0 x) (hall x)) hnd
   omega
  obtain ⟨nl2, hfz⟩ := dJ.oO (by rw [bh]) (Ji _) (Em _)
  generalize hx : d.kids[j] = x at *
  have abh := fun t2 nl2 => Gv (l := u ++ d.kids.take j) (t := t2) (nl := nl2) (x := x) (by omega)
  have hM : (ext m [.cells [EV.int .i64 x] 1 bn false]).get (nb m.next 0) = .cells [EV.int .i64 x] 1 bn false := by rw [aK rfl (by simp)]; rfl
  obtain ⟨ha, Rh⟩ := gT (e := bn) (dJ.ext [.cells [EV.int .i64 x] 1 bn false]) (by rw [aM]; unfold nb; omega) (rl (cap := some 1) hM rfl) rfl (by decide) (by unfold room; omega)
  rw [aM, e6] at ha;generalize hG : grow _ v bn 1 _ = M2 at ha Rh
  have hMn : lo <= M2.next := by rw [<- hG, iL, aM]; unfold nb; omega
  simp +contextual -implicitDefEqProofs (maxSteps := 1000000) (maxDischargeDepth := 8) only [gu, h0, h3, h4, h5, hd, hd0, Sz, hc, hg, bt, uW, bJ, nq, bh, lB, jf, Nd.cells, hfz, abh, ha, aq, aa, implies_true, simprocAttr] at hX
  subst hX;refine ud (fun hp => kl (Or.inr ⟨fun q => ?_, _, _, rfl, by simp only [ap, Nat.reduceBEq ], by simp only [hd, ap, Nat.reduceBEq ]⟩)) (fun hp => et (j + 1) (by omega) ⟨bt, by simp only [h0, ap, Nat.reduceBEq ], ⟨_, by simp only [ap, Nat.reduceBEq ]; rfl, ?_⟩, hMn, ?_, ?_, by simp only [h4, ap, Nat.reduceBEq ], by simp only [ap, Nat.reduceBEq ], by simp only [hd, ap, Nat.reduceBEq ]⟩)
  ·have q1 := q.1 x pH
   rcases hp with (hp | hp) | hp
   ·omega
   ·omega
   ·have q2 : (u ++ d.kids.take j ++ [x]).Nodup := by
     rw [List.append_assoc, <- Wu];exact List.Nodup.sublist (List.Sublist.append (List.Sublist.refl u) (List.take_sublist _ _)) q.2
    rw [List.nodup_append] at q2;exact q2.2.2 x hp x (by simp) rfl
  ·rw [Wu, <- List.append_assoc, ON]
   simp only [ja, List.length_cons, List.length_nil, aM, e6, Nat.zero_add, Nat.add_zero] at Rh ⊢
   exact Rh
  ·intro y hy
   rw [Wu, uy] at hy;rcases hy with hy | hy
   ·exact hall y hy
   ·rw [Ar.1 hy]; omega
  ·rw [Wu, <- List.append_assoc, List.nodup_append]
   refine ⟨hnd, by simp, fun a ha2 b hb => ?_⟩
   rw [Ar.1 hb]
   rintro rfl
   exact hp (.inr ha2)
 ·have hc : ¬ ((j : Int) < (d.kids.length : Int)) := by omega
  have Wu : d.kids.take j = d.kids := Ij (by omega)
  rw [Wu] at hall hnd dJ;simp +contextual -implicitDefEqProofs (maxSteps := 1000000) (maxDischargeDepth := 8) only [gu, h0, h3, h4, h5, hd, hd0, Sz, hc, bJ, bh, lB, jf, Nd.cells, aq, aa, implies_true, simprocAttr] at hX
  subst hX;exact fi (Or.inl ⟨⟨hall, hnd⟩, _, _, v, rfl, by simp only [h0, ap, Nat.reduceBEq ], by simp only [h3, ap, Nat.reduceBEq ], dJ, nv, by simp only [h4, ap, Nat.reduceBEq ], by simp only [hd, ap, Nat.reduceBEq ]⟩)
def yD (l : List Nd) (i : Nat) : Prop := (∀ (j : Nat) (d : Nd), j < i -> l[j]? = some d -> (∀ x ∈ d.kids, 0 <= x /\ x < (j : Int)) /\ BA d /\ cA l d) /\ (gM (l.take i)).Nodup
theorem DJ {l : List Nd} {i : Nat} {d : Nd} (h : l[i]? = some d) : gM (l.take (i + 1)) = gM (l.take i) ++ d.kids := by
 obtain ⟨h1, h2⟩ := rc.1 h
 unfold gM;rw [List.take_succ_eq_append_getElem h1, h2]; simp
theorem FV {l : List Nd} (i : Nat) : List.Sublist (gM (l.take i)) (gM l) := by
 unfold gM
 conv => rhs; rw [<- List.take_append_drop i l, List.map_append, List.flatten_append]
 exact List.sublist_append_left _ _
structure Small (l : List Nd) : Prop where
 len : l.length < 100000
 kids : ∀ d ∈ l, d.kids.length <= 9223372036854775807
 s : ∀ d ∈ l, d.s.length < 1000000
theorem Jf {l : List Nd} {d : Nd} (h : d ∈ l) : List.Sublist d.kids (gM l) := by
 obtain ⟨i, hi⟩ := List.mem_iff_getElem?.1 h
 have h1 := DJ hi
 have h2 := FV (l := l) (i + 1)
 rw [h1] at h2;exact (List.sublist_append_right _ _).trans h2
theorem Tb {l : List Nd} (hk : lJ l) (hu : (gM l).Nodup) {d : Nd} (h : d ∈ l) : d.kids.length <= l.length := by
 obtain ⟨i, hi⟩ := List.mem_iff_getElem?.1 h
 have h1 := Ek (hk i d hi) (hu.sublist (Jf h))
 have := (rc.1 hi).1
 omega
theorem Qd {l : List Nd} {t : Nat} {nl : Bool} (hs : Small l) {m0 : Mem} {fr : Fr} {v : EV} {lo : Nat} (h0 : fr.get 0 = row nl t 5 (qS l)) (h3 : fr.get 3 = v) (dJ : jz m0 v [] 0 1 lo) (nv : lo <= m0.next) (h4 : fr.get 4 = .int .i64 0) (hd : fr.defers = []) :
  ∃ o, exec U (.loop gr) fr m0 = some o /\ ((yD l l.length /\ ∃ fr' m' v', o = .exit 0 fr' m' /\ fr'.get 0 = row nl t 5 (qS l) /\ fr'.get 3 = v' /\ jz m' v' (ints (gM l)).flatten (gM l).length 1 lo /\ fr'.defers = []) \/
   (¬ yD l l.length /\ ∃ fr' m', o = .ret fr' m' /\ fr'.get 2 = .bool false /\ fr'.defers = [])) := by
 have hlen := hs.len
 refine ia (σ := Nat) (fun i fr m => i <= l.length /\ yD l i /\ fr.get 0 = row nl t 5 (qS l) /\ (∃ v, fr.get 3 = v /\ jz m v (ints (gM (l.take i))).flatten (gM (l.take i)).length 1 lo) /\ lo <= m.next /\ fr.get 4 = .int .i64 (i : Int) /\ fr.defers = []) (fun i => l.length - i) _ ?_ 0 fr m0
  ⟨lu _, ⟨fun j d hj => by omega, by simp [gM]⟩, h0, ⟨v, h3, dJ⟩, nv, h4, hd⟩
 rintro i fr m ⟨hi, hr, h0, ⟨v, h3, dJ⟩, nv, h4, hd⟩
 generalize hX : exec U gr fr m = X
 by_cases bt : i < l.length
 ·have hc : (i : Int) < (l.length : Int) := by omega
  have hd0 : l[i]? = some l[i] := mZ bt
  have pH := Fm bt
  have Kt := hs.kids _ pH
  have Fk := hs.s _ pH
  have Ly := DJ hd0
  generalize l[i] = d at *
  have uW := cx (i := i) (by omega)
  generalize hL : exec (UT B K) (aH.loop gu) = L
  simp +contextual -implicitDefEqProofs (maxSteps := 1000000) (maxDischargeDepth := 8) only [gr, h0, h3, h4, hd, hc, jf, aq, aa, implies_true, simprocAttr] at hX
  subst hL;generalize hY : exec _ (.loop gu) _ _ = Y at hX
  obtain ⟨o, rfl, h⟩ := hZ hY (Qe (l := l) (t := t) (nl := nl) (i := i) (d := d) (u := gM (l.take i)) hd0 Kt (by omega) (PO fun j d hj hd => (hr.1 j d hj hd).1) hr.2 (by simp only [h0, ap, Nat.reduceBEq ]) (by simp only [h3, ap, Nat.reduceBEq ]) dJ nv (by simp only [h4, ap, Nat.reduceBEq ]) (by simp only [ap, Nat.reduceBEq ]) (by simp only [hd, ap, Nat.reduceBEq ]))
  rcases h with ⟨⟨g1, g2⟩, fr', m', v', rfl, h0, h3, dJ, nv, h4, hd⟩ | ⟨g, fr', m', rfl, h2, hd⟩
  ·have hv : xx l d.kids := fun x hx => by have := g1 x hx; omega
   have Rm := Ek g1 (List.nodup_append.1 g2).2.1
   have ho : bA B K Ge [.agg [.int .i64 d.kind, row d.nl 0 1 (ints d.kids), .int .i64 d.n, .str d.s, .int .i64 d.pos]] = some (bo (BA d)) := U3 (d := d) (by omega)
   have Sx : ∀ t1 nl1, bA B K Eb [row nl1 t1 5 (qS l), .agg [.int .i64 d.kind, row d.nl 0 1 (ints d.kids), .int .i64 d.n, .str d.s, .int .i64 d.pos]] = some (bo (cA l d)) := fun t1 nl1 => Tc (l := l) (d := d) (t1 := t1) (nl1 := nl1) hv (by omega)
   simp +contextual -implicitDefEqProofs (maxSteps := 1000000) (maxDischargeDepth := 8) only [h0, h3, h4, hd, hd0, bt, uW, bJ, lB, jf, Nd.cells, ho, Sx, aq, aa, implies_true, simprocAttr] at hX
   subst hX;refine ud (fun hp => kl (Or.inr ⟨fun q => ?_, _, _, rfl, by simp only [ap, Nat.reduceBEq ], by simp only [hd, ap, Nat.reduceBEq ]⟩)) (fun hp => et (i + 1) (by omega) ⟨bt, ⟨fun j e hj he => ?_, by rw [Ly]; exact g2⟩, by simp only [h0, ap, Nat.reduceBEq ], ⟨v', by simp only [h3, ap, Nat.reduceBEq ], by rw [Ly]; exact dJ⟩, nv, by simp only [ap, Nat.reduceBEq ], by simp only [hd, ap, Nat.reduceBEq ]⟩)
   ·obtain ⟨_, q1, q2⟩ := q.1 i d bt hd0
    exact hp.elim (fun h => h q1) (fun h => h q2)
   ·by_cases Sy : j < i
    ·exact hr.1 j e Sy he
    ·obtain rfl : j = i := by omega
     rw [hd0] at he; cases he
     exact ⟨g1, BP fun h => hp (.inl h), BP fun h => hp (.inr h)⟩
  ·simp +contextual -implicitDefEqProofs (maxSteps := 1000000) (maxDischargeDepth := 8) only [h2, hd, aq, aa, implies_true, simprocAttr] at hX
   subst hX;refine kl (Or.inr ⟨fun q => g ⟨(q.1 i d bt hd0).1, ?_⟩, _, _, rfl, h2, hd⟩)
   rw [<- Ly];exact q.2.sublist (by rw [Ij (fh _)]; exact FV _)
 ·have hc : ¬ ((i : Int) < (l.length : Int)) := by omega
  obtain rfl : i = l.length := by omega
  rw [Ij (fh _)] at dJ;simp +contextual -implicitDefEqProofs (maxSteps := 1000000) (maxDischargeDepth := 8) only [gr, h0, h3, h4, hd, hc, jf, aq, aa, implies_true, simprocAttr] at hX
  subst hX;exact fi (Or.inl ⟨hr, _, _, v, rfl, by simp only [h0, ap, Nat.reduceBEq ], by simp only [h3, ap, Nat.reduceBEq ], dJ, by simp only [hd, ap, Nat.reduceBEq ]⟩)
theorem Be {l : List Nd} : yD l l.length ↔ lJ l /\ (gM l).Nodup /\ ∀ d ∈ l, BA d /\ cA l d := by
 unfold yD;rw [Ij (fh _)]
 constructor
 ·rintro ⟨h1, h2⟩
  refine ⟨fun i d hd => (h1 i d (rc.1 hd).1 hd).1, h2, fun d hd => ?_⟩
  obtain ⟨i, hi⟩ := List.mem_iff_getElem?.1 hd
  exact (h1 i d (rc.1 hi).1 hi).2
 ·rintro ⟨h1, h2, h3⟩
  exact ⟨fun j d _ hd => ⟨h1 j d hd, h3 d (List.mem_iff_getElem?.2 ⟨j, hd⟩)⟩, h2⟩
theorem Qf {l : List Nd} {t : Nat} {nl : Bool} (hs : Small l) : bA B K I6 [row nl t 5 (qS l)] = some (bo (D5 l)) := by
 have hlen := hs.len
 rw [dQ (by simp [iY])]
 generalize hL : exec (UT B K) (aH.loop gr) = L
 simp +contextual -implicitDefEqProofs (maxSteps := 1000000) (maxDischargeDepth := 8) only [iY, aq, aa, implies_true, simprocAttr]
 subst hL;generalize hX : exec _ (.loop gr) _ _ = X
 obtain ⟨o, rfl, h⟩ := hZ hX (Qd (l := l) (t := t) (nl := nl) hs (v := .slice (nb bR.next 0) 0 0 (some 0)) (lo := bR.next) (by simp only [ap, Nat.reduceBEq ]) (by simp only [ap, Nat.reduceBEq ]) ⟨.inr ⟨_, _, bn, rfl, fh _, by rw [aM]; unfold nb; simp, by rw [aK rfl (by simp)]; rfl, .inr rfl⟩, rfl⟩ (by rw [aM]; exact bE) (by simp only [ap, Nat.reduceBEq ]) (by simp only [ap, Nat.reduceBEq ]))
 rcases h with ⟨h, fr', m', v', rfl, h0, h3, dJ, hd⟩ | ⟨h, fr', m', rfl, h2, hd⟩
 ·have hr := Be.1 h
  by_cases hl0 : l.length = 0
  ·have : ¬ D5 l := fun q => by have := q.2.1; omega
   rcases dJ.len with _
   simp +contextual -implicitDefEqProofs (maxSteps := 1000000) (maxDischargeDepth := 8) only [h0, h3, hd, hl0, jf, aq, aa, implies_true, simprocAttr]
   exact congrArg some (rR this)
  ·have hc : (0 : Int) < (l.length : Int) := by omega
   have hw : IntKind.i64.wrap ((l.length : Int) - 1) = ((l.length - 1 : Nat) : Int) := by rw [wrap_i64 (by omega) (by omega)]; omega
   have hh := fun t => OV (l := l) (nl := nl) hr.1 (by omega) (fun d hd => by have := Tb hr.1 hr.2.1 hd; omega) (l.length - 1) (by omega) t
   have xf : ∀ m, BE v' m = some (.val (.int .i64 ((gM l).length : Int)) m) := by
    intro m
    rcases dJ.is with ⟨rfl, q, _⟩ | ⟨b, cap, ty, rfl, _⟩
    ·rw [q]; rfl
    ·rfl
   have hq : (((gM l).length : Int) = ((l.length - 1 : Nat) : Int)) = ((gM l).length = l.length - 1) := propext (by omega)
   have hq2 : ((gH l (l.length - 1) : Int) <= 200) = (gH l (l.length - 1) <= 200) := propext (by omega)
   simp +contextual -implicitDefEqProofs (maxSteps := 1000000) (maxDischargeDepth := 8) only [h0, h3, hd, hc, hw, hh, xf, hq, hq2, jf, aq, aa, implies_true, simprocAttr]
   refine eW ?_
   unfold D5
   grind
 ·simp +contextual -implicitDefEqProofs (maxSteps := 1000000) (maxDischargeDepth := 8) only [h2, hd, aq, aa, implies_true, simprocAttr]
  exact congrArg some (rR fun q => h (Be.2 q.1))
end
section
theorem Bm {F : List EV -> Option (List EV)} {m : Mem} : ∀ {a b a' b' : List EV}, jl F m a = some a' -> jl F m b = some b' -> jl F m (a ++ b) = some (a' ++ b')
 | [], b, a', b', h, h' => by simp only [jl, bc] at h; subst h; exact h'
 | v :: a, b, a', b', h, h' => by
  simp only [jl] at h
  cases hv : oO F m v with
  | none => simp only [hv] at h; cases h
  | some w =>
   cases ha : jl F m a with
   | none => simp only [hv, ha] at h; cases h
   | some c =>
    simp only [hv, ha, bc] at h;subst h;simp only [List.cons_append, jl, hv, Bm ha h']
theorem MN {l : List Int} : is l = (ints l).flatten := by
 unfold is ints
 induction l with
 | nil => rfl
 | cons x l ih => simp only [List.map_cons, List.flatten_cons, List.cons_append, List.nil_append, ih]
theorem TH {m : Mem} {b : Nat} {tv hv : EV} {d : Nd} {kv : EV} {n : Nat} (h : Bv m b tv hv d kv) : oO (cB (n + 1) m) m kv = some (row d.nl 0 1 (ints d.kids)) := by
 rcases h.o.is with ⟨rfl, h1, _⟩ | ⟨kb, cap, t, rfl, _, h2, h3, h4⟩
 ·have : d.kids = [] := List.eq_nil_of_length_eq_zero h1
  rw [h.nl, this]; simp only [oO]; rfl
 ·have iQ : d.kids ≠ [] := fun q => by have := h.z q; cases this
  have XD : d.nl = false := by rw [h.nl]; cases hk : d.kids with | nil => exact absurd hk iQ | cons => rfl
  have hc : Ab cap d.kids.length = true := by rcases h4 with rfl | rfl <;> simp [Ab]
  simp only [oO, h3, hc, cond_true, A8 (show 0 + d.kids.length * 1 <= (is d.kids).length by rw [Lr]; omega), List.drop_zero]
  rw [Nat.mul_one, <- Lr, List.take_length, XD];have hp : jd (is d.kids) = true := by
   rw [MN]; exact oZ fun el Ey => by
    obtain ⟨x, _, rfl⟩ := List.mem_map.1 Ey; rfl
  rw [show cB (n + 1) m (is d.kids) = some (is d.kids) from kQ hp, Option.map_some]
  congr 1
  simp only [row, Bool.false_and, cond_false]
  congr 1
  rw [Lr, MN, <- show (ints d.kids).length = d.kids.length from List.length_map ..];exact mW fun el Ey => by obtain ⟨x, _, rfl⟩ := List.mem_map.1 Ey; rfl
theorem Gz {m : Mem} {b : Nat} {tv hv : EV} {n : Nat} : ∀ {xs : List Nv}, (∀ x ∈ xs, Bv m b tv hv x.d x.kv) -> jl (cB (n + 1) m) m (Ip xs) = some (qS (xs.map Nv.d)).flatten
 | [], _ => rfl
 | x :: xs, h => by
  have h1 := TH (n := n) (h x (by simp))
  have h2 := Gz (n := n) (xs := xs) fun y hy => h y (by simp [hy])
  refine Bm ?_ h2
  simp only [Nv.cells, wi, jl, oO, h1]
  rfl
theorem RF {m : Mem} {b : Nat} {tv hv v : EV} {lo : Nat} {xs : List Nv} (hx : ∀ x ∈ xs, Bv m b tv hv x.d x.kv) (h : jz m v (Ip xs) xs.length 5 lo) (h0 : xs ≠ []) : lX m v = some (.fz 0 5 (qS (xs.map Nv.d))) := by
 rcases h.is with ⟨rfl, h1, _⟩ | ⟨b', cap, t, rfl, _, h2, h3, h4⟩
 ·exact absurd (List.eq_nil_of_length_eq_zero h1) h0
 ·have hc : Ab cap xs.length = true := by rcases h4 with rfl | rfl <;> simp [Ab]
  simp only [lX, oO, h3, hc, cond_true, A8 (show 0 + xs.length * 5 <= (Ip xs).length by rw [h.len]; omega), List.drop_zero]
  rw [<- h.len, List.take_length, show cB 7 m (Ip xs) = jl (cB 6 m) m (Ip xs) from rfl, Gz hx, Option.map_some]
  congr 2
  have e1 : xs.length = (qS (xs.map Nv.d)).length := by simp [qS]
  rw [e1];exact mW fun el Ey => by obtain ⟨x, _, rfl⟩ := List.mem_map.1 Ey; rfl
theorem E7.Qm {m : Mem} {b tg : Nat} {l : List Tok} {st : RS} {P : Nat -> Prop} {tv hv : EV} {xs : List Nv} (h : E7 m b tg l st P tv hv xs) {c0 : Nat} (hp : P c0) (B : fQ) : E7 (m.set c0 B) b tg l st P tv hv xs := by
 have f := (h.p c0 hp).2
 have fk := h.pk c0 hp
 have key : ∀ c, c ≠ c0 -> (m.set c0 B).get c = m.get c := fun c hc => az hc
 exact ⟨(key b (fun q => f.ne q.symm)).trans h.g, h.lt, h.t.gF (fh _) fun c _ _ ho => key c fun q => ho (q ▸ f.t), h.h.gF (fh _) fun c _ _ ho => key c fun q => ho (q ▸ f.h), h.a, h.x, h.hl, fun x hx => ⟨(h.k x hx).o.gF (fh _) fun c _ _ ho => key c fun q => ho (q ▸ fk x hx), (h.k x hx).f, (h.k x hx).nl, (h.k x hx).z⟩, h.p, h.pk⟩
theorem PV {m : Mem} {b tg : Nat} {l : List Tok} {st : RS} {P : Nat -> Prop} {tv hv : EV} {xs : List Nv} (h : E7 m b tg l st P tv hv xs) (h0 : st.tree ≠ []) (hl : st.tree.length < 1000000) : ∃ m' v, run U kO [.ptr b 0] m = some (.ret v m') /\ E7 m' b tg l st P tv hv xs /\ jz m' v (Ip xs) xs.length 5 m.next /\ Kp m m' P /\ (∃ c n, v = .slice c 0 n none) := by
 have Tk : xs.length = st.tree.length := by rw [<- h.x, List.length_map]
 have Tl : xs.length ≠ 0 := fun q => h0 (List.eq_nil_of_length_eq_zero (Tk ▸ q))
 have hg := h.g
 have hb := h.lt
 have ht : tv.cells = some [tv] /\ eH (.aJ 4) tv .ae = some false := by
  rcases h.t.is with ⟨_, q, _⟩ | ⟨_, _, _, rfl, _⟩
  ·exact absurd q Tl
  ·exact ⟨rfl, rfl⟩
 obtain ⟨ht1, ht2⟩ := ht
 have Zi : jz (ext m [.cells [] 5 aW false]) (.slice (nb m.next 0) 0 0 (some 0)) [] 0 5 m.next := ⟨.inr ⟨nb m.next 0, some 0, aW, rfl, bE, by rw [aM]; unfold nb; simp, by rw [aK rfl (by simp)]; rfl, .inr rfl⟩, rfl⟩
 obtain ⟨ha, ho⟩ := gT (e := aW) Zi (by rw [aM]; exact bE) (h.t.ext [.cells [] 5 aW false]).source h.t.len Tl (by unfold room; omega)
 have hn : m.next <= (grow (ext m [.cells [] 5 aW false]) (.slice (nb m.next 0) 0 0 (some 0)) aW 5 ([] ++ Ip xs)).next := by rw [iL, aM]; unfold nb; omega
 have hold : ∀ c, c < m.next -> (grow (ext m [.cells [] 5 aW false]) (.slice (nb m.next 0) 0 0 (some 0)) aW 5 ([] ++ Ip xs)).get c = m.get c := fun c hc => by
  rw [lN (by rw [aM]; unfold nb; omega) (gz.of (by unfold nb; omega)), aL hc]
 have hr : run U kO [.ptr b 0] m = some (.ret (.slice (nb (ext m [.cells [] 5 aW false]).next 0) 0 (0 + xs.length) none) (grow (ext m [.cells [] 5 aW false]) (.slice (nb m.next 0) 0 0 (some 0)) aW 5 ([] ++ Ip xs))) := by
  generalize grow (ext m [.cells [] 5 aW false]) (.slice (nb m.next 0) 0 0 (some 0)) aW 5 ([] ++ Ip xs) = G at *
  rw [aM, e6] at ha ⊢
  rw [bX (by simp [dY])]
  have hC : run U rD [tv] m = some (.ret (.slice (nb m.next 1) 0 (0 + xs.length) none) G) := by
   rw [bX (by simp [cq])]
   simp +contextual -implicitDefEqProofs (maxSteps := 1000000) (maxDischargeDepth := 8) only [cq, ht2, ha, aq, aa, implies_true, simprocAttr]
  simp +contextual -implicitDefEqProofs (maxSteps := 1000000) (maxDischargeDepth := 8) only [dY, hg, hb, hC, aq, aa, implies_true, simprocAttr]
 refine ⟨_, _, hr, ?_, ?_, ⟨hn, fun c hc => hold c (h.p c hc).1⟩, _, _, rfl⟩
 ·exact h.NY rfl rfl ⟨hn, (hold b hb).trans h.g, fun c hc _ => hold c hc⟩
 ·rw [Nat.zero_add] at ho ⊢; exact ho
def RS.start : RS := ⟨0, 0, [], [], 0, 0⟩
theorem uC {l : List Tok} (ht : bS l) : ez l .start := ⟨ht.pos, fh _, Int.le_refl _, Int.le_refl _, by simp [RS.start]⟩
end
section
def oV : List bZ := GV ++ U6.map fun c => [c]
def A6 (x s : bZ) : Prop := x.length <= s.length /\ s.take x.length = x
def ve (n : Int) (b : Bool) : Int := if cO n then 3 else if bu n then 4 else if n = 35 then 2 else if er n then 1 else if b = true then 5 else 0
def SN : bZ := [124, 38, 61, 33, 60, 62, 43, 45, 42, 47, 37, 40, 41, 123, 125, 91, 93, 44, 59]
def eI (n : Int) : Int := ve n (decide (∃ c ∈ SN, n = cI c))
abbrev ej (s : bZ) : Nat := lead (fun n => n ≠ 10) s
def iT : Nat -> bZ -> Nat -> E6 (List Tok)
 | 0, _, p => .bad 0 p
 | _ + 1, [], _ => .ok []
 | k + 1, c :: s, p => if er (cI c) then iT k ((c :: s).drop (lead er (c :: s))) (p + lead er (c :: s))
  else if cI c = 35 then iT k ((c :: s).drop (ej (c :: s))) (p + ej (c :: s))
  else match kg (c :: s) p with
   | .bad e q => .bad e q
   | .ok t => (iT k ((c :: s).drop t.text.length) (p + t.text.length)).map (t :: ·)
theorem DV : ∀ s : bZ, eU false s = lead er s + eU false (s.drop (lead er s))
 | [] => rfl
 | c :: s => by
  by_cases h : er (cI c)
  ·have WI : ¬ cI c = 35 := by unfold er at h; omega
   have e : eU false (c :: s) = 1 + eU false s := by
    simp only [eU];rw [if_neg (by rintro ⟨_, q⟩; exact q h)]
    congr 1
    split <;> simp [WI]
   rw [e, lead, if_pos h, DV s, Nat.add_comm 1 (lead er s), List.drop_succ_cons]; omega
  ·rw [lead, if_neg h, Nat.zero_add, List.drop_zero]
theorem F3 : ∀ s : bZ, eU true s = ej s + eU false (s.drop (ej s))
 | [] => rfl
 | c :: s => by
  by_cases h : cI c = 10
  ·have e : ∀ r, eU r (c :: s) = 1 + eU false s := fun r => by
    simp only [eU, if_pos h];rw [if_neg (by rintro ⟨_, q⟩; exact q (by rw [h]; decide))]
   unfold ej;rw [lead, if_neg (by simpa using h), Nat.zero_add, List.drop_zero, e, e]
  ·have e : eU true (c :: s) = 1 + eU true s := by
    simp only [eU, if_neg h, ite_self];rw [if_neg (by simp)]
   unfold ej;rw [lead, if_pos h, e, F3 s, Nat.add_comm 1 (lead _ s), List.drop_succ_cons]; unfold ej; omega
theorem vU : ∀ (k : Nat) (s : bZ) (p k' : Nat), s.length < k -> s.length < k' -> iT k s p = gi k' (s.drop (eU false s)) (p + eU false s)
 | 0, s, p, k', h, _ => by omega
 | k + 1, [], p, 0, _, h' => by omega
 | k + 1, [], p, k' + 1, _, h' => rfl
 | k + 1, c :: s, p, 0, h, h' => by omega
 | k + 1, c :: s, p, k' + 1, h, h' => by
  simp only [List.length_cons] at h h'
  by_cases hb : er (cI c)
  ·have dO : 1 <= lead er (c :: s) := by rw [lead, if_pos hb]; omega
   simp only [iT];rw [if_pos hb, vU k _ _ (k' + 1) (by rw [x9, List.length_cons]; omega) (by rw [x9, List.length_cons]; omega), List.drop_drop, DV (c :: s), Nat.add_assoc]
  ·by_cases WI : cI c = 35
   ·have dO : 1 <= ej (c :: s) := by unfold ej; rw [lead, if_pos (by omega)]; omega
    have e : eU false (c :: s) = ej (c :: s) + eU false ((c :: s).drop (ej (c :: s))) := by
     have zm : ¬ cI c = 10 := by omega
     have e1 : eU false (c :: s) = 1 + eU true s := by
      simp only [eU, if_neg zm, if_pos WI];rw [if_neg (by simp)]
     rw [e1, F3 s];have e2 : ej (c :: s) = ej s + 1 := by unfold ej; rw [lead, if_pos zm]; omega
     rw [e2, List.drop_succ_cons]; omega
    simp only [iT];rw [if_neg hb, if_pos WI, vU k _ _ (k' + 1) (by rw [x9, List.length_cons]; omega) (by rw [x9, List.length_cons]; omega), List.drop_drop, e, Nat.add_assoc]
   ·have e0 : eU false (c :: s) = 0 := by
     simp only [eU];rw [if_pos];refine ⟨?_, hb⟩
     split <;> simp [WI]
    rw [e0, List.drop_zero, jD (by simp)];simp only [Nat.add_zero];simp only [iT];rw [if_neg hb, if_neg WI]
    cases ho : kg (c :: s) p with
    | bad e q => rfl
    | ok t =>
     obtain ⟨g1, g2, _, _⟩ := yQ (by simp) ho
     simp only
     rw [vU k _ _ k' (by rw [x9, List.length_cons]; omega) (by rw [x9, List.length_cons]; omega)]
theorem P7 {s : bZ} (h : s.length <= 65536) : uS s = (iT (s.length + 1) s 0).map (· ++ [⟨0, [], 0, s.length⟩]) := by
 rw [vU _ s 0 (s.length + 1) (by omega) (by omega), Nat.zero_add];unfold uS;rw [if_neg (by omega)]
theorem GU : ∀ x ∈ GV, x.length = 2 := by decide
theorem IG {i : Nat} {x : bZ} (h : oV[i]? = some x) : (i < 9 /\ x ∈ GV /\ x.length = 2) \/ (9 <= i /\ ∃ c ∈ U6, x = [c]) := by
 unfold oV at h;rw [List.getElem?_append] at h;have h9 : GV.length = 9 := rfl
 split at h
 ·have := List.mem_of_getElem? h
  exact .inl ⟨by omega, this, GU x this⟩
 ·rw [List.getElem?_map] at h
  obtain ⟨c, hc, rfl⟩ := j6.1 h
  exact .inr ⟨by omega, c, List.mem_of_getElem? hc, rfl⟩
theorem KI {s : bZ} {i : Nat} {y : bZ} (hi : oV[i]? = some y) (h1 : A6 y s) (h2 : ∀ j, j < i -> ∀ x, oV[j]? = some x -> ¬ A6 x s) : l7 s = y.length := by
 obtain ⟨q1, q2⟩ := h1
 rcases IG hi with ⟨_, hm, hl⟩ | ⟨h9, c, hc, rfl⟩
 ·rw [hl] at q1 q2
  unfold l7;rw [if_pos ⟨q1, by rw [q2]; exact hm⟩, hl]
 ·simp only [List.length_cons, List.length_nil] at q1 q2
  have Ts : ¬ (2 <= s.length /\ s.take 2 ∈ GV) := by
   rintro ⟨r1, r2⟩
   obtain ⟨j, hj⟩ := List.getElem?_of_mem r2
   have h9' : GV.length = 9 := rfl
   have hjl := (rc.1 hj).1
   have hx : oV[j]? = some (s.take 2) := by
    unfold oV; rw [A9 hjl, hj]
   exact h2 j (by omega) _ hx ⟨by rw [GU _ r2]; exact r1, by rw [GU _ r2]⟩
  have h0 : s[0]? = some c := by
   cases s with
   | nil => simp at q1
   | cons a s => simp at q2; simp [q2]
  unfold l7;rw [if_neg Ts, if_pos ⟨c, hc, h0⟩]
  rfl
theorem F4 {s : bZ} (h : ∀ x ∈ oV, ¬ A6 x s) : l7 s = 0 := by
 unfold l7;have Ts : ¬ (2 <= s.length /\ s.take 2 ∈ GV) := by
  rintro ⟨r1, r2⟩
  have hlj : ∀ x ∈ GV, x.length = 2 := by decide
  exact h _ (List.mem_append_left _ r2) ⟨by rw [hlj _ r2]; exact r1, by rw [hlj _ r2]⟩
 rw [if_neg Ts, if_neg]
 rintro ⟨c, hc, hs⟩
 cases s with
 | nil => simp at hs
 | cons a s =>
  simp at hs; subst hs
  exact h [a] (List.mem_append_right _ (List.mem_map.2 ⟨a, hc, rfl⟩)) ⟨by simp, by simp⟩
theorem K0 {c : UInt8} {s : bZ} {p : Nat} (h : eI (cI c) = 0) : kg (c :: s) p = .bad 6 p := by
 unfold eI ve at h;simp only [decide_eq_true_eq] at h
 split at h
 ·cases h
 split at h
 ·cases h
 split at h
 ·cases h
 split at h
 ·cases h
 split at h
 ·cases h
 rename_i h1 h2 h3 h4 h5
 have hw : eN (c :: s) = 0 := by unfold eN; exact if_neg h1
 have hs : l7 (c :: s) = 0 := by
  refine F4 fun x hx q => h5 ?_
  have : ∀ x ∈ oV, ∃ a ∈ SN, x[0]? = some a := by decide
  obtain ⟨a, ha, hxa⟩ := this x hx
  obtain ⟨q1, q2⟩ := q
  refine ⟨a, ha, ?_⟩
  cases x with
  | nil => simp at hxa
  | cons b x =>
   simp only [List.getElem?_cons_zero, bc] at hxa;subst hxa;simp only [List.length_cons, List.take_succ_cons, List.cons.injEq] at q2;rw [q2.1]
 rw [we (by simp)];simp only [List.getElem_cons_zero];rw [if_neg h2, hw, hs];simp
theorem tQ {n : Int} : eI n = 3 ↔ cO n := by
 unfold eI ve;simp only [decide_eq_true_eq];by_cases h : cO n
 ·simp [h]
 ·rw [if_neg h]
  constructor
  ·intro q
   repeat' split at q
   all_goals cases q
  ·intro q; exact absurd q h
theorem qF {n : Int} : eI n = 4 ↔ bu n := by
 unfold eI ve;simp only [decide_eq_true_eq];by_cases h : bu n
 ·rw [if_neg (by unfold cO; unfold bu at h; omega), if_pos h]; simp [h]
 ·rw [if_neg h]
  constructor
  ·intro q
   repeat' split at q
   all_goals cases q
  ·intro q; exact absurd q h
theorem vd {n : Int} : eI n = 1 ↔ er n := by
 unfold eI ve;simp only [decide_eq_true_eq];by_cases h : er n
 ·rw [if_neg (by unfold cO; unfold er at h; omega), if_neg (by unfold bu; unfold er at h; omega), if_neg (by unfold er at h; omega), if_pos h]; simp [h]
 ·rw [if_neg h]
  constructor
  ·intro q
   repeat' split at q
   all_goals cases q
  ·intro q; exact absurd q h
theorem z5 {n : Int} : eI n = 2 ↔ n = 35 := by
 unfold eI ve;simp only [decide_eq_true_eq];by_cases h : n = 35
 ·subst h; decide
 ·rw [if_neg h]
  constructor
  ·intro q
   repeat' split at q
   all_goals cases q
  ·intro q; exact absurd q h
theorem RZ {n : Int} : 0 <= eI n /\ eI n <= 5 := by
 unfold eI ve;simp only [decide_eq_true_eq]
 repeat' split
 all_goals decide
end
section
theorem AA {l : List bZ} {i : Nat} : (kZ l)[i]? = (l[i]?).map fun s => [.str s] := by unfold kZ; rw [List.getElem?_map]
theorem rj {l : List bZ} : (kZ l).length = l.length := by unfold kZ; rw [List.length_map]
theorem MH {l : List bZ} {m : Mem} : m.load none (VV l) = some (.fz 0 1 (kZ l)) := rfl
def jB (l : List Int) : List (List EV) := l.map fun s => [.int .i64 s]
theorem OO {l : List Int} {i : Nat} : (jB l)[i]? = (l[i]?).map fun s => [.int .i64 s] := by unfold jB; rw [List.getElem?_map]
theorem Gn {l : List Int} : (jB l).length = l.length := by unfold jB; rw [List.length_map]
def Tf {α : Type} [DecidableEq α] (x : α) : List α -> Nat
 | [] => 0
 | a :: l => if a = x then 0 else Tf x l + 1
theorem Lq {α : Type} [DecidableEq α] {x : α} : ∀ {l : List α} {i : Nat}, x ∉ l.take i -> l[i]? = some x -> Tf x l = i
 | [], i, _, h => by simp at h
 | a :: l, 0, _, h => by simp only [List.getElem?_cons_zero, bc] at h; simp only [Tf, if_pos h]
 | a :: l, i + 1, hn, h => by
  simp only [List.take_succ_cons, oQ, not_or] at hn;simp only [Tf, if_neg (Ne.symm hn.1), Lq hn.2 (by simpa using h)]
def Us {α : Type} [DecidableEq α] (x : α) (l : List α) : Int := if x ∈ l then (Tf x l : Int) else -1
theorem MM {α : Type} [DecidableEq α] {x : α} {l : List α} : (0 <= Us x l) = (x ∈ l) := by
 unfold Us;by_cases h : x ∈ l
 ·rw [if_pos h]; simp [h]
 ·rw [if_neg h]; simp [h]
end
section
theorem L4 {s : bZ} {c : Int} {m : Mem} : run U gm [.str s, .int .u8 c] m = some (.ret (.int .i64 (Go.Lib.indexByte s c.toNat.toUInt8)) m) := by
 rw [G7 (g := gh) (by unfold U UT PT; rfl)]
 simp [gh]
theorem Oa {s : bZ} {c : Int} : bA B K eV [.str s, .int .u8 c] = some (.int .i64 (Go.Lib.indexByte s c.toNat.toUInt8)) := by
 rw [dQ (by simp [aE])]
 simp +contextual -implicitDefEqProofs (maxSteps := 1000000) (maxDischargeDepth := 8) only [aE, L4, aq, aa, implies_true, simprocAttr]
theorem KF {s : bZ} {c : Int} : bA B K nW [.str s, .int .u8 c] = some (.int .i64 (Go.Lib.indexByte s c.toNat.toUInt8)) := by
 rw [dQ (by simp [dx])]
 simp +contextual -implicitDefEqProofs (maxSteps := 1000000) (maxDischargeDepth := 8) only [dx, Oa, aq, aa, implies_true, simprocAttr]
theorem Vi {s : bZ} {c : UInt8} : (0 <= Go.Lib.indexByte s c) = (∃ a ∈ s, cI c = cI a) := by
 have := Go.Lib.contains_iff_indexByte s c
 refine propext ?_
 rw [<- decide_eq_true_iff (p := 0 <= Go.Lib.indexByte s c), <- this, List.contains_iff_mem]
 constructor
 ·intro h; exact ⟨c, h, rfl⟩
 ·rintro ⟨a, ha, h⟩
  have : c = a := UInt8.toNat_inj.1 (by unfold cI at h; omega)
  rw [this]; exact ha
theorem JY {n : Int} {Q : Prop} (h1 : n < 48 -> n = 35 -> Q) (h2 : n < 48 -> n = 32 -> Q) (h3 : n < 48 -> n = 9 -> Q) (h4 : n < 48 -> n = 10 -> Q) (h5 : n < 48 -> n = 13 -> Q)
  (h6 : ¬ 97 <= n -> ¬ 65 <= n -> ¬ n = 95 -> ¬ 48 <= n -> ¬ n = 35 -> ¬ n = 32 -> ¬ n = 9 -> ¬ n = 10 -> ¬ n = 13 -> Q)
  (h7 : ¬ 97 <= n -> ¬ 65 <= n -> ¬ n = 95 -> 48 <= n -> n <= 57 -> Q)
  (h8 : ¬ 97 <= n -> ¬ 65 <= n -> ¬ n = 95 -> 48 <= n -> ¬ n <= 57 -> ¬ n = 35 -> ¬ n = 32 -> ¬ n = 9 -> ¬ n = 10 -> ¬ n = 13 -> Q)
  (h9 : ¬ 97 <= n -> 65 <= n -> n <= 90 -> Q)
  (zm : ¬ 97 <= n -> 65 <= n -> ¬ n <= 90 -> n = 95 -> Q)
  (CG : ¬ 97 <= n -> 65 <= n -> ¬ n <= 90 -> ¬ n = 95 -> 48 <= n -> ¬ n <= 57 -> ¬ n = 35 -> ¬ n = 32 -> ¬ n = 9 -> ¬ n = 10 -> ¬ n = 13 -> Q)
  (FH : 97 <= n -> n <= 122 -> Q)
  (TC : 97 <= n -> ¬ n <= 122 -> 65 <= n -> ¬ n <= 90 -> ¬ n = 95 -> 48 <= n -> ¬ n <= 57 -> ¬ n = 35 -> ¬ n = 32 -> ¬ n = 9 -> ¬ n = 10 -> ¬ n = 13 -> Q) : Q := by
 by_cases a : 97 <= n
 ·by_cases b : n <= 122
  ·exact FH a b
  ·exact TC a b (by omega) (by omega) (by omega) (by omega) (by omega) (by omega) (by omega) (by omega) (by omega) (by omega)
 ·by_cases b : 65 <= n
  ·by_cases c : n <= 90
   ·exact h9 a b c
   ·by_cases d : n = 95
    ·exact zm a b c d
    ·exact CG a b c d (by omega) (by omega) (by omega) (by omega) (by omega) (by omega) (by omega)
  ·by_cases c : 48 <= n
   ·by_cases d : n <= 57
    ·exact h7 a b (by omega) c d
    ·exact h8 a b (by omega) c d (by omega) (by omega) (by omega) (by omega) (by omega)
   ·by_cases e1 : n = 35
    ·exact h1 (by omega) e1
    by_cases e2 : n = 32
    ·exact h2 (by omega) e2
    by_cases e3 : n = 9
    ·exact h3 (by omega) e3
    by_cases e4 : n = 10
    ·exact h4 (by omega) e4
    by_cases e5 : n = 13
    ·exact h5 (by omega) e5
    exact h6 a b (by omega) c e1 e2 e3 e4 e5
theorem pu {c : UInt8} : bA B K iW [.int .u8 (cI c)] = some (.int .i64 (eI (cI c))) := by
 rw [dQ (by simp [g9])]
 have HC : ∀ s : bZ, bA B K nW [.str s, .int .u8 (cI c)] = some (.int .i64 (Go.Lib.indexByte s c)) := fun s => by rw [KF]; simp
 have hm : (0 <= Go.Lib.indexByte [124, 38, 61, 33, 60, 62, 43, 45, 42, 47, 37, 40, 41, 123, 125, 91, 93, 44, 59] c) = (decide (∃ a ∈ SN, cI c = cI a) = true) := by rw [decide_eq_true_eq]; exact Vi
 unfold eI ve cO bu er;generalize decide (∃ a ∈ SN, cI c = cI a) = Q at hm ⊢
 generalize cI c = n at *
 refine JY (n := n) ?_ ?_ ?_ ?_ ?_ ?_ ?_ ?_ ?_ ?_ ?_ ?_ ?_
 all_goals intros
 case refine_1 | refine_2 | refine_3 | refine_4 | refine_5 | refine_10 => subst n; simp +contextual -implicitDefEqProofs (maxSteps := 1000000) (maxDischargeDepth := 8) only [g9, HC, hm, aq, aa, implies_true, simprocAttr]
 all_goals
  simp +contextual -implicitDefEqProofs (maxSteps := 1000000) (maxDischargeDepth := 8) only [g9, HC, hm, *, aq, aa, implies_true, simprocAttr]
 all_goals first | (simp_all; done) | (cases Q <;> simp_all [Sr])
end
section
theorem Jj {l : List Int} {x : Int} (hl : l.length < 1000000000) {tg : Nat} {m0 : Mem} {fr : Fr} (h0 : fr.get 0 = .fz tg 1 (jB l)) (h1 : fr.get 1 = .int .i64 x) (h7 : fr.get 7 = .int .i64 (l.length : Int)) (h8 : fr.get 8 = .int .i64 0) (hd : fr.defers = []) :
  ∃ o, exec U (.loop dH) fr m0 = some o /\ ((x ∈ l /\ ∃ fr', o = .ret fr' m0 /\ fr'.get 4 = .int .i64 (Tf x l : Int) /\ fr'.defers = []) \/ (x ∉ l /\ ∃ fr', o = .exit 0 fr' m0 /\ fr'.defers = [])) := by
 refine ia (σ := Nat) (fun i fr m => m = m0 /\ i <= l.length /\ x ∉ l.take i /\ fr.get 0 = .fz tg 1 (jB l) /\ fr.get 1 = .int .i64 x /\ fr.get 7 = .int .i64 (l.length : Int) /\ fr.get 8 = .int .i64 (i : Int) /\ fr.defers = []) (fun i => l.length - i) _ ?_ 0 fr m0 ⟨rfl, lu _, by simp, h0, h1, h7, h8, hd⟩
 rintro i fr m ⟨rfl, hi, hn, h0, h1, h7, h8, hd⟩
 generalize hX : exec U dH fr m = X
 by_cases bt : i < l.length
 ·have hc : (i : Int) < (l.length : Int) := by omega
  have hg : l[i]? = some l[i] := mZ bt
  have uW := cx (i := i) (by omega)
  simp +contextual -implicitDefEqProofs (maxSteps := 1000000) (maxDischargeDepth := 8) only [dH, h0, h1, h7, h8, hd, hc, hg, bt, uW, bJ, OO, Gn, aq, aa, implies_true, simprocAttr] at hX
  subst hX;refine ud (fun he => kl (.inl ⟨by rw [he]; exact Fm bt, _, rfl, ?_, by simp only [hd, ap, Nat.reduceBEq ]⟩)) (fun he => et (i + 1) (by omega) ⟨rfl, bt, ?_, by simp only [h0, ap, Nat.reduceBEq ], by simp only [h1, ap, Nat.reduceBEq ], by simp only [h7, ap, Nat.reduceBEq ], by simp only [ap, Nat.reduceBEq ], by simp only [hd, ap, Nat.reduceBEq ]⟩)
  ·have : Tf x l = i := Lq hn (by rw [hg, he])
   rw [this]; simp only [ap, Nat.reduceBEq ]
  ·rw [List.take_succ_eq_append_getElem bt, uy]
   rintro (q | q)
   ·exact hn q
   ·exact he (Ar.1 q)
 ·have hc : ¬ ((i : Int) < (l.length : Int)) := by omega
  simp +contextual -implicitDefEqProofs (maxSteps := 1000000) (maxDischargeDepth := 8) only [dH, h0, h7, h8, hd, hc, aq, aa, implies_true, simprocAttr] at hX
  subst hX;have : l.take i = l := Ij (by omega)
  rw [this] at hn;exact fi (.inr ⟨hn, _, rfl, by simp only [hd, ap, Nat.reduceBEq ]⟩)
theorem Ls {l : List Int} {x : Int} (hl : l.length < 1000000000) {tg : Nat} {m : Mem} : run U xE [.fz tg 1 (jB l), .int .i64 x] m = some (.ret (.int .i64 (Us x l)) m) := by
 rw [bX (by simp [dT])]
 generalize hL : exec (UT B K) (aH.loop dH) = L
 simp +contextual -implicitDefEqProofs (maxSteps := 1000000) (maxDischargeDepth := 8) only [dT, Gn, aq, aa, implies_true, simprocAttr]
 subst hL;generalize hX : exec _ (.loop dH) _ _ = X
 obtain ⟨o, rfl, h⟩ := hZ hX (Jj (l := l) (x := x) hl (tg := tg) (by simp only [ap, Nat.reduceBEq ]) (by simp only [ap, Nat.reduceBEq ]) (by simp only [ap, Nat.reduceBEq ]) (by simp only [ap, Nat.reduceBEq ]) (by simp only [ap, Nat.reduceBEq ]))
 rcases h with ⟨h, fr', rfl, h4, hd⟩ | ⟨h, fr', rfl, hd⟩
 ·simp +contextual -implicitDefEqProofs (maxSteps := 1000000) (maxDischargeDepth := 8) only [h, h4, hd, Us, aq, aa, implies_true, simprocAttr]
 ·simp +contextual -implicitDefEqProofs (maxSteps := 1000000) (maxDischargeDepth := 8) only [h, hd, Us, aq, aa, implies_true, simprocAttr]
theorem Lt {l : List Int} {x : Int} (hl : l.length < 1000000000) {tg : Nat} {m : Mem} : run U uq [.fz tg 1 (jB l), .int .i64 x] m = some (.ret (bo (x ∈ l)) m) := by
 rw [bX (by simp [cL])]
 have h := fun m => Ls (x := x) hl (tg := tg) (m := m)
 simp +contextual -implicitDefEqProofs (maxSteps := 1000000) (maxDischargeDepth := 8) only [cL, h, MM, aq, aa, implies_true, simprocAttr]
end
section
theorem DR {l : List bZ} {x : bZ} (hl : l.length < 1000000000) {tg : Nat} {m0 : Mem} {fr : Fr} (h0 : fr.get 0 = .fz tg 1 (kZ l)) (h1 : fr.get 1 = .str x) (h7 : fr.get 7 = .int .i64 (l.length : Int)) (h8 : fr.get 8 = .int .i64 0) (hd : fr.defers = []) :
  ∃ o, exec U (.loop cF) fr m0 = some o /\ ((x ∈ l /\ ∃ fr', o = .ret fr' m0 /\ fr'.get 4 = .int .i64 (Tf x l : Int) /\ fr'.defers = []) \/ (x ∉ l /\ ∃ fr', o = .exit 0 fr' m0 /\ fr'.defers = [])) := by
 refine ia (σ := Nat) (fun i fr m => m = m0 /\ i <= l.length /\ x ∉ l.take i /\ fr.get 0 = .fz tg 1 (kZ l) /\ fr.get 1 = .str x /\ fr.get 7 = .int .i64 (l.length : Int) /\ fr.get 8 = .int .i64 (i : Int) /\ fr.defers = []) (fun i => l.length - i) _ ?_ 0 fr m0 ⟨rfl, lu _, by simp, h0, h1, h7, h8, hd⟩
 rintro i fr m ⟨rfl, hi, hn, h0, h1, h7, h8, hd⟩
 generalize hX : exec U cF fr m = X
 by_cases bt : i < l.length
 ·have hc : (i : Int) < (l.length : Int) := by omega
  have hg : l[i]? = some l[i] := mZ bt
  have uW := cx (i := i) (by omega)
  simp +contextual -implicitDefEqProofs (maxSteps := 1000000) (maxDischargeDepth := 8) only [cF, h0, h1, h7, h8, hd, hc, hg, bt, uW, bJ, AA, rj, aq, aa, implies_true, simprocAttr] at hX
  subst hX;refine ud (fun he => kl (.inl ⟨by rw [he]; exact Fm bt, _, rfl, ?_, by simp only [hd, ap, Nat.reduceBEq ]⟩)) (fun he => et (i + 1) (by omega) ⟨rfl, bt, ?_, by simp only [h0, ap, Nat.reduceBEq ], by simp only [h1, ap, Nat.reduceBEq ], by simp only [h7, ap, Nat.reduceBEq ], by simp only [ap, Nat.reduceBEq ], by simp only [hd, ap, Nat.reduceBEq ]⟩)
  ·have : Tf x l = i := Lq hn (by rw [hg, he])
   rw [this]; simp only [ap, Nat.reduceBEq ]
  ·rw [List.take_succ_eq_append_getElem bt, uy]
   rintro (q | q)
   ·exact hn q
   ·exact he (Ar.1 q)
 ·have hc : ¬ ((i : Int) < (l.length : Int)) := by omega
  simp +contextual -implicitDefEqProofs (maxSteps := 1000000) (maxDischargeDepth := 8) only [cF, h0, h7, h8, hd, hc, aq, aa, implies_true, simprocAttr] at hX
  subst hX;have : l.take i = l := Ij (by omega)
  rw [this] at hn;exact fi (.inr ⟨hn, _, rfl, by simp only [hd, ap, Nat.reduceBEq ]⟩)
theorem Fq {l : List bZ} {x : bZ} (hl : l.length < 1000000000) {tg : Nat} {m : Mem} : run U uo [.fz tg 1 (kZ l), .str x] m = some (.ret (.int .i64 (Us x l)) m) := by
 rw [bX (by simp [cK])]
 generalize hL : exec (UT B K) (aH.loop cF) = L
 simp +contextual -implicitDefEqProofs (maxSteps := 1000000) (maxDischargeDepth := 8) only [cK, rj, aq, aa, implies_true, simprocAttr]
 subst hL;generalize hX : exec _ (.loop cF) _ _ = X
 obtain ⟨o, rfl, h⟩ := hZ hX (DR (l := l) (x := x) hl (tg := tg) (by simp only [ap, Nat.reduceBEq ]) (by simp only [ap, Nat.reduceBEq ]) (by simp only [ap, Nat.reduceBEq ]) (by simp only [ap, Nat.reduceBEq ]) (by simp only [ap, Nat.reduceBEq ]))
 rcases h with ⟨h, fr', rfl, h4, hd⟩ | ⟨h, fr', rfl, hd⟩
 ·simp +contextual -implicitDefEqProofs (maxSteps := 1000000) (maxDischargeDepth := 8) only [h, h4, hd, Us, aq, aa, implies_true, simprocAttr]
 ·simp +contextual -implicitDefEqProofs (maxSteps := 1000000) (maxDischargeDepth := 8) only [h, hd, Us, aq, aa, implies_true, simprocAttr]
theorem Fs {l : List bZ} {x : bZ} (hl : l.length < 1000000000) {tg : Nat} {m : Mem} : run U qT [.fz tg 1 (kZ l), .str x] m = some (.ret (bo (x ∈ l)) m) := by
 rw [bX (by simp [b9])]
 have h := fun m => Fq (x := x) hl (tg := tg) (m := m)
 simp +contextual -implicitDefEqProofs (maxSteps := 1000000) (maxDischargeDepth := 8) only [b9, h, MM, aq, aa, implies_true, simprocAttr]
end
section
theorem Jc {s : bZ} : bA B K xF [.str s] = some (bo (s ∈ jx)) := by
 rw [dQ (by simp [pz])]
 have h := fun m => Fs (l := jx) (x := s) (by decide) (tg := 0) (m := m)
 have hl := fun m => MH (l := jx) (m := m)
 have e : L_lex_words = jx := rfl
 simp +contextual -implicitDefEqProofs (maxSteps := 1000000) (maxDischargeDepth := 8) only [pz, e, hl, h, aq, aa, implies_true, simprocAttr]
end
section
theorem tb {P Q : Int -> Prop} [DecidablePred P] [DecidablePred Q] (h : ∀ n, P n ↔ Q n) : ∀ s : bZ, lead P s = lead Q s
 | [] => rfl
 | c :: s => by
  simp only [lead, tb h s];by_cases q : Q (cI c)
  ·rw [if_pos q, if_pos ((h _).2 q)]
  ·rw [if_neg q, if_neg (fun w => q ((h _).1 w))]
abbrev BF (cl : List Int) : Int -> Prop := fun n => eI n ∈ cl
theorem Qa {s : bZ} {cl : List Int} {tg : Nat} (hs : s.length < 1000000000) (oN : cl.length < 1000) {m0 : Mem} {fr : Fr} (h0 : fr.get 0 = .str s) (h1 : fr.get 1 = .fz tg 1 (jB cl)) (h5 : fr.get 5 = .int .i64 0) (hd : fr.defers = []) :
  ∃ o, exec U (.loop gZ) fr m0 = some o /\ ∃ fr', o = .exit 0 fr' m0 /\ fr'.get 5 = .int .i64 (lead (BF cl) s : Int) /\ fr'.defers = [] := by
 refine ia (σ := Nat) (fun i fr m => m = m0 /\ i <= s.length /\ fr.get 0 = .str s /\ fr.get 1 = .fz tg 1 (jB cl) /\ fr.get 5 = .int .i64 (i : Int) /\ lead (BF cl) s = i + lead (BF cl) (s.drop i) /\ fr.defers = []) (fun i => s.length - i) _ ?_ 0 fr m0 ⟨rfl, lu _, h0, h1, h5, by simp, hd⟩
 rintro i fr m ⟨rfl, hi, h0, h1, h5, hr, hd⟩
 generalize hX : exec U gZ fr m = X
 by_cases bt : i < s.length
 ·have hc : (i : Int) < (s.length : Int) := by omega
  have hg : s[i]? = some s[i] := mZ bt
  have uW := cx (i := i) (by omega)
  rw [drop_cons bt, lead] at hr;generalize s[i] = c at hg hr
  have Rs : bA B K iW [.int .u8 (c.toNat : Int)] = some (.int .i64 (eI (cI c))) := pu
  have hh := fun m => Lt (l := cl) (x := eI (cI c)) (by omega) (tg := tg) (m := m)
  by_cases hq : eI (cI c) ∈ cl
  ·rw [if_pos hq] at hr
   simp +contextual -implicitDefEqProofs (maxSteps := 1000000) (maxDischargeDepth := 8) only [gZ, h0, h1, h5, hd, hc, hg, bt, uW, Rs, hh, hq, fY, bJ, aq, aa, implies_true, simprocAttr] at hX
   subst hX;exact et (i + 1) (by omega) ⟨rfl, bt, by simp only [h0, ap, Nat.reduceBEq ], by simp only [h1, ap, Nat.reduceBEq ], by simp only [ap, Nat.reduceBEq ], by omega, by simp only [hd, ap, Nat.reduceBEq ]⟩
  ·rw [if_neg hq] at hr
   simp +contextual -implicitDefEqProofs (maxSteps := 1000000) (maxDischargeDepth := 8) only [gZ, h0, h1, h5, hd, hc, hg, bt, uW, Rs, hh, hq, fA, bJ, aq, aa, implies_true, simprocAttr] at hX
   subst hX;exact fi ⟨_, rfl, by simp only [h5, hr, Nat.add_zero, ap, Nat.reduceBEq ], by simp only [hd, ap, Nat.reduceBEq ]⟩
 ·have hc : ¬ ((i : Int) < (s.length : Int)) := by omega
  obtain rfl : i = s.length := by omega
  rw [List.drop_length, lead, Nat.add_zero] at hr;simp +contextual -implicitDefEqProofs (maxSteps := 1000000) (maxDischargeDepth := 8) only [gZ, h0, h1, h5, hd, hc, aq, aa, implies_true, simprocAttr] at hX
  subst hX;exact fi ⟨_, rfl, by simp only [h5, hr, ap, Nat.reduceBEq ], by simp only [hd, ap, Nat.reduceBEq ]⟩
theorem run_eq {s : bZ} {cl : List Int} {tg : Nat} (hs : s.length < 1000000000) (oN : cl.length < 1000) : bA B K oL [.str s, .fz tg 1 (jB cl)] = some (.int .i64 (lead (BF cl) s : Int)) := by
 rw [dQ (by simp [ll])]
 generalize hL : exec (UT B K) (aH.loop gZ) = L
 simp +contextual -implicitDefEqProofs (maxSteps := 1000000) (maxDischargeDepth := 8) only [ll, aq, aa, implies_true, simprocAttr]
 subst hL;generalize hX : exec _ (.loop gZ) _ _ = X
 obtain ⟨o, rfl, fr', rfl, h5, hd⟩ := hZ hX (Qa (s := s) (cl := cl) (tg := tg) hs oN (by simp only [ap, Nat.reduceBEq ]) (by simp only [ap, Nat.reduceBEq ]) (by simp only [ap, Nat.reduceBEq ]) (by simp only [ap, Nat.reduceBEq ]))
 simp +contextual -implicitDefEqProofs (maxSteps := 1000000) (maxDischargeDepth := 8) only [h5, hd, aq, aa, implies_true, simprocAttr]
theorem KG {s x : bZ} : bA B K lD [.str s, .str x] = some (bo (A6 x s)) := by
 rw [dQ (by simp [aP])]
 by_cases h : x.length <= s.length
 ·have hc : (x.length : Int) <= (s.length : Int) := by omega
  have hb : au (some (.int .i64 (x.length : Int))) s.length s.length = some x.length := eJ h
  have UD : au none 0 x.length = some 0 := rfl
  simp +contextual -implicitDefEqProofs (maxSteps := 1000000) (maxDischargeDepth := 8) only [aP, hc, hb, UD, Option.map_none, aq, aa, implies_true, simprocAttr]
  exact eW ⟨fun q => ⟨h, q⟩, fun q => q.2⟩
 ·have hc : ¬ (x.length : Int) <= (s.length : Int) := by omega
  simp +contextual -implicitDefEqProofs (maxSteps := 1000000) (maxDischargeDepth := 8) only [aP, hc, aq, aa, implies_true, simprocAttr]
  exact congrArg some (rR fun q => h q.1)
theorem IB {s x : bZ} : bA B K w9 [.str s, .str x] = some (bo (A6 x s)) := by
 rw [dQ (by simp [dy])]
 simp +contextual -implicitDefEqProofs (maxSteps := 1000000) (maxDischargeDepth := 8) only [dy, KG, aq, aa, implies_true, simprocAttr]
theorem SY {s x : bZ} {b t : Nat} {m : Mem} (hb : m.get b = .cells [.str s] 1 t false) (bt : b < m.next) : run U fE [.str x, .ptr b 0] m = some (.ret (bo (A6 x s)) m) := by
 rw [bX (by simp [c7])]
 simp +contextual -implicitDefEqProofs (maxSteps := 1000000) (maxDischargeDepth := 8) only [c7, hb, bt, IB, aq, aa, implies_true, simprocAttr]
theorem O3 {l : List bZ} {s : bZ} {b t tg : Nat} (hl : l.length < 1000000000) {m0 : Mem} {fr : Fr} (hb : m0.get b = .cells [.str s] 1 t false) (VO : b < m0.next) (h0 : fr.get 0 = .fz tg 1 (kZ l)) (h1 : fr.get 1 = .func fE [] [.ptr b 0]) (h7 : fr.get 7 = .int .i64 (l.length : Int)) (h8 : fr.get 8 = .int .i64 0) (hd : fr.defers = []) :
  ∃ o, exec U (.loop bP) fr m0 = some o /\ ((∃ (i : Nat) (y : bZ), l[i]? = some y /\ A6 y s /\ (∀ j : Nat, j < i -> ∀ x, l[j]? = some x -> ¬ A6 x s) /\ ∃ fr', o = .ret fr' m0 /\ fr'.get 4 = .int .i64 (i : Int) /\ fr'.defers = []) \/ ((∀ x ∈ l, ¬ A6 x s) /\ ∃ fr', o = .exit 0 fr' m0 /\ fr'.defers = [])) := by
 refine ia (σ := Nat) (fun i fr m => m = m0 /\ i <= l.length /\ (∀ j, j < i -> ∀ x, l[j]? = some x -> ¬ A6 x s) /\ fr.get 0 = .fz tg 1 (kZ l) /\ fr.get 1 = .func fE [] [.ptr b 0] /\ fr.get 7 = .int .i64 (l.length : Int) /\ fr.get 8 = .int .i64 (i : Int) /\ fr.defers = []) (fun i => l.length - i) _ ?_ 0 fr m0 ⟨rfl, lu _, by omega, h0, h1, h7, h8, hd⟩
 rintro i fr m ⟨rfl, hi, hn, h0, h1, h7, h8, hd⟩
 generalize hX : exec U bP fr m = X
 by_cases bt : i < l.length
 ·have hc : (i : Int) < (l.length : Int) := by omega
  have hg : l[i]? = some l[i] := mZ bt
  have uW := cx (i := i) (by omega)
  have hp := fun x => SY (x := x) hb VO
  simp +contextual -implicitDefEqProofs (maxSteps := 1000000) (maxDischargeDepth := 8) only [bP, h0, h1, h7, h8, hd, hc, hg, bt, uW, hp, bJ, AA, rj, aq, aa, implies_true, simprocAttr] at hX
  subst hX;refine ud (fun he => kl (.inl ⟨i, l[i], hg, he, hn, _, rfl, by simp only [ap, Nat.reduceBEq ], by simp only [hd, ap, Nat.reduceBEq ]⟩)) (fun he => et (i + 1) (by omega) ⟨rfl, bt, fun j hj x hx => ?_, by simp only [h0, ap, Nat.reduceBEq ], by simp only [h1, ap, Nat.reduceBEq ], by simp only [h7, ap, Nat.reduceBEq ], by simp only [ap, Nat.reduceBEq ], by simp only [hd, ap, Nat.reduceBEq ]⟩)
  by_cases Sy : j < i
  ·exact hn j Sy x hx
  ·obtain rfl : j = i := by omega
   rw [hg] at hx; cases hx; exact he
 ·have hc : ¬ ((i : Int) < (l.length : Int)) := by omega
  obtain rfl : i = l.length := by omega
  simp +contextual -implicitDefEqProofs (maxSteps := 1000000) (maxDischargeDepth := 8) only [bP, h0, h7, h8, hd, hc, aq, aa, implies_true, simprocAttr] at hX
  subst hX;refine fi (.inr ⟨fun x hx => ?_, _, rfl, by simp only [hd, ap, Nat.reduceBEq ]⟩)
  obtain ⟨j, hj⟩ := List.getElem?_of_mem hx
  exact hn j (rc.1 hj).1 x hj
theorem RK {l : List bZ} {s : bZ} {b t tg : Nat} (hl : l.length < 1000000000) {m : Mem} (hb : m.get b = .cells [.str s] 1 t false) (VO : b < m.next) :
  (∃ (i : Nat) (y : bZ), l[i]? = some y /\ A6 y s /\ (∀ j : Nat, j < i -> ∀ x, l[j]? = some x -> ¬ A6 x s) /\ run U j8 [.fz tg 1 (kZ l), .func fE [] [.ptr b 0]] m = some (.ret (.int .i64 (i : Int)) m)) \/
  ((∀ x ∈ l, ¬ A6 x s) /\ run U j8 [.fz tg 1 (kZ l), .func fE [] [.ptr b 0]] m = some (.ret (.int .i64 (-1)) m)) := by
 rw [bX (by simp [bT])]
 generalize hL : exec (UT B K) (aH.loop bP) = L
 simp +contextual -implicitDefEqProofs (maxSteps := 1000000) (maxDischargeDepth := 8) only [bT, rj, aq, aa, implies_true, simprocAttr]
 subst hL;generalize hX : exec _ (.loop bP) _ _ = X
 obtain ⟨o, rfl, h⟩ := hZ hX (O3 (l := l) (s := s) hl (tg := tg) hb VO (by simp only [ap, Nat.reduceBEq ]) (by simp only [ap, Nat.reduceBEq ]) (by simp only [ap, Nat.reduceBEq ]) (by simp only [ap, Nat.reduceBEq ]) (by simp only [ap, Nat.reduceBEq ]))
 rcases h with ⟨i, y, h1, h2, h3, fr', rfl, h4, hd⟩ | ⟨h, fr', rfl, hd⟩
 ·refine .inl ⟨i, y, h1, h2, h3, ?_⟩
  simp +contextual -implicitDefEqProofs (maxSteps := 1000000) (maxDischargeDepth := 8) only [h4, hd, aq, aa, implies_true, simprocAttr]
 ·refine .inr ⟨h, ?_⟩
  simp +contextual -implicitDefEqProofs (maxSteps := 1000000) (maxDischargeDepth := 8) only [hd, aq, aa, implies_true, simprocAttr]
theorem ML : ∀ s : bZ, (Go.Lib.indexByte s 10 = (ej s : Int) /\ ej s < s.length) \/ (Go.Lib.indexByte s 10 = -1 /\ ej s = s.length)
 | [] => .inr ⟨rfl, rfl⟩
 | c :: s => by
  unfold ej;rw [lead, Go.Lib.indexByte];by_cases h : cI c = 10
  ·have hc : c = 10 := UInt8.toNat_inj.1 (by unfold cI at h; simp; omega)
   subst hc;have h' : (cI 10 ≠ 10) = False := eq_false (by decide)
   simp only [h', if_false, beq_self_eq_true, if_true];exact .inl ⟨rfl, by simp⟩
  ·have hc : ¬ (c == 10) = true := by
    rw [beq_iff_eq]; rintro rfl; exact h rfl
   rw [if_neg hc, if_pos h];rcases ML s with ⟨h1, h2⟩ | ⟨h1, h2⟩
   ·unfold ej at h1 h2
    refine .inl ⟨?_, by simp only [List.length_cons]; omega⟩
    rw [h1, if_neg (by simp)]; omega
   ·unfold ej at h2
    refine .inr ⟨?_, by simp only [List.length_cons]; omega⟩
    rw [h1]; rfl
theorem RV {s : bZ} (hs : s.length < 1000000000) : ∃ a b, bA B K Fw [.str s, .str [10]] = some (.tuple [.str (s.take (ej s)), .str a, .bool b]) := by
 have HC : ∀ m : Mem, run U dq [.str s, .str [10]] m = some (.ret (.int .i64 (Go.Lib.indexByte s 10)) m) := fun m => by
  rw [run_pure (g := BQ) (by unfold U UT PT; rfl)]; rfl
 have h2 : ∃ a b, bA B K o0 [.str s, .str [10]] = some (.tuple [.str (s.take (ej s)), .str a, .bool b]) := by
  rw [dQ (by simp [bp])]
  rcases ML s with ⟨h1, h2⟩ | ⟨h1, h2⟩
  ·have hc : (0 : Int) <= (ej s : Int) := by omega
   have hw : IntKind.i64.wrap ((ej s : Int) + 1) = ((ej s + 1 : Nat) : Int) := cx (by omega)
   have hb : au (some (.int .i64 (ej s : Int))) s.length s.length = some (ej s) := eJ (by omega)
   have UD : au none 0 (ej s) = some 0 := rfl
   have Ru : au (some (.int .i64 ((ej s + 1 : Nat) : Int))) 0 s.length = some (ej s + 1) := eJ (by omega)
   have It : au none s.length s.length = some s.length := rfl
   generalize ej s = j at *
   simp +contextual -implicitDefEqProofs (maxSteps := 1000000) (maxDischargeDepth := 8) only [bp, HC, h1, hc, hw, hb, UD, Ru, It, Option.map_none, aq, aa, implies_true, simprocAttr]
   exact ⟨_, _, rfl⟩
  ·rw [h2, List.take_length]
   simp +contextual -implicitDefEqProofs (maxSteps := 1000000) (maxDischargeDepth := 8) only [bp, HC, h1, aq, aa, implies_true, simprocAttr]
   exact ⟨_, _, rfl⟩
 obtain ⟨a, b, h⟩ := h2
 refine ⟨a, b, ?_⟩
 rw [dQ (by simp [fZ])]
 simp +contextual -implicitDefEqProofs (maxSteps := 1000000) (maxDischargeDepth := 8) only [fZ, h, aq, aa, implies_true, simprocAttr]
end
section
structure Sn (m : Mem) (b : Nat) (s : bZ) (p : Nat) (ov : EV) (l : List Tok) : Prop where
 g : m.get b = .cells [.str s, .int .i64 (p : Int), ov] 3 eS false
 lt : b < m.next
 o : jz m ov (mr l).flatten l.length 4 (b + 1)
 n : l.length <= p
 le : p <= s.length
structure Kn (m m' : Mem) (b : Nat) (ov Io : EV) : Prop where
 n : m.next <= m'.next
 k : ∀ c, c < m.next -> c ≠ b -> gz ov c -> m'.get c = m.get c
 f : ∀ c, c < m.next -> c ≠ b -> gz ov c -> gz Io c
theorem Kn.trans {m m' Up : Mem} {b : Nat} {ov Io W2 : EV} (h : Kn m m' b ov Io) (h' : Kn m' Up b Io W2) : Kn m Up b ov W2 :=
 ⟨pJ h.n h'.n, fun c hc hb ho => (h'.k c (mn hc h.n) hb (h.f c hc hb ho)).trans (h.k c hc hb ho), fun c hc hb ho => h'.f c (mn hc h.n) hb (h.f c hc hb ho)⟩
theorem uQ {m : Mem} {b p : Nat} {s : bZ} {ov : EV} {l : List Tok} (h : Sn m b s p ov l) {k n num : Nat} (hn : p + n <= s.length) (hs : s.length < 1000000) (afp : num < 9223372036854775808) :
  ∃ m' Io, run U fJ [.ptr b 0, .int .i64 (k : Int), .int .i64 (n : Int), .int .i64 (num : Int)] m = some (.ret (.tuple []) m') /\ jz m' Io (mr (l ++ [⟨k, (s.drop p).take n, num, p⟩])).flatten (l.length + 1) 4 (b + 1) /\ m'.get b = .cells [.str s, .int .i64 ((p + n : Nat) : Int), Io] 3 eS false /\ Kn m m' b ov Io := by
 rw [bX (by simp [ev])]
 have hg := h.g
 have hb := h.lt
 have hw : IntKind.i64.wrap ((p : Int) + (n : Int)) = ((p + n : Nat) : Int) := by rw [wrap_i64 (by omega) (by omega)]; omega
 have AP : au (some (.int .i64 (p : Int))) 0 (p + n) = some p := eJ (by omega)
 have Ru : au (some (.int .i64 ((p + n : Nat) : Int))) s.length s.length = some (p + n) := eJ hn
 have ht : (s.take (p + n)).drop p = (s.drop p).take n := by rw [List.drop_take, Nat.add_sub_cancel_left]
 simp +contextual -implicitDefEqProofs (maxSteps := 1000000) (maxDischargeDepth := 8) only [ev, hg, hb, hw, AP, Ru, ht, aq, aa, implies_true, simprocAttr]
 generalize hA : fP _ aB 4 ov _ = A
 generalize ti : Mem.mk (nb m.next 32) _ = D1 at hA ⊢
 have tK : D1.next = nb m.next 32 := by rw [<- ti]
 have EM : ∀ c, c < m.next -> D1.get c = m.get c := fun c hc => by
  rw [<- ti];exact (aL (m := Mem.mk (m.next + 27) (bump m 32).gB) (by show c < m.next + 27; omega)).trans rfl
 have HW : D1.get (nb (m.next + 27) 0) = .cells (Tok.cells ⟨k, (s.drop p).take n, num, p⟩) 4 aB false := by
  rw [<- ti];exact (aK (m := Mem.mk (m.next + 27) (bump m 32).gB) rfl (by simp)).trans rfl
 clear ti;have YM : jz D1 ov (mr l).flatten l.length 4 (b + 1) := h.o.gF (by rw [tK]; exact bE) fun c hc _ _ => EM c hc
 have hln := h.n
 obtain ⟨a1, o1⟩ := gT (e := aB) YM (by rw [tK]; unfold nb; omega) (rl (cap := some 1) HW rfl) rfl (by decide) (by unfold room; omega)
 rw [a1] at hA;subst hA;have X3 : (grow D1 ov aB 4 ((mr l).flatten ++ Tok.cells ⟨k, (s.drop p).take n, num, p⟩)).next = nb m.next 33 := by rw [iL, tK, e6]
 have X2 : ∀ c, c < D1.next -> gz ov c -> (grow D1 ov aB 4 ((mr l).flatten ++ Tok.cells ⟨k, (s.drop p).take n, num, p⟩)).get c = D1.get c := fun c hc ho => lN hc ho
 generalize grow D1 ov aB 4 ((mr l).flatten ++ Tok.cells ⟨k, (s.drop p).take n, num, p⟩) = G1 at *
 rw [<- N2] at o1;have hbo : gz ov b := h.o.lt (.inr (Nat.lt_succ_self _))
 have SA : b < D1.next := by rw [tK]; unfold nb; omega
 have VG : G1.get b = .cells [.str s, .int .i64 (p : Int), ov] 3 eS false := by rw [X2 b SA hbo, EM b hb, hg]
 simp +contextual -implicitDefEqProofs (maxSteps := 1000000) (maxDischargeDepth := 8) only [VG, tK, X3, e6, hw, aq, aa, implies_true, simprocAttr]
 rw [tK, e6] at o1;refine ⟨_, _, rfl, o1.gF (by rw [cf, cf]; exact fh _) fun c _ nv _ => by rw [az (by omega), az (by omega)], by rw [bK], ⟨by rw [cf, cf, X3]; exact bE, fun c hc VM ho => ?_, fun c hc VM ho => gz.of (by unfold nb; omega)⟩⟩
 rw [az VM, az VM, X2 c (by rw [tK]; unfold nb; omega) ho, EM c hc]
theorem SP {M : Mem} {b t : Nat} {x : Int} {s : bZ} (hb : M.get b = .cells [.int .i64 x] 1 t false) (hs : s.length < 1000000000) : run U oL [.str s, .slice b 0 1 (some 1)] M = some (.ret (.int .i64 (lead (BF [x]) s : Int)) M) := by
 have h := mH (m := M) (e := 1) (els := jB [x]) (ty := t) (b := b) (cap := some 1) (ro := false) (by rw [hb]; rfl) (by simp [jB]) (by simp [jB]; rfl) rfl
 have hl : (jB [x]).length = 1 := rfl
 rw [hl] at h;have hr := run_eq (cl := [x]) (tg := 2) hs (by simp)
 simp +contextual -implicitDefEqProofs (maxSteps := 1000000) (maxDischargeDepth := 8) only [h, hr, aq, aa, implies_true, simprocAttr]
theorem SO {M : Mem} {b t : Nat} {x y : Int} {s : bZ} (hb : M.get b = .cells [.int .i64 x, .int .i64 y] 1 t false) (hs : s.length < 1000000000) : run U oL [.str s, .slice b 0 2 (some 2)] M = some (.ret (.int .i64 (lead (BF [x, y]) s : Int)) M) := by
 have h := mH (m := M) (e := 1) (els := jB [x, y]) (ty := t) (b := b) (cap := some 2) (ro := false) (by rw [hb]; rfl) (by simp [jB]) (by simp [jB]; exact ⟨rfl, rfl⟩) rfl
 have hl : (jB [x, y]).length = 2 := rfl
 rw [hl] at h;have hr := run_eq (cl := [x, y]) (tg := 2) hs (by simp)
 simp +contextual -implicitDefEqProofs (maxSteps := 1000000) (maxDischargeDepth := 8) only [h, hr, aq, aa, implies_true, simprocAttr]
end
section
theorem Qw {s : bZ} {k : Nat} (hk : k <= s.length) (hs : s.length < 1000000) (WE : ∀ c ∈ s.take k, bu (cI c)) {v0 : EV} {m0 : Mem} {fr : Fr} (h0 : fr.get 0 = v0) (h1 : fr.get 1 = .str s) (h5 : fr.get 5 = .int .i64 0) (h6 : fr.get 6 = .int .i64 (k : Int)) (FH : fr.get 12 = .int .i64 (k : Int)) (TC : fr.get 13 = .int .i64 0) (hd : fr.defers = []) :
  ∃ o, exec U (.loop cQ) fr m0 = some o /\ ((BC 0 (s.take k) = none /\ ∃ fr', o = .ret fr' m0 /\ fr'.get 4 = .int .i64 7 /\ fr'.defers = []) \/
   (∃ n : Nat, BC 0 (s.take k) = some n /\ n < 9223372036854775808 /\ ∃ fr', o = .exit 0 fr' m0 /\ fr'.get 0 = v0 /\ fr'.get 5 = .int .i64 (n : Int) /\ fr'.get 6 = .int .i64 (k : Int) /\ fr'.defers = [])) := by
 refine ia (σ := Nat) (fun i fr m => m = m0 /\ i <= k /\ fr.get 0 = v0 /\ fr.get 1 = .str s /\ (∃ n : Nat, fr.get 5 = .int .i64 (n : Int) /\ n <= 9223372036854775807 /\ BC 0 (s.take k) = BC n ((s.take k).drop i)) /\ fr.get 6 = .int .i64 (k : Int) /\ fr.get 12 = .int .i64 (k : Int) /\ fr.get 13 = .int .i64 (i : Int) /\ fr.defers = []) (fun i => k - i) _ ?_ 0 fr m0 ⟨rfl, lu _, h0, h1, ⟨0, h5, by omega, by simp⟩, h6, FH, TC, hd⟩
 rintro i fr m ⟨rfl, hi, h0, h1, ⟨n, h5, hn, hr⟩, h6, FH, TC, hd⟩
 generalize hX : exec U cQ fr m = X
 by_cases bt : i < k
 ·have hc : (i : Int) < (k : Int) := by omega
  have hl : i < (s.take k).length := by rw [List.length_take]; omega
  have hls : i < s.length := by omega
  have hg : s[i]? = some (s.take k)[i] := by rw [List.getElem_take, mZ hls]
  have YS := WE _ (Fm hl)
  have uW := cx (i := i) (by omega)
  rw [drop_cons hl, BC] at hr;generalize (s.take k)[i] = c at hg hr YS
  unfold bu cI at YS;obtain ⟨d, hd1, Ir⟩ : ∃ d : Nat, (c.toNat : Int) - 48 = (d : Int) /\ c.toNat - 48 = d := ⟨c.toNat - 48, by omega, rfl⟩
  rw [Ir] at hr;have Xm : IntKind.u8.wrap ((c.toNat : Int) - 48) = (d : Int) := by rw [SF]; omega
  have hw3 : IntKind.i64.wrap (d : Int) = (d : Int) := wrap_i64 (by omega) (by omega)
  have hw6 : IntKind.i64.wrap (9223372036854775807 - (d : Int)) = 9223372036854775807 - (d : Int) := wrap_i64 (by omega) (by omega)
  have hq : IntKind.i64.wrap ((9223372036854775807 - (d : Int)).tdiv 10) = (9223372036854775807 - (d : Int)) / 10 := by
   rw [Int.tdiv_eq_ediv_of_nonneg (by omega), wrap_i64 (by omega) (by omega)]
  simp +contextual -implicitDefEqProofs (maxSteps := 1000000) (maxDischargeDepth := 8) only [cQ, h0, h1, h5, h6, FH, TC, hd, hc, hg, hls, uW, Xm, hw3, hw6, hq, bJ, aq, aa, implies_true, simprocAttr] at hX
  subst hX;refine ud (fun hp => kl (Or.inl ⟨?_, _, rfl, ?_, ?_⟩)) (fun hp => ?_)
  ·rw [hr, if_pos (by omega)]
  ·simp only [ap, Nat.reduceBEq ]
  ·simp only [hd, ap, Nat.reduceBEq ]
  ·have hw4 : IntKind.i64.wrap (10 * (n : Int)) = 10 * (n : Int) := wrap_i64 (by omega) (by omega)
   have hw5 : IntKind.i64.wrap (10 * (n : Int) + (d : Int)) = ((10 * n + d : Nat) : Int) := by rw [wrap_i64 (by omega) (by omega)]; omega
   refine et (i + 1) (by omega) ⟨rfl, bt, by simp only [h0, ap, Nat.reduceBEq ], by simp only [h1, ap, Nat.reduceBEq ], ⟨10 * n + d, by simp only [hw4, hw5, ap, Nat.reduceBEq ], by omega, ?_⟩, by simp only [h6, ap, Nat.reduceBEq ], by simp only [FH, ap, Nat.reduceBEq ], by simp only [ap, Nat.reduceBEq ], by simp only [hd, ap, Nat.reduceBEq ]⟩
   rw [hr, if_neg (by omega)]
 ·have hc : ¬ ((i : Int) < (k : Int)) := by omega
  obtain rfl : i = k := by omega
  simp +contextual -implicitDefEqProofs (maxSteps := 1000000) (maxDischargeDepth := 8) only [cQ, FH, TC, hd, hc, aq, aa, implies_true, simprocAttr] at hX
  subst hX;rw [List.drop_of_length_le (by rw [List.length_take]; omega)] at hr
  simp only [BC] at hr;exact fi (Or.inr ⟨n, hr, by omega, _, rfl, by simp only [h0, ap, Nat.reduceBEq ], by simp only [h5, ap, Nat.reduceBEq ], by simp only [h6, ap, Nat.reduceBEq ], by simp only [hd, ap, Nat.reduceBEq ]⟩)
theorem JU (s : bZ) : lead (BF [4]) s = lead bu s := tb (fun n => by
 unfold BF; rw [Ar, qF]) s
theorem Ka (s : bZ) : lead (BF [1]) s = lead er s := tb (fun n => by
 unfold BF; rw [Ar, vd]) s
theorem NS (s : bZ) : lead (BF [3, 4]) s = lead (fun n => cO n \/ bu n) s := tb (fun n => by
 unfold BF; rw [oQ, Ar, tQ, qF]) s
theorem Sn.ext {m : Mem} {b p : Nat} {s : bZ} {ov : EV} {l : List Tok} (h : Sn m b s p ov l) (ys : List fQ) : Sn (ext m ys) b s p ov l :=
 ⟨by rw [aL h.lt]; exact h.g, by rw [aM]; exact mn h.lt bE, h.o.ext ys, h.n, h.le⟩
theorem Kn.ext (m : Mem) (b : Nat) (ov : EV) (ys : List fQ) : Kn m (ext m ys) b ov ov :=
 ⟨by rw [aM]; exact bE, fun c hc _ _ => aL hc, fun c _ _ ho => ho⟩
def Laid (m m' : Mem) (b : Nat) (s : bZ) (ov : EV) (l : List Tok) (t : Tok) (q : Nat) : Prop := ∃ Io, Sn m' b s q Io (l ++ [t]) /\ Kn m m' b ov Io
theorem K3 {m : Mem} {b p : Nat} {s : bZ} {ov : EV} {l : List Tok} (h : Sn m b s p ov l) (hs : s.length < 1000000) (hd0 : 0 < lead bu (s.drop p)) :
  ∃ m', (BC 0 ((s.drop p).take (lead bu (s.drop p))) = none /\ run U nn [.ptr b 0, .str (s.drop p)] m = some (.ret (.int .i64 7) m') /\ Sn m' b s p ov l /\ Kn m m' b ov ov) \/
   (∃ n, BC 0 ((s.drop p).take (lead bu (s.drop p))) = some n /\ run U nn [.ptr b 0, .str (s.drop p)] m = some (.ret (.int .i64 0) m') /\ Laid m m' b s ov l ⟨2, (s.drop p).take (lead bu (s.drop p)), n, p⟩ (p + lead bu (s.drop p))) := by
 have hlen : (s.drop p).length = s.length - p := x9 ..
 have hle := mS bu (s.drop p)
 have WE := AI bu (s.drop p)
 have Tp : ∀ (M : Mem) (c : Nat), M.get c = .cells [.int .i64 4] 1 bn false -> run U oL [.str (s.drop p), .slice c 0 1 (some 1)] M = some (.ret (.int .i64 (lead bu (s.drop p) : Int)) M) := fun M c hc => by
  rw [SP hc (by omega), JU]
 rw [bX (by simp [c6])]
 generalize hL : exec (UT B K) (aH.loop cQ) = L
 have hb := h.lt
 simp +contextual -implicitDefEqProofs (maxSteps := 1000000) (maxDischargeDepth := 8) only [c6, Tp, aq, aa, implies_true, simprocAttr]
 subst hL;generalize hX : exec _ (.loop cQ) _ _ = X
 generalize lead bu (s.drop p) = k at *
 obtain ⟨o, rfl, hh⟩ := hZ hX (Qw (s := s.drop p) (k := k) (v0 := .ptr b 0) hle (by omega) WE (by simp only [ap, Nat.reduceBEq ]) (by simp only [ap, Nat.reduceBEq ]) (by simp only [ap, Nat.reduceBEq ]) (by simp only [ap, Nat.reduceBEq ]) (by simp only [ap, Nat.reduceBEq ]) (by simp only [ap, Nat.reduceBEq ]) (by simp only [ap, Nat.reduceBEq ]))
 clear hX;generalize pD : Ev.ext m _ = M1 at *
 have h1 : Sn M1 b s p ov l := by rw [<- pD]; exact h.ext _
 have k1 : Kn m M1 b ov ov := by rw [<- pD]; exact Kn.ext ..
 rcases hh with ⟨hn, fr', rfl, f4, fd⟩ | ⟨n, hn, hn2, fr', rfl, f0, f5, f6, fd⟩
 ·refine ⟨M1, .inl ⟨hn, ?_, h1, k1⟩⟩
  simp +contextual -implicitDefEqProofs (maxSteps := 1000000) (maxDischargeDepth := 8) only [f4, fd, aq, aa, implies_true, simprocAttr]
 ·have HA := h.le
  obtain ⟨m2, KW, e2, o2, g2, k2⟩ := uQ h1 (k := 2) (n := k) (num := n) (by omega) hs hn2
  refine ⟨m2, .inr ⟨n, hn, ?_, KW, ⟨g2, ?_, ?_, ?_, by omega⟩, k1.trans k2⟩⟩
  ·have O8 : run U fJ [.ptr b 0, .int .i64 2, .int .i64 (k : Int), .int .i64 (n : Int)] M1 = some (.ret (.tuple []) m2) := e2
   simp +contextual -implicitDefEqProofs (maxSteps := 1000000) (maxDischargeDepth := 8) only [f0, f5, f6, fd, O8, aq, aa, implies_true, simprocAttr]
  ·have := k2.n; have := h1.lt; omega
  ·rw [ja]; exact o2
  ·rw [ja, List.length_singleton]; have := h.n; omega
end
section
theorem GO {c : UInt8} {s : bZ} (h : cO (cI c)) : lead (fun n => cO n \/ bu n) (c :: s) = eN (c :: s) := by
 have e0 : eN (c :: s) = 1 + lead (fun n => cO n \/ bu n) s := if_pos h
 have e : lead (fun n => cO n \/ bu n) (c :: s) = if cO (cI c) \/ bu (cI c) then 1 + lead (fun n => cO n \/ bu n) s else 0 := rfl
 rw [e, if_pos (.inl h), e0]
theorem H2 {fr : Fr} {M : Mem} : aA fr.eval (.bD bn 1 2 [.int .i64 0] [(0, .const (.int .i64 3)), (1, .const (.int .i64 4))]) M = some (.val (.slice (nb M.next 0) 0 2 (some 2)) (Ev.ext M [.cells [.int .i64 3, .int .i64 4] 1 bn false])) := by
 rw [cm]
 rfl
theorem PI {m : Mem} {b p : Nat} {s : bZ} {ov : EV} {l : List Tok} (h : Sn m b s p ov l) (hs : s.length < 1000000) {k : Nat} (hk : lead (fun n => cO n \/ bu n) (s.drop p) = k) (hd0 : 0 < k) :
  ∃ m', ((s.drop p).take k ∈ jx /\ run U kM [.ptr b 0, .str (s.drop p)] m = some (.ret (.int .i64 0) m') /\ Laid m m' b s ov l ⟨3, (s.drop p).take k, 0, p⟩ (p + k)) \/
   (¬ (s.drop p).take k ∈ jx /\ 32 < k /\ run U kM [.ptr b 0, .str (s.drop p)] m = some (.ret (.int .i64 3) m') /\ Sn m' b s p ov l /\ Kn m m' b ov ov) \/
   (¬ (s.drop p).take k ∈ jx /\ ¬ 32 < k /\ run U kM [.ptr b 0, .str (s.drop p)] m = some (.ret (.int .i64 0) m') /\ Laid m m' b s ov l ⟨1, (s.drop p).take k, 0, p⟩ (p + k)) := by
 have hlen : (s.drop p).length = s.length - p := x9 ..
 have hle := mS (fun n => cO n \/ bu n) (s.drop p)
 rw [hk] at hle;have Tp : ∀ (M : Mem) (c : Nat), M.get c = .cells [.int .i64 3, .int .i64 4] 1 bn false -> run U oL [.str (s.drop p), .slice c 0 2 (some 2)] M = some (.ret (.int .i64 (k : Int)) M) := fun M c hc => by
  rw [SO hc (by omega), NS, hk]
 have SA : au (some (.int .i64 (k : Int))) (s.drop p).length (s.drop p).length = some k := eJ hle
 have UD : au none 0 k = some 0 := rfl
 have hb := h.lt
 have HA := h.le
 have hln := h.n
 generalize pD : Ev.ext m [.cells [.int .i64 3, .int .i64 4] 1 bn false] = M1 at *
 have h1 : Sn M1 b s p ov l := by rw [<- pD]; exact h.ext _
 have k1 : Kn m M1 b ov ov := by rw [<- pD]; exact Kn.ext ..
 have g1 : M1.get (nb m.next 0) = .cells [.int .i64 3, .int .i64 4] 1 bn false := by rw [<- pD, aK rfl (by simp)]; rfl
 rw [bX (by simp [cG])]
 by_cases hw : (s.drop p).take k ∈ jx
 ·obtain ⟨m2, KW, e2, o2, g2, k2⟩ := uQ h1 (k := 3) (n := k) (num := 0) (by omega) hs (by omega)
  have O8 : run U fJ [.ptr b 0, .int .i64 3, .int .i64 (k : Int), .int .i64 0] M1 = some (.ret (.tuple []) m2) := e2
  have YJ : bA B K xF [.str ((s.drop p).take k)] = some (.bool true) := by rw [Jc, eB hw]
  refine ⟨m2, .inl ⟨hw, ?_, KW, ⟨g2, ?_, ?_, ?_, by omega⟩, k1.trans k2⟩⟩
  ·simp +contextual -implicitDefEqProofs (maxSteps := 1000000) (maxDischargeDepth := 8) only [cG, H2, Tp, pD, g1, SA, UD, YJ, O8, Option.map_none, aq, aa, implies_true, simprocAttr]
  ·have := k2.n; have := h1.lt; omega
  ·rw [ja]; exact o2
  ·rw [ja, List.length_singleton]; omega
 ·have YJ : bA B K xF [.str ((s.drop p).take k)] = some (.bool false) := by rw [Jc, eR hw]
  by_cases h32 : 32 < k
  ·have hc : (32 : Int) < (k : Int) := by omega
   refine ⟨M1, .inr (.inl ⟨hw, h32, ?_, h1, k1⟩)⟩
   simp +contextual -implicitDefEqProofs (maxSteps := 1000000) (maxDischargeDepth := 8) only [cG, H2, Tp, pD, g1, SA, UD, YJ, hc, Option.map_none, aq, aa, implies_true, simprocAttr]
  ·have hc : ¬ (32 : Int) < (k : Int) := by omega
   obtain ⟨m2, KW, e2, o2, g2, k2⟩ := uQ h1 (k := 1) (n := k) (num := 0) (by omega) hs (by omega)
   have O8 : run U fJ [.ptr b 0, .int .i64 1, .int .i64 (k : Int), .int .i64 0] M1 = some (.ret (.tuple []) m2) := e2
   refine ⟨m2, .inr (.inr ⟨hw, h32, ?_, KW, ⟨g2, ?_, ?_, ?_, by omega⟩, k1.trans k2⟩)⟩
   ·simp +contextual -implicitDefEqProofs (maxSteps := 1000000) (maxDischargeDepth := 8) only [cG, H2, Tp, pD, g1, SA, UD, YJ, hc, O8, Option.map_none, aq, aa, implies_true, simprocAttr]
   ·have := k2.n; have := h1.lt; omega
   ·rw [ja]; exact o2
   ·rw [ja, List.length_singleton]; omega
theorem TG {M : Mem} {b t : Nat} {x : Int} (hb : M.get b = .cells [.int .i64 x] 1 t false) : lX M (.slice b 0 1 (some 1)) = some (.fz 0 1 (jB [x])) := by
 have h := mH (m := M) (e := 1) (els := jB [x]) (ty := t) (b := b) (cap := some 1) (ro := false) (by rw [hb]; rfl) (by simp [jB]) (by simp [jB]; rfl) rfl
 exact h
theorem K8 {m : Mem} {b p : Nat} {s : bZ} {ov : EV} {l : List Tok} (h : Sn m b s p ov l) (hs : s.length < 1000000) {c : UInt8} {r : bZ} (hc : s.drop p = c :: r) (oN : eI (cI c) = 1) :
  ∃ m', run U ba [.ptr b 0] m = some (.ret (.int .i64 0) m') /\ Sn m' b s (p + lead er (s.drop p)) ov l /\ Kn m m' b ov ov := by
 have hlen : (s.drop p).length = s.length - p := x9 ..
 have hle := mS er (s.drop p)
 have dO : 0 < (s.drop p).length := by rw [hc]; simp
 have hg := h.g
 have hb := h.lt
 have AP : au (some (.int .i64 (p : Int))) 0 s.length = some p := eJ h.le
 have It : au none s.length s.length = some s.length := rfl
 have hi : idx (s.drop p).length (.int .i64 0) = some 0 := bJ (i := 0) dO
 have h0 : (s.drop p)[0]? = some c := by rw [hc]; rfl
 have xj : bA B K iW [.int .u8 (c.toNat : Int)] = some (.int .i64 1) := by rw [show (c.toNat : Int) = cI c from rfl, pu, oN]
 have Tp : bA B K oL [.str (s.drop p), .fz 2 1 (jB [1])] = some (.int .i64 (lead er (s.drop p) : Int)) := by
  rw [run_eq (by omega) (by simp), Ka]
 have HA := h.le
 have hw : IntKind.i64.wrap ((p : Int) + (lead er (s.drop p) : Int)) = ((p + lead er (s.drop p) : Nat) : Int) := by rw [wrap_i64 (by omega) (by omega)]; omega
 rw [bX (by simp [bj])]
 simp +contextual -implicitDefEqProofs (maxSteps := 1000000) (maxDischargeDepth := 8) only [bj, hg, hb, AP, It, hi, h0, xj, Tp, hw, List.take_length, Option.map_none, aq, aa, implies_true, simprocAttr]
 generalize ti : Mem.mk (nb m.next 11) _ = D1
 have tK : D1.next = nb m.next 11 := by rw [<- ti]
 have EM : ∀ c, c < m.next -> D1.get c = m.get c := fun c hc => by
  rw [<- ti];exact (aL (m := Mem.mk (m.next + 9) (bump m 11).gB) (by show c < m.next + 9; omega)).trans rfl
 have HW : D1.get (nb (m.next + 9) 0) = .cells [.str []] 1 dI false := by
  rw [<- ti];exact (aK (m := Mem.mk (m.next + 9) (bump m 11).gB) rfl (by simp)).trans rfl
 clear ti;have d1b : D1.get b = .cells [.str s, .int .i64 (p : Int), ov] 3 eS false := by rw [EM b hb, hg]
 have iQ : b ≠ nb (m.next + 9) 0 := by unfold nb; omega
 have pI : b < D1.next := by rw [tK]; unfold nb; omega
 have mG : nb (m.next + 9) 0 < D1.next := by rw [tK]; unfold nb; omega
 have HD : m.next <= nb (m.next + 9) 0 := by unfold nb; omega
 generalize nb (m.next + 9) 0 = c0 at *
 simp +contextual -implicitDefEqProofs (maxSteps := 1000000) (maxDischargeDepth := 8) only [HW, d1b, iQ, iQ.symm, pI, mG, AP, It, hi, h0, xj, Tp, hw, List.take_length, Option.map_none, aq, aa, implies_true, simprocAttr]
 generalize TA : Mem.mk (nb D1.next 11) _ = D2
 have PG : D2.next = nb D1.next 11 := by rw [<- TA]
 have WN : ∀ c, c < D1.next -> c ≠ c0 -> D2.get c = D1.get c := fun c hc HD => by
  rw [<- TA];refine (aL (m := Mem.mk (D1.next + 5) (bump (D1.set c0 (.cells [.str (s.drop p)] 1 dI false)) 11).gB) (by show c < D1.next + 5; omega)).trans ?_
  exact az HD
 have d2g : D2.get (nb (D1.next + 5) 0) = .cells [.int .i64 1] 1 bn false := by
  rw [<- TA];exact (aK (m := Mem.mk (D1.next + 5) (bump (D1.set c0 (.cells [.str (s.drop p)] 1 dI false)) 11).gB) rfl (by simp)).trans rfl
 clear TA;have d2b : D2.get b = .cells [.str s, .int .i64 (p : Int), ov] 3 eS false := by rw [WN b pI iQ, d1b]
 have hf := TG d2g
 have tf : b < D2.next := by rw [PG]; unfold nb; omega
 simp +contextual -implicitDefEqProofs (maxSteps := 1000000) (maxDischargeDepth := 8) only [d2b, tf, hf, Tp, hw, aq, aa, implies_true, simprocAttr]
 refine ⟨_, rfl, ?_, ?_⟩
 ·refine ⟨by rw [bK], by rw [cf]; exact tf, ?_, by have := h.n; omega, by omega⟩
  refine h.o.gF (by rw [cf, PG, tK]; unfold nb; omega) fun c hc nv _ => ?_
  rw [az (by omega), WN c (by rw [tK]; unfold nb; omega) (by omega), EM c hc]
 ·refine ⟨by rw [cf, PG, tK]; unfold nb; omega, fun c hc VM ho => ?_, fun c _ _ ho => ho⟩
  rw [az VM, WN c (by rw [tK]; unfold nb; omega) (by omega), EM c hc]
end
end Go.Proofs.YtdiccmapankckaaDoor.Ev
