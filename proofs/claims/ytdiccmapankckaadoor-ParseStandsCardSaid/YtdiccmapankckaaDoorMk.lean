/- WPa11, WRw, PLex2, PPt4, EvLive, EvCard, WPs1. -/
import Derived.LaidMore
import Derived.Lib.LaidTab
import Derived.Test.YtdiccmapankckaaDoorMj
set_option linter.unusedSimpArgs false
set_option linter.unusedVariables false
set_option linter.unusedSectionVars false
set_option linter.defProp false
set_option maxRecDepth 20000
set_option maxHeartbeats 8000000
namespace Go.Proofs.YtdiccmapankckaaDoor.Ev
open Go
section
def uT (l : List Tok) : RS := match oG l (8 * l.length + 5) (.ve []) .start with
 | some (s, r) => s.put (nd 26 r 0 [] 0)
 | none => .start
def MN (s : RS) : EV := if s.fe = 0 then .tuple [.fz 0 5 (oV s.tree), .agg [.int .i64 0, .int .i64 0]] else .tuple [.ae, .agg [.int .i64 s.fe, .int .i64 s.fp]]
def La (s : cm) : EV := match xT s with
 | .ok l => MN (uT l)
 | .bad e p => .tuple [.ae, .agg [.int .i64 (e : Int), .int .i64 (p : Int)]]
def Sg (l : List Tok) (tg k : Nat) : Prop := ∀ (out : List Int) (v pv : EV) (st : RS) (fr : Fr) (m : Mem) (b n0 bx : Nat) (P : Nat -> Prop) (s1 : RS) (r : List Int) (X : Option Out), eJ l st -> 8 * (l.length - st.pos) + (PC.ve out).bn < k -> out.length <= st.pos -> oG l k (.ve out) st = some (s1, r) -> Rd m b tg l st (Pv P v) -> (∀ c, P c -> c < n0) -> n0 <= m.next -> ja m v (is out) out.length 1 n0 -> (out = [] -> v = .ae) -> m.get bx = .cells [.ptr b 0] 1 ah false -> P bx -> fr.get 3 = pv -> fr.get 6 = .ptr bx 0 -> fr.get 7 = v -> fr.defers = [] -> exec U (.loop bE) fr m = X -> ∃ fr' m' v', X = some (.exit 0 fr' m') /\ fr'.get 3 = pv /\ fr'.get 6 = .ptr bx 0 /\ fr'.get 7 = v' /\ fr'.defers = [] /\ ja m' v' (is r) r.length 1 n0 /\ Rd m' b tg l s1 (Pv P v') /\ Kp m m' P /\ (r = [] -> v' = .ae)
theorem RP {l : List Tok} {tg : Nat} (ht : bT l) {k : Nat} (ih : Sg l tg k) : Sg l tg (k + 1) := by
 intro out v pv st fr m b n0 bx P s1 r X o hk hm bO h hP pR cF hz qA px h3 h6 h7 hd hX
 have hlen : ∀ M, BS v M = some (.val (.int .i64 (out.length : Int)) M) := fun M => by
  rcases cF.is with ⟨rfl, q, _⟩ | ⟨kb, cap, t, rfl, _⟩
  ·rw [q]; rfl
  ·rfl
 have hF := xM (b := b) (tg := tg) (l := l) (st := st) (P := Pv P v)
 have hT := jR (b := b) (tg := tg) (P := Pv P v) ht o
 have hI := Vl (b := b) (tg := tg) (P := Pv P v) ht o
 have nx := h.mB (.inl px)
 rw [eS] at hX;generalize hL : exec U (.loop bE) = L at hX
 have JP : (((st.now l).kind : Int) = 0) = ((st.now l).kind = 0) := propext (by omega)
 have V2 : ((out.length : Int) = 200) = (out.length = 200) := propext (by omega)
 simp only [oG] at bO;by_cases hf : st.fe = 0
 ·by_cases SD : (st.now l).kind = 0
  ·rw [if_neg (fun q => q.2 SD)] at bO
   obtain ⟨rfl, rfl⟩ := eQ _ _ _ _ ▸ pN bO
   simp +contextual -implicitDefEqProofs (maxSteps := 1000000) (maxDischargeDepth := 8) only [bE, h3, h6, h7, hd, qA, nx, hF, hT, h, hf, JP, SD, gl, fG, ak, aq, aa, implies_true, simprocAttr] at hX
   subst hX;exact ⟨_, _, v, rfl, by simp only [h3, ao, Nat.reduceBEq ], by simp only [h6, ao, Nat.reduceBEq ], by simp only [h7, ao, Nat.reduceBEq ], by simp only [hd, ao, Nat.reduceBEq ], cF.kp ((aU h).trans (aU (ak h))) fun c hc => .inr hc, ak (ak h), ((aU h).trans (aU (ak h))).bQ fun c hc => .inl hc, hz⟩
  ·rw [if_pos ⟨hf, SD⟩] at bO
   by_cases hc : out.length = 200 /\ st.is l BK
   ·rw [if_pos hc] at bO
    obtain ⟨c1, c2⟩ := hc
    have c2' : st.is l [102, 110] := c2
    simp +contextual -implicitDefEqProofs (maxSteps := 1000000) (maxDischargeDepth := 8) only [bE, h3, h6, h7, hd, qA, nx, hF, hT, hI, h, hf, JP, SD, hlen, V2, c1, c2', gl, fG, ak, aq, aa, implies_true, simprocAttr] at hX
    generalize hC : run U ed _ _ = C at hX
    have rb := ak (k := 19) (ak (k := 7) (ak (k := 20) (ak (k := 19) (ak (k := 2) h))))
    have kb := ((((aU (k := 2) h).trans (aU (k := 19) (ak (k := 2) h))).trans (aU (k := 20) (ak (k := 19) (ak (k := 2) h)))).trans (aU (k := 7) (ak (k := 20) (ak (k := 19) (ak (k := 2) h))))).trans (aU (k := 19) (ak (k := 7) (ak (k := 20) (ak (k := 19) (ak (k := 2) h)))))
    obtain ⟨m2, rfl, r2, k2⟩ := J5 rb hC
    clear hC;have g2 : Gr l st (st.fail 3 (st.now l).pos) := .fail o.p (by decide)
    have p0 : (st.fail 3 (st.now l).pos).pos = st.pos := c9.1
    have GD := kb.trans k2
    generalize st.fail 3 (st.now l).pos = S0 at *
    have o2 := g2.ok o
    have PV := (GD.k _ (.inl px)).trans qA
    have Ul := r2.mB (.inl px)
    have UA : 8 * (l.length - S0.pos) + PC.func.bn < k := by rw [p0]; simp only [PC.bn] at *; omega
    obtain ⟨s2, rr, e, g, a, mo⟩ := lf ht k .func S0 o2.p UA trivial
    obtain ⟨y, rfl⟩ := jV a
    simp only [e, Option.bind_some] at bO;have o3 := g.ok o2
    obtain ⟨k', rfl⟩ : ∃ k', k = k' + 1 := ⟨k - 1, by simp only [PC.bn] at *; omega⟩
    simp +contextual -implicitDefEqProofs (maxSteps := 1000000) (maxDischargeDepth := 8) only [h3, h6, h7, hd, PV, Ul, aq, aa, implies_true, simprocAttr] at hX
    generalize hC : run U fO _ _ = C at hX
    obtain ⟨m3, rfl, r3, k3⟩ := EW ht o2 UA e r2 hC
    clear hC;have Nb := (GD.trans k3).bQ (Q := P) fun c hc => .inl hc
    have mE := cF.kp (GD.trans k3) fun c hc => .inr hc
    obtain ⟨v2, M2, ha, nI, r4, k4⟩ := rG (x := y) r3 hP (pU pR Nb.n) mE (by have := o.p; have := ht.lt; omega)
    have CO := Nb.trans k4
    have UG := (CO.k _ px).trans qA
    simp +contextual -implicitDefEqProofs (maxSteps := 1000000) (maxDischargeDepth := 8) only [ha, h3, h6, List.headD_cons, aq, aa, implies_true, simprocAttr] at hX
    subst hL;by_cases BW : s2.fe = 0
    ·rw [if_pos BW] at bO
     have bg := mo BW
     have IN := g.pl
     obtain ⟨fr', m', v', rfl, q3, q6, q7, qd, qo, qr, qk, qz⟩ := ih (out ++ [y]) v2 pv _ _ _ _ n0 bx P _ _ _ o3 (by simp only [PC.bn] at *; omega) (by rw [kL, List.length_singleton]; omega) bO r4 hP (pU pR CO.n) nI (by simp) UG px (by simp only [h3, ao, Nat.reduceBEq ]) (by simp only [h6, ao, Nat.reduceBEq ]) (by simp only [ao, Nat.reduceBEq ]) (by simp only [hd, ao, Nat.reduceBEq ]) hX
     exact ⟨fr', m', v', rfl, q3, q6, q7, qd, qo, qr, CO.trans qk, qz⟩
    ·rw [if_neg BW] at bO
     obtain ⟨rfl, rfl⟩ := eQ _ _ _ _ ▸ pN bO
     have Xd := r4.mB (.inl px)
     have X3 := xM (b := b) (tg := tg) (l := l) (st := s2) (P := Pv P v2)
     rw [eS] at hX;generalize exec U (.loop bE) = L at hX
     simp +contextual -implicitDefEqProofs (maxSteps := 1000000) (maxDischargeDepth := 8) only [bE, h3, h6, hd, UG, Xd, X3, r4, BW, fG, aq, aa, implies_true, simprocAttr] at hX
     subst hX;exact ⟨_, _, v2, rfl, by simp only [h3, ao, Nat.reduceBEq ], by simp only [h6, ao, Nat.reduceBEq ], by simp only [ao, Nat.reduceBEq ], by simp only [hd, ao, Nat.reduceBEq ], nI.kp (aU r4) fun c hc => .inr hc, ak r4, CO.trans ((aU r4).bQ fun c hc => .inl hc), by simp⟩
   ·rw [if_neg hc] at bO
    by_cases c1 : out.length = 200
    ·have c2' : ¬ st.is l [102, 110] := fun q => hc ⟨c1, q⟩
     simp +contextual -implicitDefEqProofs (maxSteps := 1000000) (maxDischargeDepth := 8) only [bE, h3, h6, h7, hd, qA, nx, hF, hT, hI, h, hf, JP, SD, hlen, V2, c1, c2', gl, fG, ak, aq, aa, implies_true, simprocAttr] at hX
     have r2 := ak (k := 20) (ak (k := 19) (ak (k := 2) h))
     have GD := ((aU (k := 2) h).trans (aU (k := 19) (ak (k := 2) h))).trans (aU (k := 20) (ak (k := 19) (ak (k := 2) h)))
     have g2 : Gr l st st := .refl o.p
     have p0 : st.pos = st.pos := rfl
     generalize bump (bump (bump m 2) 19) 20 = m2 at *
     have o2 := o
     have PV := (GD.k _ (.inl px)).trans qA
     have Ul := r2.mB (.inl px)
     have UA : 8 * (l.length - st.pos) + PC.func.bn < k := by simp only [PC.bn] at *; omega
     obtain ⟨s2, rr, e, g, a, mo⟩ := lf ht k .func st o2.p UA trivial
     obtain ⟨y, rfl⟩ := jV a
     simp only [e, Option.bind_some] at bO;have o3 := g.ok o2
     obtain ⟨k', rfl⟩ : ∃ k', k = k' + 1 := ⟨k - 1, by simp only [PC.bn] at *; omega⟩
     generalize hC : run U fO _ _ = C at hX
     obtain ⟨m3, rfl, r3, k3⟩ := EW ht o2 UA e r2 hC
     clear hC;have Nb := (GD.trans k3).bQ (Q := P) fun c hc => .inl hc
     have mE := cF.kp (GD.trans k3) fun c hc => .inr hc
     obtain ⟨v2, M2, ha, nI, r4, k4⟩ := rG (x := y) r3 hP (pU pR Nb.n) mE (by have := o.p; have := ht.lt; omega)
     have CO := Nb.trans k4
     have UG := (CO.k _ px).trans qA
     simp +contextual -implicitDefEqProofs (maxSteps := 1000000) (maxDischargeDepth := 8) only [ha, h3, h6, List.headD_cons, aq, aa, implies_true, simprocAttr] at hX
     subst hL;by_cases BW : s2.fe = 0
     ·rw [if_pos BW] at bO
      have bg := mo BW
      have IN := g.pl
      obtain ⟨fr', m', v', rfl, q3, q6, q7, qd, qo, qr, qk, qz⟩ := ih (out ++ [y]) v2 pv _ _ _ _ n0 bx P _ _ _ o3 (by simp only [PC.bn] at *; omega) (by rw [kL, List.length_singleton]; omega) bO r4 hP (pU pR CO.n) nI (by simp) UG px (by simp only [h3, ao, Nat.reduceBEq ]) (by simp only [h6, ao, Nat.reduceBEq ]) (by simp only [ao, Nat.reduceBEq ]) (by simp only [hd, ao, Nat.reduceBEq ]) hX
      exact ⟨fr', m', v', rfl, q3, q6, q7, qd, qo, qr, CO.trans qk, qz⟩
     ·rw [if_neg BW] at bO
      obtain ⟨rfl, rfl⟩ := eQ _ _ _ _ ▸ pN bO
      have Xd := r4.mB (.inl px)
      have X3 := xM (b := b) (tg := tg) (l := l) (st := s2) (P := Pv P v2)
      rw [eS] at hX;generalize exec U (.loop bE) = L at hX
      simp +contextual -implicitDefEqProofs (maxSteps := 1000000) (maxDischargeDepth := 8) only [bE, h3, h6, hd, UG, Xd, X3, r4, BW, fG, aq, aa, implies_true, simprocAttr] at hX
      subst hX;exact ⟨_, _, v2, rfl, by simp only [h3, ao, Nat.reduceBEq ], by simp only [h6, ao, Nat.reduceBEq ], by simp only [ao, Nat.reduceBEq ], by simp only [hd, ao, Nat.reduceBEq ], nI.kp (aU r4) fun c hc => .inr hc, ak r4, CO.trans ((aU r4).bQ fun c hc => .inl hc), by simp⟩
    ·have c1 := c1
     simp +contextual -implicitDefEqProofs (maxSteps := 1000000) (maxDischargeDepth := 8) only [bE, h3, h6, h7, hd, qA, nx, hF, hT, hI, h, hf, JP, SD, hlen, V2, c1, gl, fG, ak, aq, aa, implies_true, simprocAttr] at hX
     have r2 := ak (k := 19) (ak (k := 2) h)
     have GD := (aU (k := 2) h).trans (aU (k := 19) (ak (k := 2) h))
     have g2 : Gr l st st := .refl o.p
     have p0 : st.pos = st.pos := rfl
     generalize bump (bump m 2) 19 = m2 at *
     have o2 := o
     have PV := (GD.k _ (.inl px)).trans qA
     have Ul := r2.mB (.inl px)
     have UA : 8 * (l.length - st.pos) + PC.func.bn < k := by simp only [PC.bn] at *; omega
     obtain ⟨s2, rr, e, g, a, mo⟩ := lf ht k .func st o2.p UA trivial
     obtain ⟨y, rfl⟩ := jV a
     simp only [e, Option.bind_some] at bO;have o3 := g.ok o2
     obtain ⟨k', rfl⟩ : ∃ k', k = k' + 1 := ⟨k - 1, by simp only [PC.bn] at *; omega⟩
     generalize hC : run U fO _ _ = C at hX
     obtain ⟨m3, rfl, r3, k3⟩ := EW ht o2 UA e r2 hC
     clear hC;have Nb := (GD.trans k3).bQ (Q := P) fun c hc => .inl hc
     have mE := cF.kp (GD.trans k3) fun c hc => .inr hc
     obtain ⟨v2, M2, ha, nI, r4, k4⟩ := rG (x := y) r3 hP (pU pR Nb.n) mE (by have := o.p; have := ht.lt; omega)
     have CO := Nb.trans k4
     have UG := (CO.k _ px).trans qA
     simp +contextual -implicitDefEqProofs (maxSteps := 1000000) (maxDischargeDepth := 8) only [ha, h3, h6, List.headD_cons, aq, aa, implies_true, simprocAttr] at hX
     subst hL;by_cases BW : s2.fe = 0
     ·rw [if_pos BW] at bO
      have bg := mo BW
      have IN := g.pl
      obtain ⟨fr', m', v', rfl, q3, q6, q7, qd, qo, qr, qk, qz⟩ := ih (out ++ [y]) v2 pv _ _ _ _ n0 bx P _ _ _ o3 (by simp only [PC.bn] at *; omega) (by rw [kL, List.length_singleton]; omega) bO r4 hP (pU pR CO.n) nI (by simp) UG px (by simp only [h3, ao, Nat.reduceBEq ]) (by simp only [h6, ao, Nat.reduceBEq ]) (by simp only [ao, Nat.reduceBEq ]) (by simp only [hd, ao, Nat.reduceBEq ]) hX
      exact ⟨fr', m', v', rfl, q3, q6, q7, qd, qo, qr, CO.trans qk, qz⟩
     ·rw [if_neg BW] at bO
      obtain ⟨rfl, rfl⟩ := eQ _ _ _ _ ▸ pN bO
      have Xd := r4.mB (.inl px)
      have X3 := xM (b := b) (tg := tg) (l := l) (st := s2) (P := Pv P v2)
      rw [eS] at hX;generalize exec U (.loop bE) = L at hX
      simp +contextual -implicitDefEqProofs (maxSteps := 1000000) (maxDischargeDepth := 8) only [bE, h3, h6, hd, UG, Xd, X3, r4, BW, fG, aq, aa, implies_true, simprocAttr] at hX
      subst hX;exact ⟨_, _, v2, rfl, by simp only [h3, ao, Nat.reduceBEq ], by simp only [h6, ao, Nat.reduceBEq ], by simp only [ao, Nat.reduceBEq ], by simp only [hd, ao, Nat.reduceBEq ], nI.kp (aU r4) fun c hc => .inr hc, ak r4, CO.trans ((aU r4).bQ fun c hc => .inl hc), by simp⟩
 ·rw [if_neg (fun q => hf q.1)] at bO
  obtain ⟨rfl, rfl⟩ := eQ _ _ _ _ ▸ pN bO
  simp +contextual -implicitDefEqProofs (maxSteps := 1000000) (maxDischargeDepth := 8) only [bE, h3, h6, h7, hd, qA, nx, hF, hT, h, hf, gl, fG, ak, aq, aa, implies_true, simprocAttr] at hX
  subst hX;exact ⟨_, _, v, rfl, by simp only [h3, ao, Nat.reduceBEq ], by simp only [h6, ao, Nat.reduceBEq ], by simp only [h7, ao, Nat.reduceBEq ], by simp only [hd, ao, Nat.reduceBEq ], cF.kp (aU h) fun c hc => .inr hc, ak h, (aU h).bQ fun c hc => .inl hc, hz⟩
theorem P2 {l : List Tok} {tg : Nat} (ht : bT l) : ∀ k, Sg l tg k := by
 intro k
 induction k with
 | zero => exact fun _ _ _ _ _ _ _ _ _ _ _ _ _ _ q => absurd q (by omega)
 | succ k ih => exact RP ht ih
theorem OF {s : cm} (hs : s.length < 1000000) (ht : ∀ l, xT s = .ok l -> bT l) (he : ∀ e p, xT s = .bad e p -> 0 < e) : bA B K FO [.str s] = some (La s) := by
 have hL := Lz hs
 rw [cO (by simp [eW])]
 generalize hLp : exec (UT B K) (aE.loop bE) = L
 unfold La;generalize hR : xT s = R at *
 cases R with
 | bad e p =>
  simp only
  unfold BR at hL;simp only at hL
  have he : ¬ ((e : Int) = 0) := by have := he e p rfl; omega
  simp +contextual -implicitDefEqProofs (maxSteps := 1000000) (maxDischargeDepth := 8) only [eW, hL, he, aq, aa, implies_true, simprocAttr]
 | ok l =>
  have ht := ht l rfl
  unfold BR at hL;simp only at hL ⊢
  have hN : ∀ M, run U Lx [.fz 0 4 (jP l)] M = some (.ret (.ptr (nb M.next 0) 0) (ext M [.cells (bf 0 l .start .ae .ae) 7 ai false])) := fun M => by
   rw [bZ (by simp [ke])]
   simp +contextual -implicitDefEqProofs (maxSteps := 1000000) (maxDischargeDepth := 8) only [ke, aq, aa, implies_true, simprocAttr]
   rfl
  generalize hX : pO eW.results _ = X
  simp +contextual -implicitDefEqProofs (maxSteps := 1000000) (maxDischargeDepth := 8) only [eW, hL, hN, aq, aa, implies_true, simprocAttr] at hX
  have hn : (bump (ext aQ [.cells [.int .i64 0, .int .i64 0] 2 au false]) 1).next = nb aQ.next 2 := by rw [br, ax, dE]; rfl
  have ga : (bump (ext aQ [.cells [.int .i64 0, .int .i64 0] 2 au false]) 1).get (nb aQ.next 0) = .cells [.int .i64 0, .int .i64 0] 2 au false := by rw [gF, aC rfl (by simp)]; rfl
  generalize bump (ext aQ [.cells [.int .i64 0, .int .i64 0] 2 au false]) 1 = MA at *
  have pR : (ext MA [.cells [.int .i64 0, .int .i64 0] 2 au false, .cells (bf 0 l .start .ae .ae) 7 ai false, .cells [.ptr (nb aQ.next 3) 0] 1 ah false]).next = nb aQ.next 5 := by rw [ax, hn, dE]; rfl
  have g0 : (ext MA [.cells [.int .i64 0, .int .i64 0] 2 au false, .cells (bf 0 l .start .ae .ae) 7 ai false, .cells [.ptr (nb aQ.next 3) 0] 1 ah false]).get (nb aQ.next 0) = .cells [.int .i64 0, .int .i64 0] 2 au false := by rw [aG (by rw [hn]; unfold nb; omega)]; exact ga
  have g3 : (ext MA [.cells [.int .i64 0, .int .i64 0] 2 au false, .cells (bf 0 l .start .ae .ae) 7 ai false, .cells [.ptr (nb aQ.next 3) 0] 1 ah false]).get (nb aQ.next 3) = .cells (bf 0 l .start .ae .ae) 7 ai false := by
   have : (ext MA [.cells [.int .i64 0, .int .i64 0] 2 au false, .cells (bf 0 l .start .ae .ae) 7 ai false, .cells [.ptr (nb aQ.next 3) 0] 1 ah false]).get (nb MA.next 1) = .cells (bf 0 l .start .ae .ae) 7 ai false := by rw [aC rfl (by simp)]; rfl
   rw [hn, dE] at this; exact this
  have g4 : (ext MA [.cells [.int .i64 0, .int .i64 0] 2 au false, .cells (bf 0 l .start .ae .ae) 7 ai false, .cells [.ptr (nb aQ.next 3) 0] 1 ah false]).get (nb aQ.next 4) = .cells [.ptr (nb aQ.next 3) 0] 1 ah false := by
   have : (ext MA [.cells [.int .i64 0, .int .i64 0] 2 au false, .cells (bf 0 l .start .ae .ae) 7 ai false, .cells [.ptr (nb aQ.next 3) 0] 1 ah false]).get (nb MA.next 2) = .cells [.ptr (nb aQ.next 3) 0] 1 ah false := by rw [aC rfl (by simp)]; rfl
   rw [hn, dE] at this; exact this
  generalize ext MA [.cells [.int .i64 0, .int .i64 0] 2 au false, .cells (bf 0 l .start .ae .ae) 7 ai false, .cells [.ptr (nb aQ.next 3) 0] 1 ah false] = M0 at *
  have SG : Fp M0 (nb aQ.next 3) 0 l .start (fun c => c = nb aQ.next 0 \/ c = nb aQ.next 4) .ae .ae [] := by
   refine ⟨g3, by rw [pR]; unfold nb; omega, ⟨.inl ⟨rfl, rfl, rfl⟩, rfl⟩, ⟨.inl ⟨rfl, rfl, rfl⟩, rfl⟩, fun _ _ => gx.nil, rfl, rfl, by simp, ?_, by simp⟩
   rintro c (rfl | rfl)
   ·exact ⟨by rw [pR]; unfold nb; omega, by unfold nb; omega, gx.nil, gx.nil⟩
   ·exact ⟨by rw [pR]; unfold nb; omega, by unfold nb; omega, gx.nil, gx.nil⟩
  have hk : 8 * (l.length - RS.start.pos) + (PC.ve []).bn < 8 * l.length + 5 := by simp only [RS.start, PC.bn]; omega
  obtain ⟨s1, r, e, g, ar, _⟩ := lf ht (8 * l.length + 5) (.ve []) .start (uL ht).p hk (kW _)
  have o1 := g.ok (uL ht)
  have Zo : Rd M0 (nb aQ.next 3) 0 l .start (fun c => c = nb aQ.next 0 \/ c = nb aQ.next 4) := ⟨_, _, _, SG⟩
  generalize hC : exec (UT B K) (aE.loop bE) _ _ = C at hX
  obtain ⟨fr', m1, v, rfl, q3, q6, q7, qd, cF, r1, k1, hz⟩ := P2 ht (8 * l.length + 5) [] .ae (.ptr (nb aQ.next 0) 0) _ _ _ _ M0.next (nb aQ.next 4) (fun c => c = nb aQ.next 0 \/ c = nb aQ.next 4) _ _ _ (uL ht) hk (kW _) e Zo.pv (fun c hc => Zo.mB hc) (eX _) ⟨.inl ⟨rfl, rfl, rfl⟩, rfl⟩ (fun _ => rfl) g4 (.inr rfl) (by simp only [ao, Nat.reduceBEq ]) (by simp only [ao, Nat.reduceBEq ]) (by simp only [ao, Nat.reduceBEq ]) (by simp only [ao, Nat.reduceBEq ]) hC
  clear hC;have hpf : uT l = s1.put (nd 26 r 0 [] 0) := by unfold uT; rw [e]
  rw [hpf];have b1 := (k1.k _ (.inr rfl)).trans g4
  have c1 := (k1.k _ (.inl rfl)).trans g0
  have n1 := r1.mB (.inl (.inr rfl))
  have n2 := r1.mB (.inl (.inl rfl))
  have WA : v.cells = some [v] := by rcases cF.is with ⟨rfl, _⟩ | ⟨_, _, _, rfl, _⟩ <;> rfl
  simp +contextual -implicitDefEqProofs (maxSteps := 1000000) (maxDischargeDepth := 8) only [q3, q6, q7, qd, b1, n1, WA, aq, aa, implies_true, simprocAttr] at hX
  generalize hC : run U aD _ _ = C at hX
  obtain ⟨m2, rfl, r2, k2⟩ := pP (P := fun c => c = nb aQ.next 0 \/ c = nb aQ.next 4) (kids := r) ht o1 r1 (by have : r.length <= s1.pos + 1 := ar; have := o1.p; have := ht.lt; omega) cF.Vf (fun c hc => .inr hc) (fun c hc => ⟨.inl hc, cF.lt (.inr (Zo.mB hc))⟩) hz hC
  clear hC;have b2 := (k2.k _ (.inr rfl)).trans b1
  have c2 := (k2.k _ (.inl rfl)).trans c1
  have n3 := r2.mB (.inr rfl)
  have n4 := r2.mB (.inl rfl)
  have iJ : (s1.put (nd 26 r 0 [] 0)).fe = 0 -> (s1.put (nd 26 r 0 [] 0)).tree ≠ [] := by
   intro q
   have q2 : (s1.pQ (nd 26 r 0 [] 0)).fe = 0 := B9 fun w => by
    unfold RS.put at q; rw [if_neg w] at q; exact w q
   unfold RS.put; rw [if_pos q2]; simp
  have hsm : (s1.put (nd 26 r 0 [] 0)).tree.length < 1000000 := by
   have h1 : (s1.pQ (nd 26 r 0 [] 0)).tree = s1.tree := by
    unfold RS.pQ; split
    ·exact c9.2.2.1
    ·rfl
   have h2 : (s1.put (nd 26 r 0 [] 0)).tree.length <= s1.tree.length + 1 := by
    unfold RS.put; split
    ·simp
    ·rw [h1]; omega
   have := o1.t; have := o1.p; have := ht.lt; omega
  generalize s1.put (nd 26 r 0 [] 0) = s2 at *
  have hF := xM (b := nb aQ.next 3) (tg := 0) (l := l) (st := s2) (P := fun c => c = nb aQ.next 0 \/ c = nb aQ.next 4)
  have hFa := V6 (b := nb aQ.next 3) (tg := 0) (l := l) (st := s2) (P := fun c => c = nb aQ.next 0 \/ c = nb aQ.next 4)
  by_cases jh : s2.fe = 0
  ·simp +contextual -implicitDefEqProofs (maxSteps := 1000000) (maxDischargeDepth := 8) only [q3, q6, q7, qd, b2, n3, hF, r2, jh, gl, ak, aq, aa, implies_true, simprocAttr] at hX
   have RD := ak (k := 2) r2
   have GG : (bump m2 2).get (nb aQ.next 0) = .cells [.int .i64 0, .int .i64 0] 2 au false := c2
   generalize bump m2 2 = m3 at *
   generalize hC : run U ld _ _ = C at hX
   obtain ⟨tv, hv, xs, RD⟩ := RD
   obtain ⟨m5, v5, e5, r5, w5, k5, c5, n5, rfl⟩ := P9 RD (iJ jh) hsm
   obtain rfl := hC.symm.trans e5
   have g5 := (k5.k _ (.inl rfl)).trans GG
   have Xq : c5 ≠ nb aQ.next 0 := by
    have := w5.QK (c := c5) (fun q => q c5 0 n5 none rfl rfl)
    have := (RD.p _ (.inl rfl)).1
    omega
   have hl5 := (r5.p _ (.inl rfl)).1
   have r6 := r5.Qy (c0 := nb aQ.next 0) (.inl rfl) (.cells [.int .i64 0, .int .i64 0] 2 au false)
   have w6 : ja (m5.set (nb aQ.next 0) (.cells [.int .i64 0, .int .i64 0] 2 au false)) (.slice c5 0 n5 none) (IL xs) xs.length 5 0 := w5.Vf.gD (eX _) fun c _ _ ho => aB (by rw [cu ho]; exact Xq)
   have LO : xs ≠ [] := fun q => iJ jh (by rw [<- RD.x, q]; rfl)
   have hz := RQ r6.k w6 LO
   rw [RD.x] at hz;simp +contextual -implicitDefEqProofs (maxSteps := 1000000) (maxDischargeDepth := 8) only [q3, qd, g5, hl5, hz, aq, aa, implies_true, simprocAttr] at hX
   subst hX;simp only [MN, jh, if_true];simp +contextual -implicitDefEqProofs (maxSteps := 1000000) (maxDischargeDepth := 8) only [hz, aq, aa, implies_true, simprocAttr]
  ·simp +contextual -implicitDefEqProofs (maxSteps := 1000000) (maxDischargeDepth := 8) only [q3, q6, q7, qd, b2, n3, c2, n4, hF, hFa, r2, jh, fG, ak, aq, aa, implies_true, simprocAttr] at hX
   subst hX;simp only [MN, jh, if_false];simp +contextual -implicitDefEqProofs (maxSteps := 1000000) (maxDischargeDepth := 8) only [c2, n4, aq, aa, implies_true, simprocAttr]
end
section
def Hg (l : List Nd) : Prop := Ep l /\ kindOf l ((l.length - 1 : Nat) : Int) = 26
theorem Tg {l : List Nd} (h : 0 < l.length) : ∃ d, l[l.length - 1]? = some d /\ kindOf l ((l.length - 1 : Nat) : Int) = d.kind := by
 have hd : l[l.length - 1]? = some l[l.length - 1] := lp (by omega)
 refine ⟨_, hd, ?_⟩
 unfold kindOf;rw [show (((l.length - 1 : Nat) : Int)).toNat = l.length - 1 by omega, hd]; rfl
theorem OA {l : List Nd} {t : Nat} {nl : Bool} (hs : Small l) : bA B K Bu [row nl t 5 (oV l)] = some (bo (Hg l)) := by
 have hlen := hs.len
 rw [cO (by simp [hU])]
 have e := fun t nl => Qr (t := t) (nl := nl) hs
 unfold Hg;by_cases h : Ep l
 ·have hw : IntKind.i64.wrap ((l.length : Int) - 1) = ((l.length - 1 : Nat) : Int) := by have := h.2.1; rw [wrap_i64 (by omega) (by omega)]; omega
  obtain ⟨d, hd, hk⟩ := Tg h.2.1
  have hi : idx l.length (.int .i64 ((l.length - 1 : Nat) : Int)) = some (l.length - 1) := bi (by have := h.2.1; omega)
  simp +contextual -implicitDefEqProofs (maxSteps := 1000000) (maxDischargeDepth := 8) only [hU, e, h, hw, hk, hi, hd, lQ, jt, Nd.cells, gl, aq, aa, implies_true, simprocAttr]
 ·simp +contextual -implicitDefEqProofs (maxSteps := 1000000) (maxDischargeDepth := 8) only [hU, e, h, fG, aq, aa, implies_true, simprocAttr]
end
section
theorem Jy {s : cm} {l : List Tok} (h : xT s = .ok l) : bT l /\ (∀ t ∈ l, t.kind = 1 -> t.text ≠ [] /\ nC t.text) /\ l.length <= s.length + 1 := by
 unfold xT at h
 split at h
 ·cases h
 ·rename_i h6
  cases hr : jd (s.length + 1) (s.drop (cW false s)) (cW false s) with
  | bad e q => rw [hr] at h; cases h
  | ok l2 =>
   rw [hr] at h;simp only [AE.map, AE.ok.injEq] at h;obtain ⟨i1, i2⟩ := D7 _ _ _ _ hr
   rw [uE] at i1;have hlen : l.length = l2.length + 1 := by rw [<- h, kL]; rfl
   refine ⟨⟨by omega, by omega, ?_⟩, fun t ht hk => ?_, by omega⟩
   ·rw [hlen, List.getD_eq_getElem?_getD, Nat.add_sub_cancel, <- h, FF (eX _), Nat.sub_self]; rfl
   ·rw [<- h] at ht
    rcases uD.1 ht with ht | ht
    ·exact i2 t ht hk
    ·rw [yl.1 ht] at hk; cases hk
end
section
theorem TI.mono {l l' : List Tok} {st : RS} (h : TI l st) (hs : ∀ t ∈ l, t ∈ l') : TI l' st :=
 ⟨fun q => ⟨(h.t q).lt, (h.t q).hl, (h.t q).hh⟩, fun q => by obtain ⟨t, a, b⟩ := h.f q; exact ⟨t, hs t a, b⟩⟩
theorem PP.mono {l l' : List Tok} {st s1 : RS} {r : List Int} (h : PP l st s1 r) (hs : ∀ t ∈ l, t ∈ l') : PP l' st s1 r := by
 refine ⟨h.inv.mono hs, fun q => ?_⟩
 obtain ⟨a, new, b, c, d⟩ := h.ok q
 exact ⟨a, new, b, fun e he => ⟨(c e he).own, (c e he).kids, by obtain ⟨t, x, y⟩ := (c e he).pos; exact ⟨t, hs t x, y⟩⟩, d⟩
theorem Qa {l : List Tok} : TI l .start := ⟨fun _ => ⟨fun i d h => absurd h (by simp [RS.start]), rfl, fun i h => absurd h (by simp [RS.start])⟩, fun q => absurd rfl q⟩
structure Prg (l : List Tok) (s : RS) : Prop where
 whole : Hg s.tree
 pos : ∀ d ∈ s.tree, d.pos = 0 \/ ∃ t ∈ l, d.pos = (t.pos : Int)
 small : s.tree.length <= l.length
theorem S4 {l : List Tok} (ht : bT l) (hg : ∀ t ∈ l, t.kind = 1 -> t.text ≠ [] /\ nC t.text) : ((uT l).fe = 0 -> Prg l (uT l)) /\ ((uT l).fe ≠ 0 -> (uT l).fp = 0 \/ ∃ t ∈ l, (uT l).fp = (t.pos : Int)) := by
 have hk : 8 * (l.length - RS.start.pos) + (PC.ve []).bn < 8 * l.length + 5 := by simp only [RS.start, PC.bn]; omega
 obtain ⟨s1, r, e, g, ar, _⟩ := lf ht (8 * l.length + 5) (.ve []) .start (uL ht).p hk (kW _)
 have o1 := g.ok (uL ht)
 obtain ⟨_, r', u7, pp, kk⟩ := V3 ht hg _ _ _ _ _ e ht.pos Qa (kW _)
 rw [List.nil_append] at u7
 subst u7
 have hpf : uT l = s1.put (nd 26 r 0 [] 0) := by unfold uT; rw [e]
 rw [hpf];obtain ⟨q1, q2⟩ := (pp.mono (l' := ⟨0, [], 0, 0⟩ :: l) fun t h => AA _ h).put (d := nd 26 r 0 [] 0) ⟨⟨0, [], 0, 0⟩, by simp, rfl⟩ (fun q => ⟨kZ (l := l) (p := 0) ⟨by decide, by decide⟩ (by decide) (fun q => absurd rfl q) rfl, O2 (fun x hx => ((kk q).1 x hx).2.2) (kk q).2⟩) (fun a => rfl)
 have pos' : ∀ {x : Int}, (∃ t ∈ (⟨0, [], 0, 0⟩ : Tok) :: l, x = (t.pos : Int)) -> x = 0 \/ ∃ t ∈ l, x = (t.pos : Int) := by
  rintro x ⟨t, h1, h2⟩
  rcases o6.1 h1 with rfl | h1
  ·exact .inl h2
  ·exact .inr ⟨t, h1, h2⟩
 refine ⟨fun q => ?_, fun q => pos' (q1.inv.f q)⟩
 have q0 : (s1.pQ (nd 26 r 0 [] 0)).fe = 0 := B9 fun w => by
  unfold RS.put at q; rw [if_neg w] at q; exact w q
 have hR : s1.iI (nd 26 r 0 [] 0) = (s1.tree.length : Int) := if_pos q0
 have hT : (s1.put (nd 26 r 0 [] 0)).tree = s1.tree ++ [nd 26 r 0 [] 0] := by unfold RS.put; rw [if_pos q0]
 have hH : ∀ x ∈ (s1.put (nd 26 r 0 [] 0)).high, x <= 200 := by
  unfold RS.put; rw [if_pos q0]
  intro x hx
  rcases uD.1 hx with hx | hx
  ·have : (s1.pQ (nd 26 r 0 [] 0)).high = s1.high := by
    unfold RS.pQ; split
    ·exact c9.2.2.2
    ·rfl
   exact o1.h x hx
  ·rw [yl.1 hx]
   unfold RS.pQ at q0
   split at q0
   ·exact absurd q0 (ey (by decide))
   ·omega
 obtain ⟨_, new, hn, dn, hc⟩ := q1.ok q
 have tr := q1.inv.t q
 have kx := (q2 q).2
 rw [hR] at hc kx;have hlen : (s1.put (nd 26 r 0 [] 0)).tree.length = s1.tree.length + 1 := by rw [hT, kL]; rfl
 generalize s1.put (nd 26 r 0 [] 0) = s2 at *
 simp only [RS.start, List.nil_append] at hn;have hc : ∀ a, E8 s2.tree a + [(s1.tree.length : Int)].count a = JJ 0 s2.tree.length a := fun a => by
  have := hc a; rw [<- hn] at this; exact this
 have perm : (gW s2.tree ++ [(s1.tree.length : Int)]).Perm ((List.range s2.tree.length).map (fun i : Nat => (i : Int))) := List.perm_iff_count.2 fun a => by
  rw [List.count_append, count_range]; exact hc a
 have SC := perm.length_eq
 rw [kL, List.length_singleton, List.length_map, List.length_range] at SC;have hnd : (gW s2.tree).Nodup := by
  have h1 : ((List.range s2.tree.length).map (fun i : Nat => (i : Int))).Nodup := List.pairwise_map.2 ((List.nodup_range (n := s2.tree.length)).imp fun h q => h (by omega))
  exact (List.nodup_append.1 (perm.nodup_iff.2 h1)).1
 have dn : ∀ d ∈ s2.tree, IE (⟨0, [], 0, 0⟩ :: l) s2.tree d := by rw [hn] at dn ⊢; exact dn
 refine ⟨⟨⟨⟨tr.lt, hnd, fun d hd => ⟨(dn d hd).own, (dn d hd).kids⟩⟩, by omega, by omega, ?_⟩, ?_⟩, fun d hd => pos' (dn d hd).pos, ?_⟩
 ·exact hH _ (List.mem_of_getElem? (tr.hh (s2.tree.length - 1) (by omega)))
 ·have := kx.2.2
  rw [hlen, Nat.add_sub_cancel]; exact this
 ·have := o1.t; have := o1.p; omega
theorem Prg.sm {l : List Tok} {s : RS} (h : Prg l s) (hl : l.length < 100000) : Small s.tree where
 len := by have := h.small; omega
 kids d hd := by
  have h1 := (JA hd).length_le
  have h2 := h.whole.1.2.2.1
  have := h.small; omega
 s d hd := by
  by_cases q : d.s = []
  ·rw [q]; decide
  ·have := (h.whole.1.1.2.2 d hd).1.2.1
   have hn : nC d.s := B9 fun w => this ⟨q, w⟩
   have := hn.2.2.1; omega
end
section
def Sj (m : Mem) : Prop := ∀ b cs e t ro, m.get b = .cells cs e t ro -> b < m.next
theorem in_live {n0 : Nat} {bs : List ux} (hl : (∀ p ∈ globs, p.1 < n0) /\ ∀ g l, tabl g = some l -> g < n0) : Sj (gP n0 bs) := by
 intro b cs e t ro h
 refine B9 fun q => ?_
 have : (gP n0 bs).next = n0 + bs.length := rfl
 rw [EJ hl (by omega)] at h
 cases h
end
section
open Go Go.Deep
def GFact (w : World) (g : Nat) (l : List (List UInt8)) : Prop :=
 ∃ (arr : Array Value) (e : TypeId) (fz : Nat × Nat) (dj off cap : Nat) (Fk : Array Value) (e2 : TypeId) (Yb : Nat × Nat),
  w.heap[g]? = some (.cells arr e fz) /\ arr.toList = [.slice (some ⟨dj, off, none⟩) l.length cap] /\ l.length <= cap /\
  w.heap[dj]? = some (.cells Fk e2 Yb) /\ off + l.length <= Fk.size /\ ∀ (j : Nat) (s : List UInt8), l[j]? = some s -> ∃ b, Fk[off + j]? = some (.string b) /\ b.data.toList = s
theorem gfact_of {H : Type} {enc : TypeId × Value -> H} {P : Program} {w : World} {base : Nat} {sp : Nat -> Bool} {held : Bool} {g : Nat} {t e : TypeId} {name : String} {l : List (List UInt8)} {fuel : Nat} {p : List MemPlace} {cs : Array Value} {D : DataW H} (iJ : l ≠ []) (hD : D = .slice (l.map fun s => .lit (.string s)) [])
  (hg : P.globalNamed name = some g) (ht : P.underlying t = some (.slice e)) (hc : P.cellsOf e = 1) (he : P.underlying e = some .string) (hv : w.var? P name = some cs)
  (hd : DataW.trod enc P w base sp held fuel t cs.toList = some (D, p)) : GFact w g l := by
 subst hD;obtain ⟨a, cap, h1, h2, h3⟩ := open_row ht hc hd
 rw [List.length_map] at h1 h2;have JU : ∀ i s, l[i]? = some s -> ∃ b, w.cell? (a.add i) = some (.string b) /\ b.data.toList = s := by
  intro i s hs
  obtain ⟨v, n, q, hv1, Vq⟩ := h3 i (.lit (.string s)) (by rw [List.getElem?_map, hs]; rfl)
  obtain ⟨b, hb, hx, _⟩ := DataW.trod_string he Vq
  simp only [List.cons.injEq, and_true] at hb;subst hb;refine ⟨b, hv1, ?_⟩
  simp only [eQ, DataW.lit.injEq, Lit.string.injEq] at hx;exact hx.1.symm
 have dD : 0 < l.length := List.length_pos_iff.2 iJ
 obtain ⟨dj, off, Fk, e2, Yb, rfl, rV⟩ : ∃ dj off arr ty fz, a = ⟨dj, off, none⟩ /\ w.heap[dj]? = some (.cells arr ty fz) := by
  obtain ⟨b, hv, _⟩ := JU 0 l[0] (lp dD)
  have hv : w.cell? a = some (.string b) := hv
  obtain ⟨dj, off, spot⟩ := a
  unfold World.cell? at hv
  split at hv
  ·rename_i c t z hh
   cases spot with
   | none => exact ⟨dj, off, c, t, z, rfl, hh⟩
   | some x => simp at hv
  ·cases hv
 have PU : ∀ n, w.cell? ⟨dj, off + n, none⟩ = Fk[off + n]? := fun n => by unfold World.cell?; simp [rV]
 have ma : ∀ (j : Nat) (s : List UInt8), l[j]? = some s -> ∃ b, Fk[off + j]? = some (.string b) /\ b.data.toList = s := by
  intro j s hs
  obtain ⟨b, hb, XY⟩ := JU j s hs
  rw [CM, PU] at hb;exact ⟨b, hb, XY⟩
 have hle : off + l.length <= Fk.size := by
  obtain ⟨b, hb, _⟩ := ma (l.length - 1) _ (lp (by omega))
  have := (Array.getElem?_eq_some_iff.1 hb).1
  omega
 unfold World.var? at hv
 rw [hg] at hv;simp only [Option.bind_some] at hv
 split at hv
 ·rename_i c t' z hh
  cases hv
  exact ⟨_, _, _, dj, off, cap, Fk, e2, Yb, hh, h1, h2, rV, hle, ma⟩
 ·cases hv
def adK (w : World) (g : Nat) (l : List (List UInt8)) (B : ux) : Prop := B.cs = l.map .str /\ B.esz = 1 /\
 (∃ (arr : Array Value) (e : TypeId) (fz : Nat × Nat) (cap : Nat), w.heap[g]? = some (.cells arr e fz) /\ arr.toList = [.slice (some ⟨B.dj, B.off, none⟩) l.length cap] /\ l.length <= cap) /\
 ∃ (arr : Array Value) (e : TypeId) (fz : Nat × Nat), w.heap[B.dj]? = some (.cells arr e fz) /\ arr.size = B.total /\ B.off + l.length <= B.total /\ ∀ (j : Nat) (s : List UInt8), l[j]? = some s -> ∃ b, arr[B.off + j]? = some (.string b) /\ b.data.toList = s
theorem UN {w : World} : ∀ gs : List (Nat × List (List UInt8)), (∀ p ∈ gs, GFact w p.1 p.2) -> ∃ bk : List ux, bk.length = gs.length /\ ∀ (j g : Nat) (l : List (List UInt8)), gs[j]? = some (g, l) -> ∃ B, bk[j]? = some B /\ adK w g l B
 | [], _ => ⟨[], rfl, fun j g l h => by simp at h⟩
 | (g, l) :: gs, h => by
  obtain ⟨bk, h1, h2⟩ := UN gs fun p hp => h p (by simp [hp])
  obtain ⟨arr, e, fz, dj, off, cap, Fk, e2, Yb, a1, a2, a3, a4, a5, a6⟩ := h (g, l) (by simp)
  refine ⟨⟨dj, off, Fk.size, 1, l.map .str⟩ :: bk, by simp [h1], fun j g' l' hj => ?_⟩
  cases j with
  | zero =>
   simp only [List.getElem?_cons_zero, bj, eQ] at hj;obtain ⟨rfl, rfl⟩ := hj
   exact ⟨_, rfl, rfl, rfl, ⟨arr, e, fz, cap, a1, a2, a3⟩, Fk, e2, Yb, a4, rfl, a5, a6⟩
  | succ j => exact h2 j g' l' (by simpa using hj)
theorem args_card {w : World} {n0 : Nat} {ku : List Sh} {vs : List Value} (hg : (∀ p ∈ globs, GFact w p.1 p.2) /\ ∀ g l, tabl g = some l -> TFact w g l) (hl : (∀ p ∈ globs, p.1 < n0) /\ ∀ g l, tabl g = some l -> g < n0) (h : DecVs w n0 ku vs) :
  ∃ (bs : List ux) (es : List EV) (ds : List Dt), We w n0 bs /\ IG w n0 bs /\ fB (kB n0 bs) es vs /\ sr (gP n0 bs) ku es ds := by
 obtain ⟨bk, A2, Pf⟩ := UN globs hg.1
 obtain ⟨k, ds, h⟩ := h
 obtain ⟨es, bs, h1, h2⟩ := h bk.length
 obtain ⟨c1, c2, c3⟩ := h2 (bk ++ bs) (fun i _ => by rw [FF (by omega)]; congr 1; omega)
 refine ⟨bk ++ bs, es, ds, fun i B hB => ?_, ⟨hl, hg.2, fun j g l hj => ?_⟩, c1, c3⟩
 ·by_cases hi : i < bk.length
  ·rw [B8 hi] at hB
   obtain ⟨⟨g, l⟩, RC⟩ : ∃ p, globs[i]? = some p := ⟨_, lp (by omega)⟩
   obtain ⟨B', TK, q1, q2, q3, arr, e, fz, q4, q5, q6, q7⟩ := Pf i g l RC
   rw [hB] at TK; cases TK
   refine ⟨arr, e, fz, q4, q5, by rw [q1, List.length_map]; exact q6, fun j v hj => ?_⟩
   rw [q1, List.getElem?_map] at hj;obtain ⟨s, hs, rfl⟩ := kr.1 hj
   obtain ⟨b, hb, rfl⟩ := q7 j s hs
   exact ⟨_, hb, .str _, rfl⟩
  ·rw [FF (by omega)] at hB
   exact c2 _ B hB
 ·obtain ⟨B, hB, q1, q2, ⟨arr, e, fz, cap, q3, q4, q5⟩, _⟩ := Pf j g l hj
  have bg := (rn.1 hB).1
  have TK : (bk ++ bs)[j]? = some B := by rw [B8 bg]; exact hB
  have uo : arr.size = 1 := by rw [<- Array.length_toList, q4]; rfl
  exact ⟨⟨arr, e, fz, _, q3, uo, by rw [<- Array.getElem?_toList, q4]; rfl, JF TK rfl rfl q5 fun _ => rfl, rfl⟩, B, TK, q1, q2⟩
theorem KU (l : List (List UInt8)) : (lr l).flatten = l.map .str := by
 induction l with
 | nil => rfl
 | cons s l ih => show (([EV.str s] :: lr l).flatten) = _; rw [List.flatten_cons, ih]; rfl
theorem glob_still {w : World} {n0 : Nat} {bs : List ux} (h : IG w n0 bs) : mX (still (gP n0 bs)) := by
 refine ⟨fun g l hg => ?_, fun g l hg => ?_⟩
 case refine_2 =>
  have bg := h.1.2 g l hg
  have hn : (gP n0 bs).next = n0 + bs.length := rfl
  show (if g < (gP n0 bs).next then some ((gP n0 bs).get g) else none) = _
  rw [if_pos (by rw [hn]; omega), AW bg]
  have hf := tC (b := g) globs 0
  have hgn := (h.2.1 g l hg).1
  unfold FZ at hgn;rw [hgn] at hf;rw [Option.map_eq_none_iff.1 hf, hg]
  rfl
 have hf := tC (b := g) globs 0
 unfold FZ at hg;rw [hg] at hf;obtain ⟨⟨p, l'⟩, hp, zz⟩ := kr.1 hf
 simp only at zz
 subst zz
 have h2 := (zC _ _ hp).2
 rw [Nat.sub_zero] at h2;have bg := h.1.1 _ (List.mem_of_getElem? h2)
 obtain ⟨_, B, hB, q1, q2⟩ := h.2.2 p g l' h2
 have m1 : (gP n0 bs).get g = .cells [.slice (n0 + p) 0 l'.length none] 1 0 true := by rw [AW bg, hp]; rfl
 have m2 : (gP n0 bs).get (n0 + p) = .cells (l'.map .str) 1 0 true := by rw [EK hB, q1, q2]
 have IN := (rn.1 hB).1
 have hn : (gP n0 bs).next = n0 + bs.length := rfl
 have s1 : (still (gP n0 bs)).gX g = some (.cells [.slice (n0 + p) 0 l'.length none] 1 0 true) := by
  show (if g < (gP n0 bs).next then some ((gP n0 bs).get g) else none) = _
  rw [if_pos (by rw [hn]; omega), m1]
 have s2 : (still (gP n0 bs)).gX (n0 + p) = some (.cells (l'.map .str) 1 0 true) := by
  show (if n0 + p < (gP n0 bs).next then some ((gP n0 bs).get (n0 + p)) else none) = _
  rw [if_pos (by rw [hn]; omega), m2]
 have self : ∀ (θ : cK) (x : List (List UInt8)), dZ θ (x.map .str) (x.map .str) := fun θ x => by
  induction x with
  | nil => exact .nil
  | cons s x ih => exact .cons (.str s) ih
 have hlen : (lr l').length = l'.length := by simp [lr]
 refine .fL (.mk (off := 0) s1 (by simp) (by simp) (.cons ?_ .nil)) (by simp) (by simp)
 have := SV.fz (θ := (still (gP n0 bs)).low) (t := 0) (esz := 1) (els := lr l') (b := n0 + p) (off := 0) (cap := none) (.mk s2 (by simp [lr]) (by simp [hlen]) (by
  rw [KU, List.drop_zero, hlen, Nat.mul_one, Gc (by simp)]; exact self _ l')) (.inl rfl) (fun c hc => by cases hc)
 rw [hlen] at this;exact this
end
section
def jS (l : List Tok) : List Int := l.map fun t => (t.pos : Int)
theorem Ec {l : List Tok} {x : Int} (h : x = 0 \/ ∃ t ∈ l, x = (t.pos : Int)) : x ∈ (0 : Int) :: jS l := by
 rcases h with rfl | ⟨t, h1, rfl⟩
 ·simp
 ·exact AA _ (List.mem_map.2 ⟨t, h1, rfl⟩)
theorem Gi {l : List Tok} (hl : l.length < 1000000) {m0 : Mem} {fr : Fr} {v v3 v4 : EV} {lo : Nat} (h3 : fr.get 3 = v3) (h4 : fr.get 4 = v4) (h5 : fr.get 5 = .fz 0 4 (jP l)) (h7 : fr.get 7 = v) (cF : ja m0 v [.int .i64 0] 1 1 lo) (mU : lo <= m0.next) (h8 : fr.get 8 = .int .i64 0) (hd : fr.defers = []) :
  ∃ o, exec U (.loop di) fr m0 = some o /\ ∃ fr' m' v', o = .exit 0 fr' m' /\ fr'.get 3 = v3 /\ fr'.get 4 = v4 /\ fr'.get 7 = v' /\ ja m' v' (is (0 :: jS l)) (l.length + 1) 1 lo /\ m0.next <= m'.next /\ (∀ c, c < lo -> m'.get c = m0.get c) /\ fr'.defers = [] := by
 refine fC (σ := Nat) (fun i fr m => i <= l.length /\ fr.get 3 = v3 /\ fr.get 4 = v4 /\ fr.get 5 = .fz 0 4 (jP l) /\ (∃ v, fr.get 7 = v /\ ja m v (is (0 :: jS (l.take i))) (i + 1) 1 lo) /\ m0.next <= m.next /\ (∀ c, c < lo -> m.get c = m0.get c) /\ fr.get 8 = .int .i64 (i : Int) /\ fr.defers = []) (fun i => l.length - i) _ ?_ 0 fr m0
  ⟨kW _, h3, h4, h5, ⟨v, h7, cF⟩, eX _, fun _ _ => rfl, h8, hd⟩
 rintro i fr m ⟨hi, h3, h4, h5, ⟨v, h7, cF⟩, hn, hk, h8, hd⟩
 generalize hX : exec U di fr m = X
 by_cases bg : i < l.length
 ·have hc : (i : Int) < (l.length : Int) := by omega
  have YT : l[i]? = some l[i] := lp bg
  have hw := bJ (i := i) (by omega)
  generalize ht : l[i] = t at *
  obtain ⟨ha, ho⟩ := fg (e := aP) (cF.ext [.cells [.int .i64 (t.pos : Int)] 1 aP false]) (by rw [ax]; unfold nb; omega) (sW rfl) rfl (by decide) (by unfold room; omega)
  have hg : m.next <= (grow (ext m [.cells [.int .i64 (t.pos : Int)] 1 aP false]) v aP 1 (is (0 :: jS (l.take i)) ++ [.int .i64 (t.pos : Int)])).next := by rw [gu, ax]; unfold nb; omega
  have BU : ∀ c, c < lo -> (grow (ext m [.cells [.int .i64 (t.pos : Int)] 1 aP false]) v aP 1 (is (0 :: jS (l.take i)) ++ [.int .i64 (t.pos : Int)])).get c = m0.get c := fun c hc => by
   rw [iW (by rw [ax]; unfold nb; omega) (cF.lt (.inr hc)), aG (by omega)]; exact hk c hc
  generalize hG : grow _ v aP 1 _ = M2 at ha ho hg BU
  clear hG;rw [ax, dE] at ha ho;simp +contextual -implicitDefEqProofs (maxSteps := 1000000) (maxDischargeDepth := 8) only [di, h3, h4, h5, h7, h8, hd, hc, YT, bg, hw, ha, IW, AL, bi, Tok.cells, aq, aa, implies_true, simprocAttr] at hX
  subst hX;refine dq (i + 1) (by omega) ⟨by omega, by simp only [h3, ao, Nat.reduceBEq ], by simp only [h4, ao, Nat.reduceBEq ], by simp only [h5, ao, Nat.reduceBEq ], ⟨_, by simp only [ao, Nat.reduceBEq ]; rfl, ?_⟩, by omega, BU, by simp only [ao, Nat.reduceBEq ], by simp only [hd, ao, Nat.reduceBEq ]⟩
  have e1 : is (0 :: jS (l.take (i + 1))) = is (0 :: jS (l.take i)) ++ [.int .i64 (t.pos : Int)] := by
   rw [List.take_add_one, YT]; simp [is, jS]
  rw [e1]; exact ho
 ·have hc : ¬ (i : Int) < (l.length : Int) := by omega
  obtain rfl : i = l.length := by omega
  simp +contextual -implicitDefEqProofs (maxSteps := 1000000) (maxDischargeDepth := 8) only [di, h5, h8, hd, hc, AL, aq, aa, implies_true, simprocAttr] at hX
  subst hX;rw [List.take_length] at cF;exact dr ⟨_, _, v, rfl, by simp only [h3, ao, Nat.reduceBEq ], by simp only [h4, ao, Nat.reduceBEq ], by simp only [h7, ao, Nat.reduceBEq ], cF, hn, hk, by simp only [hd, ao, Nat.reduceBEq ]⟩
theorem Ox {L : List Int} (hl : L.length < 1000000000) {ds : List Nd} (CV : ds.length < 1000000) (hp : ∀ d ∈ ds, d.pos ∈ L) {m0 : Mem} {fr : Fr} {v : EV} (h3 : fr.get 3 = .fz 0 5 (oV ds)) (h7 : fr.get 7 = v) (hz : kQ m0 v = some (.fz 0 1 (ints L))) (h9 : fr.get 9 = .int .i64 0) (hd : fr.defers = []) :
  ∃ o, exec U (.loop ej) fr m0 = some o /\ ∃ fr', o = .exit 2 fr' m0 /\ fr'.get 3 = .fz 0 5 (oV ds) /\ fr'.defers = [] := by
 refine fC (σ := Nat) (fun i fr m => m = m0 /\ i <= ds.length /\ fr.get 3 = .fz 0 5 (oV ds) /\ fr.get 7 = v /\ fr.get 9 = .int .i64 (i : Int) /\ fr.defers = []) (fun i => ds.length - i) _ ?_ 0 fr m0
  ⟨rfl, kW _, h3, h7, h9, hd⟩
 rintro i fr m ⟨rfl, hi, h3, h7, h9, hd⟩
 generalize hX : exec U ej fr m = X
 have hlen : (oV ds).length = ds.length := List.length_map ..
 by_cases bg : i < ds.length
 ·have hc : (i : Int) < (ds.length : Int) := by omega
  have YT : (oV ds)[i]? = some ds[i].cells := by unfold oV; rw [List.getElem?_map, lp bg]; rfl
  have hw := bJ (i := i) (by omega)
  have hps := hp ds[i] (BI bg)
  have hh : bA B K nh [.fz 1 1 (ints L), .int .i64 ds[i].pos] = some (bo (ds[i].pos ∈ L)) := wK (nl := false) hl
  rw [eA hps] at hh;generalize ht : ds[i] = d at *
  simp +contextual -implicitDefEqProofs (maxSteps := 1000000) (maxDischargeDepth := 8) only [ej, h3, h7, h9, hd, hc, YT, bg, hw, hlen, hz, hh, bi, Nd.cells, aq, aa, implies_true, simprocAttr] at hX
  subst hX;exact dq (i + 1) (by omega) ⟨rfl, by omega, by simp only [h3, ao, Nat.reduceBEq ], by simp only [h7, ao, Nat.reduceBEq ], by simp only [ao, Nat.reduceBEq ], by simp only [hd, ao, Nat.reduceBEq ]⟩
 ·have hc : ¬ (i : Int) < (ds.length : Int) := by omega
  simp +contextual -implicitDefEqProofs (maxSteps := 1000000) (maxDischargeDepth := 8) only [ej, h3, h9, hd, hc, hlen, aq, aa, implies_true, simprocAttr] at hX
  subst hX;exact dr ⟨_, rfl, by simp only [h3, ao, Nat.reduceBEq ], by simp only [hd, ao, Nat.reduceBEq ]⟩
theorem BN {s : cm} : bA B K lS [.str s] = some (.bool true) := by
 rw [cO (by simp [cj])]
 generalize hL0 : exec (UT B K) (aE.loop di) = L0
 generalize X2 : exec (UT B K) (aE.loop ej) = L1
 have YQ : ∀ M, run U 8 [] M = some (.ret (.bool true) M) := fun M => K4
 by_cases h6 : 1000 < s.length
 ·have hc : (1000 : Int) < (s.length : Int) := by omega
  simp +contextual -implicitDefEqProofs (maxSteps := 1000000) (maxDischargeDepth := 8) only [cj, hc, YQ, aq, aa, implies_true, simprocAttr]
 ·have hc : ¬ (1000 : Int) < (s.length : Int) := by omega
  have Ni := On (s := s) (by omega)
  have Rr := OF (s := s) (by omega) (fun l h => (Jy h).1) (fun e p h => M7 h)
  unfold La at Rr
  cases hx : xT s with
  | bad e p =>
   have he := M7 hx
   have iJ : ¬ ((e : Int) = 0) := by omega
   rw [hx] at Ni Rr;simp only [BR] at Ni Rr;generalize hX : SH _ = X
   simp +contextual -implicitDefEqProofs (maxSteps := 1000000) (maxDischargeDepth := 8) only [cj, hc, YQ, Ni, Rr, iJ, aq, aa, implies_true, simprocAttr] at hX
   exact hX.symm
  | ok l =>
   obtain ⟨ht, hg, VB⟩ := Jy hx
   rw [hx] at Ni Rr;simp only [BR] at Ni Rr;obtain ⟨pa, pb⟩ := S4 ht hg
   generalize uT l = pf at *
   unfold MN at Rr;by_cases jh : pf.fe = 0
   ·rw [if_pos jh] at Rr
    generalize hX : SH _ = X
    simp +contextual -implicitDefEqProofs (maxSteps := 1000000) (maxDischargeDepth := 8) only [cj, hc, Ni, Rr, aq, aa, implies_true, simprocAttr] at hX
    subst hL0;have IP : (bump (ext (bump aQ 1) [.cells [.int .i64 0, .int .i64 0] 2 au false]) 1).next = nb aQ.next 3 := by rw [br, ax, br, dE, dE]; rfl
    have ga : (bump (ext (bump aQ 1) [.cells [.int .i64 0, .int .i64 0] 2 au false]) 1).get (nb aQ.next 1) = .cells [.int .i64 0, .int .i64 0] 2 au false := (aC (m := bump aQ 1) (i := 0) rfl (by simp)).trans rfl
    generalize bump (ext (bump aQ 1) [.cells [.int .i64 0, .int .i64 0] 2 au false]) 1 = MA at *
    have pR : (ext MA [.cells [.int .i64 0, .int .i64 0] 2 au false, .cells [.int .i64 0] 1 aP false]).next = nb aQ.next 5 := by rw [ax, IP, dE]; rfl
    have g1 : (ext MA [.cells [.int .i64 0, .int .i64 0] 2 au false, .cells [.int .i64 0] 1 aP false]).get (nb aQ.next 1) = .cells [.int .i64 0, .int .i64 0] 2 au false := by rw [aG (by rw [IP]; unfold nb; omega)]; exact ga
    have g4 : (ext MA [.cells [.int .i64 0, .int .i64 0] 2 au false, .cells [.int .i64 0] 1 aP false]).get (nb aQ.next 4) = .cells [.int .i64 0] 1 aP false := by
     have : (ext MA [.cells [.int .i64 0, .int .i64 0] 2 au false, .cells [.int .i64 0] 1 aP false]).get (nb MA.next 1) = .cells [.int .i64 0] 1 aP false := by rw [aC rfl (by simp)]; rfl
     rw [IP, dE] at this; exact this
    generalize ext MA [.cells [.int .i64 0, .int .i64 0] 2 au false, .cells [.int .i64 0] 1 aP false] = M0 at *
    have Lb : ja M0 (.slice (nb aQ.next 4) 0 1 (some 1)) [.int .i64 0] 1 1 (nb aQ.next 4) :=
     ⟨.inr ⟨nb aQ.next 4, some 1, aP, rfl, eX _, by rw [pR]; unfold nb; omega, g4, .inr rfl⟩, rfl⟩
    generalize hC : exec _ (.loop di) _ _ = C at hX
    obtain ⟨o, rfl, fr', m', v, rfl, f3, f4, f7, own, hn, hkp, fd⟩ := ft hC (Gi (l := l) (v3 := .fz 0 5 (oV pf.tree)) (v4 := .ptr (nb aQ.next 1) 0) (by omega) (by simp only [ao, Nat.reduceBEq ]) (by simp only [ao, Nat.reduceBEq ]) (by simp only [ao, Nat.reduceBEq ]) (by simp only [ao, Nat.reduceBEq ]) Lb (by rw [pR]; unfold nb; omega) (by simp only [ao, Nat.reduceBEq ]) (by simp only [ao, Nat.reduceBEq ]))
    clear hC Lb;have e1 := (hkp (nb aQ.next 1) (by unfold nb; omega)).trans g1
    have n1 : nb aQ.next 1 < m'.next := mr (by rw [pR]; unfold nb; omega) hn
    have Xt : ((0 : Int) :: jS l).length = l.length + 1 := by unfold jS; rw [List.length_cons, List.length_map]
    have hz : kQ m' v = some (.fz 0 1 (ints ((0 : Int) :: jS l))) := by
     rw [CQ] at own;exact own.Dn (by unfold ints; rw [List.length_map, Xt]) (by omega) (fun el xY => by obtain ⟨x, _, rfl⟩ := List.mem_map.1 xY; rfl) (fun el xY => by obtain ⟨x, _, rfl⟩ := List.mem_map.1 xY; rfl)
    have hP := pa jh
    have hw : bA B K Bu [.fz 1 5 (oV pf.tree)] = some (bo (Hg pf.tree)) := OA (nl := false) (hP.sm (by omega))
    rw [eA hP.whole] at hw;simp +contextual -implicitDefEqProofs (maxSteps := 1000000) (maxDischargeDepth := 8) only [f3, f4, f7, fd, e1, n1, aq, aa, implies_true, simprocAttr] at hX
    subst X2;generalize hC : exec _ (.loop ej) _ _ = C at hX
    obtain ⟨o, rfl, Yd, rfl, q3, qd⟩ := ft hC (Ox (L := (0 : Int) :: jS l) (ds := pf.tree) (by omega) (by have := hP.small; omega) (fun d hd => Ec (hP.pos d hd)) (v := v) (by simp only [f3, ao, Nat.reduceBEq ]) (by simp only [f7, ao, Nat.reduceBEq ]) hz (by simp only [ao, Nat.reduceBEq ]) (by simp only [fd, ao, Nat.reduceBEq ]))
    clear hC;simp +contextual -implicitDefEqProofs (maxSteps := 1000000) (maxDischargeDepth := 8) only [q3, qd, hw, YQ, aq, aa, implies_true, simprocAttr] at hX
    exact hX.symm
   ·rw [if_neg jh] at Rr
    generalize hX : SH _ = X
    simp +contextual -implicitDefEqProofs (maxSteps := 1000000) (maxDischargeDepth := 8) only [cj, hc, Ni, Rr, aq, aa, implies_true, simprocAttr] at hX
    subst hL0;have IP : (bump (ext (bump aQ 1) [.cells [.int .i64 pf.fe, .int .i64 pf.fp] 2 au false]) 1).next = nb aQ.next 3 := by rw [br, ax, br, dE, dE]; rfl
    have ga : (bump (ext (bump aQ 1) [.cells [.int .i64 pf.fe, .int .i64 pf.fp] 2 au false]) 1).get (nb aQ.next 1) = .cells [.int .i64 pf.fe, .int .i64 pf.fp] 2 au false := (aC (m := bump aQ 1) (i := 0) rfl (by simp)).trans rfl
    generalize bump (ext (bump aQ 1) [.cells [.int .i64 pf.fe, .int .i64 pf.fp] 2 au false]) 1 = MA at *
    have pR : (ext MA [.cells [.int .i64 0, .int .i64 0] 2 au false, .cells [.int .i64 0] 1 aP false]).next = nb aQ.next 5 := by rw [ax, IP, dE]; rfl
    have g1 : (ext MA [.cells [.int .i64 0, .int .i64 0] 2 au false, .cells [.int .i64 0] 1 aP false]).get (nb aQ.next 1) = .cells [.int .i64 pf.fe, .int .i64 pf.fp] 2 au false := by rw [aG (by rw [IP]; unfold nb; omega)]; exact ga
    have g4 : (ext MA [.cells [.int .i64 0, .int .i64 0] 2 au false, .cells [.int .i64 0] 1 aP false]).get (nb aQ.next 4) = .cells [.int .i64 0] 1 aP false := by
     have : (ext MA [.cells [.int .i64 0, .int .i64 0] 2 au false, .cells [.int .i64 0] 1 aP false]).get (nb MA.next 1) = .cells [.int .i64 0] 1 aP false := by rw [aC rfl (by simp)]; rfl
     rw [IP, dE] at this; exact this
    generalize ext MA [.cells [.int .i64 0, .int .i64 0] 2 au false, .cells [.int .i64 0] 1 aP false] = M0 at *
    have Lb : ja M0 (.slice (nb aQ.next 4) 0 1 (some 1)) [.int .i64 0] 1 1 (nb aQ.next 4) :=
     ⟨.inr ⟨nb aQ.next 4, some 1, aP, rfl, eX _, by rw [pR]; unfold nb; omega, g4, .inr rfl⟩, rfl⟩
    generalize hC : exec _ (.loop di) _ _ = C at hX
    obtain ⟨o, rfl, fr', m', v, rfl, f3, f4, f7, own, hn, hkp, fd⟩ := ft hC (Gi (l := l) (v3 := .ae) (v4 := .ptr (nb aQ.next 1) 0) (by omega) (by simp only [ao, Nat.reduceBEq ]) (by simp only [ao, Nat.reduceBEq ]) (by simp only [ao, Nat.reduceBEq ]) (by simp only [ao, Nat.reduceBEq ]) Lb (by rw [pR]; unfold nb; omega) (by simp only [ao, Nat.reduceBEq ]) (by simp only [ao, Nat.reduceBEq ]))
    clear hC Lb;have e1 := (hkp (nb aQ.next 1) (by unfold nb; omega)).trans g1
    have n1 : nb aQ.next 1 < m'.next := mr (by rw [pR]; unfold nb; omega) hn
    have Xt : ((0 : Int) :: jS l).length = l.length + 1 := by unfold jS; rw [List.length_cons, List.length_map]
    have hz : kQ m' v = some (.fz 0 1 (ints ((0 : Int) :: jS l))) := by
     rw [CQ] at own;exact own.Dn (by unfold ints; rw [List.length_map, Xt]) (by omega) (fun el xY => by obtain ⟨x, _, rfl⟩ := List.mem_map.1 xY; rfl) (fun el xY => by obtain ⟨x, _, rfl⟩ := List.mem_map.1 xY; rfl)
    have ev := Ec (pb jh)
    have hh : bA B K nh [.fz 1 1 (ints ((0 : Int) :: jS l)), .int .i64 pf.fp] = some (bo (pf.fp ∈ (0 : Int) :: jS l)) := wK (nl := false) (by omega)
    rw [eA ev] at hh;simp +contextual -implicitDefEqProofs (maxSteps := 1000000) (maxDischargeDepth := 8) only [f3, f4, f7, fd, e1, n1, jh, hz, hh, YQ, aq, aa, implies_true, simprocAttr] at hX
    exact hX.symm
theorem parseStands_run {m : Mem} {es : List EV} {ds : List Dt} (hm : Sj m) (hg : mX (still m)) (h : sr m [.str] es ds) : ∃ m', run T lS es m = some (.ret (.bool true) m') := by
 obtain ⟨us, hu, hl⟩ := Q6 ab2 (f := lS) (F := cj) (ct.has (T := B)) hm h rfl hg
 obtain ⟨e, d, rl, vo, rfl, _, h1, hu⟩ := hu.one
 obtain rfl := hu.none
 obtain ⟨s, rfl, _⟩ := V5 h1
 exact hl BN
end
end Go.Proofs.YtdiccmapankckaaDoor.Ev
