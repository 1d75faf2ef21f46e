/- WPa10, PUp, WTree4, WExprT, PLs, WIx0, WPl1, WIxi, WIxs, WPl2, WPl3, WPl4, WPl5, WPl6, WPl7, WPl8, WPa11, WRw, PLex2, PPt4, PEr. -/
import Derived.Lib.IndexAny
import Derived.Test.YtdiccmapankckaaDoorMi
set_option linter.unusedSimpArgs false
set_option linter.unusedVariables false
set_option linter.unusedSectionVars false
set_option linter.defProp false
set_option maxRecDepth 20000
set_option maxHeartbeats 8000000
namespace Go.Proofs.YtdiccmapankckaaDoor.Ev
open Go
section
theorem P3 {l : List Tok} {tg : Nat} (ht : bS l) : ∀ k, R9 l tg k := by
 intro k
 induction k with
 | zero => exact fun _ _ _ _ _ _ _ _ _ _ _ _ _ q => absurd q (by omega)
 | succ k ih => exact Qv ht ih
theorem jF.le {m : Mem} {v : EV} {cs : List EV} {n esz lo Eo : Nat} (h : jF m v cs n esz lo) (hl : Eo <= lo) : jF m v cs n esz Eo := by
 refine ⟨?_, h.len⟩
 rcases h.is with h | ⟨b, cap, t, rfl, h1, h2, h3, h4⟩
 ·exact .inl h
 ·exact .inr ⟨b, cap, t, rfl, pN hl h1, h2, h3, h4⟩
section
variable {tg : Nat} {l : List Tok} {m : Mem} {b : Nat} {st : RS} {P : Nat -> Prop} {X : Option Fin}
theorem Je (ht : bS l) {k : Nat} (o : eA l st) (hk : 8 * (l.length - st.pos) + 1 <= k) {s1 : RS} {r : List Int} (bM : (if (st.want l [40]).is l [41] then some (st.want l [40], []) else lR l k (.rA []) (st.want l [40])) = some (s1, r)) (hg : Gr l (st.want l [40]) s1) (h : Rd m b tg l st P) (hX : run U ke [.agg [.ptr b 0]] m = X) :
  ∃ m' v, X = some (.ret v m') /\ jF m' v (is r) r.length 1 m.next /\ Rd m' b tg l (s1.want l [41]) (Pv P v) /\ Kp m m' P /\ (r = [] -> v = .ae) := by
 rw [bY (by simp [bU])] at hX
 generalize hL : exec (UT B K) (aE.loop aF) = L at hX
 simp +contextual -implicitDefEqProofs (maxSteps := 1000000) (maxDischargeDepth := 8) only [bU, ax, ab, implies_true, simprocAttr] at hX
 obtain ⟨r0, x0⟩ := Bx.uI h
 generalize ext m [.cells [.ptr b 0] 1 ah false] = M0 at *
 generalize hC : run U aP _ _ = C at hX
 obtain ⟨m1, rfl, r1, k1⟩ := nV ht o r0 hC
 clear hC;have x1 := x0.step k1 (fun c hc => .inl hc) rz
 have y1 := x1.g
 have z1 := x1.n
 have gw := Gr.want ht o.p (s := [40])
 have o1 := gw.ok o
 generalize hS : st.want l [40] = sw at *
 have hI := Vq (b := b) (tg := tg) (P := Pr P m.next (nb m.next 1)) ht o1
 have MF : Rd m1 b tg l sw (Pr P m.next (nb m.next 1)) := r1
 have o2 := hg.ok o1
 by_cases hq : sw.is l [41]
 ·rw [if_pos hq] at bM
  obtain ⟨rfl, rfl⟩ := eO _ _ _ _ ▸ pH bM
  simp +contextual -implicitDefEqProofs (maxSteps := 1000000) (maxDischargeDepth := 8) only [y1, z1, hI, MF, hq, gL, ax, ab, implies_true, simprocAttr] at hX
  subst hL;rw [eB] at hX;generalize exec (UT B K) (.loop aF) = L at hX
  simp +contextual -implicitDefEqProofs (maxSteps := 1000000) (maxDischargeDepth := 8) only [aF, y1, z1, ax, ab, implies_true, simprocAttr] at hX
  generalize hC : run U aP _ _ = C at hX
  obtain ⟨m2, rfl, r2, k2⟩ := nV ht o1 (ak MF) hC
  clear hC;simp +contextual -implicitDefEqProofs (maxSteps := 1000000) (maxDischargeDepth := 8) only [ax, ab, implies_true, simprocAttr] at hX
  subst hX;exact ⟨_, _, rfl, ⟨.inl ⟨rfl, rfl, rfl⟩, rfl⟩, (r2.bO fun c hc => .inl hc).pv, x1.k.trans (((aR MF).trans k2).bO fun c hc => .inl hc), fun _ => rfl⟩
 ·rw [if_neg hq] at bM
  simp +contextual -implicitDefEqProofs (maxSteps := 1000000) (maxDischargeDepth := 8) only [y1, z1, hI, MF, hq, fT, ax, ab, implies_true, simprocAttr] at hX
  subst hL;have rb := ak (k := 20) MF
  have xb := x1.step (aR (k := 20) MF) (fun c hc => .inl hc) rz
  generalize hC : exec (UT B K) (aE.loop aF) _ _ = C at hX
  obtain ⟨fr', m2, v, rfl, f1, f3, fd, eF, r2, k2, hz⟩ := P3 ht k [] .ae _ _ _ _ (bump m1 20).next (nb m.next 0) (Pr P m.next (nb m.next 1)) _ _ _ o1 (by have := gw.p; simp only [PC.bi] at *; omega) (ml _) bM rb.pv (fun c hc => rb.mb hc) (fy _) ⟨.inl ⟨rfl, rfl, rfl⟩, rfl⟩ (fun _ => rfl) xb.g rz (by simp only [aq, Nat.reduceBEq ]) (by simp only [aq, Nat.reduceBEq ]) (by simp only [aq, Nat.reduceBEq ]) (by simp only [aq, Nat.reduceBEq ]) hC
  clear hC;have x2 := xb.step k2 (fun c hc => .inl hc) rz
  have y2 := x2.g
  have z2 := x2.n
  simp +contextual -implicitDefEqProofs (maxSteps := 1000000) (maxDischargeDepth := 8) only [f1, f3, fd, y2, z2, ax, ab, implies_true, simprocAttr] at hX
  generalize hC : run U aP _ _ = C at hX
  obtain ⟨m3, rfl, r3, k3⟩ := nV ht o2 r2 hC
  clear hC;simp +contextual -implicitDefEqProofs (maxSteps := 1000000) (maxDischargeDepth := 8) only [f1, f3, fd, ax, ab, implies_true, simprocAttr] at hX
  subst hX;refine ⟨_, v, rfl, (eF.kp k3 fun c hc => .inr hc).le ?_, r3.bO ?_, x2.k.trans (k3.bO fun c hc => .inl (.inl hc)), hz⟩
  ·exact pN x1.k.n (by rw [bu]; exact bI)
  ·exact fun c hc => hc.elim (fun q => .inl (.inl q)) .inr
theorem EN (ht : bS l) {k : Nat} (o : eA l st) (hk : 8 * (l.length - st.pos) + PC.func.bi < k + 1) {s1 : RS} {r : List Int} (bM : lR l (k + 1) .func st = some (s1, r)) (h : Rd m b tg l st P) (hX : run U fM [.agg [.ptr b 0]] m = X) : ∃ m', X = some (.ret (.int .i64 (r.headD 0)) m') /\ Rd m' b tg l s1 P /\ Kp m m' P := by
 rw [bY (by simp [cu])] at hX
 simp +contextual -implicitDefEqProofs (maxSteps := 1000000) (maxDischargeDepth := 8) only [cu, ax, ab, implies_true, simprocAttr] at hX
 obtain ⟨r0, x0⟩ := Bx.uI h
 generalize ext m [.cells [.ptr b 0] 1 ah false] = M0 at *
 generalize hC : run U aP _ _ = C at hX
 obtain ⟨m1, rfl, r1, k1⟩ := nV ht o r0 hC
 clear hC;have x1 := x0.step k1 (fun c hc => .inl hc) rz
 have y1 := x1.g
 have z1 := x1.n
 simp only [lR] at bM;have g0 := Gr.want ht o.p (s := Aw)
 have o1 := g0.ok o
 have MF : Rd m1 b tg l (st.want l Aw) (Pr P m.next (nb m.next 1)) := r1
 have w0 := BY (st := st) (l := l) (s := Aw)
 have d0 := (rh (st := st) (l := l) (s := Aw)).2
 clear r1;generalize st.want l Aw = s0 at *
 have hT := jG (b := b) (tg := tg) (P := Pr P m.next (nb m.next 1)) ht o1
 simp +contextual -implicitDefEqProofs (maxSteps := 1000000) (maxDischargeDepth := 8) only [y1, z1, hT, MF, ax, ab, implies_true, simprocAttr] at hX
 have rb := ak (k := 19) MF
 have xb := x1.step (aR (k := 19) MF) (fun c hc => .inl hc) rz
 generalize bump m1 19 = m1 at *
 generalize hC : run U eK _ _ = C at hX
 obtain ⟨m2, rfl, r2, k2⟩ := np ht o1 rb hC
 clear hC;have x2 := xb.step k2 (fun c hc => .inl hc) rz
 have y2 := x2.g
 have z2 := x2.n
 have g1 : Gr l s0 (s0.name l) := Gr.name ht o1.p
 have o2 := g1.ok o1
 have g2 := g1.trans (Gr.want ht g1.pl (s := [40]))
 obtain ⟨s2, rr, e, g3, l9⟩ : ∃ s2 rr, (if ((s0.name l).want l [40]).is l [41] then some ((s0.name l).want l [40], []) else lR l k (.rA []) ((s0.name l).want l [40])) = some (s2, rr) /\ Gr l ((s0.name l).want l [40]) s2 /\ rr.length <= 9 := by
  split
  ·exact ⟨_, _, rfl, .refl g2.pl, ml _⟩
  ·obtain ⟨s2, r2, e2, g4, a2, _⟩ := kU ht k (.rA []) ((s0.name l).want l [40]) g2.pl (by have := g0.p; have := g2.p; simp only [PC.bi] at *; omega) (ml _)
   exact ⟨_, _, e2, g4, a2⟩
 rw [e] at bM;simp only [Option.bind_some] at bM;simp +contextual -implicitDefEqProofs (maxSteps := 1000000) (maxDischargeDepth := 8) only [y2, z2, ax, ab, implies_true, simprocAttr] at hX
 generalize hC : run U ke _ _ = C at hX
 obtain ⟨m3, v, rfl, eF, r3, k3, hz⟩ := Je ht o2 (by have := g0.p; have := g1.p; simp only [PC.bi] at *; omega) e g3 r2 hC
 clear hC;have x3 := x2.step k3 (fun c hc => .inl hc) rz
 have y3 := x3.g
 have z3 := x3.n
 have g4 := (g2.trans g3).trans (Gr.want ht g3.pl (s := [41]))
 have o3 := g4.ok o1
 have WN : v.cells = some [v] := by rcases eF.is with ⟨rfl, _⟩ | ⟨_, _, _, rfl, _⟩ <;> rfl
 simp +contextual -implicitDefEqProofs (maxSteps := 1000000) (maxDischargeDepth := 8) only [y3, z3, ax, ab, implies_true, simprocAttr] at hX
 generalize hC : run U iu _ _ = C at hX
 obtain ⟨m4, rfl, r4, k4⟩ := Q5 ht o3 r3 hC
 clear hC;have x4 := x3.step k4 (fun c hc => .inl (.inl hc)) (.inl rz)
 have y4 := x4.g
 have z4 := x4.n
 obtain ⟨g5, _⟩ := pj ht o3.p
 have g6 := g4.trans g5
 have o4 := g6.ok o1
 have VO : 8 * (l.length - (jm l (s2.want l [41])).1.pos) + PC.block.bi < k := by have := g0.p; have := g6.p; simp only [PC.bi] at *; omega
 obtain ⟨s5, r5, e5, g7, a5, _⟩ := kU ht k .block (jm l (s2.want l [41])).1 o4.p VO trivial
 obtain ⟨_, y, rfl⟩ := sd ht o4 VO e5
 simp only [e5, Option.bind_some, uv] at bM;simp +contextual -implicitDefEqProofs (maxSteps := 1000000) (maxDischargeDepth := 8) only [y4, z4, ax, ab, implies_true, simprocAttr] at hX
 generalize hC : run U eP _ _ = C at hX
 obtain ⟨m5, rfl, r5, k5⟩ := (P2 ht k).de _ _ _ _ _ _ _ o4 VO e5 r4 hC
 clear hC;have g8 := g6.trans g7
 have o5 := g8.ok o1
 have k35 := k4.trans k5
 have XT := eF.kp k35 fun c hc => .inr hc
 obtain ⟨v2, M2, ha, Rp, r6, k6⟩ := rv (x := y) r5 (fun c hc => r2.mb hc) (pN k3.n k35.n) XT (by omega)
 have x6 := (x4.step k5 (fun c hc => .inl (.inl hc)) (.inl rz)).step k6 (fun c hc => .inl hc) rz
 have y6 := x6.g
 have z6 := x6.n
 have Vw : v2.cells = some [v2] := by rcases Rp.is with ⟨rfl, _⟩ | ⟨_, _, _, rfl, _⟩ <;> rfl
 simp +contextual -implicitDefEqProofs (maxSteps := 1000000) (maxDischargeDepth := 8) only [ha, y6, z6, Vw, List.headD_cons, ax, ab, implies_true, simprocAttr] at hX
 generalize hC : run U aA _ _ = C at hX
 obtain ⟨m7, rfl, r7, k7⟩ := pL (P := Pr P m.next (nb m.next 1)) (kids := rr ++ [y]) ht o5 r6 (by rw [jz, List.length_singleton]; omega) Rp.Vj (fun c hc => .inr hc) (fun c hc => ⟨.inl hc, Rp.lt (.inr (r2.mb hc))⟩) (by simp) hC
 clear hC;simp +contextual -implicitDefEqProofs (maxSteps := 1000000) (maxDischargeDepth := 8) only [ax, ab, implies_true, simprocAttr] at hX
 subst hX;obtain ⟨rfl, rfl⟩ := eO _ _ _ _ ▸ pH bM
 exact ⟨_, rfl, r7.bO fun c hc => .inl hc, x6.k.trans (k7.bO fun c hc => .inl hc)⟩
end
end
section
def upto (n : Nat) : List Int := (List.range n).map fun (j : Nat) => (j : Int)
end
section
def Y0 (l : List Nd) (i : Nat) : Prop := (∀ (j : Nat) (d : Nd), j < i -> l[j]? = some d -> (∀ x ∈ d.kids, 0 <= x /\ x < (j : Int)) /\ Jf d /\ gJ l d) /\ (oW (l.take i)).Nodup
theorem KK {l : List Nd} {i : Nat} {d : Nd} (h : l[i]? = some d) : oW (l.take (i + 1)) = oW (l.take i) ++ d.kids := by
 obtain ⟨h1, h2⟩ := uz.1 h
 unfold oW;rw [List.take_succ_eq_append_getElem h1, h2]; simp
theorem Oj {l : List Nd} (i : Nat) : List.Sublist (oW (l.take i)) (oW l) := by
 unfold oW
 conv => rhs; rw [<- List.take_append_drop i l, List.map_append, List.flatten_append]
 exact List.sublist_append_left _ _
structure Small (l : List Nd) : Prop where
 len : l.length < 100000
 kids : ∀ d ∈ l, d.kids.length <= 9223372036854775807
 s : ∀ d ∈ l, d.s.length < 1000000
theorem Q6 {l : List Nd} {d : Nd} (h : d ∈ l) : List.Sublist d.kids (oW l) := by
 obtain ⟨i, hi⟩ := List.mem_iff_getElem?.1 h
 have h1 := KK hi
 have h2 := Oj (l := l) (i + 1)
 rw [h1] at h2;exact (List.sublist_append_right _ _).trans h2
end
section
theorem Br {F : List EV -> Option (List EV)} {m : Mem} : ∀ {a b a' b' : List EV}, jd F m a = some a' -> jd F m b = some b' -> jd F m (a ++ b) = some (a' ++ b')
 | [], b, a', b', h, h' => by simp only [jd, bf] at h; subst h; exact h'
 | v :: a, b, a', b', h, h' => by
  simp only [jd] at h
  cases hv : po F m v with
  | none => simp only [hv] at h; cases h
  | some w =>
   cases ha : jd F m a with
   | none => simp only [hv, ha] at h; cases h
   | some c =>
    simp only [hv, ha, bf] at h;subst h;simp only [List.cons_append, jd, hv, Br ha h']
theorem M8 {l : List Int} : is l = (ints l).flatten := by
 unfold is ints
 induction l with
 | nil => rfl
 | cons x l ih => simp only [List.map_cons, List.flatten_cons, List.cons_append, List.nil_append, ih]
theorem TB {m : Mem} {b : Nat} {tv hv : EV} {d : Nd} {kv : EV} {n : Nat} (h : BB m b tv hv d kv) : po (cB (n + 1) m) m kv = some (row d.nl 0 1 (ints d.kids)) := by
 rcases h.o.is with ⟨rfl, h1, _⟩ | ⟨kb, cap, t, rfl, _, h2, h3, h4⟩
 ·have : d.kids = [] := List.eq_nil_of_length_eq_zero h1
  rw [h.nl, this]; simp only [po]; rfl
 ·have iM : d.kids ≠ [] := fun q => by have := h.z q; cases this
  have Tl : d.nl = false := by rw [h.nl]; cases hk : d.kids with | nil => exact absurd hk iM | cons => rfl
  have hc : Ac cap d.kids.length = true := by rcases h4 with rfl | rfl <;> simp [Ac]
  simp only [po, h3, hc, cond_true, Be (show 0 + d.kids.length * 1 <= (is d.kids).length by rw [LH]; omega), List.drop_zero]
  rw [Nat.mul_one, <- LH, List.take_length, Tl];have hp : jv (is d.kids) = true := by
   rw [M8]; exact pd fun el EI => by
    obtain ⟨x, _, rfl⟩ := List.mem_map.1 EI; rfl
  rw [show cB (n + 1) m (is d.kids) = some (is d.kids) from kV hp, Option.map_some]
  congr 1
  simp only [row, Bool.false_and, cond_false]
  congr 1
  rw [LH, M8, <- show (ints d.kids).length = d.kids.length from List.length_map ..];exact mZ fun el EI => by obtain ⟨x, _, rfl⟩ := List.mem_map.1 EI; rfl
theorem GK {m : Mem} {b : Nat} {tv hv : EV} {n : Nat} : ∀ {xs : List Nv}, (∀ x ∈ xs, BB m b tv hv x.d x.kv) -> jd (cB (n + 1) m) m (IL xs) = some (Lo (xs.map Nv.d)).flatten
 | [], _ => rfl
 | x :: xs, h => by
  have h1 := TB (n := n) (h x (by simp))
  have h2 := GK (n := n) (xs := xs) fun y hy => h y (by simp [hy])
  refine Br ?_ h2
  simp only [Nv.cells, wu, jd, po, h1]
  rfl
theorem RK {m : Mem} {b : Nat} {tv hv v : EV} {lo : Nat} {xs : List Nv} (hx : ∀ x ∈ xs, BB m b tv hv x.d x.kv) (h : jF m v (IL xs) xs.length 5 lo) (h0 : xs ≠ []) : lY m v = some (.fz 0 5 (Lo (xs.map Nv.d))) := by
 rcases h.is with ⟨rfl, h1, _⟩ | ⟨b', cap, t, rfl, _, h2, h3, h4⟩
 ·exact absurd (List.eq_nil_of_length_eq_zero h1) h0
 ·have hc : Ac cap xs.length = true := by rcases h4 with rfl | rfl <;> simp [Ac]
  simp only [lY, po, h3, hc, cond_true, Be (show 0 + xs.length * 5 <= (IL xs).length by rw [h.len]; omega), List.drop_zero]
  rw [<- h.len, List.take_length, show cB 7 m (IL xs) = jd (cB 6 m) m (IL xs) from rfl, GK hx, Option.map_some]
  congr 2
  have e1 : xs.length = (Lo (xs.map Nv.d)).length := by simp [Lo]
  rw [e1];exact mZ fun el EI => by obtain ⟨x, _, rfl⟩ := List.mem_map.1 EI; rfl
theorem Fh.Qu {m : Mem} {b tg : Nat} {l : List Tok} {st : RS} {P : Nat -> Prop} {tv hv : EV} {xs : List Nv} (h : Fh m b tg l st P tv hv xs) {c0 : Nat} (hp : P c0) (B : fK) : Fh (m.set c0 B) b tg l st P tv hv xs := by
 have f := (h.p c0 hp).2
 have fk := h.pk c0 hp
 have key : ∀ c, c ≠ c0 -> (m.set c0 B).get c = m.get c := fun c hc => az hc
 exact ⟨(key b (fun q => f.ne q.symm)).trans h.g, h.lt, h.t.gz (fy _) fun c _ _ ho => key c fun q => ho (q ▸ f.t), h.h.gz (fy _) fun c _ _ ho => key c fun q => ho (q ▸ f.h), h.a, h.x, h.hl, fun x hx => ⟨(h.k x hx).o.gz (fy _) fun c _ _ ho => key c fun q => ho (q ▸ fk x hx), (h.k x hx).f, (h.k x hx).nl, (h.k x hx).z⟩, h.p, h.pk⟩
theorem P8 {m : Mem} {b tg : Nat} {l : List Tok} {st : RS} {P : Nat -> Prop} {tv hv : EV} {xs : List Nv} (h : Fh m b tg l st P tv hv xs) (h0 : st.tree ≠ []) (hl : st.tree.length < 1000000) : ∃ m' v, run U kT [.ptr b 0] m = some (.ret v m') /\ Fh m' b tg l st P tv hv xs /\ jF m' v (IL xs) xs.length 5 m.next /\ Kp m m' P /\ (∃ c n, v = .slice c 0 n none) := by
 have Td : xs.length = st.tree.length := by rw [<- h.x, List.length_map]
 have Te : xs.length ≠ 0 := fun q => h0 (List.eq_nil_of_length_eq_zero (Td ▸ q))
 have hg := h.g
 have hb := h.lt
 have ht : tv.cells = some [tv] /\ eL (.aG 4) tv .ae = some false := by
  rcases h.t.is with ⟨_, q, _⟩ | ⟨_, _, _, rfl, _⟩
  ·exact absurd q Te
  ·exact ⟨rfl, rfl⟩
 obtain ⟨ht1, ht2⟩ := ht
 have ZI : jF (ext m [.cells [] 5 aX false]) (.slice (nb m.next 0) 0 0 (some 0)) [] 0 5 m.next := ⟨.inr ⟨nb m.next 0, some 0, aX, rfl, bI, by rw [aK]; unfold nb; simp, by rw [aM rfl (by simp)]; rfl, .inr rfl⟩, rfl⟩
 obtain ⟨ha, ho⟩ := gj (e := aX) ZI (by rw [aK]; exact bI) (h.t.ext [.cells [] 5 aX false]).source h.t.len Te (by unfold room; omega)
 have hn : m.next <= (grow (ext m [.cells [] 5 aX false]) (.slice (nb m.next 0) 0 0 (some 0)) aX 5 ([] ++ IL xs)).next := by rw [iJ, aK]; unfold nb; omega
 have hold : ∀ c, c < m.next -> (grow (ext m [.cells [] 5 aX false]) (.slice (nb m.next 0) 0 0 (some 0)) aX 5 ([] ++ IL xs)).get c = m.get c := fun c hc => by
  rw [jq (by rw [aK]; unfold nb; omega) (gq.of (by unfold nb; omega)), aL hc]
 have hr : run U kT [.ptr b 0] m = some (.ret (.slice (nb (ext m [.cells [] 5 aX false]).next 0) 0 (0 + xs.length) none) (grow (ext m [.cells [] 5 aX false]) (.slice (nb m.next 0) 0 0 (some 0)) aX 5 ([] ++ IL xs))) := by
  generalize grow (ext m [.cells [] 5 aX false]) (.slice (nb m.next 0) 0 0 (some 0)) aX 5 ([] ++ IL xs) = G at *
  rw [aK, eV] at ha ⊢
  rw [bY (by simp [ee])]
  have hC : run U rF [tv] m = some (.ret (.slice (nb m.next 1) 0 (0 + xs.length) none) G) := by
   rw [bY (by simp [ct])]
   simp +contextual -implicitDefEqProofs (maxSteps := 1000000) (maxDischargeDepth := 8) only [ct, ht2, ha, ax, ab, implies_true, simprocAttr]
  simp +contextual -implicitDefEqProofs (maxSteps := 1000000) (maxDischargeDepth := 8) only [ee, hg, hb, hC, ax, ab, implies_true, simprocAttr]
 refine ⟨_, _, hr, ?_, ?_, ⟨hn, fun c hc => hold c (h.p c hc).1⟩, _, _, rfl⟩
 ·exact h.Ol rfl rfl ⟨hn, (hold b hb).trans h.g, fun c hc _ => hold c hc⟩
 ·rw [Nat.zero_add] at ho ⊢; exact ho
def RS.start : RS := ⟨0, 0, [], [], 0, 0⟩
theorem uH {l : List Tok} (ht : bS l) : eA l .start := ⟨ht.pos, fy _, Int.le_refl _, Int.le_refl _, by simp [RS.start]⟩
end
section
def nL : List bK := xB ++ OJ.map fun c => [c]
def Bb (x s : bK) : Prop := x.length <= s.length /\ s.take x.length = x
def vn (n : Int) (b : Bool) : Int := if bX n then 3 else if aN n then 4 else if n = 35 then 2 else if cZ n then 1 else if b = true then 5 else 0
def KZ : bK := [124, 38, 61, 33, 60, 62, 43, 45, 42, 47, 37, 40, 41, 123, 125, 91, 93, 44, 59]
def eM (n : Int) : Int := vn n (decide (∃ c ∈ KZ, n = cI c))
abbrev ep (s : bK) : Nat := lead (fun n => n ≠ 10) s
def iQ : Nat -> bK -> Nat -> Ar (List Tok)
 | 0, _, p => .bad 0 p
 | _ + 1, [], _ => .ok []
 | k + 1, c :: s, p => if cZ (cI c) then iQ k ((c :: s).drop (lead cZ (c :: s))) (p + lead cZ (c :: s))
  else if cI c = 35 then iQ k ((c :: s).drop (ep (c :: s))) (p + ep (c :: s))
  else match ki (c :: s) p with
   | .bad e q => .bad e q
   | .ok t => (iQ k ((c :: s).drop t.text.length) (p + t.text.length)).map (t :: ·)
theorem D6 : ∀ s : bK, bA false s = lead cZ s + bA false (s.drop (lead cZ s))
 | [] => rfl
 | c :: s => by
  by_cases h : cZ (cI c)
  ·have W0 : ¬ cI c = 35 := by unfold cZ at h; omega
   have e : bA false (c :: s) = 1 + bA false s := by
    simp only [bA];rw [if_neg (by rintro ⟨_, q⟩; exact q h)]
    congr 1
    split <;> simp [W0]
   rw [e, lead, if_pos h, D6 s, Nat.add_comm 1 (lead cZ s), List.drop_succ_cons]; omega
  ·rw [lead, if_neg h, Nat.zero_add, List.drop_zero]
theorem Gg : ∀ s : bK, bA true s = ep s + bA false (s.drop (ep s))
 | [] => rfl
 | c :: s => by
  by_cases h : cI c = 10
  ·have e : ∀ r, bA r (c :: s) = 1 + bA false s := fun r => by
    simp only [bA, if_pos h];rw [if_neg (by rintro ⟨_, q⟩; exact q (by rw [h]; decide))]
   unfold ep;rw [lead, if_neg (by simpa using h), Nat.zero_add, List.drop_zero, e, e]
  ·have e : bA true (c :: s) = 1 + bA true s := by
    simp only [bA, if_neg h, ite_self];rw [if_neg (by simp)]
   unfold ep;rw [lead, if_pos h, e, Gg s, Nat.add_comm 1 (lead _ s), List.drop_succ_cons]; unfold ep; omega
theorem v7 : ∀ (k : Nat) (s : bK) (p k' : Nat), s.length < k -> s.length < k' -> iQ k s p = fD k' (s.drop (bA false s)) (p + bA false s)
 | 0, s, p, k', h, _ => by omega
 | k + 1, [], p, 0, _, h' => by omega
 | k + 1, [], p, k' + 1, _, h' => rfl
 | k + 1, c :: s, p, 0, h, h' => by omega
 | k + 1, c :: s, p, k' + 1, h, h' => by
  simp only [List.length_cons] at h h'
  by_cases hb : cZ (cI c)
  ·have dx : 1 <= lead cZ (c :: s) := by rw [lead, if_pos hb]; omega
   simp only [iQ];rw [if_pos hb, v7 k _ _ (k' + 1) (by rw [uy, List.length_cons]; omega) (by rw [uy, List.length_cons]; omega), List.drop_drop, D6 (c :: s), Nat.add_assoc]
  ·by_cases W0 : cI c = 35
   ·have dx : 1 <= ep (c :: s) := by unfold ep; rw [lead, if_pos (by omega)]; omega
    have e : bA false (c :: s) = ep (c :: s) + bA false ((c :: s).drop (ep (c :: s))) := by
     have CO : ¬ cI c = 10 := by omega
     have e1 : bA false (c :: s) = 1 + bA true s := by
      simp only [bA, if_neg CO, if_pos W0];rw [if_neg (by simp)]
     rw [e1, Gg s];have e2 : ep (c :: s) = ep s + 1 := by unfold ep; rw [lead, if_pos CO]; omega
     rw [e2, List.drop_succ_cons]; omega
    simp only [iQ];rw [if_neg hb, if_pos W0, v7 k _ _ (k' + 1) (by rw [uy, List.length_cons]; omega) (by rw [uy, List.length_cons]; omega), List.drop_drop, e, Nat.add_assoc]
   ·have e0 : bA false (c :: s) = 0 := by
     simp only [bA];rw [if_pos];refine ⟨?_, hb⟩
     split <;> simp [W0]
    rw [e0, List.drop_zero, sy (by simp)];simp only [Nat.add_zero];simp only [iQ];rw [if_neg hb, if_neg W0]
    cases ho : ki (c :: s) p with
    | bad e q => rfl
    | ok t =>
     obtain ⟨g1, g2, _, _⟩ := lF (by simp) ho
     simp only
     rw [v7 k _ _ k' (by rw [uy, List.length_cons]; omega) (by rw [uy, List.length_cons]; omega)]
theorem Qi {s : bK} (h : s.length <= 65536) : ta s = (iQ (s.length + 1) s 0).map (· ++ [⟨0, [], 0, s.length⟩]) := by
 rw [v7 _ s 0 (s.length + 1) (by omega) (by omega), Nat.zero_add];unfold ta;rw [if_neg (by omega)]
theorem Hb : ∀ x ∈ xB, x.length = 2 := by decide
theorem I6 {i : Nat} {x : bK} (h : nL[i]? = some x) : (i < 9 /\ x ∈ xB /\ x.length = 2) \/ (9 <= i /\ ∃ c ∈ OJ, x = [c]) := by
 unfold nL at h;rw [List.getElem?_append] at h;have h9 : xB.length = 9 := rfl
 split at h
 ·have := List.mem_of_getElem? h
  exact .inl ⟨by omega, this, Hb x this⟩
 ·rw [List.getElem?_map] at h
  obtain ⟨c, hc, rfl⟩ := j8.1 h
  exact .inr ⟨by omega, c, List.mem_of_getElem? hc, rfl⟩
theorem KX {s : bK} {i : Nat} {y : bK} (hi : nL[i]? = some y) (h1 : Bb y s) (h2 : ∀ j, j < i -> ∀ x, nL[j]? = some x -> ¬ Bb x s) : eC s = y.length := by
 obtain ⟨q1, q2⟩ := h1
 rcases I6 hi with ⟨_, hm, hl⟩ | ⟨h9, c, hc, rfl⟩
 ·rw [hl] at q1 q2
  unfold eC;rw [if_pos ⟨q1, by rw [q2]; exact hm⟩, hl]
 ·simp only [List.length_cons, List.length_nil] at q1 q2
  have VE : ¬ (2 <= s.length /\ s.take 2 ∈ xB) := by
   rintro ⟨r1, r2⟩
   obtain ⟨j, hj⟩ := List.getElem?_of_mem r2
   have h9' : xB.length = 9 := rfl
   have Zf := (uz.1 hj).1
   have hx : nL[j]? = some (s.take 2) := by
    unfold nL; rw [BC Zf, hj]
   exact h2 j (by omega) _ hx ⟨by rw [Hb _ r2]; exact r1, by rw [Hb _ r2]⟩
  have h0 : s[0]? = some c := by
   cases s with
   | nil => simp at q1
   | cons a s => simp at q2; simp [q2]
  unfold eC;rw [if_neg VE, if_pos ⟨c, hc, h0⟩]
  rfl
theorem AF {s : bK} (h : ∀ x ∈ nL, ¬ Bb x s) : eC s = 0 := by
 unfold eC;have VE : ¬ (2 <= s.length /\ s.take 2 ∈ xB) := by
  rintro ⟨r1, r2⟩
  have hlj : ∀ x ∈ xB, x.length = 2 := by decide
  exact h _ (List.mem_append_left _ r2) ⟨by rw [hlj _ r2]; exact r1, by rw [hlj _ r2]⟩
 rw [if_neg VE, if_neg]
 rintro ⟨c, hc, hs⟩
 cases s with
 | nil => simp at hs
 | cons a s =>
  simp at hs; subst hs
  exact h [a] (List.mem_append_right _ (List.mem_map.2 ⟨a, hc, rfl⟩)) ⟨by simp, by simp⟩
theorem Lg {c : UInt8} {s : bK} {p : Nat} (h : eM (cI c) = 0) : ki (c :: s) p = .bad 6 p := by
 unfold eM vn at h;simp only [decide_eq_true_eq] at h
 split at h
 ·cases h
 split at h
 ·cases h
 split at h
 ·cases h
 split at h
 ·cases h
 split at h
 ·cases h
 rename_i h1 h2 h3 h4 h5
 have hw : bG (c :: s) = 0 := by unfold bG; exact if_neg h1
 have hs : eC (c :: s) = 0 := by
  refine AF fun x hx q => h5 ?_
  have : ∀ x ∈ nL, ∃ a ∈ KZ, x[0]? = some a := by decide
  obtain ⟨a, ha, Vu⟩ := this x hx
  obtain ⟨q1, q2⟩ := q
  refine ⟨a, ha, ?_⟩
  cases x with
  | nil => simp at Vu
  | cons b x =>
   simp only [List.getElem?_cons_zero, bf] at Vu;subst Vu;simp only [List.length_cons, List.take_succ_cons, List.cons.injEq] at q2;rw [q2.1]
 rw [mS (by simp)];simp only [List.getElem_cons_zero];rw [if_neg h2, hw, hs];simp
theorem tU {n : Int} : eM n = 3 ↔ bX n := by
 unfold eM vn;simp only [decide_eq_true_eq];by_cases h : bX n
 ·simp [h]
 ·rw [if_neg h]
  constructor
  ·intro q
   repeat' split at q
   all_goals cases q
  ·intro q; exact absurd q h
theorem qI {n : Int} : eM n = 4 ↔ aN n := by
 unfold eM vn;simp only [decide_eq_true_eq];by_cases h : aN n
 ·rw [if_neg (by unfold bX; unfold aN at h; omega), if_pos h]; simp [h]
 ·rw [if_neg h]
  constructor
  ·intro q
   repeat' split at q
   all_goals cases q
  ·intro q; exact absurd q h
theorem vk {n : Int} : eM n = 1 ↔ cZ n := by
 unfold eM vn;simp only [decide_eq_true_eq];by_cases h : cZ n
 ·rw [if_neg (by unfold bX; unfold cZ at h; omega), if_neg (by unfold aN; unfold cZ at h; omega), if_neg (by unfold cZ at h; omega), if_pos h]; simp [h]
 ·rw [if_neg h]
  constructor
  ·intro q
   repeat' split at q
   all_goals cases q
  ·intro q; exact absurd q h
theorem z7 {n : Int} : eM n = 2 ↔ n = 35 := by
 unfold eM vn;simp only [decide_eq_true_eq];by_cases h : n = 35
 ·subst h; decide
 ·rw [if_neg h]
  constructor
  ·intro q
   repeat' split at q
   all_goals cases q
  ·intro q; exact absurd q h
theorem R2 {n : Int} : 0 <= eM n /\ eM n <= 5 := by
 unfold eM vn;simp only [decide_eq_true_eq]
 repeat' split
 all_goals decide
end
section
theorem AE {l : List bK} {i : Nat} : (lc l)[i]? = (l[i]?).map fun s => [.str s] := by unfold lc; rw [List.getElem?_map]
theorem rk {l : List bK} : (lc l).length = l.length := by unfold lc; rw [List.length_map]
theorem MY {l : List bK} {m : Mem} : m.load none (Wd l) = some (.fz 0 1 (lc l)) := rfl
def jB (l : List Int) : List (List EV) := l.map fun s => [.int .i64 s]
theorem O9 {l : List Int} {i : Nat} : (jB l)[i]? = (l[i]?).map fun s => [.int .i64 s] := by unfold jB; rw [List.getElem?_map]
theorem GB {l : List Int} : (jB l).length = l.length := by unfold jB; rw [List.length_map]
def S7 {α : Type} [DecidableEq α] (x : α) : List α -> Nat
 | [] => 0
 | a :: l => if a = x then 0 else S7 x l + 1
theorem LG {α : Type} [DecidableEq α] {x : α} : ∀ {l : List α} {i : Nat}, x ∉ l.take i -> l[i]? = some x -> S7 x l = i
 | [], i, _, h => by simp at h
 | a :: l, 0, _, h => by simp only [List.getElem?_cons_zero, bf] at h; simp only [S7, if_pos h]
 | a :: l, i + 1, hn, h => by
  simp only [List.take_succ_cons, oU, not_or] at hn;simp only [S7, if_neg (Ne.symm hn.1), LG hn.2 (by simpa using h)]
def Up {α : Type} [DecidableEq α] (x : α) (l : List α) : Int := if x ∈ l then (S7 x l : Int) else -1
theorem M7 {α : Type} [DecidableEq α] {x : α} {l : List α} : (0 <= Up x l) = (x ∈ l) := by
 unfold Up;by_cases h : x ∈ l
 ·rw [if_pos h]; simp [h]
 ·rw [if_neg h]; simp [h]
end
section
theorem Mh {s : bK} {c : Int} {m : Mem} : run U gy [.str s, .int .u8 c] m = some (.ret (.int .i64 (Go.Lib.indexByte s c.toNat.toUInt8)) m) := by
 rw [Hm (g := gr) (by unfold U UT PT; rfl)]
 simp [gr]
theorem Oy {s : bK} {c : Int} : cR B K eZ [.str s, .int .u8 c] = some (.int .i64 (Go.Lib.indexByte s c.toNat.toUInt8)) := by
 rw [eE (by simp [aH])]
 simp +contextual -implicitDefEqProofs (maxSteps := 1000000) (maxDischargeDepth := 8) only [aH, Mh, ax, ab, implies_true, simprocAttr]
theorem KU {s : bK} {c : Int} : cR B K nX [.str s, .int .u8 c] = some (.int .i64 (Go.Lib.indexByte s c.toNat.toUInt8)) := by
 rw [eE (by simp [dC])]
 simp +contextual -implicitDefEqProofs (maxSteps := 1000000) (maxDischargeDepth := 8) only [dC, Oy, ax, ab, implies_true, simprocAttr]
theorem Vp {s : bK} {c : UInt8} : (0 <= Go.Lib.indexByte s c) = (∃ a ∈ s, cI c = cI a) := by
 have := Go.Lib.contains_iff_indexByte s c
 refine propext ?_
 rw [<- decide_eq_true_iff (p := 0 <= Go.Lib.indexByte s c), <- this, List.contains_iff_mem]
 constructor
 ·intro h; exact ⟨c, h, rfl⟩
 ·rintro ⟨a, ha, h⟩
  have : c = a := UInt8.toNat_inj.1 (by unfold cI at h; omega)
  rw [this]; exact ha
theorem Kf {n : Int} {Q : Prop} (h1 : n < 48 -> n = 35 -> Q) (h2 : n < 48 -> n = 32 -> Q) (h3 : n < 48 -> n = 9 -> Q) (h4 : n < 48 -> n = 10 -> Q) (h5 : n < 48 -> n = 13 -> Q)
  (h6 : ¬ 97 <= n -> ¬ 65 <= n -> ¬ n = 95 -> ¬ 48 <= n -> ¬ n = 35 -> ¬ n = 32 -> ¬ n = 9 -> ¬ n = 10 -> ¬ n = 13 -> Q)
  (h7 : ¬ 97 <= n -> ¬ 65 <= n -> ¬ n = 95 -> 48 <= n -> n <= 57 -> Q)
  (h8 : ¬ 97 <= n -> ¬ 65 <= n -> ¬ n = 95 -> 48 <= n -> ¬ n <= 57 -> ¬ n = 35 -> ¬ n = 32 -> ¬ n = 9 -> ¬ n = 10 -> ¬ n = 13 -> Q)
  (h9 : ¬ 97 <= n -> 65 <= n -> n <= 90 -> Q)
  (CO : ¬ 97 <= n -> 65 <= n -> ¬ n <= 90 -> n = 95 -> Q)
  (IQ : ¬ 97 <= n -> 65 <= n -> ¬ n <= 90 -> ¬ n = 95 -> 48 <= n -> ¬ n <= 57 -> ¬ n = 35 -> ¬ n = 32 -> ¬ n = 9 -> ¬ n = 10 -> ¬ n = 13 -> Q)
  (KH : 97 <= n -> n <= 122 -> Q)
  (Ty : 97 <= n -> ¬ n <= 122 -> 65 <= n -> ¬ n <= 90 -> ¬ n = 95 -> 48 <= n -> ¬ n <= 57 -> ¬ n = 35 -> ¬ n = 32 -> ¬ n = 9 -> ¬ n = 10 -> ¬ n = 13 -> Q) : Q := by
 by_cases a : 97 <= n
 ·by_cases b : n <= 122
  ·exact KH a b
  ·exact Ty a b (by omega) (by omega) (by omega) (by omega) (by omega) (by omega) (by omega) (by omega) (by omega) (by omega)
 ·by_cases b : 65 <= n
  ·by_cases c : n <= 90
   ·exact h9 a b c
   ·by_cases d : n = 95
    ·exact CO a b c d
    ·exact IQ a b c d (by omega) (by omega) (by omega) (by omega) (by omega) (by omega) (by omega)
  ·by_cases c : 48 <= n
   ·by_cases d : n <= 57
    ·exact h7 a b (by omega) c d
    ·exact h8 a b (by omega) c d (by omega) (by omega) (by omega) (by omega) (by omega)
   ·by_cases e1 : n = 35
    ·exact h1 (by omega) e1
    by_cases e2 : n = 32
    ·exact h2 (by omega) e2
    by_cases e3 : n = 9
    ·exact h3 (by omega) e3
    by_cases e4 : n = 10
    ·exact h4 (by omega) e4
    by_cases e5 : n = 13
    ·exact h5 (by omega) e5
    exact h6 a b (by omega) c e1 e2 e3 e4 e5
theorem pC {c : UInt8} : cR B K iS [.int .u8 (cI c)] = some (.int .i64 (eM (cI c))) := by
 rw [eE (by simp [gY])]
 have Tp : ∀ s : bK, cR B K nX [.str s, .int .u8 (cI c)] = some (.int .i64 (Go.Lib.indexByte s c)) := fun s => by rw [KU]; simp
 have hm : (0 <= Go.Lib.indexByte [124, 38, 61, 33, 60, 62, 43, 45, 42, 47, 37, 40, 41, 123, 125, 91, 93, 44, 59] c) = (decide (∃ a ∈ KZ, cI c = cI a) = true) := by rw [decide_eq_true_eq]; exact Vp
 unfold eM vn bX aN cZ;generalize decide (∃ a ∈ KZ, cI c = cI a) = Q at hm ⊢
 generalize cI c = n at *
 refine Kf (n := n) ?_ ?_ ?_ ?_ ?_ ?_ ?_ ?_ ?_ ?_ ?_ ?_ ?_
 all_goals intros
 case refine_1 | refine_2 | refine_3 | refine_4 | refine_5 | refine_10 => subst n; simp +contextual -implicitDefEqProofs (maxSteps := 1000000) (maxDischargeDepth := 8) only [gY, Tp, hm, ax, ab, implies_true, simprocAttr]
 all_goals
  simp +contextual -implicitDefEqProofs (maxSteps := 1000000) (maxDischargeDepth := 8) only [gY, Tp, hm, *, ax, ab, implies_true, simprocAttr]
 all_goals first | (simp_all; done) | (cases Q <;> simp_all [Uq])
end
section
theorem JB {l : List Int} {x : Int} (hl : l.length < 1000000000) {tg : Nat} {m0 : Mem} {fr : Fr} (h0 : fr.get 0 = .fz tg 1 (jB l)) (h1 : fr.get 1 = .int .i64 x) (h7 : fr.get 7 = .int .i64 (l.length : Int)) (h8 : fr.get 8 = .int .i64 0) (hd : fr.defers = []) :
  ∃ o, exec U (.loop dN) fr m0 = some o /\ ((x ∈ l /\ ∃ fr', o = .ret fr' m0 /\ fr'.get 4 = .int .i64 (S7 x l : Int) /\ fr'.defers = []) \/ (x ∉ l /\ ∃ fr', o = .exit 0 fr' m0 /\ fr'.defers = [])) := by
 refine iE (σ := Nat) (fun i fr m => m = m0 /\ i <= l.length /\ x ∉ l.take i /\ fr.get 0 = .fz tg 1 (jB l) /\ fr.get 1 = .int .i64 x /\ fr.get 7 = .int .i64 (l.length : Int) /\ fr.get 8 = .int .i64 (i : Int) /\ fr.defers = []) (fun i => l.length - i) _ ?_ 0 fr m0 ⟨rfl, ml _, by simp, h0, h1, h7, h8, hd⟩
 rintro i fr m ⟨rfl, hi, hn, h0, h1, h7, h8, hd⟩
 generalize hX : exec U dN fr m = X
 by_cases bn : i < l.length
 ·have hc : (i : Int) < (l.length : Int) := by omega
  have hg : l[i]? = some l[i] := nc bn
  have ug := cQ (i := i) (by omega)
  simp +contextual -implicitDefEqProofs (maxSteps := 1000000) (maxDischargeDepth := 8) only [dN, h0, h1, h7, h8, hd, hc, hg, bn, ug, b9, O9, GB, ax, ab, implies_true, simprocAttr] at hX
  subst hX;refine uU (fun he => mC (.inl ⟨by rw [he]; exact Mv bn, _, rfl, ?_, by simp only [hd, aq, Nat.reduceBEq ]⟩)) (fun he => eR (i + 1) (by omega) ⟨rfl, bn, ?_, by simp only [h0, aq, Nat.reduceBEq ], by simp only [h1, aq, Nat.reduceBEq ], by simp only [h7, aq, Nat.reduceBEq ], by simp only [aq, Nat.reduceBEq ], by simp only [hd, aq, Nat.reduceBEq ]⟩)
  ·have : S7 x l = i := LG hn (by rw [hg, he])
   rw [this]; simp only [aq, Nat.reduceBEq ]
  ·rw [List.take_succ_eq_append_getElem bn, yb]
   rintro (q | q)
   ·exact hn q
   ·exact he (DL.1 q)
 ·have hc : ¬ ((i : Int) < (l.length : Int)) := by omega
  simp +contextual -implicitDefEqProofs (maxSteps := 1000000) (maxDischargeDepth := 8) only [dN, h0, h7, h8, hd, hc, ax, ab, implies_true, simprocAttr] at hX
  subst hX;have : l.take i = l := PX (by omega)
  rw [this] at hn;exact eS (.inr ⟨hn, _, rfl, by simp only [hd, aq, Nat.reduceBEq ]⟩)
theorem LI {l : List Int} {x : Int} (hl : l.length < 1000000000) {tg : Nat} {m : Mem} : run U xH [.fz tg 1 (jB l), .int .i64 x] m = some (.ret (.int .i64 (Up x l)) m) := by
 rw [bY (by simp [dW])]
 generalize hL : exec (UT B K) (aE.loop dN) = L
 simp +contextual -implicitDefEqProofs (maxSteps := 1000000) (maxDischargeDepth := 8) only [dW, GB, ax, ab, implies_true, simprocAttr]
 subst hL;generalize hX : exec _ (.loop dN) _ _ = X
 obtain ⟨o, rfl, h⟩ := iD hX (JB (l := l) (x := x) hl (tg := tg) (by simp only [aq, Nat.reduceBEq ]) (by simp only [aq, Nat.reduceBEq ]) (by simp only [aq, Nat.reduceBEq ]) (by simp only [aq, Nat.reduceBEq ]) (by simp only [aq, Nat.reduceBEq ]))
 rcases h with ⟨h, fr', rfl, h4, hd⟩ | ⟨h, fr', rfl, hd⟩
 ·simp +contextual -implicitDefEqProofs (maxSteps := 1000000) (maxDischargeDepth := 8) only [h, h4, hd, Up, ax, ab, implies_true, simprocAttr]
 ·simp +contextual -implicitDefEqProofs (maxSteps := 1000000) (maxDischargeDepth := 8) only [h, hd, Up, ax, ab, implies_true, simprocAttr]
theorem LJ {l : List Int} {x : Int} (hl : l.length < 1000000000) {tg : Nat} {m : Mem} : run U ur [.fz tg 1 (jB l), .int .i64 x] m = some (.ret (bo (x ∈ l)) m) := by
 rw [bY (by simp [cM])]
 have h := fun m => LI (x := x) hl (tg := tg) (m := m)
 simp +contextual -implicitDefEqProofs (maxSteps := 1000000) (maxDischargeDepth := 8) only [cM, h, M7, ax, ab, implies_true, simprocAttr]
end
section
theorem DZ {l : List bK} {x : bK} (hl : l.length < 1000000000) {tg : Nat} {m0 : Mem} {fr : Fr} (h0 : fr.get 0 = .fz tg 1 (lc l)) (h1 : fr.get 1 = .str x) (h7 : fr.get 7 = .int .i64 (l.length : Int)) (h8 : fr.get 8 = .int .i64 0) (hd : fr.defers = []) :
  ∃ o, exec U (.loop cG) fr m0 = some o /\ ((x ∈ l /\ ∃ fr', o = .ret fr' m0 /\ fr'.get 4 = .int .i64 (S7 x l : Int) /\ fr'.defers = []) \/ (x ∉ l /\ ∃ fr', o = .exit 0 fr' m0 /\ fr'.defers = [])) := by
 refine iE (σ := Nat) (fun i fr m => m = m0 /\ i <= l.length /\ x ∉ l.take i /\ fr.get 0 = .fz tg 1 (lc l) /\ fr.get 1 = .str x /\ fr.get 7 = .int .i64 (l.length : Int) /\ fr.get 8 = .int .i64 (i : Int) /\ fr.defers = []) (fun i => l.length - i) _ ?_ 0 fr m0 ⟨rfl, ml _, by simp, h0, h1, h7, h8, hd⟩
 rintro i fr m ⟨rfl, hi, hn, h0, h1, h7, h8, hd⟩
 generalize hX : exec U cG fr m = X
 by_cases bn : i < l.length
 ·have hc : (i : Int) < (l.length : Int) := by omega
  have hg : l[i]? = some l[i] := nc bn
  have ug := cQ (i := i) (by omega)
  simp +contextual -implicitDefEqProofs (maxSteps := 1000000) (maxDischargeDepth := 8) only [cG, h0, h1, h7, h8, hd, hc, hg, bn, ug, b9, AE, rk, ax, ab, implies_true, simprocAttr] at hX
  subst hX;refine uU (fun he => mC (.inl ⟨by rw [he]; exact Mv bn, _, rfl, ?_, by simp only [hd, aq, Nat.reduceBEq ]⟩)) (fun he => eR (i + 1) (by omega) ⟨rfl, bn, ?_, by simp only [h0, aq, Nat.reduceBEq ], by simp only [h1, aq, Nat.reduceBEq ], by simp only [h7, aq, Nat.reduceBEq ], by simp only [aq, Nat.reduceBEq ], by simp only [hd, aq, Nat.reduceBEq ]⟩)
  ·have : S7 x l = i := LG hn (by rw [hg, he])
   rw [this]; simp only [aq, Nat.reduceBEq ]
  ·rw [List.take_succ_eq_append_getElem bn, yb]
   rintro (q | q)
   ·exact hn q
   ·exact he (DL.1 q)
 ·have hc : ¬ ((i : Int) < (l.length : Int)) := by omega
  simp +contextual -implicitDefEqProofs (maxSteps := 1000000) (maxDischargeDepth := 8) only [cG, h0, h7, h8, hd, hc, ax, ab, implies_true, simprocAttr] at hX
  subst hX;have : l.take i = l := PX (by omega)
  rw [this] at hn;exact eS (.inr ⟨hn, _, rfl, by simp only [hd, aq, Nat.reduceBEq ]⟩)
theorem FC {l : List bK} {x : bK} (hl : l.length < 1000000000) {tg : Nat} {m : Mem} : run U uq [.fz tg 1 (lc l), .str x] m = some (.ret (.int .i64 (Up x l)) m) := by
 rw [bY (by simp [cL])]
 generalize hL : exec (UT B K) (aE.loop cG) = L
 simp +contextual -implicitDefEqProofs (maxSteps := 1000000) (maxDischargeDepth := 8) only [cL, rk, ax, ab, implies_true, simprocAttr]
 subst hL;generalize hX : exec _ (.loop cG) _ _ = X
 obtain ⟨o, rfl, h⟩ := iD hX (DZ (l := l) (x := x) hl (tg := tg) (by simp only [aq, Nat.reduceBEq ]) (by simp only [aq, Nat.reduceBEq ]) (by simp only [aq, Nat.reduceBEq ]) (by simp only [aq, Nat.reduceBEq ]) (by simp only [aq, Nat.reduceBEq ]))
 rcases h with ⟨h, fr', rfl, h4, hd⟩ | ⟨h, fr', rfl, hd⟩
 ·simp +contextual -implicitDefEqProofs (maxSteps := 1000000) (maxDischargeDepth := 8) only [h, h4, hd, Up, ax, ab, implies_true, simprocAttr]
 ·simp +contextual -implicitDefEqProofs (maxSteps := 1000000) (maxDischargeDepth := 8) only [h, hd, Up, ax, ab, implies_true, simprocAttr]
theorem FE {l : List bK} {x : bK} (hl : l.length < 1000000000) {tg : Nat} {m : Mem} : run U qW [.fz tg 1 (lc l), .str x] m = some (.ret (bo (x ∈ l)) m) := by
 rw [bY (by simp [ca])]
 have h := fun m => FC (x := x) hl (tg := tg) (m := m)
 simp +contextual -implicitDefEqProofs (maxSteps := 1000000) (maxDischargeDepth := 8) only [ca, h, M7, ax, ab, implies_true, simprocAttr]
end
section
theorem Jx {s : bK} : cR B K xI [.str s] = some (bo (s ∈ iw)) := by
 rw [eE (by simp [pE])]
 have h := fun m => FE (l := iw) (x := s) (by decide) (tg := 0) (m := m)
 have hl := fun m => MY (l := iw) (m := m)
 have e : L_lex_words = iw := rfl
 simp +contextual -implicitDefEqProofs (maxSteps := 1000000) (maxDischargeDepth := 8) only [pE, e, hl, h, ax, ab, implies_true, simprocAttr]
end
section
theorem te {P Q : Int -> Prop} [DecidablePred P] [DecidablePred Q] (h : ∀ n, P n ↔ Q n) : ∀ s : bK, lead P s = lead Q s
 | [] => rfl
 | c :: s => by
  simp only [lead, te h s];by_cases q : Q (cI c)
  ·rw [if_pos q, if_pos ((h _).2 q)]
  ·rw [if_neg q, if_neg (fun w => q ((h _).1 w))]
abbrev BN (cl : List Int) : Int -> Prop := fun n => eM n ∈ cl
theorem Ql {s : bK} {cl : List Int} {tg : Nat} (hs : s.length < 1000000000) (oQ : cl.length < 1000) {m0 : Mem} {fr : Fr} (h0 : fr.get 0 = .str s) (h1 : fr.get 1 = .fz tg 1 (jB cl)) (h5 : fr.get 5 = .int .i64 0) (hd : fr.defers = []) :
  ∃ o, exec U (.loop gX) fr m0 = some o /\ ∃ fr', o = .exit 0 fr' m0 /\ fr'.get 5 = .int .i64 (lead (BN cl) s : Int) /\ fr'.defers = [] := by
 refine iE (σ := Nat) (fun i fr m => m = m0 /\ i <= s.length /\ fr.get 0 = .str s /\ fr.get 1 = .fz tg 1 (jB cl) /\ fr.get 5 = .int .i64 (i : Int) /\ lead (BN cl) s = i + lead (BN cl) (s.drop i) /\ fr.defers = []) (fun i => s.length - i) _ ?_ 0 fr m0 ⟨rfl, ml _, h0, h1, h5, by simp, hd⟩
 rintro i fr m ⟨rfl, hi, h0, h1, h5, hr, hd⟩
 generalize hX : exec U gX fr m = X
 by_cases bn : i < s.length
 ·have hc : (i : Int) < (s.length : Int) := by omega
  have hg : s[i]? = some s[i] := nc bn
  have ug := cQ (i := i) (by omega)
  rw [drop_cons bn, lead] at hr;generalize s[i] = c at hg hr
  have Ry : cR B K iS [.int .u8 (c.toNat : Int)] = some (.int .i64 (eM (cI c))) := pC
  have hh := fun m => LJ (l := cl) (x := eM (cI c)) (by omega) (tg := tg) (m := m)
  by_cases hq : eM (cI c) ∈ cl
  ·rw [if_pos hq] at hr
   simp +contextual -implicitDefEqProofs (maxSteps := 1000000) (maxDischargeDepth := 8) only [gX, h0, h1, h5, hd, hc, hg, bn, ug, Ry, hh, hq, gL, b9, ax, ab, implies_true, simprocAttr] at hX
   subst hX;exact eR (i + 1) (by omega) ⟨rfl, bn, by simp only [h0, aq, Nat.reduceBEq ], by simp only [h1, aq, Nat.reduceBEq ], by simp only [aq, Nat.reduceBEq ], by omega, by simp only [hd, aq, Nat.reduceBEq ]⟩
  ·rw [if_neg hq] at hr
   simp +contextual -implicitDefEqProofs (maxSteps := 1000000) (maxDischargeDepth := 8) only [gX, h0, h1, h5, hd, hc, hg, bn, ug, Ry, hh, hq, fT, b9, ax, ab, implies_true, simprocAttr] at hX
   subst hX;exact eS ⟨_, rfl, by simp only [h5, hr, Nat.add_zero, aq, Nat.reduceBEq ], by simp only [hd, aq, Nat.reduceBEq ]⟩
 ·have hc : ¬ ((i : Int) < (s.length : Int)) := by omega
  obtain rfl : i = s.length := by omega
  rw [List.drop_length, lead, Nat.add_zero] at hr;simp +contextual -implicitDefEqProofs (maxSteps := 1000000) (maxDischargeDepth := 8) only [gX, h0, h1, h5, hd, hc, ax, ab, implies_true, simprocAttr] at hX
  subst hX;exact eS ⟨_, rfl, by simp only [h5, hr, aq, Nat.reduceBEq ], by simp only [hd, aq, Nat.reduceBEq ]⟩
theorem run_eq {s : bK} {cl : List Int} {tg : Nat} (hs : s.length < 1000000000) (oQ : cl.length < 1000) : cR B K oN [.str s, .fz tg 1 (jB cl)] = some (.int .i64 (lead (BN cl) s : Int)) := by
 rw [eE (by simp [ly])]
 generalize hL : exec (UT B K) (aE.loop gX) = L
 simp +contextual -implicitDefEqProofs (maxSteps := 1000000) (maxDischargeDepth := 8) only [ly, ax, ab, implies_true, simprocAttr]
 subst hL;generalize hX : exec _ (.loop gX) _ _ = X
 obtain ⟨o, rfl, fr', rfl, h5, hd⟩ := iD hX (Ql (s := s) (cl := cl) (tg := tg) hs oQ (by simp only [aq, Nat.reduceBEq ]) (by simp only [aq, Nat.reduceBEq ]) (by simp only [aq, Nat.reduceBEq ]) (by simp only [aq, Nat.reduceBEq ]))
 simp +contextual -implicitDefEqProofs (maxSteps := 1000000) (maxDischargeDepth := 8) only [h5, hd, ax, ab, implies_true, simprocAttr]
theorem KV {s x : bK} : cR B K lK [.str s, .str x] = some (bo (Bb x s)) := by
 rw [eE (by simp [aQ])]
 by_cases h : x.length <= s.length
 ·have hc : (x.length : Int) <= (s.length : Int) := by omega
  have hb : aw (some (.int .i64 (x.length : Int))) s.length s.length = some x.length := dM h
  have Nl : aw none 0 x.length = some 0 := rfl
  simp +contextual -implicitDefEqProofs (maxSteps := 1000000) (maxDischargeDepth := 8) only [aQ, hc, hb, Nl, Option.map_none, ax, ab, implies_true, simprocAttr]
  exact TP ⟨fun q => ⟨h, q⟩, fun q => q.2⟩
 ·have hc : ¬ (x.length : Int) <= (s.length : Int) := by omega
  simp +contextual -implicitDefEqProofs (maxSteps := 1000000) (maxDischargeDepth := 8) only [aQ, hc, ax, ab, implies_true, simprocAttr]
  exact congrArg some (Yu fun q => h q.1)
theorem IZ {s x : bK} : cR B K xg [.str s, .str x] = some (bo (Bb x s)) := by
 rw [eE (by simp [dD])]
 simp +contextual -implicitDefEqProofs (maxSteps := 1000000) (maxDischargeDepth := 8) only [dD, KV, ax, ab, implies_true, simprocAttr]
theorem SS {s x : bK} {b t : Nat} {m : Mem} (hb : m.get b = .cells [.str s] 1 t false) (bn : b < m.next) : run U fH [.str x, .ptr b 0] m = some (.ret (bo (Bb x s)) m) := by
 rw [bY (by simp [dc])]
 simp +contextual -implicitDefEqProofs (maxSteps := 1000000) (maxDischargeDepth := 8) only [dc, hb, bn, IZ, ax, ab, implies_true, simprocAttr]
theorem Pn {l : List bK} {s : bK} {b t tg : Nat} (hl : l.length < 1000000000) {m0 : Mem} {fr : Fr} (hb : m0.get b = .cells [.str s] 1 t false) (V6 : b < m0.next) (h0 : fr.get 0 = .fz tg 1 (lc l)) (h1 : fr.get 1 = .func fH [] [.ptr b 0]) (h7 : fr.get 7 = .int .i64 (l.length : Int)) (h8 : fr.get 8 = .int .i64 0) (hd : fr.defers = []) :
  ∃ o, exec U (.loop bQ) fr m0 = some o /\ ((∃ (i : Nat) (y : bK), l[i]? = some y /\ Bb y s /\ (∀ j : Nat, j < i -> ∀ x, l[j]? = some x -> ¬ Bb x s) /\ ∃ fr', o = .ret fr' m0 /\ fr'.get 4 = .int .i64 (i : Int) /\ fr'.defers = []) \/ ((∀ x ∈ l, ¬ Bb x s) /\ ∃ fr', o = .exit 0 fr' m0 /\ fr'.defers = [])) := by
 refine iE (σ := Nat) (fun i fr m => m = m0 /\ i <= l.length /\ (∀ j, j < i -> ∀ x, l[j]? = some x -> ¬ Bb x s) /\ fr.get 0 = .fz tg 1 (lc l) /\ fr.get 1 = .func fH [] [.ptr b 0] /\ fr.get 7 = .int .i64 (l.length : Int) /\ fr.get 8 = .int .i64 (i : Int) /\ fr.defers = []) (fun i => l.length - i) _ ?_ 0 fr m0 ⟨rfl, ml _, by omega, h0, h1, h7, h8, hd⟩
 rintro i fr m ⟨rfl, hi, hn, h0, h1, h7, h8, hd⟩
 generalize hX : exec U bQ fr m = X
 by_cases bn : i < l.length
 ·have hc : (i : Int) < (l.length : Int) := by omega
  have hg : l[i]? = some l[i] := nc bn
  have ug := cQ (i := i) (by omega)
  have hp := fun x => SS (x := x) hb V6
  simp +contextual -implicitDefEqProofs (maxSteps := 1000000) (maxDischargeDepth := 8) only [bQ, h0, h1, h7, h8, hd, hc, hg, bn, ug, hp, b9, AE, rk, ax, ab, implies_true, simprocAttr] at hX
  subst hX;refine uU (fun he => mC (.inl ⟨i, l[i], hg, he, hn, _, rfl, by simp only [aq, Nat.reduceBEq ], by simp only [hd, aq, Nat.reduceBEq ]⟩)) (fun he => eR (i + 1) (by omega) ⟨rfl, bn, fun j hj x hx => ?_, by simp only [h0, aq, Nat.reduceBEq ], by simp only [h1, aq, Nat.reduceBEq ], by simp only [h7, aq, Nat.reduceBEq ], by simp only [aq, Nat.reduceBEq ], by simp only [hd, aq, Nat.reduceBEq ]⟩)
  by_cases WU : j < i
  ·exact hn j WU x hx
  ·obtain rfl : j = i := by omega
   rw [hg] at hx; cases hx; exact he
 ·have hc : ¬ ((i : Int) < (l.length : Int)) := by omega
  obtain rfl : i = l.length := by omega
  simp +contextual -implicitDefEqProofs (maxSteps := 1000000) (maxDischargeDepth := 8) only [bQ, h0, h7, h8, hd, hc, ax, ab, implies_true, simprocAttr] at hX
  subst hX;refine eS (.inr ⟨fun x hx => ?_, _, rfl, by simp only [hd, aq, Nat.reduceBEq ]⟩)
  obtain ⟨j, hj⟩ := List.getElem?_of_mem hx
  exact hn j (uz.1 hj).1 x hj
theorem RP {l : List bK} {s : bK} {b t tg : Nat} (hl : l.length < 1000000000) {m : Mem} (hb : m.get b = .cells [.str s] 1 t false) (V6 : b < m.next) :
  (∃ (i : Nat) (y : bK), l[i]? = some y /\ Bb y s /\ (∀ j : Nat, j < i -> ∀ x, l[j]? = some x -> ¬ Bb x s) /\ run U kc [.fz tg 1 (lc l), .func fH [] [.ptr b 0]] m = some (.ret (.int .i64 (i : Int)) m)) \/
  ((∀ x ∈ l, ¬ Bb x s) /\ run U kc [.fz tg 1 (lc l), .func fH [] [.ptr b 0]] m = some (.ret (.int .i64 (-1)) m)) := by
 rw [bY (by simp [bT])]
 generalize hL : exec (UT B K) (aE.loop bQ) = L
 simp +contextual -implicitDefEqProofs (maxSteps := 1000000) (maxDischargeDepth := 8) only [bT, rk, ax, ab, implies_true, simprocAttr]
 subst hL;generalize hX : exec _ (.loop bQ) _ _ = X
 obtain ⟨o, rfl, h⟩ := iD hX (Pn (l := l) (s := s) hl (tg := tg) hb V6 (by simp only [aq, Nat.reduceBEq ]) (by simp only [aq, Nat.reduceBEq ]) (by simp only [aq, Nat.reduceBEq ]) (by simp only [aq, Nat.reduceBEq ]) (by simp only [aq, Nat.reduceBEq ]))
 rcases h with ⟨i, y, h1, h2, h3, fr', rfl, h4, hd⟩ | ⟨h, fr', rfl, hd⟩
 ·refine .inl ⟨i, y, h1, h2, h3, ?_⟩
  simp +contextual -implicitDefEqProofs (maxSteps := 1000000) (maxDischargeDepth := 8) only [h4, hd, ax, ab, implies_true, simprocAttr]
 ·refine .inr ⟨h, ?_⟩
  simp +contextual -implicitDefEqProofs (maxSteps := 1000000) (maxDischargeDepth := 8) only [hd, ax, ab, implies_true, simprocAttr]
theorem M6 : ∀ s : bK, (Go.Lib.indexByte s 10 = (ep s : Int) /\ ep s < s.length) \/ (Go.Lib.indexByte s 10 = -1 /\ ep s = s.length)
 | [] => .inr ⟨rfl, rfl⟩
 | c :: s => by
  unfold ep;rw [lead, Go.Lib.indexByte];by_cases h : cI c = 10
  ·have hc : c = 10 := UInt8.toNat_inj.1 (by unfold cI at h; simp; omega)
   subst hc;have h' : (cI 10 ≠ 10) = False := eq_false (by decide)
   simp only [h', if_false, beq_self_eq_true, if_true];exact .inl ⟨rfl, by simp⟩
  ·have hc : ¬ (c == 10) = true := by
    rw [beq_iff_eq]; rintro rfl; exact h rfl
   rw [if_neg hc, if_pos h];rcases M6 s with ⟨h1, h2⟩ | ⟨h1, h2⟩
   ·unfold ep at h1 h2
    refine .inl ⟨?_, by simp only [List.length_cons]; omega⟩
    rw [h1, if_neg (by simp)]; omega
   ·unfold ep at h2
    refine .inr ⟨?_, by simp only [List.length_cons]; omega⟩
    rw [h1]; rfl
theorem RX {s : bK} (hs : s.length < 1000000000) : ∃ a b, cR B K FJ [.str s, .str [10]] = some (.tuple [.str (s.take (ep s)), .str a, .bool b]) := by
 have Tp : ∀ m : Mem, run U dy [.str s, .str [10]] m = some (.ret (.int .i64 (Go.Lib.indexByte s 10)) m) := fun m => by
  rw [run_pure (g := BX) (by unfold U UT PT; rfl)]; rfl
 have h2 : ∃ a b, cR B K pe [.str s, .str [10]] = some (.tuple [.str (s.take (ep s)), .str a, .bool b]) := by
  rw [eE (by simp [bp])]
  rcases M6 s with ⟨h1, h2⟩ | ⟨h1, h2⟩
  ·have hc : (0 : Int) <= (ep s : Int) := by omega
   have hw : IntKind.i64.wrap ((ep s : Int) + 1) = ((ep s + 1 : Nat) : Int) := cQ (by omega)
   have hb : aw (some (.int .i64 (ep s : Int))) s.length s.length = some (ep s) := dM (by omega)
   have Nl : aw none 0 (ep s) = some 0 := rfl
   have Pg : aw (some (.int .i64 ((ep s + 1 : Nat) : Int))) 0 s.length = some (ep s + 1) := dM (by omega)
   have FU : aw none s.length s.length = some s.length := rfl
   generalize ep s = j at *
   simp +contextual -implicitDefEqProofs (maxSteps := 1000000) (maxDischargeDepth := 8) only [bp, Tp, h1, hc, hw, hb, Nl, Pg, FU, Option.map_none, ax, ab, implies_true, simprocAttr]
   exact ⟨_, _, rfl⟩
  ·rw [h2, List.take_length]
   simp +contextual -implicitDefEqProofs (maxSteps := 1000000) (maxDischargeDepth := 8) only [bp, Tp, h1, ax, ab, implies_true, simprocAttr]
   exact ⟨_, _, rfl⟩
 obtain ⟨a, b, h⟩ := h2
 refine ⟨a, b, ?_⟩
 rw [eE (by simp [gl])]
 simp +contextual -implicitDefEqProofs (maxSteps := 1000000) (maxDischargeDepth := 8) only [gl, h, ax, ab, implies_true, simprocAttr]
end
section
structure Sn (m : Mem) (b : Nat) (s : bK) (p : Nat) (ov : EV) (l : List Tok) : Prop where
 g : m.get b = .cells [.str s, .int .i64 (p : Int), ov] 3 eX false
 lt : b < m.next
 o : jF m ov (jD l).flatten l.length 4 (b + 1)
 n : l.length <= p
 le : p <= s.length
structure Kn (m m' : Mem) (b : Nat) (ov IK : EV) : Prop where
 n : m.next <= m'.next
 k : ∀ c, c < m.next -> c ≠ b -> gq ov c -> m'.get c = m.get c
 f : ∀ c, c < m.next -> c ≠ b -> gq ov c -> gq IK c
theorem Kn.trans {m m' Ul : Mem} {b : Nat} {ov IK Xl : EV} (h : Kn m m' b ov IK) (h' : Kn m' Ul b IK Xl) : Kn m Ul b ov Xl :=
 ⟨pN h.n h'.n, fun c hc hb ho => (h'.k c (mn hc h.n) hb (h.f c hc hb ho)).trans (h.k c hc hb ho), fun c hc hb ho => h'.f c (mn hc h.n) hb (h.f c hc hb ho)⟩
theorem uV {m : Mem} {b p : Nat} {s : bK} {ov : EV} {l : List Tok} (h : Sn m b s p ov l) {k n num : Nat} (hn : p + n <= s.length) (hs : s.length < 1000000) (VD : num < 9223372036854775808) :
  ∃ m' IK, run U fN [.ptr b 0, .int .i64 (k : Int), .int .i64 (n : Int), .int .i64 (num : Int)] m = some (.ret (.tuple []) m') /\ jF m' IK (jD (l ++ [⟨k, (s.drop p).take n, num, p⟩])).flatten (l.length + 1) 4 (b + 1) /\ m'.get b = .cells [.str s, .int .i64 ((p + n : Nat) : Int), IK] 3 eX false /\ Kn m m' b ov IK := by
 rw [bY (by simp [ey])]
 have hg := h.g
 have hb := h.lt
 have hw : IntKind.i64.wrap ((p : Int) + (n : Int)) = ((p + n : Nat) : Int) := by rw [wrap_i64 (by omega) (by omega)]; omega
 have AU : aw (some (.int .i64 (p : Int))) 0 (p + n) = some p := dM (by omega)
 have Pg : aw (some (.int .i64 ((p + n : Nat) : Int))) s.length s.length = some (p + n) := dM hn
 have ht : (s.take (p + n)).drop p = (s.drop p).take n := by rw [List.drop_take, Nat.add_sub_cancel_left]
 simp +contextual -implicitDefEqProofs (maxSteps := 1000000) (maxDischargeDepth := 8) only [ey, hg, hb, hw, AU, Pg, ht, ax, ab, implies_true, simprocAttr]
 generalize hA : fS _ ao 4 ov _ = A
 generalize tp : Mem.mk (nb m.next 32) _ = D1 at hA ⊢
 have tO : D1.next = nb m.next 32 := by rw [<- tp]
 have EY : ∀ c, c < m.next -> D1.get c = m.get c := fun c hc => by
  rw [<- tp];exact (aL (m := Mem.mk (m.next + 27) (bump m 32).gH) (by show c < m.next + 27; omega)).trans rfl
 have Ik : D1.get (nb (m.next + 27) 0) = .cells (Tok.cells ⟨k, (s.drop p).take n, num, p⟩) 4 ao false := by
  rw [<- tp];exact (aM (m := Mem.mk (m.next + 27) (bump m 32).gH) rfl (by simp)).trans rfl
 clear tp;have Zb : jF D1 ov (jD l).flatten l.length 4 (b + 1) := h.o.gz (by rw [tO]; exact bI) fun c hc _ _ => EY c hc
 have hln := h.n
 obtain ⟨a1, o1⟩ := gj (e := ao) Zb (by rw [tO]; unfold nb; omega) (oK (cap := some 1) Ik rfl) rfl (by decide) (by unfold room; omega)
 rw [a1] at hA;subst hA;have Yp : (grow D1 ov ao 4 ((jD l).flatten ++ Tok.cells ⟨k, (s.drop p).take n, num, p⟩)).next = nb m.next 33 := by rw [iJ, tO, eV]
 have Yo : ∀ c, c < D1.next -> gq ov c -> (grow D1 ov ao 4 ((jD l).flatten ++ Tok.cells ⟨k, (s.drop p).take n, num, p⟩)).get c = D1.get c := fun c hc ho => jq hc ho
 generalize grow D1 ov ao 4 ((jD l).flatten ++ Tok.cells ⟨k, (s.drop p).take n, num, p⟩) = G1 at *
 rw [<- AA] at o1;have hbo : gq ov b := h.o.lt (.inr (Nat.lt_succ_self _))
 have KG : b < D1.next := by rw [tO]; unfold nb; omega
 have VV : G1.get b = .cells [.str s, .int .i64 (p : Int), ov] 3 eX false := by rw [Yo b KG hbo, EY b hb, hg]
 simp +contextual -implicitDefEqProofs (maxSteps := 1000000) (maxDischargeDepth := 8) only [VV, tO, Yp, eV, hw, ax, ab, implies_true, simprocAttr]
 rw [tO, eV] at o1;refine ⟨_, _, rfl, o1.gz (by rw [cg, cg]; exact fy _) fun c _ qm _ => by rw [az (by omega), az (by omega)], by rw [bJ], ⟨by rw [cg, cg, Yp]; exact bI, fun c hc V4 ho => ?_, fun c hc V4 ho => gq.of (by unfold nb; omega)⟩⟩
 rw [az V4, az V4, Yo c (by rw [tO]; unfold nb; omega) ho, EY c hc]
theorem SL {M : Mem} {b t : Nat} {x : Int} {s : bK} (hb : M.get b = .cells [.int .i64 x] 1 t false) (hs : s.length < 1000000000) : run U oN [.str s, .slice b 0 1 (some 1)] M = some (.ret (.int .i64 (lead (BN [x]) s : Int)) M) := by
 have h := pn (m := M) (e := 1) (els := jB [x]) (ty := t) (b := b) (cap := some 1) (ro := false) (by rw [hb]; rfl) (by simp [jB]) (by simp [jB]; rfl) rfl
 have hl : (jB [x]).length = 1 := rfl
 rw [hl] at h;have hr := run_eq (cl := [x]) (tg := 2) hs (by simp)
 simp +contextual -implicitDefEqProofs (maxSteps := 1000000) (maxDischargeDepth := 8) only [h, hr, ax, ab, implies_true, simprocAttr]
theorem SK {M : Mem} {b t : Nat} {x y : Int} {s : bK} (hb : M.get b = .cells [.int .i64 x, .int .i64 y] 1 t false) (hs : s.length < 1000000000) : run U oN [.str s, .slice b 0 2 (some 2)] M = some (.ret (.int .i64 (lead (BN [x, y]) s : Int)) M) := by
 have h := pn (m := M) (e := 1) (els := jB [x, y]) (ty := t) (b := b) (cap := some 2) (ro := false) (by rw [hb]; rfl) (by simp [jB]) (by simp [jB]; exact ⟨rfl, rfl⟩) rfl
 have hl : (jB [x, y]).length = 2 := rfl
 rw [hl] at h;have hr := run_eq (cl := [x, y]) (tg := 2) hs (by simp)
 simp +contextual -implicitDefEqProofs (maxSteps := 1000000) (maxDischargeDepth := 8) only [h, hr, ax, ab, implies_true, simprocAttr]
end
section
theorem QF {s : bK} {k : Nat} (hk : k <= s.length) (hs : s.length < 1000000) (KE : ∀ c ∈ s.take k, aN (cI c)) {v0 : EV} {m0 : Mem} {fr : Fr} (h0 : fr.get 0 = v0) (h1 : fr.get 1 = .str s) (h5 : fr.get 5 = .int .i64 0) (h6 : fr.get 6 = .int .i64 (k : Int)) (KH : fr.get 12 = .int .i64 (k : Int)) (Ty : fr.get 13 = .int .i64 0) (hd : fr.defers = []) :
  ∃ o, exec U (.loop cT) fr m0 = some o /\ ((qV 0 (s.take k) = none /\ ∃ fr', o = .ret fr' m0 /\ fr'.get 4 = .int .i64 7 /\ fr'.defers = []) \/
   (∃ n : Nat, qV 0 (s.take k) = some n /\ n < 9223372036854775808 /\ ∃ fr', o = .exit 0 fr' m0 /\ fr'.get 0 = v0 /\ fr'.get 5 = .int .i64 (n : Int) /\ fr'.get 6 = .int .i64 (k : Int) /\ fr'.defers = [])) := by
 refine iE (σ := Nat) (fun i fr m => m = m0 /\ i <= k /\ fr.get 0 = v0 /\ fr.get 1 = .str s /\ (∃ n : Nat, fr.get 5 = .int .i64 (n : Int) /\ n <= 9223372036854775807 /\ qV 0 (s.take k) = qV n ((s.take k).drop i)) /\ fr.get 6 = .int .i64 (k : Int) /\ fr.get 12 = .int .i64 (k : Int) /\ fr.get 13 = .int .i64 (i : Int) /\ fr.defers = []) (fun i => k - i) _ ?_ 0 fr m0 ⟨rfl, ml _, h0, h1, ⟨0, h5, by omega, by simp⟩, h6, KH, Ty, hd⟩
 rintro i fr m ⟨rfl, hi, h0, h1, ⟨n, h5, hn, hr⟩, h6, KH, Ty, hd⟩
 generalize hX : exec U cT fr m = X
 by_cases bn : i < k
 ·have hc : (i : Int) < (k : Int) := by omega
  have hl : i < (s.take k).length := by rw [List.length_take]; omega
  have hls : i < s.length := by omega
  have hg : s[i]? = some (s.take k)[i] := by rw [List.getElem_take, nc hls]
  have V1 := KE _ (Mv hl)
  have ug := cQ (i := i) (by omega)
  rw [drop_cons hl, qV] at hr;generalize (s.take k)[i] = c at hg hr V1
  unfold aN cI at V1;obtain ⟨d, hd1, UD⟩ : ∃ d : Nat, (c.toNat : Int) - 48 = (d : Int) /\ c.toNat - 48 = d := ⟨c.toNat - 48, by omega, rfl⟩
  rw [UD] at hr;have Vv : IntKind.u8.wrap ((c.toNat : Int) - 48) = (d : Int) := by rw [My]; omega
  have hw3 : IntKind.i64.wrap (d : Int) = (d : Int) := wrap_i64 (by omega) (by omega)
  have hw6 : IntKind.i64.wrap (9223372036854775807 - (d : Int)) = 9223372036854775807 - (d : Int) := wrap_i64 (by omega) (by omega)
  have hq : IntKind.i64.wrap ((9223372036854775807 - (d : Int)).tdiv 10) = (9223372036854775807 - (d : Int)) / 10 := by
   rw [Int.tdiv_eq_ediv_of_nonneg (by omega), wrap_i64 (by omega) (by omega)]
  simp +contextual -implicitDefEqProofs (maxSteps := 1000000) (maxDischargeDepth := 8) only [cT, h0, h1, h5, h6, KH, Ty, hd, hc, hg, hls, ug, Vv, hw3, hw6, hq, b9, ax, ab, implies_true, simprocAttr] at hX
  subst hX;refine uU (fun hp => mC (Or.inl ⟨?_, _, rfl, ?_, ?_⟩)) (fun hp => ?_)
  ·rw [hr, if_pos (by omega)]
  ·simp only [aq, Nat.reduceBEq ]
  ·simp only [hd, aq, Nat.reduceBEq ]
  ·have hw4 : IntKind.i64.wrap (10 * (n : Int)) = 10 * (n : Int) := wrap_i64 (by omega) (by omega)
   have XH : IntKind.i64.wrap (10 * (n : Int) + (d : Int)) = ((10 * n + d : Nat) : Int) := by rw [wrap_i64 (by omega) (by omega)]; omega
   refine eR (i + 1) (by omega) ⟨rfl, bn, by simp only [h0, aq, Nat.reduceBEq ], by simp only [h1, aq, Nat.reduceBEq ], ⟨10 * n + d, by simp only [hw4, XH, aq, Nat.reduceBEq ], by omega, ?_⟩, by simp only [h6, aq, Nat.reduceBEq ], by simp only [KH, aq, Nat.reduceBEq ], by simp only [aq, Nat.reduceBEq ], by simp only [hd, aq, Nat.reduceBEq ]⟩
   rw [hr, if_neg (by omega)]
 ·have hc : ¬ ((i : Int) < (k : Int)) := by omega
  obtain rfl : i = k := by omega
  simp +contextual -implicitDefEqProofs (maxSteps := 1000000) (maxDischargeDepth := 8) only [cT, KH, Ty, hd, hc, ax, ab, implies_true, simprocAttr] at hX
  subst hX;rw [List.drop_of_length_le (by rw [List.length_take]; omega)] at hr
  simp only [qV] at hr;exact eS (Or.inr ⟨n, hr, by omega, _, rfl, by simp only [h0, aq, Nat.reduceBEq ], by simp only [h5, aq, Nat.reduceBEq ], by simp only [h6, aq, Nat.reduceBEq ], by simp only [hd, aq, Nat.reduceBEq ]⟩)
theorem Kb (s : bK) : lead (BN [4]) s = lead aN s := te (fun n => by
 unfold BN; rw [DL, qI]) s
theorem Kt (s : bK) : lead (BN [1]) s = lead cZ s := te (fun n => by
 unfold BN; rw [DL, vk]) s
theorem Of (s : bK) : lead (BN [3, 4]) s = lead (fun n => bX n \/ aN n) s := te (fun n => by
 unfold BN; rw [oU, DL, tU, qI]) s
theorem Sn.ext {m : Mem} {b p : Nat} {s : bK} {ov : EV} {l : List Tok} (h : Sn m b s p ov l) (ys : List fK) : Sn (ext m ys) b s p ov l :=
 ⟨by rw [aL h.lt]; exact h.g, by rw [aK]; exact mn h.lt bI, h.o.ext ys, h.n, h.le⟩
theorem Kn.ext (m : Mem) (b : Nat) (ov : EV) (ys : List fK) : Kn m (ext m ys) b ov ov :=
 ⟨by rw [aK]; exact bI, fun c hc _ _ => aL hc, fun c _ _ ho => ho⟩
def Laid (m m' : Mem) (b : Nat) (s : bK) (ov : EV) (l : List Tok) (t : Tok) (q : Nat) : Prop := ∃ IK, Sn m' b s q IK (l ++ [t]) /\ Kn m m' b ov IK
theorem Li {m : Mem} {b p : Nat} {s : bK} {ov : EV} {l : List Tok} (h : Sn m b s p ov l) (hs : s.length < 1000000) (hd0 : 0 < lead aN (s.drop p)) :
  ∃ m', (qV 0 ((s.drop p).take (lead aN (s.drop p))) = none /\ run U nt [.ptr b 0, .str (s.drop p)] m = some (.ret (.int .i64 7) m') /\ Sn m' b s p ov l /\ Kn m m' b ov ov) \/
   (∃ n, qV 0 ((s.drop p).take (lead aN (s.drop p))) = some n /\ run U nt [.ptr b 0, .str (s.drop p)] m = some (.ret (.int .i64 0) m') /\ Laid m m' b s ov l ⟨2, (s.drop p).take (lead aN (s.drop p)), n, p⟩ (p + lead aN (s.drop p))) := by
 have hlen : (s.drop p).length = s.length - p := uy ..
 have hle := kH aN (s.drop p)
 have KE := wB aN (s.drop p)
 have Ti : ∀ (M : Mem) (c : Nat), M.get c = .cells [.int .i64 4] 1 bC false -> run U oN [.str (s.drop p), .slice c 0 1 (some 1)] M = some (.ret (.int .i64 (lead aN (s.drop p) : Int)) M) := fun M c hc => by
  rw [SL hc (by omega), Kb]
 rw [bY (by simp [db])]
 generalize hL : exec (UT B K) (aE.loop cT) = L
 have hb := h.lt
 simp +contextual -implicitDefEqProofs (maxSteps := 1000000) (maxDischargeDepth := 8) only [db, Ti, ax, ab, implies_true, simprocAttr]
 subst hL;generalize hX : exec _ (.loop cT) _ _ = X
 generalize lead aN (s.drop p) = k at *
 obtain ⟨o, rfl, hh⟩ := iD hX (QF (s := s.drop p) (k := k) (v0 := .ptr b 0) hle (by omega) KE (by simp only [aq, Nat.reduceBEq ]) (by simp only [aq, Nat.reduceBEq ]) (by simp only [aq, Nat.reduceBEq ]) (by simp only [aq, Nat.reduceBEq ]) (by simp only [aq, Nat.reduceBEq ]) (by simp only [aq, Nat.reduceBEq ]) (by simp only [aq, Nat.reduceBEq ]))
 clear hX;generalize pJ : Ev.ext m _ = M1 at *
 have h1 : Sn M1 b s p ov l := by rw [<- pJ]; exact h.ext _
 have k1 : Kn m M1 b ov ov := by rw [<- pJ]; exact Kn.ext ..
 rcases hh with ⟨hn, fr', rfl, f4, fd⟩ | ⟨n, hn, hn2, fr', rfl, f0, f5, f6, fd⟩
 ·refine ⟨M1, .inl ⟨hn, ?_, h1, k1⟩⟩
  simp +contextual -implicitDefEqProofs (maxSteps := 1000000) (maxDischargeDepth := 8) only [f4, fd, ax, ab, implies_true, simprocAttr]
 ·have IN := h.le
  obtain ⟨m2, Lb, e2, o2, g2, k2⟩ := uV h1 (k := 2) (n := k) (num := n) (by omega) hs hn2
  refine ⟨m2, .inr ⟨n, hn, ?_, Lb, ⟨g2, ?_, ?_, ?_, by omega⟩, k1.trans k2⟩⟩
  ·have Pt : run U fN [.ptr b 0, .int .i64 2, .int .i64 (k : Int), .int .i64 (n : Int)] M1 = some (.ret (.tuple []) m2) := e2
   simp +contextual -implicitDefEqProofs (maxSteps := 1000000) (maxDischargeDepth := 8) only [f0, f5, f6, fd, Pt, ax, ab, implies_true, simprocAttr]
  ·have := k2.n; have := h1.lt; omega
  ·rw [jz]; exact o2
  ·rw [jz, List.length_singleton]; have := h.n; omega
end
section
theorem G7 {c : UInt8} {s : bK} (h : bX (cI c)) : lead (fun n => bX n \/ aN n) (c :: s) = bG (c :: s) := by
 have e0 : bG (c :: s) = 1 + lead (fun n => bX n \/ aN n) s := if_pos h
 have e : lead (fun n => bX n \/ aN n) (c :: s) = if bX (cI c) \/ aN (cI c) then 1 + lead (fun n => bX n \/ aN n) s else 0 := rfl
 rw [e, if_pos (.inl h), e0]
theorem Iq {fr : Fr} {M : Mem} : aB fr.eval (.bt bC 1 2 [.int .i64 0] [(0, .const (.int .i64 3)), (1, .const (.int .i64 4))]) M = some (.val (.slice (nb M.next 0) 0 2 (some 2)) (Ev.ext M [.cells [.int .i64 3, .int .i64 4] 1 bC false])) := by
 rw [cq]
 rfl
theorem PZ {m : Mem} {b p : Nat} {s : bK} {ov : EV} {l : List Tok} (h : Sn m b s p ov l) (hs : s.length < 1000000) {k : Nat} (hk : lead (fun n => bX n \/ aN n) (s.drop p) = k) (hd0 : 0 < k) :
  ∃ m', ((s.drop p).take k ∈ iw /\ run U kR [.ptr b 0, .str (s.drop p)] m = some (.ret (.int .i64 0) m') /\ Laid m m' b s ov l ⟨3, (s.drop p).take k, 0, p⟩ (p + k)) \/
   (¬ (s.drop p).take k ∈ iw /\ 32 < k /\ run U kR [.ptr b 0, .str (s.drop p)] m = some (.ret (.int .i64 3) m') /\ Sn m' b s p ov l /\ Kn m m' b ov ov) \/
   (¬ (s.drop p).take k ∈ iw /\ ¬ 32 < k /\ run U kR [.ptr b 0, .str (s.drop p)] m = some (.ret (.int .i64 0) m') /\ Laid m m' b s ov l ⟨1, (s.drop p).take k, 0, p⟩ (p + k)) := by
 have hlen : (s.drop p).length = s.length - p := uy ..
 have hle := kH (fun n => bX n \/ aN n) (s.drop p)
 rw [hk] at hle;have Ti : ∀ (M : Mem) (c : Nat), M.get c = .cells [.int .i64 3, .int .i64 4] 1 bC false -> run U oN [.str (s.drop p), .slice c 0 2 (some 2)] M = some (.ret (.int .i64 (k : Int)) M) := fun M c hc => by
  rw [SK hc (by omega), Of, hk]
 have KG : aw (some (.int .i64 (k : Int))) (s.drop p).length (s.drop p).length = some k := dM hle
 have Nl : aw none 0 k = some 0 := rfl
 have hb := h.lt
 have IN := h.le
 have hln := h.n
 generalize pJ : Ev.ext m [.cells [.int .i64 3, .int .i64 4] 1 bC false] = M1 at *
 have h1 : Sn M1 b s p ov l := by rw [<- pJ]; exact h.ext _
 have k1 : Kn m M1 b ov ov := by rw [<- pJ]; exact Kn.ext ..
 have g1 : M1.get (nb m.next 0) = .cells [.int .i64 3, .int .i64 4] 1 bC false := by rw [<- pJ, aM rfl (by simp)]; rfl
 rw [bY (by simp [cH])]
 by_cases hw : (s.drop p).take k ∈ iw
 ·obtain ⟨m2, Lb, e2, o2, g2, k2⟩ := uV h1 (k := 3) (n := k) (num := 0) (by omega) hs (by omega)
  have Pt : run U fN [.ptr b 0, .int .i64 3, .int .i64 (k : Int), .int .i64 0] M1 = some (.ret (.tuple []) m2) := e2
  have Y8 : cR B K xI [.str ((s.drop p).take k)] = some (.bool true) := by rw [Jx, eT hw]
  refine ⟨m2, .inl ⟨hw, ?_, Lb, ⟨g2, ?_, ?_, ?_, by omega⟩, k1.trans k2⟩⟩
  ·simp +contextual -implicitDefEqProofs (maxSteps := 1000000) (maxDischargeDepth := 8) only [cH, Iq, Ti, pJ, g1, KG, Nl, Y8, Pt, Option.map_none, ax, ab, implies_true, simprocAttr]
  ·have := k2.n; have := h1.lt; omega
  ·rw [jz]; exact o2
  ·rw [jz, List.length_singleton]; omega
 ·have Y8 : cR B K xI [.str ((s.drop p).take k)] = some (.bool false) := by rw [Jx, eU hw]
  by_cases h32 : 32 < k
  ·have hc : (32 : Int) < (k : Int) := by omega
   refine ⟨M1, .inr (.inl ⟨hw, h32, ?_, h1, k1⟩)⟩
   simp +contextual -implicitDefEqProofs (maxSteps := 1000000) (maxDischargeDepth := 8) only [cH, Iq, Ti, pJ, g1, KG, Nl, Y8, hc, Option.map_none, ax, ab, implies_true, simprocAttr]
  ·have hc : ¬ (32 : Int) < (k : Int) := by omega
   obtain ⟨m2, Lb, e2, o2, g2, k2⟩ := uV h1 (k := 1) (n := k) (num := 0) (by omega) hs (by omega)
   have Pt : run U fN [.ptr b 0, .int .i64 1, .int .i64 (k : Int), .int .i64 0] M1 = some (.ret (.tuple []) m2) := e2
   refine ⟨m2, .inr (.inr ⟨hw, h32, ?_, Lb, ⟨g2, ?_, ?_, ?_, by omega⟩, k1.trans k2⟩)⟩
   ·simp +contextual -implicitDefEqProofs (maxSteps := 1000000) (maxDischargeDepth := 8) only [cH, Iq, Ti, pJ, g1, KG, Nl, Y8, hc, Pt, Option.map_none, ax, ab, implies_true, simprocAttr]
   ·have := k2.n; have := h1.lt; omega
   ·rw [jz]; exact o2
   ·rw [jz, List.length_singleton]; omega
theorem TA {M : Mem} {b t : Nat} {x : Int} (hb : M.get b = .cells [.int .i64 x] 1 t false) : lY M (.slice b 0 1 (some 1)) = some (.fz 0 1 (jB [x])) := by
 have h := pn (m := M) (e := 1) (els := jB [x]) (ty := t) (b := b) (cap := some 1) (ro := false) (by rw [hb]; rfl) (by simp [jB]) (by simp [jB]; rfl) rfl
 exact h
theorem Ln {m : Mem} {b p : Nat} {s : bK} {ov : EV} {l : List Tok} (h : Sn m b s p ov l) (hs : s.length < 1000000) {c : UInt8} {r : bK} (hc : s.drop p = c :: r) (oQ : eM (cI c) = 1) :
  ∃ m', run U bd [.ptr b 0] m = some (.ret (.int .i64 0) m') /\ Sn m' b s (p + lead cZ (s.drop p)) ov l /\ Kn m m' b ov ov := by
 have hlen : (s.drop p).length = s.length - p := uy ..
 have hle := kH cZ (s.drop p)
 have dx : 0 < (s.drop p).length := by rw [hc]; simp
 have hg := h.g
 have hb := h.lt
 have AU : aw (some (.int .i64 (p : Int))) 0 s.length = some p := dM h.le
 have FU : aw none s.length s.length = some s.length := rfl
 have hi : idx (s.drop p).length (.int .i64 0) = some 0 := b9 (i := 0) dx
 have h0 : (s.drop p)[0]? = some c := by rw [hc]; rfl
 have xm : cR B K iS [.int .u8 (c.toNat : Int)] = some (.int .i64 1) := by rw [show (c.toNat : Int) = cI c from rfl, pC, oQ]
 have Ti : cR B K oN [.str (s.drop p), .fz 2 1 (jB [1])] = some (.int .i64 (lead cZ (s.drop p) : Int)) := by
  rw [run_eq (by omega) (by simp), Kt]
 have IN := h.le
 have hw : IntKind.i64.wrap ((p : Int) + (lead cZ (s.drop p) : Int)) = ((p + lead cZ (s.drop p) : Nat) : Int) := by rw [wrap_i64 (by omega) (by omega)]; omega
 rw [bY (by simp [bj])]
 simp +contextual -implicitDefEqProofs (maxSteps := 1000000) (maxDischargeDepth := 8) only [bj, hg, hb, AU, FU, hi, h0, xm, Ti, hw, List.take_length, Option.map_none, ax, ab, implies_true, simprocAttr]
 generalize tp : Mem.mk (nb m.next 11) _ = D1
 have tO : D1.next = nb m.next 11 := by rw [<- tp]
 have EY : ∀ c, c < m.next -> D1.get c = m.get c := fun c hc => by
  rw [<- tp];exact (aL (m := Mem.mk (m.next + 9) (bump m 11).gH) (by show c < m.next + 9; omega)).trans rfl
 have Ik : D1.get (nb (m.next + 9) 0) = .cells [.str []] 1 dO false := by
  rw [<- tp];exact (aM (m := Mem.mk (m.next + 9) (bump m 11).gH) rfl (by simp)).trans rfl
 clear tp;have d1b : D1.get b = .cells [.str s, .int .i64 (p : Int), ov] 3 eX false := by rw [EY b hb, hg]
 have iM : b ≠ nb (m.next + 9) 0 := by unfold nb; omega
 have pM : b < D1.next := by rw [tO]; unfold nb; omega
 have mF : nb (m.next + 9) 0 < D1.next := by rw [tO]; unfold nb; omega
 have Ap : m.next <= nb (m.next + 9) 0 := by unfold nb; omega
 generalize nb (m.next + 9) 0 = c0 at *
 simp +contextual -implicitDefEqProofs (maxSteps := 1000000) (maxDischargeDepth := 8) only [Ik, d1b, iM, iM.symm, pM, mF, AU, FU, hi, h0, xm, Ti, hw, List.take_length, Option.map_none, ax, ab, implies_true, simprocAttr]
 generalize Tw : Mem.mk (nb D1.next 11) _ = D2
 have PW : D2.next = nb D1.next 11 := by rw [<- Tw]
 have W6 : ∀ c, c < D1.next -> c ≠ c0 -> D2.get c = D1.get c := fun c hc Ap => by
  rw [<- Tw];refine (aL (m := Mem.mk (D1.next + 5) (bump (D1.set c0 (.cells [.str (s.drop p)] 1 dO false)) 11).gH) (by show c < D1.next + 5; omega)).trans ?_
  exact az Ap
 have d2g : D2.get (nb (D1.next + 5) 0) = .cells [.int .i64 1] 1 bC false := by
  rw [<- Tw];exact (aM (m := Mem.mk (D1.next + 5) (bump (D1.set c0 (.cells [.str (s.drop p)] 1 dO false)) 11).gH) rfl (by simp)).trans rfl
 clear Tw;have d2b : D2.get b = .cells [.str s, .int .i64 (p : Int), ov] 3 eX false := by rw [W6 b pM iM, d1b]
 have hf := TA d2g
 have tl : b < D2.next := by rw [PW]; unfold nb; omega
 simp +contextual -implicitDefEqProofs (maxSteps := 1000000) (maxDischargeDepth := 8) only [d2b, tl, hf, Ti, hw, ax, ab, implies_true, simprocAttr]
 refine ⟨_, rfl, ?_, ?_⟩
 ·refine ⟨by rw [bJ], by rw [cg]; exact tl, ?_, by have := h.n; omega, by omega⟩
  refine h.o.gz (by rw [cg, PW, tO]; unfold nb; omega) fun c hc qm _ => ?_
  rw [az (by omega), W6 c (by rw [tO]; unfold nb; omega) (by omega), EY c hc]
 ·refine ⟨by rw [cg, PW, tO]; unfold nb; omega, fun c hc V4 ho => ?_, fun c _ _ ho => ho⟩
  rw [az V4, W6 c (by rw [tO]; unfold nb; omega) (by omega), EY c hc]
end
section
theorem OR {m : Mem} {b p : Nat} {s : bK} {ov : EV} {l : List Tok} (h : Sn m b s p ov l) (hs : s.length < 1000000) {c : UInt8} {r : bK} (hc : s.drop p = c :: r) (oQ : eM (cI c) = 0) :
  ∃ m', run U bd [.ptr b 0] m = some (.ret (.int .i64 6) m') /\ Sn m' b s p ov l /\ Kn m m' b ov ov := by
 have hlen : (s.drop p).length = s.length - p := uy ..
 have dx : 0 < (s.drop p).length := by rw [hc]; simp
 have hg := h.g
 have hb := h.lt
 have AU : aw (some (.int .i64 (p : Int))) 0 s.length = some p := dM h.le
 have FU : aw none s.length s.length = some s.length := rfl
 have hi : idx (s.drop p).length (.int .i64 0) = some 0 := b9 (i := 0) dx
 have h0 : (s.drop p)[0]? = some c := by rw [hc]; rfl
 have xm : cR B K iS [.int .u8 (c.toNat : Int)] = some (.int .i64 0) := by rw [show (c.toNat : Int) = cI c from rfl, pC, oQ]
 have IN := h.le
 rw [bY (by simp [bj])]
 simp +contextual -implicitDefEqProofs (maxSteps := 1000000) (maxDischargeDepth := 8) only [bj, hg, hb, AU, FU, List.take_length, Option.map_none, ax, ab, implies_true, simprocAttr]
 generalize tp : Mem.mk (nb m.next 11) _ = D1
 have tO : D1.next = nb m.next 11 := by rw [<- tp]
 have EY : ∀ c, c < m.next -> D1.get c = m.get c := fun c hc => by
  rw [<- tp];exact (aL (m := Mem.mk (m.next + 9) (bump m 11).gH) (by show c < m.next + 9; omega)).trans rfl
 have Ik : D1.get (nb (m.next + 9) 0) = .cells [.str []] 1 dO false := by
  rw [<- tp];exact (aM (m := Mem.mk (m.next + 9) (bump m 11).gH) rfl (by simp)).trans rfl
 clear tp;have mF : nb (m.next + 9) 0 < D1.next := by rw [tO]; unfold nb; omega
 have Ap : m.next <= nb (m.next + 9) 0 := by unfold nb; omega
 generalize nb (m.next + 9) 0 = c0 at *
 obtain ⟨M1, pJ⟩ : ∃ M1, D1.set c0 (.cells [.str (s.drop p)] 1 dO false) = M1 := ⟨_, rfl⟩
 have HI : M1.next = nb m.next 11 := by rw [<- pJ, cg, tO]
 have Gw : ∀ c, c < m.next -> M1.get c = m.get c := fun c hc => by rw [<- pJ, az (by omega), EY c hc]
 have MU : M1.get c0 = .cells [.str (s.drop p)] 1 dO false := by rw [<- pJ, bJ]
 have IM : M1.get b = .cells [.str s, .int .i64 (p : Int), ov] 3 eX false := by rw [Gw b hb, hg]
 have pM : b < M1.next := by rw [HI]; unfold nb; omega
 have tl : c0 < M1.next := by rw [<- pJ, cg]; exact mF
 have hS : Sn M1 b s p ov l := ⟨IM, pM, h.o.gz (by rw [HI]; exact bI) fun c hc _ _ => Gw c hc, h.n, h.le⟩
 have hK : Kn m M1 b ov ov := ⟨by rw [HI]; exact bI, fun c hc _ _ => Gw c hc, fun c _ _ ho => ho⟩
 simp +contextual -implicitDefEqProofs (maxSteps := 1000000) (maxDischargeDepth := 8) only [Ik, pJ, mF, MU, IM, pM, tl, hi, h0, xm, Option.map_none, ax, ab, implies_true, simprocAttr]
 exact ⟨_, rfl, hS, hK⟩
theorem Jn {m : Mem} {b p : Nat} {s : bK} {ov : EV} {l : List Tok} (h : Sn m b s p ov l) (hs : s.length < 1000000) {c : UInt8} {r : bK} (hc : s.drop p = c :: r) (oQ : eM (cI c) = 2) :
  ∃ m', run U bd [.ptr b 0] m = some (.ret (.int .i64 0) m') /\ Sn m' b s (p + ep (s.drop p)) ov l /\ Kn m m' b ov ov := by
 have hlen : (s.drop p).length = s.length - p := uy ..
 have dx : 0 < (s.drop p).length := by rw [hc]; simp
 have hg := h.g
 have hb := h.lt
 have AU : aw (some (.int .i64 (p : Int))) 0 s.length = some p := dM h.le
 have FU : aw none s.length s.length = some s.length := rfl
 have hi : idx (s.drop p).length (.int .i64 0) = some 0 := b9 (i := 0) dx
 have h0 : (s.drop p)[0]? = some c := by rw [hc]; rfl
 have xm : cR B K iS [.int .u8 (c.toNat : Int)] = some (.int .i64 2) := by rw [show (c.toNat : Int) = cI c from rfl, pC, oQ]
 have IN := h.le
 rw [bY (by simp [bj])]
 simp +contextual -implicitDefEqProofs (maxSteps := 1000000) (maxDischargeDepth := 8) only [bj, hg, hb, AU, FU, List.take_length, Option.map_none, ax, ab, implies_true, simprocAttr]
 generalize tp : Mem.mk (nb m.next 11) _ = D1
 have tO : D1.next = nb m.next 11 := by rw [<- tp]
 have EY : ∀ c, c < m.next -> D1.get c = m.get c := fun c hc => by
  rw [<- tp];exact (aL (m := Mem.mk (m.next + 9) (bump m 11).gH) (by show c < m.next + 9; omega)).trans rfl
 have Ik : D1.get (nb (m.next + 9) 0) = .cells [.str []] 1 dO false := by
  rw [<- tp];exact (aM (m := Mem.mk (m.next + 9) (bump m 11).gH) rfl (by simp)).trans rfl
 clear tp;have mF : nb (m.next + 9) 0 < D1.next := by rw [tO]; unfold nb; omega
 have Ap : m.next <= nb (m.next + 9) 0 := by unfold nb; omega
 generalize nb (m.next + 9) 0 = c0 at *
 obtain ⟨M1, pJ⟩ : ∃ M1, D1.set c0 (.cells [.str (s.drop p)] 1 dO false) = M1 := ⟨_, rfl⟩
 have HI : M1.next = nb m.next 11 := by rw [<- pJ, cg, tO]
 have Gw : ∀ c, c < m.next -> M1.get c = m.get c := fun c hc => by rw [<- pJ, az (by omega), EY c hc]
 have MU : M1.get c0 = .cells [.str (s.drop p)] 1 dO false := by rw [<- pJ, bJ]
 have IM : M1.get b = .cells [.str s, .int .i64 (p : Int), ov] 3 eX false := by rw [Gw b hb, hg]
 have pM : b < M1.next := by rw [HI]; unfold nb; omega
 have tl : c0 < M1.next := by rw [<- pJ, cg]; exact mF
 have hS : Sn M1 b s p ov l := ⟨IM, pM, h.o.gz (by rw [HI]; exact bI) fun c hc _ _ => Gw c hc, h.n, h.le⟩
 have hK : Kn m M1 b ov ov := ⟨by rw [HI]; exact bI, fun c hc _ _ => Gw c hc, fun c _ _ ho => ho⟩
 have hle := kH (fun n => n ≠ 10) (s.drop p)
 obtain ⟨a, b', abX⟩ := RX (s := s.drop p) (by omega)
 have LM : ((s.drop p).take (ep (s.drop p))).length = ep (s.drop p) := by rw [List.length_take]; unfold ep; omega
 have hw : IntKind.i64.wrap ((p : Int) + (ep (s.drop p) : Int)) = ((p + ep (s.drop p) : Nat) : Int) := by rw [wrap_i64 (by unfold ep; omega) (by unfold ep; omega)]; omega
 unfold ep at *
 generalize lead (fun n => n ≠ 10) (s.drop p) = k at *
 simp +contextual -implicitDefEqProofs (maxSteps := 1000000) (maxDischargeDepth := 8) only [Ik, pJ, mF, MU, IM, pM, tl, hi, h0, xm, Option.map_none, abX, LM, hw, ax, ab, implies_true, simprocAttr]
 refine ⟨_, rfl, ⟨by rw [bJ], by rw [cg]; exact pM, ?_, by have := h.n; omega, by omega⟩, ⟨by rw [cg]; exact hK.n, fun c hc V4 ho => ?_, fun c _ _ ho => ho⟩⟩
 ·exact hS.o.gz (by rw [cg]; exact fy _) fun c hc qm _ => az (by omega)
 ·rw [az V4, Gw c hc]
theorem Jo {m : Mem} {b p : Nat} {s : bK} {ov : EV} {l : List Tok} (h : Sn m b s p ov l) (hs : s.length < 1000000) {c : UInt8} {r : bK} (hc : s.drop p = c :: r) (oQ : eM (cI c) = 3) :
  ∃ m', (∃ e q, ki (s.drop p) p = .bad e q /\ run U bd [.ptr b 0] m = some (.ret (.int .i64 (e : Int)) m') /\ Sn m' b s p ov l /\ Kn m m' b ov ov) \/
   (∃ t, ki (s.drop p) p = .ok t /\ run U bd [.ptr b 0] m = some (.ret (.int .i64 0) m') /\ Laid m m' b s ov l t (p + t.text.length)) := by
 have hlen : (s.drop p).length = s.length - p := uy ..
 have dx : 0 < (s.drop p).length := by rw [hc]; simp
 have hg := h.g
 have hb := h.lt
 have AU : aw (some (.int .i64 (p : Int))) 0 s.length = some p := dM h.le
 have FU : aw none s.length s.length = some s.length := rfl
 have hi : idx (s.drop p).length (.int .i64 0) = some 0 := b9 (i := 0) dx
 have h0 : (s.drop p)[0]? = some c := by rw [hc]; rfl
 have xm : cR B K iS [.int .u8 (c.toNat : Int)] = some (.int .i64 3) := by rw [show (c.toNat : Int) = cI c from rfl, pC, oQ]
 have IN := h.le
 rw [bY (by simp [bj])]
 simp +contextual -implicitDefEqProofs (maxSteps := 1000000) (maxDischargeDepth := 8) only [bj, hg, hb, AU, FU, List.take_length, Option.map_none, ax, ab, implies_true, simprocAttr]
 generalize tp : Mem.mk (nb m.next 11) _ = D1
 have tO : D1.next = nb m.next 11 := by rw [<- tp]
 have EY : ∀ c, c < m.next -> D1.get c = m.get c := fun c hc => by
  rw [<- tp];exact (aL (m := Mem.mk (m.next + 9) (bump m 11).gH) (by show c < m.next + 9; omega)).trans rfl
 have Ik : D1.get (nb (m.next + 9) 0) = .cells [.str []] 1 dO false := by
  rw [<- tp];exact (aM (m := Mem.mk (m.next + 9) (bump m 11).gH) rfl (by simp)).trans rfl
 clear tp;have mF : nb (m.next + 9) 0 < D1.next := by rw [tO]; unfold nb; omega
 have Ap : m.next <= nb (m.next + 9) 0 := by unfold nb; omega
 generalize nb (m.next + 9) 0 = c0 at *
 obtain ⟨M1, pJ⟩ : ∃ M1, D1.set c0 (.cells [.str (s.drop p)] 1 dO false) = M1 := ⟨_, rfl⟩
 have HI : M1.next = nb m.next 11 := by rw [<- pJ, cg, tO]
 have Gw : ∀ c, c < m.next -> M1.get c = m.get c := fun c hc => by rw [<- pJ, az (by omega), EY c hc]
 have MU : M1.get c0 = .cells [.str (s.drop p)] 1 dO false := by rw [<- pJ, bJ]
 have IM : M1.get b = .cells [.str s, .int .i64 (p : Int), ov] 3 eX false := by rw [Gw b hb, hg]
 have pM : b < M1.next := by rw [HI]; unfold nb; omega
 have tl : c0 < M1.next := by rw [<- pJ, cg]; exact mF
 have hS : Sn M1 b s p ov l := ⟨IM, pM, h.o.gz (by rw [HI]; exact bI) fun c hc _ _ => Gw c hc, h.n, h.le⟩
 have hK : Kn m M1 b ov ov := ⟨by rw [HI]; exact bI, fun c hc _ _ => Gw c hc, fun c _ _ ho => ho⟩
 have VK := tU.1 oQ
 have hk := G7 (s := r) VK
 rw [<- hc] at hk;have JM : 0 < bG (s.drop p) := by
  have e0 : bG (c :: r) = 1 + lead (fun n => bX n \/ aN n) r := if_pos VK
  rw [hc, e0]; omega
 have hwl := rf (s.drop p)
 have hnd : ¬ aN (cI c) := by unfold aN; unfold bX at VK; omega
 have zk : ki (s.drop p) p = if 0 < bG (s.drop p) /\ (s.drop p).take (bG (s.drop p)) ∈ iw then .ok ⟨3, (s.drop p).take (bG (s.drop p)), 0, p⟩ else if 32 < bG (s.drop p) then .bad 3 p else .ok ⟨1, (s.drop p).take (bG (s.drop p)), 0, p⟩ := by
  have Sy : (s.drop p)[0] = c := by have := nc dx; rw [h0] at this; exact (pH this).symm
  rw [mS dx, Sy, if_neg hnd, if_pos JM]
 have LM : ((s.drop p).take (bG (s.drop p))).length = bG (s.drop p) := by rw [List.length_take]; omega
 obtain ⟨m2, hh⟩ := PZ hS hs hk JM
 generalize bG (s.drop p) = k at *
 rcases hh with ⟨w1, e2, Lb, q1, q2⟩ | ⟨w1, w2, e2, q1, q2⟩ | ⟨w1, w2, e2, Lb, q1, q2⟩
 ·refine ⟨m2, .inr ⟨_, by rw [zk, if_pos ⟨JM, w1⟩], ?_, Lb, by simp only [LM]; exact q1, hK.trans q2⟩⟩
  simp +contextual -implicitDefEqProofs (maxSteps := 1000000) (maxDischargeDepth := 8) only [Ik, pJ, mF, MU, IM, pM, tl, hi, h0, xm, Option.map_none, e2, ax, ab, implies_true, simprocAttr]
 ·refine ⟨m2, .inl ⟨3, p, by rw [zk, if_neg (fun q => w1 q.2), if_pos w2], ?_, q1, hK.trans q2⟩⟩
  simp +contextual -implicitDefEqProofs (maxSteps := 1000000) (maxDischargeDepth := 8) only [Ik, pJ, mF, MU, IM, pM, tl, hi, h0, xm, Option.map_none, e2, ax, ab, implies_true, simprocAttr]
 ·refine ⟨m2, .inr ⟨_, by rw [zk, if_neg (fun q => w1 q.2), if_neg w2], ?_, Lb, by simp only [LM]; exact q1, hK.trans q2⟩⟩
  simp +contextual -implicitDefEqProofs (maxSteps := 1000000) (maxDischargeDepth := 8) only [Ik, pJ, mF, MU, IM, pM, tl, hi, h0, xm, Option.map_none, e2, ax, ab, implies_true, simprocAttr]
theorem Lm {m : Mem} {b p : Nat} {s : bK} {ov : EV} {l : List Tok} (h : Sn m b s p ov l) (hs : s.length < 1000000) {c : UInt8} {r : bK} (hc : s.drop p = c :: r) (oQ : eM (cI c) = 4) :
  ∃ m', (∃ e q, ki (s.drop p) p = .bad e q /\ run U bd [.ptr b 0] m = some (.ret (.int .i64 (e : Int)) m') /\ Sn m' b s p ov l /\ Kn m m' b ov ov) \/
   (∃ t, ki (s.drop p) p = .ok t /\ run U bd [.ptr b 0] m = some (.ret (.int .i64 0) m') /\ Laid m m' b s ov l t (p + t.text.length)) := by
 have hlen : (s.drop p).length = s.length - p := uy ..
 have dx : 0 < (s.drop p).length := by rw [hc]; simp
 have hg := h.g
 have hb := h.lt
 have AU : aw (some (.int .i64 (p : Int))) 0 s.length = some p := dM h.le
 have FU : aw none s.length s.length = some s.length := rfl
 have hi : idx (s.drop p).length (.int .i64 0) = some 0 := b9 (i := 0) dx
 have h0 : (s.drop p)[0]? = some c := by rw [hc]; rfl
 have xm : cR B K iS [.int .u8 (c.toNat : Int)] = some (.int .i64 4) := by rw [show (c.toNat : Int) = cI c from rfl, pC, oQ]
 have IN := h.le
 rw [bY (by simp [bj])]
 simp +contextual -implicitDefEqProofs (maxSteps := 1000000) (maxDischargeDepth := 8) only [bj, hg, hb, AU, FU, List.take_length, Option.map_none, ax, ab, implies_true, simprocAttr]
 generalize tp : Mem.mk (nb m.next 11) _ = D1
 have tO : D1.next = nb m.next 11 := by rw [<- tp]
 have EY : ∀ c, c < m.next -> D1.get c = m.get c := fun c hc => by
  rw [<- tp];exact (aL (m := Mem.mk (m.next + 9) (bump m 11).gH) (by show c < m.next + 9; omega)).trans rfl
 have Ik : D1.get (nb (m.next + 9) 0) = .cells [.str []] 1 dO false := by
  rw [<- tp];exact (aM (m := Mem.mk (m.next + 9) (bump m 11).gH) rfl (by simp)).trans rfl
 clear tp;have mF : nb (m.next + 9) 0 < D1.next := by rw [tO]; unfold nb; omega
 have Ap : m.next <= nb (m.next + 9) 0 := by unfold nb; omega
 generalize nb (m.next + 9) 0 = c0 at *
 obtain ⟨M1, pJ⟩ : ∃ M1, D1.set c0 (.cells [.str (s.drop p)] 1 dO false) = M1 := ⟨_, rfl⟩
 have HI : M1.next = nb m.next 11 := by rw [<- pJ, cg, tO]
 have Gw : ∀ c, c < m.next -> M1.get c = m.get c := fun c hc => by rw [<- pJ, az (by omega), EY c hc]
 have MU : M1.get c0 = .cells [.str (s.drop p)] 1 dO false := by rw [<- pJ, bJ]
 have IM : M1.get b = .cells [.str s, .int .i64 (p : Int), ov] 3 eX false := by rw [Gw b hb, hg]
 have pM : b < M1.next := by rw [HI]; unfold nb; omega
 have tl : c0 < M1.next := by rw [<- pJ, cg]; exact mF
 have hS : Sn M1 b s p ov l := ⟨IM, pM, h.o.gz (by rw [HI]; exact bI) fun c hc _ _ => Gw c hc, h.n, h.le⟩
 have hK : Kn m M1 b ov ov := ⟨by rw [HI]; exact bI, fun c hc _ _ => Gw c hc, fun c _ _ ho => ho⟩
 have KE := qI.1 oQ
 have JM : 0 < lead aN (s.drop p) := by rw [hc, lead, if_pos KE]; omega
 have hwl := kH aN (s.drop p)
 have zk : ki (s.drop p) p = BJ ((s.drop p).take (lead aN (s.drop p))) p := by
  have Sy : (s.drop p)[0] = c := by have := nc dx; rw [h0] at this; exact (pH this).symm
  rw [mS dx, Sy, if_pos KE]
 have LM : ((s.drop p).take (lead aN (s.drop p))).length = lead aN (s.drop p) := by rw [List.length_take]; omega
 obtain ⟨m2, hh⟩ := Li hS hs JM
 generalize lead aN (s.drop p) = k at *
 rcases hh with ⟨w1, e2, q1, q2⟩ | ⟨n, w1, e2, Lb, q1, q2⟩
 ·refine ⟨m2, .inl ⟨7, p, by rw [zk, BJ, w1], ?_, q1, hK.trans q2⟩⟩
  simp +contextual -implicitDefEqProofs (maxSteps := 1000000) (maxDischargeDepth := 8) only [Ik, pJ, mF, MU, IM, pM, tl, hi, h0, xm, Option.map_none, e2, ax, ab, implies_true, simprocAttr]
 ·refine ⟨m2, .inr ⟨_, by rw [zk, BJ, w1], ?_, Lb, by simp only [LM]; exact q1, hK.trans q2⟩⟩
  simp +contextual -implicitDefEqProofs (maxSteps := 1000000) (maxDischargeDepth := 8) only [Ik, pJ, mF, MU, IM, pM, tl, hi, h0, xm, Option.map_none, e2, ax, ab, implies_true, simprocAttr]
theorem OQ {m : Mem} {b p : Nat} {s : bK} {ov : EV} {l : List Tok} (h : Sn m b s p ov l) (hs : s.length < 1000000) {c : UInt8} {r : bK} (hc : s.drop p = c :: r) (oQ : eM (cI c) = 5) :
  ∃ m', (∃ e q, ki (s.drop p) p = .bad e q /\ run U bd [.ptr b 0] m = some (.ret (.int .i64 (e : Int)) m') /\ Sn m' b s p ov l /\ Kn m m' b ov ov) \/
   (∃ t, ki (s.drop p) p = .ok t /\ run U bd [.ptr b 0] m = some (.ret (.int .i64 0) m') /\ Laid m m' b s ov l t (p + t.text.length)) := by
 have hlen : (s.drop p).length = s.length - p := uy ..
 have dx : 0 < (s.drop p).length := by rw [hc]; simp
 have hg := h.g
 have hb := h.lt
 have AU : aw (some (.int .i64 (p : Int))) 0 s.length = some p := dM h.le
 have FU : aw none s.length s.length = some s.length := rfl
 have hi : idx (s.drop p).length (.int .i64 0) = some 0 := b9 (i := 0) dx
 have h0 : (s.drop p)[0]? = some c := by rw [hc]; rfl
 have xm : cR B K iS [.int .u8 (c.toNat : Int)] = some (.int .i64 5) := by rw [show (c.toNat : Int) = cI c from rfl, pC, oQ]
 have IN := h.le
 rw [bY (by simp [bj])]
 simp +contextual -implicitDefEqProofs (maxSteps := 1000000) (maxDischargeDepth := 8) only [bj, hg, hb, AU, FU, List.take_length, Option.map_none, ax, ab, implies_true, simprocAttr]
 generalize tp : Mem.mk (nb m.next 11) _ = D1
 have tO : D1.next = nb m.next 11 := by rw [<- tp]
 have EY : ∀ c, c < m.next -> D1.get c = m.get c := fun c hc => by
  rw [<- tp];exact (aL (m := Mem.mk (m.next + 9) (bump m 11).gH) (by show c < m.next + 9; omega)).trans rfl
 have Ik : D1.get (nb (m.next + 9) 0) = .cells [.str []] 1 dO false := by
  rw [<- tp];exact (aM (m := Mem.mk (m.next + 9) (bump m 11).gH) rfl (by simp)).trans rfl
 clear tp;have mF : nb (m.next + 9) 0 < D1.next := by rw [tO]; unfold nb; omega
 have Ap : m.next <= nb (m.next + 9) 0 := by unfold nb; omega
 generalize nb (m.next + 9) 0 = c0 at *
 obtain ⟨M1, pJ⟩ : ∃ M1, D1.set c0 (.cells [.str (s.drop p)] 1 dO false) = M1 := ⟨_, rfl⟩
 have HI : M1.next = nb m.next 11 := by rw [<- pJ, cg, tO]
 have Gw : ∀ c, c < m.next -> M1.get c = m.get c := fun c hc => by rw [<- pJ, az (by omega), EY c hc]
 have MU : M1.get c0 = .cells [.str (s.drop p)] 1 dO false := by rw [<- pJ, bJ]
 have IM : M1.get b = .cells [.str s, .int .i64 (p : Int), ov] 3 eX false := by rw [Gw b hb, hg]
 have pM : b < M1.next := by rw [HI]; unfold nb; omega
 have tl : c0 < M1.next := by rw [<- pJ, cg]; exact mF
 have hS : Sn M1 b s p ov l := ⟨IM, pM, h.o.gz (by rw [HI]; exact bI) fun c hc _ _ => Gw c hc, h.n, h.le⟩
 have hK : Kn m M1 b ov ov := ⟨by rw [HI]; exact bI, fun c hc _ _ => Gw c hc, fun c _ _ ho => ho⟩
 have hnd : ¬ aN (cI c) := fun q => by have := qI.2 q; rw [oQ] at this; exact absurd this (by decide)
 have Tl : ¬ bX (cI c) := fun q => by have := tU.2 q; rw [oQ] at this; exact absurd this (by decide)
 have hw0 : bG (s.drop p) = 0 := by rw [hc]; unfold bG; exact if_neg Tl
 have zk : ki (s.drop p) p = if eC (s.drop p) = 0 then .bad 6 p else .ok ⟨4, (s.drop p).take (eC (s.drop p)), 0, p⟩ := by
  have Sy : (s.drop p)[0] = c := by have := nc dx; rw [h0] at this; exact (pH this).symm
  rw [mS dx, Sy, if_neg hnd, hw0]; simp
 have hl := fun m => MY (l := nL) (m := m)
 have hL : L_lex_signs = nL := rfl
 have hsl := yF dx
 have LM : ((s.drop p).take (eC (s.drop p))).length = eC (s.drop p) := by rw [List.length_take]; omega
 rcases RP (l := nL) (tg := 0) (by decide) MU tl with ⟨i, y, f1, f2, f3, f4⟩ | ⟨f3, f4⟩
 ·have hsy := KX f1 f2 f3
  have hil := (uz.1 f1).1
  have hy0 : 0 < y.length := by rcases I6 f1 with ⟨_, _, q⟩ | ⟨_, a, _, rfl⟩; omega; simp
  rw [hsy] at zk hsl LM;rw [if_neg (by omega)] at zk;obtain ⟨m2, Lb, e2, o2, g2, k2⟩ := uV hS (k := 4) (n := y.length) (num := 0) (by omega) hs (by omega)
  have Pt : run U fN [.ptr b 0, .int .i64 4, .int .i64 (y.length : Int), .int .i64 0] M1 = some (.ret (.tuple []) m2) := e2
  have hge : ¬ ((i : Int) < 0) := by omega
  refine ⟨m2, .inr ⟨_, zk, ?_, Lb, ⟨by simp only [LM]; exact g2, ?_, ?_, ?_, ?_⟩, hK.trans k2⟩⟩
  ·simp +contextual -implicitDefEqProofs (maxSteps := 1000000) (maxDischargeDepth := 8) only [Ik, pJ, mF, MU, IM, pM, tl, hi, h0, xm, Option.map_none, hL, hl, f4, f1, hil, hge, Pt, AE, rk, b9, ax, ab, implies_true, simprocAttr]
  ·have := k2.n; omega
  ·rw [jz]; exact o2
  ·rw [jz, List.length_singleton]; have := h.n; simp only [LM]; omega
  ·simp only [LM]; omega
 ·have hsy := AF f3
  rw [if_pos hsy] at zk;refine ⟨M1, .inl ⟨6, p, zk, ?_, hS, hK⟩⟩
  simp +contextual -implicitDefEqProofs (maxSteps := 1000000) (maxDischargeDepth := 8) only [Ik, pJ, mF, MU, IM, pM, tl, hi, h0, xm, Option.map_none, hL, hl, f4, ax, ab, implies_true, simprocAttr]
end
section
theorem QN {m : Mem} {b p : Nat} {s : bK} {ov : EV} {l : List Tok} (h : Sn m b s p ov l) (hs : s.length < 1000000) (hp : p < s.length) :
  ∃ m', (∃ j, 0 < j /\ p + j <= s.length /\ (∀ k, iQ (k + 1) (s.drop p) p = iQ k (s.drop (p + j)) (p + j)) /\ run U bd [.ptr b 0] m = some (.ret (.int .i64 0) m') /\ Sn m' b s (p + j) ov l /\ Kn m m' b ov ov) \/
   (∃ e : Nat, 0 < e /\ (∀ k, iQ (k + 1) (s.drop p) p = .bad e p) /\ run U bd [.ptr b 0] m = some (.ret (.int .i64 (e : Int)) m') /\ Sn m' b s p ov l /\ Kn m m' b ov ov) \/
   (∃ t : Tok, 0 < t.text.length /\ p + t.text.length <= s.length /\ (∀ k, iQ (k + 1) (s.drop p) p = (iQ k (s.drop (p + t.text.length)) (p + t.text.length)).map (t :: ·)) /\ run U bd [.ptr b 0] m = some (.ret (.int .i64 0) m') /\ Laid m m' b s ov l t (p + t.text.length)) := by
 obtain ⟨c, r, hc⟩ : ∃ c r, s.drop p = c :: r := by
  cases hq : s.drop p with
  | nil => have := congrArg List.length hq; rw [uy, List.length_nil] at this; omega
  | cons c r => exact ⟨c, r, rfl⟩
 have hlen : (s.drop p).length = s.length - p := uy ..
 have dx : 0 < (s.drop p).length := by omega
 have step : ∀ k, iQ (k + 1) (s.drop p) p = if cZ (cI c) then iQ k ((s.drop p).drop (lead cZ (s.drop p))) (p + lead cZ (s.drop p))
  else if cI c = 35 then iQ k ((s.drop p).drop (ep (s.drop p))) (p + ep (s.drop p))
  else match ki (s.drop p) p with
   | .bad e q => .bad e q
   | .ok t => (iQ k ((s.drop p).drop t.text.length) (p + t.text.length)).map (t :: ·) := fun k => by rw [hc]; rfl
 have hle := R2 (n := cI c)
 have tok : ¬ cZ (cI c) -> ¬ cI c = 35 -> ∀ m', ((∃ e q, ki (s.drop p) p = .bad e q /\ run U bd [.ptr b 0] m = some (.ret (.int .i64 (e : Int)) m') /\ Sn m' b s p ov l /\ Kn m m' b ov ov) \/
   (∃ t, ki (s.drop p) p = .ok t /\ run U bd [.ptr b 0] m = some (.ret (.int .i64 0) m') /\ Laid m m' b s ov l t (p + t.text.length))) -> (∃ e : Nat, 0 < e /\ (∀ k, iQ (k + 1) (s.drop p) p = .bad e p) /\ run U bd [.ptr b 0] m = some (.ret (.int .i64 (e : Int)) m') /\ Sn m' b s p ov l /\ Kn m m' b ov ov) \/
   (∃ t : Tok, 0 < t.text.length /\ p + t.text.length <= s.length /\ (∀ k, iQ (k + 1) (s.drop p) p = (iQ k (s.drop (p + t.text.length)) (p + t.text.length)).map (t :: ·)) /\ run U bd [.ptr b 0] m = some (.ret (.int .i64 0) m') /\ Laid m m' b s ov l t (p + t.text.length)) := by
  rintro n1 n2 m' (⟨e, q, h1, h2, h3, h4⟩ | ⟨t, h1, h2, h3⟩)
  ·obtain ⟨rfl, he⟩ := Ei dx h1
   exact .inl ⟨e, he, fun k => by rw [step, if_neg n1, if_neg n2, h1], h2, h3, h4⟩
  ·obtain ⟨g1, g2, _, _⟩ := lF dx h1
   exact .inr ⟨t, g1, by omega, fun k => by rw [step, if_neg n1, if_neg n2, h1]; simp only; rw [List.drop_drop], h2, h3⟩
 by_cases c1 : eM (cI c) = 1
 ·have hb := vk.1 c1
  have hl := kH cZ (s.drop p)
  obtain ⟨m', e1, e2, e3⟩ := Ln h hs hc c1
  refine ⟨m', .inl ⟨lead cZ (s.drop p), by rw [hc, lead, if_pos hb]; omega, by omega, fun k => by rw [step, if_pos hb, List.drop_drop], e1, e2, e3⟩⟩
 have nb : ¬ cZ (cI c) := fun q => c1 (vk.2 q)
 by_cases c2 : eM (cI c) = 2
 ·have hb := z7.1 c2
  have hl := kH (fun n => n ≠ 10) (s.drop p)
  obtain ⟨m', e1, e2, e3⟩ := Jn h hs hc c2
  refine ⟨m', .inl ⟨ep (s.drop p), by rw [hc]; unfold ep; rw [lead, if_pos (by omega)]; omega, by unfold ep; omega, fun k => by rw [step, if_neg nb, if_pos hb, List.drop_drop], e1, e2, e3⟩⟩
 have nr : ¬ cI c = 35 := fun q => c2 (z7.2 q)
 by_cases c3 : eM (cI c) = 3
 ·obtain ⟨m', hh⟩ := Jo h hs hc c3
  exact ⟨m', .inr (tok nb nr m' hh)⟩
 by_cases c4 : eM (cI c) = 4
 ·obtain ⟨m', hh⟩ := Lm h hs hc c4
  exact ⟨m', .inr (tok nb nr m' hh)⟩
 by_cases c5 : eM (cI c) = 5
 ·obtain ⟨m', hh⟩ := OQ h hs hc c5
  exact ⟨m', .inr (tok nb nr m' hh)⟩
 have c0 : eM (cI c) = 0 := by omega
 obtain ⟨m', e1, e2, e3⟩ := OR h hs hc c0
 exact ⟨m', .inr (.inl ⟨6, by decide, fun k => by rw [step, if_neg nb, if_neg nr, hc, Lg c0], e1, e2, e3⟩)⟩
theorem On {s : bK} (hs : s.length < 1000000) {fb b : Nat} {ov : EV} {fr : Fr} {m0 : Mem} (h : Sn m0 b s 0 ov []) (hfb : fb < b) (hb : m0.get fb = .cells [.int .i64 0, .int .i64 0] 2 aZ false) (h0 : fr.get 0 = .str s) (h3 : fr.get 3 = .ptr fb 0) (h4 : fr.get 4 = .ptr b 0) (hd : fr.defers = []) :
  ∃ o, exec U (.loop eG) fr m0 = some o /\ ((∃ l, iQ (s.length + 1) s 0 = .ok l /\ ∃ fr' m' IK, o = .exit 0 fr' m' /\ Sn m' b s s.length IK l /\ m'.get fb = .cells [.int .i64 0, .int .i64 0] 2 aZ false /\ fr'.get 3 = .ptr fb 0 /\ fr'.get 4 = .ptr b 0 /\ fr'.defers = []) \/
   (∃ e p, iQ (s.length + 1) s 0 = .bad e p /\ ∃ fr' m', o = .ret fr' m' /\ fr'.get 2 = .ae /\ m'.get fb = .cells [.int .i64 (e : Int), .int .i64 (p : Int)] 2 aZ false /\ fr'.get 3 = .ptr fb 0 /\ fr'.defers = [])) := by
 refine iE (σ := Nat) (fun p fr m => (∃ ov l k, Sn m b s p ov l /\ s.length - p < k /\ iQ (s.length + 1) s 0 = (iQ k (s.drop p) p).map (l ++ ·)) /\ m.get fb = .cells [.int .i64 0, .int .i64 0] 2 aZ false /\ fr.get 0 = .str s /\ fr.get 3 = .ptr fb 0 /\ fr.get 4 = .ptr b 0 /\ fr.defers = []) (fun p => s.length - p) _ ?_ 0 fr m0
  ⟨⟨ov, [], s.length + 1, h, by omega, by rw [List.drop_zero]; cases iQ (s.length + 1) s 0 <;> rfl⟩, hb, h0, h3, h4, hd⟩
 rintro p fr m ⟨⟨ov, l, k, h, hk, hr⟩, hb, h0, h3, h4, hd⟩
 generalize hX : exec U eG fr m = X
 have hg := h.g
 have bn := h.lt
 by_cases hp : p < s.length
 ·have hc : (p : Int) < (s.length : Int) := by omega
  obtain ⟨k, rfl⟩ : ∃ k', k = k' + 1 := ⟨k - 1, by omega⟩
  obtain ⟨m', hh⟩ := QN h hs hp
  have rJ : ∀ {IK : EV}, Kn m m' b ov IK -> m'.get fb = .cells [.int .i64 0, .int .i64 0] 2 aZ false := fun q => by
   rw [q.k fb (by omega) (by omega) (h.o.lt (.inr (by omega))), hb]
  rcases hh with ⟨j, j1, j2, j3, e1, e2, e3⟩ | ⟨e, j1, j3, e1, e2, e3⟩ | ⟨t, j1, j2, j3, e1, IK, e2, e3⟩
  ·simp +contextual -implicitDefEqProofs (maxSteps := 1000000) (maxDischargeDepth := 8) only [eG, h0, h3, h4, hd, hg, bn, hc, e1, ax, ab, implies_true, simprocAttr] at hX
   subst hX;rw [j3] at hr;exact eR (p + j) (by omega) ⟨⟨ov, l, k, e2, by omega, hr⟩, rJ e3, by simp only [h0, aq, Nat.reduceBEq ], by simp only [h3, aq, Nat.reduceBEq ], by simp only [h4, aq, Nat.reduceBEq ], by simp only [hd, aq, Nat.reduceBEq ]⟩
  ·have iM : ¬ ((e : Int) = 0) := by omega
   have VV := e2.g
   have mF := e2.lt
   have BP := rJ e3
   have HW : fb < m'.next := by omega
   simp +contextual -implicitDefEqProofs (maxSteps := 1000000) (maxDischargeDepth := 8) only [eG, h0, h3, h4, hd, hg, bn, hc, e1, iM, VV, mF, BP, HW, ax, ab, implies_true, simprocAttr] at hX
   subst hX;rw [j3] at hr;exact mC (Or.inr ⟨e, p, hr, _, _, rfl, by simp only [aq, simprocAttr], by simp +contextual -implicitDefEqProofs (maxSteps := 1000000) (maxDischargeDepth := 8) only [BP, HW, G5, G4, G3, G0, GZ, GY, ab, implies_true, simprocAttr], by simp only [h3, aq, simprocAttr], by simp only [hd, aq, simprocAttr]⟩)
  ·simp +contextual -implicitDefEqProofs (maxSteps := 1000000) (maxDischargeDepth := 8) only [eG, h0, h3, h4, hd, hg, bn, hc, e1, ax, ab, implies_true, simprocAttr] at hX
   subst hX;rw [j3, Ar.map_map] at hr;refine eR (p + t.text.length) (by omega) ⟨⟨IK, l ++ [t], k, e2, by omega, ?_⟩, rJ e3, by simp only [h0, aq, Nat.reduceBEq ], by simp only [h3, aq, Nat.reduceBEq ], by simp only [h4, aq, Nat.reduceBEq ], by simp only [hd, aq, Nat.reduceBEq ]⟩
   rw [hr]; simp only [List.append_assoc, List.cons_append, List.nil_append]
 ·have hc : ¬ ((p : Int) < (s.length : Int)) := by omega
  obtain rfl : p = s.length := by have := h.le; omega
  simp +contextual -implicitDefEqProofs (maxSteps := 1000000) (maxDischargeDepth := 8) only [eG, h0, h3, h4, hd, hg, bn, hc, ax, ab, implies_true, simprocAttr] at hX
  subst hX;obtain ⟨k, rfl⟩ : ∃ k', k = k' + 1 := ⟨k - 1, by omega⟩
  rw [List.drop_length] at hr;simp only [iQ, Ar.map, List.append_nil] at hr;exact eS (Or.inl ⟨l, hr, _, _, ov, rfl, h, hb, by simp only [h3, aq, Nat.reduceBEq ], by simp only [h4, aq, Nat.reduceBEq ], by simp only [hd, aq, Nat.reduceBEq ]⟩)
theorem Lx {s : bK} (hs : s.length < 1000000) : cR B K HF [.str s] = some (BM (ta s)) := by
 rw [eE (by simp [gb])]
 generalize hL : exec (UT B K) (aE.loop eG) = L
 by_cases h6 : 65536 < s.length
 ·have hc : (65536 : Int) < (s.length : Int) := by omega
  have : ta s = .bad 3 0 := if_pos h6
  rw [this];simp +contextual -implicitDefEqProofs (maxSteps := 1000000) (maxDischargeDepth := 8) only [gb, hc, BM, ax, ab, implies_true, simprocAttr]
 ·have hc : ¬ (65536 : Int) < (s.length : Int) := by omega
  rw [Qi (by omega)];simp +contextual -implicitDefEqProofs (maxSteps := 1000000) (maxDischargeDepth := 8) only [gb, hc, ax, ab, implies_true, simprocAttr]
  subst hL;generalize hX : exec _ (.loop eG) _ _ = X
  generalize Zm : ext bH _ = M0 at hX ⊢
  have hfb : nb bH.next 0 < nb bH.next 1 := by unfold nb; omega
  have hS : Sn M0 (nb bH.next 1) s 0 .ae [] := by
   refine ⟨?_, ?_, ⟨.inl ⟨rfl, rfl, rfl⟩, rfl⟩, ml _, ml _⟩
   ·rw [<- Zm, aM rfl (by simp)]; rfl
   ·rw [<- Zm, aK]; unfold nb; simp
  have hf : M0.get (nb bH.next 0) = .cells [.int .i64 0, .int .i64 0] 2 aZ false := by rw [<- Zm, aM rfl (by simp)]; rfl
  clear Zm;generalize nb bH.next 0 = fb at *
  generalize nb bH.next 1 = b at *
  obtain ⟨o, rfl, hh⟩ := iD hX (On hs hS hfb hf (by simp only [aq, Nat.reduceBEq ]) (by simp only [aq, Nat.reduceBEq ]) (by simp only [aq, Nat.reduceBEq ]) (by simp only [aq, Nat.reduceBEq ]))
  rcases hh with ⟨l, hl, fr', m', IK, rfl, h2, BP, f3, f4, fd⟩ | ⟨e, p, hl, fr', m', rfl, f2, BP, f3, fd⟩
  ·rw [hl]
   obtain ⟨m2, Lb, e2, o2, g2, k2⟩ := uV h2 (k := 0) (n := 0) (num := 0) (by omega) hs (by omega)
   have Pt : run U fN [.ptr b 0, .int .i64 0, .int .i64 0, .int .i64 0] m' = some (.ret (.tuple []) m2) := e2
   have hf3 : m2.get fb = .cells [.int .i64 0, .int .i64 0] 2 aZ false := by rw [k2.k fb (by have := h2.lt; omega) (by omega) (h2.o.lt (.inr (by omega))), BP]
   have mF : b < m2.next := by have := k2.n; have := h2.lt; omega
   have tl : fb < m2.next := by omega
   have hfz : lY (m2.set fb (.cells [.int .i64 0, .int .i64 0] 2 aZ false)) Lb = some (.fz 0 4 (jD (l ++ [⟨0, [], 0, s.length⟩]))) := by
    refine jF.NE (n := l.length + 1) (lo := b + 1) (o2.gz (by rw [cg]; exact fy _) fun c _ qm _ => az (by omega)) (by simp [jD]) (by omega) (IU _) (DU _)
   rw [Nat.add_zero] at g2;simp +contextual -implicitDefEqProofs (maxSteps := 1000000) (maxDischargeDepth := 8) only [f3, f4, fd, Pt, g2, hf3, mF, tl, hfz, BM, Ar.map, ax, ab, implies_true, simprocAttr]
  ·rw [hl]
   simp +contextual -implicitDefEqProofs (maxSteps := 1000000) (maxDischargeDepth := 8) only [f2, f3, fd, BP, BM, Ar.map, ax, ab, implies_true, simprocAttr]
end
section
def jk (l : List Tok) : RS := match lR l (8 * l.length + 5) (.rR []) .start with
 | some (s, r) => s.put (nd 26 r 0 [] 0)
 | none => .start
def MJ (s : RS) : EV := if s.fe = 0 then .tuple [.fz 0 5 (Lo s.tree), .agg [.int .i64 0, .int .i64 0]] else .tuple [.ae, .agg [.int .i64 s.fe, .int .i64 s.fp]]
def Ht (s : bK) : EV := match ta s with
 | .ok l => MJ (jk l)
 | .bad e p => .tuple [.ae, .agg [.int .i64 (e : Int), .int .i64 (p : Int)]]
def Sa (l : List Tok) (tg k : Nat) : Prop := ∀ (out : List Int) (v pv : EV) (st : RS) (fr : Fr) (m : Mem) (b n0 bx : Nat) (P : Nat -> Prop) (s1 : RS) (r : List Int) (X : Option Out), eA l st -> 8 * (l.length - st.pos) + (PC.rR out).bi < k -> out.length <= st.pos -> lR l k (.rR out) st = some (s1, r) -> Rd m b tg l st (Pv P v) -> (∀ c, P c -> c < n0) -> n0 <= m.next -> jF m v (is out) out.length 1 n0 -> (out = [] -> v = .ae) -> m.get bx = .cells [.ptr b 0] 1 ah false -> P bx -> fr.get 3 = pv -> fr.get 6 = .ptr bx 0 -> fr.get 7 = v -> fr.defers = [] -> exec U (.loop br) fr m = X -> ∃ fr' m' v', X = some (.exit 0 fr' m') /\ fr'.get 3 = pv /\ fr'.get 6 = .ptr bx 0 /\ fr'.get 7 = v' /\ fr'.defers = [] /\ jF m' v' (is r) r.length 1 n0 /\ Rd m' b tg l s1 (Pv P v') /\ Kp m m' P /\ (r = [] -> v' = .ae)
theorem RJ {l : List Tok} {tg : Nat} (ht : bS l) {k : Nat} (ih : Sa l tg k) : Sa l tg (k + 1) := by
 intro out v pv st fr m b n0 bx P s1 r X o hk hm bM h hP uw eF hz qn px h3 h6 h7 hd hX
 have hlen : ∀ M, Es v M = some (.val (.int .i64 (out.length : Int)) M) := fun M => by
  rcases eF.is with ⟨rfl, q, _⟩ | ⟨kb, cap, t, rfl, _⟩
  ·rw [q]; rfl
  ·rfl
 have hF := xF (b := b) (tg := tg) (l := l) (st := st) (P := Pv P v)
 have hT := jG (b := b) (tg := tg) (P := Pv P v) ht o
 have hI := Vq (b := b) (tg := tg) (P := Pv P v) ht o
 have nx := h.mb (.inl px)
 rw [eB] at hX;generalize hL : exec U (.loop br) = L at hX
 have JM : (((st.now l).kind : Int) = 0) = ((st.now l).kind = 0) := propext (by omega)
 have Wa : ((out.length : Int) = 200) = (out.length = 200) := propext (by omega)
 simp only [lR] at bM;by_cases hf : st.fe = 0
 ·by_cases Uz : (st.now l).kind = 0
  ·rw [if_neg (fun q => q.2 Uz)] at bM
   obtain ⟨rfl, rfl⟩ := eO _ _ _ _ ▸ pH bM
   simp +contextual -implicitDefEqProofs (maxSteps := 1000000) (maxDischargeDepth := 8) only [br, h3, h6, h7, hd, qn, nx, hF, hT, h, hf, JM, Uz, gL, fT, ak, ax, ab, implies_true, simprocAttr] at hX
   subst hX;exact ⟨_, _, v, rfl, by simp only [h3, aq, Nat.reduceBEq ], by simp only [h6, aq, Nat.reduceBEq ], by simp only [h7, aq, Nat.reduceBEq ], by simp only [hd, aq, Nat.reduceBEq ], eF.kp ((aR h).trans (aR (ak h))) fun c hc => .inr hc, ak (ak h), ((aR h).trans (aR (ak h))).bO fun c hc => .inl hc, hz⟩
  ·rw [if_pos ⟨hf, Uz⟩] at bM
   by_cases hc : out.length = 200 /\ st.is l Aw
   ·rw [if_pos hc] at bM
    obtain ⟨c1, c2⟩ := hc
    have c2' : st.is l [102, 110] := c2
    simp +contextual -implicitDefEqProofs (maxSteps := 1000000) (maxDischargeDepth := 8) only [br, h3, h6, h7, hd, qn, nx, hF, hT, hI, h, hf, JM, Uz, hlen, Wa, c1, c2', gL, fT, ak, ax, ab, implies_true, simprocAttr] at hX
    generalize hC : run U dU _ _ = C at hX
    have rb := ak (k := 19) (ak (k := 7) (ak (k := 20) (ak (k := 19) (ak (k := 2) h))))
    have kb := ((((aR (k := 2) h).trans (aR (k := 19) (ak (k := 2) h))).trans (aR (k := 20) (ak (k := 19) (ak (k := 2) h)))).trans (aR (k := 7) (ak (k := 20) (ak (k := 19) (ak (k := 2) h))))).trans (aR (k := 19) (ak (k := 7) (ak (k := 20) (ak (k := 19) (ak (k := 2) h)))))
    obtain ⟨m2, rfl, r2, k2⟩ := J0 rb hC
    clear hC;have g2 : Gr l st (st.fail 3 (st.now l).pos) := .fail o.p (by decide)
    have p0 : (st.fail 3 (st.now l).pos).pos = st.pos := c6.1
    have Gy := kb.trans k2
    generalize st.fail 3 (st.now l).pos = S0 at *
    have o2 := g2.ok o
    have PV := (Gy.k _ (.inl px)).trans qn
    have Uc := r2.mb (.inl px)
    have Uy : 8 * (l.length - S0.pos) + PC.func.bi < k := by rw [p0]; simp only [PC.bi] at *; omega
    obtain ⟨s2, rr, e, g, a, mo⟩ := kU ht k .func S0 o2.p Uy trivial
    obtain ⟨y, rfl⟩ := jJ a
    simp only [e, Option.bind_some] at bM;have o3 := g.ok o2
    obtain ⟨k', rfl⟩ : ∃ k', k = k' + 1 := ⟨k - 1, by simp only [PC.bi] at *; omega⟩
    simp +contextual -implicitDefEqProofs (maxSteps := 1000000) (maxDischargeDepth := 8) only [h3, h6, h7, hd, PV, Uc, ax, ab, implies_true, simprocAttr] at hX
    generalize hC : run U fM _ _ = C at hX
    obtain ⟨m3, rfl, r3, k3⟩ := EN ht o2 Uy e r2 hC
    clear hC;have M5 := (Gy.trans k3).bO (Q := P) fun c hc => .inl hc
    have mf := eF.kp (Gy.trans k3) fun c hc => .inr hc
    obtain ⟨v2, M2, ha, nz, r4, k4⟩ := rv (x := y) r3 hP (pN uw M5.n) mf (by have := o.p; have := ht.lt; omega)
    have CH := M5.trans k4
    have UG := (CH.k _ px).trans qn
    simp +contextual -implicitDefEqProofs (maxSteps := 1000000) (maxDischargeDepth := 8) only [ha, h3, h6, List.headD_cons, ax, ab, implies_true, simprocAttr] at hX
    subst hL;by_cases BP : s2.fe = 0
    ·rw [if_pos BP] at bM
     have bn := mo BP
     have IN := g.pl
     obtain ⟨fr', m', v', rfl, q3, q6, q7, qd, qo, qr, qk, qz⟩ := ih (out ++ [y]) v2 pv _ _ _ _ n0 bx P _ _ _ o3 (by simp only [PC.bi] at *; omega) (by rw [jz, List.length_singleton]; omega) bM r4 hP (pN uw CH.n) nz (by simp) UG px (by simp only [h3, aq, Nat.reduceBEq ]) (by simp only [h6, aq, Nat.reduceBEq ]) (by simp only [aq, Nat.reduceBEq ]) (by simp only [hd, aq, Nat.reduceBEq ]) hX
     exact ⟨fr', m', v', rfl, q3, q6, q7, qd, qo, qr, CH.trans qk, qz⟩
    ·rw [if_neg BP] at bM
     obtain ⟨rfl, rfl⟩ := eO _ _ _ _ ▸ pH bM
     have Xs := r4.mb (.inl px)
     have Yi := xF (b := b) (tg := tg) (l := l) (st := s2) (P := Pv P v2)
     rw [eB] at hX;generalize exec U (.loop br) = L at hX
     simp +contextual -implicitDefEqProofs (maxSteps := 1000000) (maxDischargeDepth := 8) only [br, h3, h6, hd, UG, Xs, Yi, r4, BP, fT, ax, ab, implies_true, simprocAttr] at hX
     subst hX;exact ⟨_, _, v2, rfl, by simp only [h3, aq, Nat.reduceBEq ], by simp only [h6, aq, Nat.reduceBEq ], by simp only [aq, Nat.reduceBEq ], by simp only [hd, aq, Nat.reduceBEq ], nz.kp (aR r4) fun c hc => .inr hc, ak r4, CH.trans ((aR r4).bO fun c hc => .inl hc), by simp⟩
   ·rw [if_neg hc] at bM
    by_cases c1 : out.length = 200
    ·have c2' : ¬ st.is l [102, 110] := fun q => hc ⟨c1, q⟩
     simp +contextual -implicitDefEqProofs (maxSteps := 1000000) (maxDischargeDepth := 8) only [br, h3, h6, h7, hd, qn, nx, hF, hT, hI, h, hf, JM, Uz, hlen, Wa, c1, c2', gL, fT, ak, ax, ab, implies_true, simprocAttr] at hX
     have r2 := ak (k := 20) (ak (k := 19) (ak (k := 2) h))
     have Gy := ((aR (k := 2) h).trans (aR (k := 19) (ak (k := 2) h))).trans (aR (k := 20) (ak (k := 19) (ak (k := 2) h)))
     have g2 : Gr l st st := .refl o.p
     have p0 : st.pos = st.pos := rfl
     generalize bump (bump (bump m 2) 19) 20 = m2 at *
     have o2 := o
     have PV := (Gy.k _ (.inl px)).trans qn
     have Uc := r2.mb (.inl px)
     have Uy : 8 * (l.length - st.pos) + PC.func.bi < k := by simp only [PC.bi] at *; omega
     obtain ⟨s2, rr, e, g, a, mo⟩ := kU ht k .func st o2.p Uy trivial
     obtain ⟨y, rfl⟩ := jJ a
     simp only [e, Option.bind_some] at bM;have o3 := g.ok o2
     obtain ⟨k', rfl⟩ : ∃ k', k = k' + 1 := ⟨k - 1, by simp only [PC.bi] at *; omega⟩
     generalize hC : run U fM _ _ = C at hX
     obtain ⟨m3, rfl, r3, k3⟩ := EN ht o2 Uy e r2 hC
     clear hC;have M5 := (Gy.trans k3).bO (Q := P) fun c hc => .inl hc
     have mf := eF.kp (Gy.trans k3) fun c hc => .inr hc
     obtain ⟨v2, M2, ha, nz, r4, k4⟩ := rv (x := y) r3 hP (pN uw M5.n) mf (by have := o.p; have := ht.lt; omega)
     have CH := M5.trans k4
     have UG := (CH.k _ px).trans qn
     simp +contextual -implicitDefEqProofs (maxSteps := 1000000) (maxDischargeDepth := 8) only [ha, h3, h6, List.headD_cons, ax, ab, implies_true, simprocAttr] at hX
     subst hL;by_cases BP : s2.fe = 0
     ·rw [if_pos BP] at bM
      have bn := mo BP
      have IN := g.pl
      obtain ⟨fr', m', v', rfl, q3, q6, q7, qd, qo, qr, qk, qz⟩ := ih (out ++ [y]) v2 pv _ _ _ _ n0 bx P _ _ _ o3 (by simp only [PC.bi] at *; omega) (by rw [jz, List.length_singleton]; omega) bM r4 hP (pN uw CH.n) nz (by simp) UG px (by simp only [h3, aq, Nat.reduceBEq ]) (by simp only [h6, aq, Nat.reduceBEq ]) (by simp only [aq, Nat.reduceBEq ]) (by simp only [hd, aq, Nat.reduceBEq ]) hX
      exact ⟨fr', m', v', rfl, q3, q6, q7, qd, qo, qr, CH.trans qk, qz⟩
     ·rw [if_neg BP] at bM
      obtain ⟨rfl, rfl⟩ := eO _ _ _ _ ▸ pH bM
      have Xs := r4.mb (.inl px)
      have Yi := xF (b := b) (tg := tg) (l := l) (st := s2) (P := Pv P v2)
      rw [eB] at hX;generalize exec U (.loop br) = L at hX
      simp +contextual -implicitDefEqProofs (maxSteps := 1000000) (maxDischargeDepth := 8) only [br, h3, h6, hd, UG, Xs, Yi, r4, BP, fT, ax, ab, implies_true, simprocAttr] at hX
      subst hX;exact ⟨_, _, v2, rfl, by simp only [h3, aq, Nat.reduceBEq ], by simp only [h6, aq, Nat.reduceBEq ], by simp only [aq, Nat.reduceBEq ], by simp only [hd, aq, Nat.reduceBEq ], nz.kp (aR r4) fun c hc => .inr hc, ak r4, CH.trans ((aR r4).bO fun c hc => .inl hc), by simp⟩
    ·have c1 := c1
     simp +contextual -implicitDefEqProofs (maxSteps := 1000000) (maxDischargeDepth := 8) only [br, h3, h6, h7, hd, qn, nx, hF, hT, hI, h, hf, JM, Uz, hlen, Wa, c1, gL, fT, ak, ax, ab, implies_true, simprocAttr] at hX
     have r2 := ak (k := 19) (ak (k := 2) h)
     have Gy := (aR (k := 2) h).trans (aR (k := 19) (ak (k := 2) h))
     have g2 : Gr l st st := .refl o.p
     have p0 : st.pos = st.pos := rfl
     generalize bump (bump m 2) 19 = m2 at *
     have o2 := o
     have PV := (Gy.k _ (.inl px)).trans qn
     have Uc := r2.mb (.inl px)
     have Uy : 8 * (l.length - st.pos) + PC.func.bi < k := by simp only [PC.bi] at *; omega
     obtain ⟨s2, rr, e, g, a, mo⟩ := kU ht k .func st o2.p Uy trivial
     obtain ⟨y, rfl⟩ := jJ a
     simp only [e, Option.bind_some] at bM;have o3 := g.ok o2
     obtain ⟨k', rfl⟩ : ∃ k', k = k' + 1 := ⟨k - 1, by simp only [PC.bi] at *; omega⟩
     generalize hC : run U fM _ _ = C at hX
     obtain ⟨m3, rfl, r3, k3⟩ := EN ht o2 Uy e r2 hC
     clear hC;have M5 := (Gy.trans k3).bO (Q := P) fun c hc => .inl hc
     have mf := eF.kp (Gy.trans k3) fun c hc => .inr hc
     obtain ⟨v2, M2, ha, nz, r4, k4⟩ := rv (x := y) r3 hP (pN uw M5.n) mf (by have := o.p; have := ht.lt; omega)
     have CH := M5.trans k4
     have UG := (CH.k _ px).trans qn
     simp +contextual -implicitDefEqProofs (maxSteps := 1000000) (maxDischargeDepth := 8) only [ha, h3, h6, List.headD_cons, ax, ab, implies_true, simprocAttr] at hX
     subst hL;by_cases BP : s2.fe = 0
     ·rw [if_pos BP] at bM
      have bn := mo BP
      have IN := g.pl
      obtain ⟨fr', m', v', rfl, q3, q6, q7, qd, qo, qr, qk, qz⟩ := ih (out ++ [y]) v2 pv _ _ _ _ n0 bx P _ _ _ o3 (by simp only [PC.bi] at *; omega) (by rw [jz, List.length_singleton]; omega) bM r4 hP (pN uw CH.n) nz (by simp) UG px (by simp only [h3, aq, Nat.reduceBEq ]) (by simp only [h6, aq, Nat.reduceBEq ]) (by simp only [aq, Nat.reduceBEq ]) (by simp only [hd, aq, Nat.reduceBEq ]) hX
      exact ⟨fr', m', v', rfl, q3, q6, q7, qd, qo, qr, CH.trans qk, qz⟩
     ·rw [if_neg BP] at bM
      obtain ⟨rfl, rfl⟩ := eO _ _ _ _ ▸ pH bM
      have Xs := r4.mb (.inl px)
      have Yi := xF (b := b) (tg := tg) (l := l) (st := s2) (P := Pv P v2)
      rw [eB] at hX;generalize exec U (.loop br) = L at hX
      simp +contextual -implicitDefEqProofs (maxSteps := 1000000) (maxDischargeDepth := 8) only [br, h3, h6, hd, UG, Xs, Yi, r4, BP, fT, ax, ab, implies_true, simprocAttr] at hX
      subst hX;exact ⟨_, _, v2, rfl, by simp only [h3, aq, Nat.reduceBEq ], by simp only [h6, aq, Nat.reduceBEq ], by simp only [aq, Nat.reduceBEq ], by simp only [hd, aq, Nat.reduceBEq ], nz.kp (aR r4) fun c hc => .inr hc, ak r4, CH.trans ((aR r4).bO fun c hc => .inl hc), by simp⟩
 ·rw [if_neg (fun q => hf q.1)] at bM
  obtain ⟨rfl, rfl⟩ := eO _ _ _ _ ▸ pH bM
  simp +contextual -implicitDefEqProofs (maxSteps := 1000000) (maxDischargeDepth := 8) only [br, h3, h6, h7, hd, qn, nx, hF, hT, h, hf, gL, fT, ak, ax, ab, implies_true, simprocAttr] at hX
  subst hX;exact ⟨_, _, v, rfl, by simp only [h3, aq, Nat.reduceBEq ], by simp only [h6, aq, Nat.reduceBEq ], by simp only [h7, aq, Nat.reduceBEq ], by simp only [hd, aq, Nat.reduceBEq ], eF.kp (aR h) fun c hc => .inr hc, ak h, (aR h).bO fun c hc => .inl hc, hz⟩
theorem P4 {l : List Tok} {tg : Nat} (ht : bS l) : ∀ k, Sa l tg k := by
 intro k
 induction k with
 | zero => exact fun _ _ _ _ _ _ _ _ _ _ _ _ _ _ q => absurd q (by omega)
 | succ k ih => exact RJ ht ih
theorem Gl {s : bK} (hs : s.length < 1000000) (ht : ∀ l, ta s = .ok l -> bS l) (he : ∀ e p, ta s = .bad e p -> 0 < e) : cR B K FL [.str s] = some (Ht s) := by
 have hL := Lx hs
 rw [eE (by simp [eY])]
 generalize hLp : exec (UT B K) (aE.loop br) = L
 unfold Ht;generalize hR : ta s = R at *
 cases R with
 | bad e p =>
  simp only
  unfold BM at hL;simp only at hL
  have he : ¬ ((e : Int) = 0) := by have := he e p rfl; omega
  simp +contextual -implicitDefEqProofs (maxSteps := 1000000) (maxDischargeDepth := 8) only [eY, hL, he, ax, ab, implies_true, simprocAttr]
 | ok l =>
  have ht := ht l rfl
  unfold BM at hL;simp only at hL ⊢
  have hN : ∀ M, run U Lv [.fz 0 4 (jD l)] M = some (.ret (.ptr (nb M.next 0) 0) (ext M [.cells (bc 0 l .start .ae .ae) 7 ai false])) := fun M => by
   rw [bY (by simp [jW])]
   simp +contextual -implicitDefEqProofs (maxSteps := 1000000) (maxDischargeDepth := 8) only [jW, ax, ab, implies_true, simprocAttr]
   rfl
  generalize hX : pK eY.results _ = X
  simp +contextual -implicitDefEqProofs (maxSteps := 1000000) (maxDischargeDepth := 8) only [eY, hL, hN, ax, ab, implies_true, simprocAttr] at hX
  have hn : (bump (ext bH [.cells [.int .i64 0, .int .i64 0] 2 aZ false]) 1).next = nb bH.next 2 := by rw [bu, aK, eV]; rfl
  have ga : (bump (ext bH [.cells [.int .i64 0, .int .i64 0] 2 aZ false]) 1).get (nb bH.next 0) = .cells [.int .i64 0, .int .i64 0] 2 aZ false := by rw [gA, aM rfl (by simp)]; rfl
  generalize bump (ext bH [.cells [.int .i64 0, .int .i64 0] 2 aZ false]) 1 = MA at *
  have uw : (ext MA [.cells [.int .i64 0, .int .i64 0] 2 aZ false, .cells (bc 0 l .start .ae .ae) 7 ai false, .cells [.ptr (nb bH.next 3) 0] 1 ah false]).next = nb bH.next 5 := by rw [aK, hn, eV]; rfl
  have g0 : (ext MA [.cells [.int .i64 0, .int .i64 0] 2 aZ false, .cells (bc 0 l .start .ae .ae) 7 ai false, .cells [.ptr (nb bH.next 3) 0] 1 ah false]).get (nb bH.next 0) = .cells [.int .i64 0, .int .i64 0] 2 aZ false := by rw [aL (by rw [hn]; unfold nb; omega)]; exact ga
  have g3 : (ext MA [.cells [.int .i64 0, .int .i64 0] 2 aZ false, .cells (bc 0 l .start .ae .ae) 7 ai false, .cells [.ptr (nb bH.next 3) 0] 1 ah false]).get (nb bH.next 3) = .cells (bc 0 l .start .ae .ae) 7 ai false := by
   have : (ext MA [.cells [.int .i64 0, .int .i64 0] 2 aZ false, .cells (bc 0 l .start .ae .ae) 7 ai false, .cells [.ptr (nb bH.next 3) 0] 1 ah false]).get (nb MA.next 1) = .cells (bc 0 l .start .ae .ae) 7 ai false := by rw [aM rfl (by simp)]; rfl
   rw [hn, eV] at this; exact this
  have g4 : (ext MA [.cells [.int .i64 0, .int .i64 0] 2 aZ false, .cells (bc 0 l .start .ae .ae) 7 ai false, .cells [.ptr (nb bH.next 3) 0] 1 ah false]).get (nb bH.next 4) = .cells [.ptr (nb bH.next 3) 0] 1 ah false := by
   have : (ext MA [.cells [.int .i64 0, .int .i64 0] 2 aZ false, .cells (bc 0 l .start .ae .ae) 7 ai false, .cells [.ptr (nb bH.next 3) 0] 1 ah false]).get (nb MA.next 2) = .cells [.ptr (nb bH.next 3) 0] 1 ah false := by rw [aM rfl (by simp)]; rfl
   rw [hn, eV] at this; exact this
  generalize ext MA [.cells [.int .i64 0, .int .i64 0] 2 aZ false, .cells (bc 0 l .start .ae .ae) 7 ai false, .cells [.ptr (nb bH.next 3) 0] 1 ah false] = M0 at *
  have Sy : Fh M0 (nb bH.next 3) 0 l .start (fun c => c = nb bH.next 0 \/ c = nb bH.next 4) .ae .ae [] := by
   refine ⟨g3, by rw [uw]; unfold nb; omega, ⟨.inl ⟨rfl, rfl, rfl⟩, rfl⟩, ⟨.inl ⟨rfl, rfl, rfl⟩, rfl⟩, fun _ _ => gq.nil, rfl, rfl, by simp, ?_, by simp⟩
   rintro c (rfl | rfl)
   ·exact ⟨by rw [uw]; unfold nb; omega, by unfold nb; omega, gq.nil, gq.nil⟩
   ·exact ⟨by rw [uw]; unfold nb; omega, by unfold nb; omega, gq.nil, gq.nil⟩
  have hk : 8 * (l.length - RS.start.pos) + (PC.rR []).bi < 8 * l.length + 5 := by simp only [RS.start, PC.bi]; omega
  obtain ⟨s1, r, e, g, ar, _⟩ := kU ht (8 * l.length + 5) (.rR []) .start (uH ht).p hk (ml _)
  have o1 := g.ok (uH ht)
  have ZG : Rd M0 (nb bH.next 3) 0 l .start (fun c => c = nb bH.next 0 \/ c = nb bH.next 4) := ⟨_, _, _, Sy⟩
  generalize hC : exec (UT B K) (aE.loop br) _ _ = C at hX
  obtain ⟨fr', m1, v, rfl, q3, q6, q7, qd, eF, r1, k1, hz⟩ := P4 ht (8 * l.length + 5) [] .ae (.ptr (nb bH.next 0) 0) _ _ _ _ M0.next (nb bH.next 4) (fun c => c = nb bH.next 0 \/ c = nb bH.next 4) _ _ _ (uH ht) hk (ml _) e ZG.pv (fun c hc => ZG.mb hc) (fy _) ⟨.inl ⟨rfl, rfl, rfl⟩, rfl⟩ (fun _ => rfl) g4 (.inr rfl) (by simp only [aq, Nat.reduceBEq ]) (by simp only [aq, Nat.reduceBEq ]) (by simp only [aq, Nat.reduceBEq ]) (by simp only [aq, Nat.reduceBEq ]) hC
  clear hC;have hpf : jk l = s1.put (nd 26 r 0 [] 0) := by unfold jk; rw [e]
  rw [hpf];have b1 := (k1.k _ (.inr rfl)).trans g4
  have c1 := (k1.k _ (.inl rfl)).trans g0
  have n1 := r1.mb (.inl (.inr rfl))
  have n2 := r1.mb (.inl (.inl rfl))
  have WN : v.cells = some [v] := by rcases eF.is with ⟨rfl, _⟩ | ⟨_, _, _, rfl, _⟩ <;> rfl
  simp +contextual -implicitDefEqProofs (maxSteps := 1000000) (maxDischargeDepth := 8) only [q3, q6, q7, qd, b1, n1, WN, ax, ab, implies_true, simprocAttr] at hX
  generalize hC : run U aA _ _ = C at hX
  obtain ⟨m2, rfl, r2, k2⟩ := pL (P := fun c => c = nb bH.next 0 \/ c = nb bH.next 4) (kids := r) ht o1 r1 (by have : r.length <= s1.pos + 1 := ar; have := o1.p; have := ht.lt; omega) eF.Vj (fun c hc => .inr hc) (fun c hc => ⟨.inl hc, eF.lt (.inr (ZG.mb hc))⟩) hz hC
  clear hC;have b2 := (k2.k _ (.inr rfl)).trans b1
  have c2 := (k2.k _ (.inl rfl)).trans c1
  have n3 := r2.mb (.inr rfl)
  have n4 := r2.mb (.inl rfl)
  have iM : (s1.put (nd 26 r 0 [] 0)).fe = 0 -> (s1.put (nd 26 r 0 [] 0)).tree ≠ [] := by
   intro q
   have q2 : (s1.nM (nd 26 r 0 [] 0)).fe = 0 := Gb fun w => by
    unfold RS.put at q; rw [if_neg w] at q; exact w q
   unfold RS.put; rw [if_pos q2]; simp
  have hsm : (s1.put (nd 26 r 0 [] 0)).tree.length < 1000000 := by
   have h1 : (s1.nM (nd 26 r 0 [] 0)).tree = s1.tree := by
    unfold RS.nM; split
    ·exact c6.2.2.1
    ·rfl
   have h2 : (s1.put (nd 26 r 0 [] 0)).tree.length <= s1.tree.length + 1 := by
    unfold RS.put; split
    ·simp
    ·rw [h1]; omega
   have := o1.t; have := o1.p; have := ht.lt; omega
  generalize s1.put (nd 26 r 0 [] 0) = s2 at *
  have hF := xF (b := nb bH.next 3) (tg := 0) (l := l) (st := s2) (P := fun c => c = nb bH.next 0 \/ c = nb bH.next 4)
  have hFa := Wg (b := nb bH.next 3) (tg := 0) (l := l) (st := s2) (P := fun c => c = nb bH.next 0 \/ c = nb bH.next 4)
  by_cases ji : s2.fe = 0
  ·simp +contextual -implicitDefEqProofs (maxSteps := 1000000) (maxDischargeDepth := 8) only [q3, q6, q7, qd, b2, n3, hF, r2, ji, gL, ak, ax, ab, implies_true, simprocAttr] at hX
   have RD := ak (k := 2) r2
   have GG : (bump m2 2).get (nb bH.next 0) = .cells [.int .i64 0, .int .i64 0] 2 aZ false := c2
   generalize bump m2 2 = m3 at *
   generalize hC : run U kT _ _ = C at hX
   obtain ⟨tv, hv, xs, RD⟩ := RD
   obtain ⟨m5, v5, e5, r5, w5, k5, c5, n5, rfl⟩ := P8 RD (iM ji) hsm
   obtain rfl := hC.symm.trans e5
   have g5 := (k5.k _ (.inl rfl)).trans GG
   have XH : c5 ≠ nb bH.next 0 := by
    have := w5.QH (c := c5) (fun q => q c5 0 n5 none rfl rfl)
    have := (RD.p _ (.inl rfl)).1
    omega
   have hl5 := (r5.p _ (.inl rfl)).1
   have r6 := r5.Qu (c0 := nb bH.next 0) (.inl rfl) (.cells [.int .i64 0, .int .i64 0] 2 aZ false)
   have w6 : jF (m5.set (nb bH.next 0) (.cells [.int .i64 0, .int .i64 0] 2 aZ false)) (.slice c5 0 n5 none) (IL xs) xs.length 5 0 := w5.Vj.gz (fy _) fun c _ _ ho => az (by rw [cm ho]; exact XH)
   have PQ : xs ≠ [] := fun q => iM ji (by rw [<- RD.x, q]; rfl)
   have hz := RK r6.k w6 PQ
   rw [RD.x] at hz;simp +contextual -implicitDefEqProofs (maxSteps := 1000000) (maxDischargeDepth := 8) only [q3, qd, g5, hl5, hz, ax, ab, implies_true, simprocAttr] at hX
   subst hX;simp only [MJ, ji, if_true];simp +contextual -implicitDefEqProofs (maxSteps := 1000000) (maxDischargeDepth := 8) only [hz, ax, ab, implies_true, simprocAttr]
  ·simp +contextual -implicitDefEqProofs (maxSteps := 1000000) (maxDischargeDepth := 8) only [q3, q6, q7, qd, b2, n3, c2, n4, hF, hFa, r2, ji, fT, ak, ax, ab, implies_true, simprocAttr] at hX
   subst hX;simp only [MJ, ji, if_false];simp +contextual -implicitDefEqProofs (maxSteps := 1000000) (maxDischargeDepth := 8) only [c2, n4, ax, ab, implies_true, simprocAttr]
end
section
def US (l : List Nd) : Prop := U0 l /\ kindOf l ((l.length - 1 : Nat) : Int) = 26
end
section
theorem Er {s : bK} {l : List Tok} (h : ta s = .ok l) : bS l /\ (∀ t ∈ l, t.kind = 1 -> t.text ≠ [] /\ rE t.text) /\ l.length <= s.length + 1 := by
 unfold ta at h
 split at h
 ·cases h
 ·rename_i h6
  cases hr : fD (s.length + 1) (s.drop (bA false s)) (bA false s) with
  | bad e q => rw [hr] at h; cases h
  | ok l2 =>
   rw [hr] at h;simp only [Ar.map, Ar.ok.injEq] at h;obtain ⟨i1, i2⟩ := DV _ _ _ _ hr
   rw [uy] at i1;have hlen : l.length = l2.length + 1 := by rw [<- h, jz]; rfl
   refine ⟨⟨by omega, by omega, ?_⟩, fun t ht hk => ?_, by omega⟩
   ·rw [hlen, List.getD_eq_getElem?_getD, Nat.add_sub_cancel, <- h, FA (fy _), Nat.sub_self]; rfl
   ·rw [<- h] at ht
    rcases yb.1 ht with ht | ht
    ·exact i2 t ht hk
    ·rw [DL.1 ht] at hk; cases hk
end
section
theorem TI.mono {l l' : List Tok} {st : RS} (h : TI l st) (hs : ∀ t ∈ l, t ∈ l') : TI l' st :=
 ⟨fun q => ⟨(h.t q).lt, (h.t q).hl, (h.t q).hh⟩, fun q => by obtain ⟨t, a, b⟩ := h.f q; exact ⟨t, hs t a, b⟩⟩
theorem PP.mono {l l' : List Tok} {st s1 : RS} {r : List Int} (h : PP l st s1 r) (hs : ∀ t ∈ l, t ∈ l') : PP l' st s1 r := by
 refine ⟨h.inv.mono hs, fun q => ?_⟩
 obtain ⟨a, new, b, c, d⟩ := h.ok q
 exact ⟨a, new, b, fun e he => ⟨(c e he).own, (c e he).kids, by obtain ⟨t, x, y⟩ := (c e he).pos; exact ⟨t, hs t x, y⟩⟩, d⟩
theorem P9 {l : List Tok} : TI l .start := ⟨fun _ => ⟨fun i d h => absurd h (by simp [RS.start]), rfl, fun i h => absurd h (by simp [RS.start])⟩, fun q => absurd rfl q⟩
structure Prg (l : List Tok) (s : RS) : Prop where
 whole : US s.tree
 pos : ∀ d ∈ s.tree, d.pos = 0 \/ ∃ t ∈ l, d.pos = (t.pos : Int)
 small : s.tree.length <= l.length
theorem SQ {l : List Tok} (ht : bS l) (hg : ∀ t ∈ l, t.kind = 1 -> t.text ≠ [] /\ rE t.text) : ((jk l).fe = 0 -> Prg l (jk l)) /\ ((jk l).fe ≠ 0 -> (jk l).fp = 0 \/ ∃ t ∈ l, (jk l).fp = (t.pos : Int)) := by
 have hk : 8 * (l.length - RS.start.pos) + (PC.rR []).bi < 8 * l.length + 5 := by simp only [RS.start, PC.bi]; omega
 obtain ⟨s1, r, e, g, ar, _⟩ := kU ht (8 * l.length + 5) (.rR []) .start (uH ht).p hk (ml _)
 have o1 := g.ok (uH ht)
 obtain ⟨_, r', uZ, pp, kk⟩ := Wb ht hg _ _ _ _ _ e ht.pos P9 (ml _)
 rw [List.nil_append] at uZ
 subst uZ
 have hpf : jk l = s1.put (nd 26 r 0 [] 0) := by unfold jk; rw [e]
 rw [hpf];obtain ⟨q1, q2⟩ := (pp.mono (l' := ⟨0, [], 0, 0⟩ :: l) fun t h => As _ h).put (d := nd 26 r 0 [] 0) ⟨⟨0, [], 0, 0⟩, by simp, rfl⟩ (fun q => ⟨kO (l := l) (p := 0) ⟨by decide, by decide⟩ (by decide) (fun q => absurd rfl q) rfl, O5 (fun x hx => ((kk q).1 x hx).2.2) (kk q).2⟩) (fun a => rfl)
 have pos' : ∀ {x : Int}, (∃ t ∈ (⟨0, [], 0, 0⟩ : Tok) :: l, x = (t.pos : Int)) -> x = 0 \/ ∃ t ∈ l, x = (t.pos : Int) := by
  rintro x ⟨t, h1, h2⟩
  rcases oU.1 h1 with rfl | h1
  ·exact .inl h2
  ·exact .inr ⟨t, h1, h2⟩
 refine ⟨fun q => ?_, fun q => pos' (q1.inv.f q)⟩
 have q0 : (s1.nM (nd 26 r 0 [] 0)).fe = 0 := Gb fun w => by
  unfold RS.put at q; rw [if_neg w] at q; exact w q
 have hR : s1.fV (nd 26 r 0 [] 0) = (s1.tree.length : Int) := if_pos q0
 have hT : (s1.put (nd 26 r 0 [] 0)).tree = s1.tree ++ [nd 26 r 0 [] 0] := by unfold RS.put; rw [if_pos q0]
 have hH : ∀ x ∈ (s1.put (nd 26 r 0 [] 0)).high, x <= 200 := by
  unfold RS.put; rw [if_pos q0]
  intro x hx
  rcases yb.1 hx with hx | hx
  ·have : (s1.nM (nd 26 r 0 [] 0)).high = s1.high := by
    unfold RS.nM; split
    ·exact c6.2.2.2
    ·rfl
   exact o1.h x hx
  ·rw [DL.1 hx]
   unfold RS.nM at q0
   split at q0
   ·exact absurd q0 (ej (by decide))
   ·omega
 obtain ⟨_, new, hn, dn, hc⟩ := q1.ok q
 have tr := q1.inv.t q
 have kx := (q2 q).2
 rw [hR] at hc kx;have hlen : (s1.put (nd 26 r 0 [] 0)).tree.length = s1.tree.length + 1 := by rw [hT, jz]; rfl
 generalize s1.put (nd 26 r 0 [] 0) = s2 at *
 simp only [RS.start, List.nil_append] at hn;have hc : ∀ a, E1 s2.tree a + [(s1.tree.length : Int)].count a = JG 0 s2.tree.length a := fun a => by
  have := hc a; rw [<- hn] at this; exact this
 have perm : (oW s2.tree ++ [(s1.tree.length : Int)]).Perm ((List.range s2.tree.length).map (fun i : Nat => (i : Int))) := List.perm_iff_count.2 fun a => by
  rw [List.count_append, count_range]; exact hc a
 have Pe := perm.length_eq
 rw [jz, List.length_singleton, List.length_map, List.length_range] at Pe;have hnd : (oW s2.tree).Nodup := by
  have h1 : ((List.range s2.tree.length).map (fun i : Nat => (i : Int))).Nodup := List.pairwise_map.2 ((List.nodup_range (n := s2.tree.length)).imp fun h q => h (by omega))
  exact (List.nodup_append.1 (perm.nodup_iff.2 h1)).1
 have dn : ∀ d ∈ s2.tree, ID (⟨0, [], 0, 0⟩ :: l) s2.tree d := by rw [hn] at dn ⊢; exact dn
 refine ⟨⟨⟨⟨tr.lt, hnd, fun d hd => ⟨(dn d hd).own, (dn d hd).kids⟩⟩, by omega, by omega, ?_⟩, ?_⟩, fun d hd => pos' (dn d hd).pos, ?_⟩
 ·exact hH _ (List.mem_of_getElem? (tr.hh (s2.tree.length - 1) (by omega)))
 ·have := kx.2.2
  rw [hlen, Nat.add_sub_cancel]; exact this
 ·have := o1.t; have := o1.p; omega
end
section
def Tok.er (t : Tok) : Tok := { t with pos := 0 }
def Nd.er (d : Nd) : Nd := { d with pos := 0 }
def RS.er (st : RS) : RS := { st with tree := st.tree.map Nd.er, fp := 0 }
def H7 (y : RS × List Int) : RS × List Int := (y.1.er, y.2)
def TG (y : RS × Int) : RS × Int := (y.1.er, y.2)
section
variable {l : List Tok} {st : RS}
theorem hU : st.er.now (l.map Tok.er) = (st.now l).er := by
 unfold RS.now
 show (l.map Tok.er).getD (min st.pos ((l.map Tok.er).length - 1)) ⟨0, [], 0, 0⟩ = (l.getD (min st.pos (l.length - 1)) ⟨0, [], 0, 0⟩).er
 rw [List.length_map, List.getD_eq_getElem?_getD, List.getD_eq_getElem?_getD, List.getElem?_map]
 cases l[min st.pos (l.length - 1)]? <;> rfl
theorem oa {s : bK} : st.er.is (l.map Tok.er) s = st.is l s := by
 unfold RS.is; rw [hU]; rfl
theorem H6 {t : Tok} : t.er.kind = t.kind := rfl
theorem H5 {t : Tok} : t.er.text = t.text := rfl
theorem acn {t : Tok} : t.er.n = t.n := rfl
theorem jQ {t : Tok} : ((t.er.pos : Nat) : Int) = 0 := rfl
theorem uk : st.er.fe = st.fe := rfl
theorem RR : st.er.pos = st.pos := rfl
theorem jC : st.er.next = st.next.er := rfl
theorem J6 : st.er.close = st.close.er := rfl
theorem kJ {e : Int} (p : Int) : st.er.fail e 0 = (st.fail e p).er := by
 unfold RS.fail; rw [uk]; split <;> rfl
theorem Dk (p : Int) : st.er.open 0 = (st.open p).er := by
 unfold RS.open
 show (if 200 < st.deep + 1 then _ else _) = _
 split
 ·exact kJ (st := { st with deep := st.deep + 1 }) p
 ·rfl
theorem mY {s : bK} : st.er.want (l.map Tok.er) s = (st.want l s).er := by
 unfold RS.want;simp only [oa, hU, jQ, jC, kJ (st.now l).pos]
 split <;> rfl
theorem NH {d : Nd} : st.er.nM d.er = (st.nM d).er := by
 unfold RS.nM
 show (if 200 < nA st.high d.kids then st.er.fail 4 0 else st.er) = _
 rw [kJ d.pos]
 split <;> rfl
theorem vg {d : Nd} : st.er.put d.er = (st.put d).er := by
 unfold RS.put;rw [NH, uk]
 split
 ·show RS.mk _ _ _ _ _ _ = RS.mk _ _ _ _ _ _
  rw [List.map_append]; rfl
 ·rfl
theorem tL {d : Nd} : st.er.fV d.er = st.fV d := by
 unfold RS.fV;rw [NH, uk]
 show (if _ then ((st.tree.map Nd.er).length : Int) else _) = _
 rw [List.length_map]
theorem EX {k n : Int} {x : List Int} {s : bK} (p : Int) : nd k x n s 0 = (nd k x n s p).er := rfl
theorem ft {a a' : Option (RS × List Int)} {f f' : RS × List Int -> Option (RS × List Int)} (h : a' = a.map H7) (hf : ∀ s r, f' (s.er, r) = (f (s, r)).map H7) : a'.bind f' = (a.bind f).map H7 := by
 subst h
 cases a with
 | none => rfl
 | some x => exact hf x.1 x.2
theorem cY {c : Prop} [Decidable c] {a b a' b' : Option (RS × List Int)} (h : a' = a.map H7) (h' : b' = b.map H7) : (if c then a' else b') = (if c then a else b).map H7 := by
 split
 ·exact h
 ·exact h'
end
theorem RG {l : List Tok} : ∀ (k : Nat) (c : gP) (st : RS), gF (l.map Tok.er) k c st.er = (gF l k c st).map H7 := by
 intro k
 induction k with
 | zero => intro c st; rfl
 | succ k ih =>
  intro c st
  have lay : ∀ (kind n : Int) (x : List Int) (s : bK) (s1 : RS) (p : Int), (some (s1.er.put (nd kind x n s 0), [s1.er.fV (nd kind x n s 0)]) : Option (RS × List Int)) = (some (s1.put (nd kind x n s p), [s1.fV (nd kind x n s p)])).map H7 := by
   intro kind n x s s1 p
   rw [EX p, vg, tL]; rfl
  cases c with
  | expr =>
   simp only [gF];exact ft (ih _ _) fun s r => rfl
  | ll least =>
   simp only [gF];exact ft (ih _ _) fun s r => ih _ _
  | ko least nu left =>
   simp only [gF, hU, H6, H5, jQ, uk, jC];refine cY (ft (ih _ _) fun s r => ?_) rfl
   rw [EX ((st.now l).pos : Int)];simp only [vg, tL];exact ih _ _
  | front =>
   simp only [gF, oa, hU, jQ, jC, Dk ((st.now l).pos : Int), uk];refine cY (cY (ft (ih _ _) fun s r => ?_) rfl) (cY (cY (ft (ih _ _) fun s r => ?_) rfl) (ft (ih _ _) fun s r => ih _ _))
   all_goals exact lay _ _ _ _ s.close _
  | atom =>
   simp only [gF, oa, hU, jQ, jC, uk, H6, H5, acn, kJ ((st.now l).pos : Int)];refine cY rfl (cY (ih _ _) (cY (lay _ _ _ _ _ _) (cY (cY (ft (ih _ _) fun s r => lay _ _ _ _ _ _) (lay _ _ _ _ _ _)) (cY (lay _ _ _ _ _ _) (cY (lay _ _ _ _ _ _) (cY (lay _ _ _ _ _ _) (cY (ft (ih _ _) fun s r => lay _ _ _ _ _ _) (cY (ft (ih _ _) fun s r => lay _ _ _ _ _ _) rfl))))))))
  | lW left =>
   simp only [gF, oa, hU, jQ];refine cY (ft (ih _ _) fun s r => ?_) rfl
   rw [EX ((st.now l).pos : Int)];simp only [vg, tL];exact ih _ _
  | inner a z =>
   simp only [gF, oa, hU, jQ, jC, Dk ((st.now l).pos : Int), uk, kJ ((st.now l).pos : Int)];refine cY (cY (ft (ih _ _) fun s r => ?_) rfl) rfl
   rw [mY, J6, uk]; rfl
  | args =>
   simp only [gF, oa, hU, jQ, jC, Dk ((st.now l).pos : Int), uk, kJ ((st.now l).pos : Int)];refine cY (cY (ft (cY rfl (ih _ _)) fun s r => ?_) rfl) rfl
   rw [mY, J6]; rfl
  | lm out =>
   simp only [gF, hU, jQ, kJ ((st.now l).pos : Int)];have e0 : (if out.length = 8 then (st.fail 3 (st.now l).pos).er else st.er) = (if out.length = 8 then st.fail 3 (st.now l).pos else st).er := by split <;> rfl
   rw [e0];refine ft (ih _ _) fun s r => ?_
   simp only [oa, jC];exact cY (ih _ _) rfl
section
variable {l : List Tok} {st : RS}
theorem Bv : jy (l.map Tok.er) st.er = TG (jy l st) := by
 unfold jy;rw [RG, List.length_map, RR]
 cases gF l (8 * (l.length - st.pos) + 5) .expr st <;> rfl
theorem XA {a z : bK} : ze (l.map Tok.er) a z st.er = TG (ze l a z st) := by
 unfold ze;rw [RG, List.length_map, RR]
 cases gF l (8 * (l.length - st.pos) + 1) (.inner a z) st <;> rfl
theorem YP : sf (l.map Tok.er) st.er = H7 (sf l st) := by
 unfold sf;rw [RG, List.length_map, RR]
 cases gF l (8 * (l.length - st.pos) + 1) .args st <;> rfl
theorem J5 : st.er.np (l.map Tok.er) = st.np l := by
 unfold RS.np; rw [hU]; rfl
theorem zO : st.er.name (l.map Tok.er) = (st.name l).er := by
 unfold RS.name;simp only [J5, hU, jQ, jC, kJ ((st.now l).pos : Int)]
 split <;> rfl
theorem vi : st.er.cr (l.map Tok.er) = st.cr l := by
 unfold RS.cr;simp only [J5, hU, H5]
theorem Un : jm (l.map Tok.er) st.er = TG (jm l st) := by
 unfold jm;simp only [oa, hU, jQ, jC, kJ ((st.now l).pos : Int)]
 split
 ·rfl
 ·split
  ·rfl
  ·split <;> rfl
theorem xY {d : Nd} : kE (l.map Tok.er) st.er d.er = TG (kE l st d) := by
 unfold kE;rw [mY, vg, tL]; rfl
theorem Vl : y7 (l.map Tok.er) st.er = TG (y7 l st) := by
 unfold y7;simp only [zO, mY, Bv, vi, hU, jQ];rw [EX ((st.now l).pos : Int)];exact xY
theorem QB {kind : Int} {p : Nat} : nn (l.map Tok.er) kind 0 st.er = TG (nn l kind p st) := by
 unfold nn
 simp only [Bv];exact xY (d := nd kind [(jy l st).2] 0 [] p)
theorem QP : jK (l.map Tok.er) st.er = TG (jK l st) := by
 unfold jK;simp only [zO, mY, Bv, vi, hU, jQ, oa, YP, XA]
 split
 ·rw [show (H7 (sf l (st.name l))).2 = (sf l (st.name l)).2 from rfl, show (H7 (sf l (st.name l))).1 = (sf l (st.name l)).1.er from rfl, EX ((st.now l).pos : Int), vg, tL]
  exact xY (d := nd 22 _ 0 [] (st.now l).pos)
 ·split
  ·rw [show (TG (ze l [91] [93] (st.name l))).1 = (ze l [91] [93] (st.name l)).1.er from rfl, mY, Bv]
   exact xY (d := nd 14 _ 0 _ ((st.name l).now l).pos)
  ·exact xY (d := nd 13 _ 0 _ (st.now l).pos)
theorem AN {s1 : RS} {kind n : Int} {x : List Int} {s : bK} (p : Int) : uv s1.er (nd kind x n s 0) = (uv s1 (nd kind x n s p)).map H7 := by
 unfold uv;rw [EX p, vg, tL]; rfl
variable {go W1 : RS -> Option (RS × List Int)}
theorem XB (h : ∀ s, W1 s.er = (go s).map H7) {p : Nat} : Ur (l.map Tok.er) W1 0 st.er = (Ur l go p st).map H7 := by
 unfold Ur;simp only [Bv];refine ft (h _) fun s r => ?_
 simp only [oa, jC];refine cY (ft (h _) fun s r => ?_) ?_
 ·exact AN (p : Int)
 ·exact AN (p : Int)
theorem P0 (h : ∀ s, W1 s.er = (go s).map H7) {p : Nat} : uD (l.map Tok.er) W1 0 st.er = (uD l go p st).map H7 := by
 unfold uD;simp only [Bv];exact ft (h _) fun s r => AN (p : Int)
theorem Wf (h : ∀ s, W1 s.er = (go s).map H7) : JT (l.map Tok.er) W1 st.er = (JT l go st).map H7 := by
 unfold JT;simp only [zO, mY, Bv, vi, hU, jQ];rw [show (TG (jy l ((st.name l).want l [61]))).1 = (jy l ((st.name l).want l [61])).1.er from rfl, mY, Bv]
 exact ft (h _) fun s r => AN ((st.now l).pos : Int)
end
theorem Wc {l : List Tok} : ∀ (k : Nat) (c : PC) (st : RS), lR (l.map Tok.er) k c st.er = (lR l k c st).map H7 := by
 intro k
 induction k with
 | zero => intro c st; rfl
 | succ k ih =>
  intro c st
  have e0 : (st.now l).er.pos = 0 := rfl
  cases c with
  | stmt =>
   simp only [lR, oa, hU, jC, Vl, QP, e0];refine cY rfl (cY (XB (ih _)) (cY (P0 (ih _)) (cY (Wf (ih _)) (cY ?_ (cY ?_ (cY ?_ (cY ?_ rfl)))))))
   ·exact congrArg (fun x => some (BI x)) (xY (d := nd 18 [] 0 [] (st.now l).pos))
   ·exact congrArg (fun x => some (BI x)) (xY (d := nd 19 [] 0 [] (st.now l).pos))
   ·exact congrArg (fun x => some (BI x)) QB
   ·exact congrArg (fun x => some (BI x)) QB
  | block =>
   simp only [lR, oa, hU, jQ, jC, Dk ((st.now l).pos : Int), uk, kJ ((st.now l).pos : Int)];exact cY (cY (ft (ih _ _) fun s r => AN (s1 := s.close) _) rfl) rfl
  | kr out =>
   simp only [lR, oa, jC];refine cY rfl (ft (ih _ _) fun s r => ?_)
   exact cY (ih _ _) rfl
  | rA out =>
   simp only [lR, uk, hU, jQ, zO, vi, kJ ((st.now l).pos : Int)];have e1 : (if out.length = 8 then ((st.name l).fail 3 (st.now l).pos).er else (st.name l).er) = (if out.length = 8 then (st.name l).fail 3 (st.now l).pos else st.name l).er := by split <;> rfl
   rw [e1, Un];generalize (if out.length = 8 then (st.name l).fail 3 (st.now l).pos else st.name l) = s1
   show (if _ then (if ((jm l s1).1.er.put (nd 24 [] (jm l s1).2 (st.cr l) 0)).is _ _ then _ else _) else _) = _
   rw [EX ((st.now l).pos : Int)];refine cY ?_ rfl
   show (if ((jm l s1).1.er.put (nd 24 [] (jm l s1).2 (st.cr l) (st.now l).pos).er).is _ _ then lR _ k (.rA (out ++ [(jm l s1).1.er.fV (nd 24 [] (jm l s1).2 (st.cr l) (st.now l).pos).er])) ((jm l s1).1.er.put (nd 24 [] (jm l s1).2 (st.cr l) (st.now l).pos).er).next else some ((jm l s1).1.er.put (nd 24 [] (jm l s1).2 (st.cr l) (st.now l).pos).er, out ++ [(jm l s1).1.er.fV (nd 24 [] (jm l s1).2 (st.cr l) (st.now l).pos).er])) = _
   rw [vg, tL];simp only [oa, jC];exact cY (ih _ _) rfl
  | func =>
   simp only [lR, mY, zO, oa, hU, jQ, vi];refine ft (cY rfl (ih _ _)) fun s r => ?_
   simp only [mY, Un];refine ft (ih _ _) fun s r => ?_
   exact AN _
  | rR out =>
   simp only [lR, uk, hU, H6, jQ, oa, kJ ((st.now l).pos : Int)];have e1 : (if out.length = 200 /\ st.is l Aw then (st.fail 3 (st.now l).pos).er else st.er) = (if out.length = 200 /\ st.is l Aw then st.fail 3 (st.now l).pos else st).er := by split <;> rfl
   rw [e1];refine cY (ft (ih _ _) fun s r => ?_) rfl
   exact cY (ih _ _) rfl
end
end Go.Proofs.YtdiccmapankckaaDoor.Ev
