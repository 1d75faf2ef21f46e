/- WExpr9, WExpr10, WPa1, WPa2, WPa3, WPa4, WPa5, WPa6, WPa7, WPa8, WPa9. -/
import Derived.Test.YtdiccmapankckaaDoorMh
set_option linter.unusedSimpArgs false
set_option linter.unusedVariables false
set_option linter.unusedSectionVars false
set_option linter.defProp false
set_option maxRecDepth 20000
set_option maxHeartbeats 8000000
namespace Go.Proofs.YtdiccmapankckaaDoor.Ev
open Go
section
theorem Fh.next {m : Mem} {b tg : Nat} {l : List Tok} {st : RS} {P : Nat -> Prop} {tv hv : EV} {xs : List Nv} (h : Fh m b tg l st P tv hv xs) : Rd (m.set b (.cells [.fz tg 4 (jD l), .int .i64 ((st.pos + 1 : Nat) : Int), .int .i64 st.deep, tv, hv, .int .i64 st.fe, .int .i64 st.fp] 7 ai false)) b tg l st.next P /\ Kp m (m.set b (.cells [.fz tg 4 (jD l), .int .i64 ((st.pos + 1 : Nat) : Int), .int .i64 st.deep, tv, hv, .int .i64 st.fe, .int .i64 st.fp] 7 ai false)) P := by
 have u : qQ m (m.set b (.cells (bc tg l st.next tv hv) 7 ai false)) b (.cells (bc tg l st.next tv hv) 7 ai false) := .set (fy _) fun _ _ _ => rfl
 exact ⟨⟨tv, hv, xs, h.Ol rfl rfl u⟩, h.kp u⟩
theorem Rd.Qu {m : Mem} {b tg : Nat} {l : List Tok} {st : RS} {P : Nat -> Prop} (h : Rd m b tg l st P) {c0 : Nat} (hp : P c0) (B : fK) : Rd (m.set c0 B) b tg l st P := by
 obtain ⟨tv, hv, xs, h⟩ := h
 have f := (h.p c0 hp).2
 have fk := h.pk c0 hp
 have key : ∀ c, c ≠ c0 -> (m.set c0 B).get c = m.get c := fun c hc => az hc
 exact ⟨tv, hv, xs, (key b (fun q => f.ne q.symm)).trans h.g, h.lt, h.t.gz (fy _) fun c _ _ ho => key c fun q => ho (q ▸ f.t), h.h.gz (fy _) fun c _ _ ho => key c fun q => ho (q ▸ f.h), h.a, h.x, h.hl, fun x hx => ⟨(h.k x hx).o.gz (fy _) fun c _ _ ho => key c fun q => ho (q ▸ fk x hx), (h.k x hx).f, (h.k x hx).nl, (h.k x hx).z⟩, h.p, h.pk⟩
section
variable {l : List Tok} {tg : Nat} (ht : bS l) {k : Nat}
include ht
theorem PG (JH : rc l tg cx [.str [40], .str [41]] k (.inner [40] [41])) (LL : N8 l tg k) : rc l tg ja [] (k + 1) .atom := by
 intro st m b P s1 r X o hk bM h hX
 rw [bY (by simp [bR])] at hX
 have hT := jG (b := b) (tg := tg) (P := P) ht o
 have hF := JW (b := b) (tg := tg) (l := l) (st := st) (P := P)
 have hI := Vq (b := b) (tg := tg) (P := P) ht o
 have bn := h.lt
 by_cases ji : st.fe = 0
 ·have b1 := eT ji
  by_cases hp : st.is l [40]
  ·have b2 := eT hp
   simp +contextual -implicitDefEqProofs (maxSteps := 1000000) (maxDischargeDepth := 8) only [bR, hT, hF, hI, h, b1, b2, dg, ak, ax, ab, implies_true, simprocAttr] at hX
   simp only [gF, ji, not_true_eq_false, if_false, if_pos hp] at bM;generalize hC : run U cx _ _ = C at hX
   have kp : Kp m (bump (bump (ext (bump m 19) [.cells [.int .i64 ((st.now l).kind : Int), .str (st.now l).text, .int .i64 ((st.now l).n : Int), .int .i64 ((st.now l).pos : Int)] 4 ao false]) 0) 20) P := h.kp (by simp +contextual -implicitDefEqProofs (maxSteps := 1000000) (maxDischargeDepth := 8) only [bI, G5, G4, G3, G0, GZ, GY, ab, implies_true, simprocAttr]) (fun c hc => by simp +contextual -implicitDefEqProofs (maxSteps := 1000000) (maxDischargeDepth := 8) only [hc, G5, G4, G3, G0, GZ, GY, ab, implies_true, simprocAttr])
   obtain ⟨m1, rfl, h1, k1⟩ := JH _ _ _ P _ _ _ o (by simp only [gP.bi] at *; omega) bM (by simp (maxDischargeDepth := 20) only [dg, ak, h]) hC
   clear hC;simp +contextual -implicitDefEqProofs (maxSteps := 1000000) (maxDischargeDepth := 8) only [ax, ab, implies_true, simprocAttr] at hX
   subst hX;exact ⟨_, rfl, h1, kp.trans k1⟩
  ·have b2 := eU hp
   by_cases q2 : (st.now l).kind = 2
   ·have b3 : bo (((st.now l).kind : Int) = 2) = .bool true := eT (by omega)
    have hn := qg ht o.p (by omega)
    have on : eA l st.next := (Gr.next hn).ok o
    simp only [gF, ji, not_true_eq_false, if_false, if_neg hp, if_pos q2, bf, eO] at bM;obtain ⟨rfl, rfl⟩ := bM
    clear q2;obtain ⟨tv, hv, xs, h⟩ := h
    have hr : Rd m b tg l st P := ⟨tv, hv, xs, h⟩
    have hg := h.g
    have hw := cQ (i := st.pos) (by have := o.p; have := ht.lt; omega)
    obtain ⟨Fx, Vo⟩ := h.next
    simp +contextual -implicitDefEqProofs (maxSteps := 1000000) (maxDischargeDepth := 8) only [bR, hT, hF, hI, hr, b1, b2, b3, dg, ak, hg, bn, hw, ax, ab, implies_true, simprocAttr] at hX
    generalize m.set b _ = m' at *
    generalize hC : run U aA _ _ = C at hX
    have RD : Rd (bump (bump (ext (bump m' 19) [.cells [.int .i64 ((st.now l).kind : Int), .str (st.now l).text, .int .i64 ((st.now l).n : Int), .int .i64 ((st.now l).pos : Int)] 4 ao false]) 0) 20) b tg l st.next P := by simp (maxDischargeDepth := 20) only [dg, ak, Fx]
    have kp : Kp m' (bump (bump (ext (bump m' 19) [.cells [.int .i64 ((st.now l).kind : Int), .str (st.now l).text, .int .i64 ((st.now l).n : Int), .int .i64 ((st.now l).pos : Int)] 4 ao false]) 0) 20) P := Fx.kp (by simp +contextual -implicitDefEqProofs (maxSteps := 1000000) (maxDischargeDepth := 8) only [bI, G5, G4, G3, G0, GZ, GY, ab, implies_true, simprocAttr]) (fun c hc => by simp +contextual -implicitDefEqProofs (maxSteps := 1000000) (maxDischargeDepth := 8) only [hc, G5, G4, G3, G0, GZ, GY, ab, implies_true, simprocAttr])
    obtain ⟨m5, rfl, h5, k5⟩ := pL (P := P) (Q := P) (kids := []) ht on RD (by simp) ⟨.inl ⟨rfl, rfl, rfl⟩, rfl⟩ (fun c hc => absurd gq.nil hc) (fun c hc => ⟨hc, gq.nil⟩) (fun _ => rfl) hC
    clear hC;simp +contextual -implicitDefEqProofs (maxSteps := 1000000) (maxDischargeDepth := 8) only [ax, ab, implies_true, simprocAttr] at hX
    subst hX;exact ⟨_, rfl, h5, (Vo.trans kp).trans k5⟩
   ·have b3 : bo (((st.now l).kind : Int) = 2) = .bool false := eU (by omega)
    by_cases q1 : (st.now l).kind = 1
    ·have b4 : bo (((st.now l).kind : Int) = 1) = .bool true := eT (by omega)
     have hn := qg ht o.p (by omega)
     have on : eA l st.next := (Gr.next hn).ok o
     simp only [gF, ji, not_true_eq_false, if_false, if_neg hp, if_neg q2, if_pos q1] at bM;clear q2 q1;obtain ⟨tv, hv, xs, h⟩ := h
     have hr : Rd m b tg l st P := ⟨tv, hv, xs, h⟩
     have hg := h.g
     have hw := cQ (i := st.pos) (by have := o.p; have := ht.lt; omega)
     obtain ⟨Fx, Vo⟩ := h.next
     simp +contextual -implicitDefEqProofs (maxSteps := 1000000) (maxDischargeDepth := 8) only [bR, hT, hF, hI, hr, b1, b2, b3, b4, dg, ak, hg, bn, hw, ax, ab, implies_true, simprocAttr] at hX
     have VI : b < (m.set b (.cells [.fz tg 4 (jD l), .int .i64 ((st.pos + 1 : Nat) : Int), .int .i64 st.deep, tv, hv, .int .i64 st.fe, .int .i64 st.fp] 7 ai false)).next := bn
     have Pb : (m.set b (.cells [.fz tg 4 (jD l), .int .i64 ((st.pos + 1 : Nat) : Int), .int .i64 st.deep, tv, hv, .int .i64 st.fe, .int .i64 st.fp] 7 ai false)).next = m.next := rfl
     generalize m.set b _ = m' at *
     have hI' := Vq (b := b) (tg := tg) (P := P) ht on
     have RD : Rd (bump (bump (bump (ext (bump m' 19) [.cells [.int .i64 ((st.now l).kind : Int), .str (st.now l).text, .int .i64 ((st.now l).n : Int), .int .i64 ((st.now l).pos : Int)] 4 ao false]) 0) 20) 20) b tg l st.next P := by simp (maxDischargeDepth := 20) only [dg, ak, Fx]
     have kp : Kp m' (bump (bump (bump (ext (bump m' 19) [.cells [.int .i64 ((st.now l).kind : Int), .str (st.now l).text, .int .i64 ((st.now l).n : Int), .int .i64 ((st.now l).pos : Int)] 4 ao false]) 0) 20) 20) P := Fx.kp (by simp +contextual -implicitDefEqProofs (maxSteps := 1000000) (maxDischargeDepth := 8) only [bI, G5, G4, G3, G0, GZ, GY, ab, implies_true, simprocAttr]) (fun c hc => by simp +contextual -implicitDefEqProofs (maxSteps := 1000000) (maxDischargeDepth := 8) only [hc, G5, G4, G3, G0, GZ, GY, ab, implies_true, simprocAttr])
     by_cases hq : st.next.is l [40]
     ·have b5 := eT hq
      rw [if_pos hq] at bM;have oP : 8 * (l.length - st.next.pos) + gP.args.bi < k := by simp only [gP.bi, RS.next] at *; omega
      obtain ⟨s2, r2, e, g, a, _⟩ := go_ok ht k .args st.next on.p oP trivial
      simp only [e, Option.bind_some, bf, eO] at bM;obtain ⟨rfl, rfl⟩ := bM
      simp +contextual -implicitDefEqProofs (maxSteps := 1000000) (maxDischargeDepth := 8) only [hI', Fx, b5, dg, ak, Pb, ax, ab, implies_true, simprocAttr] at hX
      generalize hC : run U jb _ _ = C at hX
      obtain ⟨m5, rfl, h5, k5⟩ := GR (P := P) ht LL on oP e RD hC
      clear hC;simp +contextual -implicitDefEqProofs (maxSteps := 1000000) (maxDischargeDepth := 8) only [ax, ab, implies_true, simprocAttr] at hX
      subst hX;exact ⟨_, rfl, h5, (Vo.trans kp).trans k5⟩
     ·have b5 := eU hq
      rw [if_neg hq] at bM;simp only [bf, eO] at bM;obtain ⟨rfl, rfl⟩ := bM
      simp +contextual -implicitDefEqProofs (maxSteps := 1000000) (maxDischargeDepth := 8) only [hI', Fx, b5, dg, ak, Pb, ax, ab, implies_true, simprocAttr] at hX
      generalize hC : run U aA _ _ = C at hX
      obtain ⟨m5, rfl, h5, k5⟩ := pL (P := P) (Q := P) (kids := []) ht on RD (by simp) ⟨.inl ⟨rfl, rfl, rfl⟩, rfl⟩ (fun c hc => absurd gq.nil hc) (fun c hc => ⟨hc, gq.nil⟩) (fun _ => rfl) hC
      clear hC;simp +contextual -implicitDefEqProofs (maxSteps := 1000000) (maxDischargeDepth := 8) only [ax, ab, implies_true, simprocAttr] at hX
      subst hX;exact ⟨_, rfl, h5, (Vo.trans kp).trans k5⟩
    ·have b4 : bo (((st.now l).kind : Int) = 1) = .bool false := eU (by omega)
     --aeU
     have n0 : nb m.next 19 < (bump (bump (ext (bump m 19) [.cells [.int .i64 ((st.now l).kind : Int), .str (st.now l).text, .int .i64 ((st.now l).n : Int), .int .i64 ((st.now l).pos : Int)] 4 ao false]) 0) 20).next := by simp only [bu, aK, eV]; unfold nb; simp
     have h0 : Rd (bump (bump (ext (bump m 19) [.cells [.int .i64 ((st.now l).kind : Int), .str (st.now l).text, .int .i64 ((st.now l).n : Int), .int .i64 ((st.now l).pos : Int)] 4 ao false]) 0) 20) b tg l st (Pr P m.next (nb m.next (19 + 1))) := by
      exact ak (ak (h.box 19 [.cells [.int .i64 ((st.now l).kind : Int), .str (st.now l).text, .int .i64 ((st.now l).n : Int), .int .i64 ((st.now l).pos : Int)] 4 ao false]))
     have kp : Kp m (bump (bump (ext (bump m 19) [.cells [.int .i64 ((st.now l).kind : Int), .str (st.now l).text, .int .i64 ((st.now l).n : Int), .int .i64 ((st.now l).pos : Int)] 4 ao false]) 0) 20) P := h.kp (by simp +contextual -implicitDefEqProofs (maxSteps := 1000000) (maxDischargeDepth := 8) only [bI, G5, G4, G3, G0, GZ, GY, ab, implies_true, simprocAttr]) (fun c hc => by simp +contextual -implicitDefEqProofs (maxSteps := 1000000) (maxDischargeDepth := 8) only [hc, G5, G4, G3, G0, GZ, GY, ab, implies_true, simprocAttr])
     have p0 : Pr P m.next (nb m.next (19 + 1)) (nb m.next 19) := nW (by decide)
     have b0 : (bump (bump (ext (bump m 19) [.cells [.int .i64 ((st.now l).kind : Int), .str (st.now l).text, .int .i64 ((st.now l).n : Int), .int .i64 ((st.now l).pos : Int)] 4 ao false]) 0) 20).get (nb m.next 19) = .cells [.int .i64 ((st.now l).kind : Int), .str (st.now l).text, .int .i64 ((st.now l).n : Int), .int .i64 ((st.now l).pos : Int)] 4 ao false := by
      rw [gA, gA, <- Nat.add_zero 19, <- eV];exact (aM (m := bump m 19) (i := 0) rfl (by simp)).trans rfl
     have k0 : Kp (bump (bump (ext (bump m 19) [.cells [.int .i64 ((st.now l).kind : Int), .str (st.now l).text, .int .i64 ((st.now l).n : Int), .int .i64 ((st.now l).pos : Int)] 4 ao false]) 0) 20) (bump (bump (ext (bump m 19) [.cells [.int .i64 ((st.now l).kind : Int), .str (st.now l).text, .int .i64 ((st.now l).n : Int), .int .i64 ((st.now l).pos : Int)] 4 ao false]) 0) 20) (Pr P m.next (nb m.next (19 + 1))) := ⟨fy _, fun _ _ => rfl⟩
     simp +contextual -implicitDefEqProofs (maxSteps := 1000000) (maxDischargeDepth := 8) only [bR, hT, hF, hI, h, b1, b2, b3, b4, dg, ak, ax, ab, implies_true, simprocAttr] at hX
     clear b1 b2 b3 b4;generalize hC : run U aU _ _ = C at hX
     obtain ⟨m1, rfl, h1, k1⟩ := oY ht o h0 hC
     clear hC;have b1 := (k1.k _ p0).trans b0
     have k1 := k0.trans k1
     have n1 := mn n0 k1.n
     by_cases w0 : st.is l [116, 114, 117, 101]
     ·have hn := is_lt ht o.p w0
      have hw : st.skip l [116, 114, 117, 101] = st.next := by unfold RS.skip; rw [if_pos w0]
      rw [hw] at h1;have on : eA l st.next := (Gr.next hn).ok o
      rw [eT w0] at hX;simp +contextual -implicitDefEqProofs (maxSteps := 1000000) (maxDischargeDepth := 8) only [b1, n1, ax, ab, implies_true, simprocAttr] at hX
      simp only [gF, ji, not_true_eq_false, if_false, if_neg hp, if_neg q2, if_neg q1, if_pos w0, bf, eO] at bM;obtain ⟨rfl, rfl⟩ := bM
      generalize hC : run U aA _ _ = C at hX
      obtain ⟨m5, rfl, h5, k5⟩ := pL (P := P) (kids := []) ht on h1 (by simp) ⟨.inl ⟨rfl, rfl, rfl⟩, rfl⟩ (fun c hc => absurd gq.nil hc) (fun c hc => ⟨.inl hc, gq.nil⟩) (fun _ => rfl) hC
      clear hC;simp +contextual -implicitDefEqProofs (maxSteps := 1000000) (maxDischargeDepth := 8) only [ax, ab, implies_true, simprocAttr] at hX
      subst hX;exact ⟨_, rfl, h5, kp.trans ((k1.bO fun c hc => .inl hc).trans k5)⟩
     ·have hw : st.skip l [116, 114, 117, 101] = st := by unfold RS.skip; rw [if_neg w0]
      rw [hw] at h1;rw [eU w0] at hX;simp +contextual -implicitDefEqProofs (maxSteps := 1000000) (maxDischargeDepth := 8) only [b1, n1, ax, ab, implies_true, simprocAttr] at hX
      clear h0 b0 k0;have h0 := h1
      have b0 := b1
      have k0 := k1
      clear h1 b1 k1 n1;generalize hC : run U aU _ _ = C at hX
      obtain ⟨m2, rfl, h1, k1⟩ := oY ht o h0 hC
      clear hC;have b1 := (k1.k _ p0).trans b0
      have k1 := k0.trans k1
      have n1 := mn n0 k1.n
      by_cases w1 : st.is l [102, 97, 108, 115, 101]
      ·have hn := is_lt ht o.p w1
       have hw : st.skip l [102, 97, 108, 115, 101] = st.next := by unfold RS.skip; rw [if_pos w1]
       rw [hw] at h1;have on : eA l st.next := (Gr.next hn).ok o
       rw [eT w1] at hX;simp +contextual -implicitDefEqProofs (maxSteps := 1000000) (maxDischargeDepth := 8) only [b1, n1, ax, ab, implies_true, simprocAttr] at hX
       simp only [gF, ji, not_true_eq_false, if_false, if_neg hp, if_neg q2, if_neg q1, if_neg w0, if_pos w1, bf, eO] at bM;obtain ⟨rfl, rfl⟩ := bM
       generalize hC : run U aA _ _ = C at hX
       obtain ⟨m5, rfl, h5, k5⟩ := pL (P := P) (kids := []) ht on h1 (by simp) ⟨.inl ⟨rfl, rfl, rfl⟩, rfl⟩ (fun c hc => absurd gq.nil hc) (fun c hc => ⟨.inl hc, gq.nil⟩) (fun _ => rfl) hC
       clear hC;simp +contextual -implicitDefEqProofs (maxSteps := 1000000) (maxDischargeDepth := 8) only [ax, ab, implies_true, simprocAttr] at hX
       subst hX;exact ⟨_, rfl, h5, kp.trans ((k1.bO fun c hc => .inl hc).trans k5)⟩
      ·have hw : st.skip l [102, 97, 108, 115, 101] = st := by unfold RS.skip; rw [if_neg w1]
       rw [hw] at h1;rw [eU w1] at hX;simp +contextual -implicitDefEqProofs (maxSteps := 1000000) (maxDischargeDepth := 8) only [b1, n1, ax, ab, implies_true, simprocAttr] at hX
       clear h0 b0 k0;have h0 := h1
       have b0 := b1
       have k0 := k1
       clear h1 b1 k1 n1;generalize hC : run U aU _ _ = C at hX
       obtain ⟨m3, rfl, h1, k1⟩ := oY ht o h0 hC
       clear hC;have b1 := (k1.k _ p0).trans b0
       have k1 := k0.trans k1
       have n1 := mn n0 k1.n
       by_cases w2 : st.is l [110, 105, 108]
       ·have hn := is_lt ht o.p w2
        have hw : st.skip l [110, 105, 108] = st.next := by unfold RS.skip; rw [if_pos w2]
        rw [hw] at h1;have on : eA l st.next := (Gr.next hn).ok o
        rw [eT w2] at hX;simp +contextual -implicitDefEqProofs (maxSteps := 1000000) (maxDischargeDepth := 8) only [b1, n1, ax, ab, implies_true, simprocAttr] at hX
        simp only [gF, ji, not_true_eq_false, if_false, if_neg hp, if_neg q2, if_neg q1, if_neg w0, if_neg w1, if_pos w2, bf, eO] at bM;obtain ⟨rfl, rfl⟩ := bM
        generalize hC : run U aA _ _ = C at hX
        obtain ⟨m5, rfl, h5, k5⟩ := pL (P := P) (kids := []) ht on h1 (by simp) ⟨.inl ⟨rfl, rfl, rfl⟩, rfl⟩ (fun c hc => absurd gq.nil hc) (fun c hc => ⟨.inl hc, gq.nil⟩) (fun _ => rfl) hC
        clear hC;simp +contextual -implicitDefEqProofs (maxSteps := 1000000) (maxDischargeDepth := 8) only [ax, ab, implies_true, simprocAttr] at hX
        subst hX;exact ⟨_, rfl, h5, kp.trans ((k1.bO fun c hc => .inl hc).trans k5)⟩
       ·have hw : st.skip l [110, 105, 108] = st := by unfold RS.skip; rw [if_neg w2]
        rw [hw] at h1;rw [eU w2] at hX;simp +contextual -implicitDefEqProofs (maxSteps := 1000000) (maxDischargeDepth := 8) only [b1, n1, ax, ab, implies_true, simprocAttr] at hX
        clear h0 b0 k0;have h0 := h1
        have b0 := b1
        have k0 := k1
        clear h1 b1 k1 n1;generalize hC : run U aU _ _ = C at hX
        obtain ⟨m4, rfl, h1, k1⟩ := oY ht o h0 hC
        clear hC;have b1 := (k1.k _ p0).trans b0
        have k1 := k0.trans k1
        have n1 := mn n0 k1.n
        by_cases w3 : st.is l [108, 101, 110]
        ·have hn := is_lt ht o.p w3
         have hw : st.skip l [108, 101, 110] = st.next := by unfold RS.skip; rw [if_pos w3]
         rw [hw] at h1;have on : eA l st.next := (Gr.next hn).ok o
         rw [eT w3] at hX;simp +contextual -implicitDefEqProofs (maxSteps := 1000000) (maxDischargeDepth := 8) only [b1, n1, ax, ab, implies_true, simprocAttr] at hX
         simp only [gF, ji, not_true_eq_false, if_false, if_neg hp, if_neg q2, if_neg q1, if_neg w0, if_neg w1, if_neg w2, if_pos w3] at bM;have hb := h1.grown (M := bump m4 9) (by rw [bu]; exact bI) (fun _ _ => rfl)
         have oP : 8 * (l.length - st.next.pos) + (gP.inner [40] [41]).bi < k := by simp only [gP.bi, RS.next] at *; omega
         obtain ⟨s2, r2, e, g, ar, _⟩ := go_ok ht k (.inner [40] [41]) st.next on.p oP trivial
         obtain ⟨x, rfl⟩ := jJ ar
         simp only [e, Option.bind_some, bf, eO] at bM;obtain ⟨rfl, rfl⟩ := bM
         generalize hC : run U cx _ _ = C at hX
         obtain ⟨m7, rfl, h7, k7⟩ := JH _ _ _ _ _ _ _ on oP e hb hC
         clear hC;have b7 := (k7.k _ (.inl p0)).trans b1
         have hM : ∀ B, Mem.mk m7.next (ext (Mem.mk (m4.next + 3) m7.gH) [B]).gH = m7.set (m4.next + 3) B := fun _ => rfl
         have iM : nb m.next 19 ≠ m4.next + 3 := by omega
         have k7n : m4.next + 9 <= m7.next := k7.n
         have VG : m4.next + 3 < m7.next := by omega
         have pc : Pr (Pr P m.next (nb m.next (19 + 1))) m4.next (bump m4 9).next (m4.next + 3) := .inr ⟨by omega, by rw [bu]; unfold nb; omega⟩
         have h8 := h7.Qu pc (.cells [.int .i64 x] 1 bC false)
         simp +contextual -implicitDefEqProofs (maxSteps := 1000000) (maxDischargeDepth := 8) only [b7, hM, iM, VG, List.headD_cons, ax, ab, implies_true, simprocAttr] at hX
         generalize hC : run U aA _ _ = C at hX
         obtain ⟨m8, rfl, h9, k9⟩ := pL (P := Pr P m.next (nb m.next (19 + 1))) (kids := [x]) ht (g.ok on) h8 (by simp) ⟨.inr ⟨_, _, _, rfl, ml _, VG, bJ, .inr rfl⟩, rfl⟩ (fun c hc => by rw [cm hc]; exact pc) (fun c hc => ⟨.inl hc, gq.of (by have := h1.mb hc; omega)⟩) (by simp) hC
         clear hC;have kq : Kp m7 (m7.set (m4.next + 3) (.cells [.int .i64 x] 1 bC false)) (Pr P m.next (nb m.next (19 + 1))) := ⟨fy _, fun c hc => az (by have := h1.mb hc; omega)⟩
         simp +contextual -implicitDefEqProofs (maxSteps := 1000000) (maxDischargeDepth := 8) only [ax, ab, implies_true, simprocAttr] at hX
         subst hX;exact ⟨_, rfl, h9.bO fun c hc => .inl hc, kp.trans ((((k1.trans (aR h1)).trans (k7.bO fun c hc => .inl hc)).trans (kq.trans k9)).bO fun c hc => .inl hc)⟩
        ·have hw : st.skip l [108, 101, 110] = st := by unfold RS.skip; rw [if_neg w3]
         rw [hw] at h1;rw [eU w3] at hX;simp +contextual -implicitDefEqProofs (maxSteps := 1000000) (maxDischargeDepth := 8) only [b1, n1, ax, ab, implies_true, simprocAttr] at hX
         clear h0 b0 k0;have h0 := h1
         have b0 := b1
         have k0 := k1
         clear h1 b1 k1 n1;generalize hC : run U aU _ _ = C at hX
         obtain ⟨m5, rfl, h1, k1⟩ := oY ht o h0 hC
         clear hC;have b1 := (k1.k _ p0).trans b0
         have k1 := k0.trans k1
         have n1 := mn n0 k1.n
         by_cases w4 : st.is l [110, 101, 119]
         ·have hn := is_lt ht o.p w4
          have hw : st.skip l [110, 101, 119] = st.next := by unfold RS.skip; rw [if_pos w4]
          rw [hw] at h1;have on : eA l st.next := (Gr.next hn).ok o
          rw [eT w4] at hX;simp +contextual -implicitDefEqProofs (maxSteps := 1000000) (maxDischargeDepth := 8) only [b1, n1, ax, ab, implies_true, simprocAttr] at hX
          simp only [gF, ji, not_true_eq_false, if_false, if_neg hp, if_neg q2, if_neg q1, if_neg w0, if_neg w1, if_neg w2, if_neg w3, if_pos w4] at bM;have hb := h1.grown (M := bump m5 9) (by rw [bu]; exact bI) (fun _ _ => rfl)
          have oP : 8 * (l.length - st.next.pos) + (gP.inner [40] [41]).bi < k := by simp only [gP.bi, RS.next] at *; omega
          obtain ⟨s2, r2, e, g, ar, _⟩ := go_ok ht k (.inner [40] [41]) st.next on.p oP trivial
          obtain ⟨x, rfl⟩ := jJ ar
          simp only [e, Option.bind_some, bf, eO] at bM;obtain ⟨rfl, rfl⟩ := bM
          generalize hC : run U cx _ _ = C at hX
          obtain ⟨m7, rfl, h7, k7⟩ := JH _ _ _ _ _ _ _ on oP e hb hC
          clear hC;have b7 := (k7.k _ (.inl p0)).trans b1
          have hM : ∀ B, Mem.mk m7.next (ext (Mem.mk (m5.next + 3) m7.gH) [B]).gH = m7.set (m5.next + 3) B := fun _ => rfl
          have iM : nb m.next 19 ≠ m5.next + 3 := by omega
          have k7n : m5.next + 9 <= m7.next := k7.n
          have VG : m5.next + 3 < m7.next := by omega
          have pc : Pr (Pr P m.next (nb m.next (19 + 1))) m5.next (bump m5 9).next (m5.next + 3) := .inr ⟨by omega, by rw [bu]; unfold nb; omega⟩
          have h8 := h7.Qu pc (.cells [.int .i64 x] 1 bC false)
          simp +contextual -implicitDefEqProofs (maxSteps := 1000000) (maxDischargeDepth := 8) only [b7, hM, iM, VG, List.headD_cons, ax, ab, implies_true, simprocAttr] at hX
          generalize hC : run U aA _ _ = C at hX
          obtain ⟨m8, rfl, h9, k9⟩ := pL (P := Pr P m.next (nb m.next (19 + 1))) (kids := [x]) ht (g.ok on) h8 (by simp) ⟨.inr ⟨_, _, _, rfl, ml _, VG, bJ, .inr rfl⟩, rfl⟩ (fun c hc => by rw [cm hc]; exact pc) (fun c hc => ⟨.inl hc, gq.of (by have := h1.mb hc; omega)⟩) (by simp) hC
          clear hC;have kq : Kp m7 (m7.set (m5.next + 3) (.cells [.int .i64 x] 1 bC false)) (Pr P m.next (nb m.next (19 + 1))) := ⟨fy _, fun c hc => az (by have := h1.mb hc; omega)⟩
          simp +contextual -implicitDefEqProofs (maxSteps := 1000000) (maxDischargeDepth := 8) only [ax, ab, implies_true, simprocAttr] at hX
          subst hX;exact ⟨_, rfl, h9.bO fun c hc => .inl hc, kp.trans ((((k1.trans (aR h1)).trans (k7.bO fun c hc => .inl hc)).trans (kq.trans k9)).bO fun c hc => .inl hc)⟩
         ·have hw : st.skip l [110, 101, 119] = st := by unfold RS.skip; rw [if_neg w4]
          rw [hw] at h1;rw [eU w4] at hX;simp +contextual -implicitDefEqProofs (maxSteps := 1000000) (maxDischargeDepth := 8) only [b1, n1, ax, ab, implies_true, simprocAttr] at hX
          clear h0 b0 k0;have h0 := h1
          have b0 := b1
          have k0 := k1
          clear h1 b1 k1 n1;simp only [gF, ji, not_true_eq_false, if_false, if_neg hp, if_neg q2, if_neg q1, if_neg w0, if_neg w1, if_neg w2, if_neg w3, if_neg w4, bf, eO] at bM;obtain ⟨rfl, rfl⟩ := bM
          generalize hC : run U dU _ _ = C at hX
          obtain ⟨m5, rfl, h5, k5⟩ := J0 h0 hC
          clear hC;simp +contextual -implicitDefEqProofs (maxSteps := 1000000) (maxDischargeDepth := 8) only [ax, ab, implies_true, simprocAttr] at hX
          subst hX;exact ⟨_, rfl, h5.bO fun c hc => .inl hc, kp.trans ((k0.trans k5).bO fun c hc => .inl hc)⟩
     --END
 ·have b1 := eU ji
  have kp : Kp m (bump (ext (bump m 19) [.cells [.int .i64 ((st.now l).kind : Int), .str (st.now l).text, .int .i64 ((st.now l).n : Int), .int .i64 ((st.now l).pos : Int)] 4 ao false]) 0) P := h.kp (by simp +contextual -implicitDefEqProofs (maxSteps := 1000000) (maxDischargeDepth := 8) only [bI, G5, G4, G3, G0, GZ, GY, ab, implies_true, simprocAttr]) (fun c hc => by simp +contextual -implicitDefEqProofs (maxSteps := 1000000) (maxDischargeDepth := 8) only [hc, G5, G4, G3, G0, GZ, GY, ab, implies_true, simprocAttr])
  simp +contextual -implicitDefEqProofs (maxSteps := 1000000) (maxDischargeDepth := 8) only [bR, hT, hF, hI, h, b1, dg, ak, ax, ab, implies_true, simprocAttr] at hX
  subst hX;simp only [gF, ji, not_false_eq_true, if_true, bf, eO] at bM;obtain ⟨rfl, rfl⟩ := bM
  exact ⟨_, rfl, by simp (maxDischargeDepth := 20) only [dg, ak, h], kp⟩
end
end
section
def DI (l : List Tok) (tg k : Nat) : Prop := ∀ (least nu left : Int) (st : RS) (fr : Fr) (m : Mem) (b : Nat) (P : Nat -> Prop) (s1 : RS) (r : List Int) (X : Option Out), eA l st -> 8 * (l.length - st.pos) + (gP.ko least nu left).bi < k -> gF l k (.ko least nu left) st = some (s1, r) -> Rd m b tg l st P -> fr.get 0 = .ptr b 0 -> fr.get 1 = .int .i64 least -> fr.get 5 = .int .i64 left -> fr.get 6 = .int .i64 nu -> fr.defers = [] -> exec U (.loop dk) fr m = X -> ∃ fr' m', X = some (.exit 0 fr' m') /\ fr'.get 5 = .int .i64 (r.headD 0) /\ fr'.defers = [] /\ Rd m' b tg l s1 P /\ Kp m m' P
section
variable {l : List Tok} {tg : Nat} (ht : bS l) {k : Nat}
include ht
theorem L6 (JH : ∀ n : Int, rc l tg e6 [.int .i64 n] k (.ll n)) (LL : DI l tg k) : DI l tg (k + 1) := by
 intro least nu left st fr m b P s1 r X o hk bM h h0 h1 h5 h6 hd hX
 rw [eB] at hX;generalize hL : exec U (.loop dk) = L at hX
 have hT := jG (b := b) (tg := tg) (P := P) ht o
 have hF := JW (b := b) (tg := tg) (l := l) (st := st) (P := P)
 have bn := h.lt
 by_cases ji : st.fe = 0
 ·have b1 := eT ji
  have lB := U5 (st.now l).text
  have hk4 : (((st.now l).kind : Int) = 4) = ((st.now l).kind = 4) := propext (by omega)
  have hle := MM (st.now l).text
  simp only [gF, ji, true_and] at bM;generalize hO : mv (st.now l).text = O at *
  obtain ⟨o1, o2⟩ := O
  simp only at bM hle lB
  have w1 : IntKind.i64.wrap (o1 + 1) = o1 + 1 := wrap_i64 (by omega) (by omega)
  have w2 : IntKind.i64.wrap (o1 - 1) = o1 - 1 := wrap_i64 (by omega) (by omega)
  obtain ⟨tv, hv, xs, h⟩ := h
  have hr : Rd m b tg l st P := ⟨tv, hv, xs, h⟩
  have hg := h.g
  have hw := cQ (i := st.pos) (by have := o.p; have := ht.lt; omega)
  obtain ⟨Fx, Vo⟩ := h.next
  have EK : eD 2 [EV.int .i64 0] = [EV.int .i64 0, EV.int .i64 0] := rfl
  simp +contextual -implicitDefEqProofs (maxSteps := 1000000) (maxDischargeDepth := 8) only [dk, h0, h1, h5, h6, hd, hT, hF, hr, b1, lB, hk4, w1, w2, bn, hg, hw, EK, cq, fJ, dg, ak, ax, ab, implies_true, simprocAttr] at hX
  by_cases hc : ((((st.now l).kind ≠ 4 \/ o2 = 0) \/ o1 < least) \/ nu < o1)
  ·simp only [hc, not_true_eq_false, if_false, bf, eO] at bM
   obtain ⟨rfl, rfl⟩ := bM
   rw [AQ hc] at hX;subst hX;have kp : Kp m (ext (bump (bump m 0) 19) [.cells [.int .i64 ((st.now l).kind : Int), .str (st.now l).text, .int .i64 ((st.now l).n : Int), .int .i64 ((st.now l).pos : Int)] 4 ao false, .cells [.int .i64 o1, .int .i64 o2] 2 lb false]) P := hr.kp (by simp +contextual -implicitDefEqProofs (maxSteps := 1000000) (maxDischargeDepth := 8) only [bI, G5, G4, G3, G0, GZ, GY, ab, implies_true, simprocAttr]) (fun c hc => by simp +contextual -implicitDefEqProofs (maxSteps := 1000000) (maxDischargeDepth := 8) only [hc, G5, G4, G3, G0, GZ, GY, ab, implies_true, simprocAttr])
   exact ⟨_, _, rfl, by simp only [h5, List.headD_cons, aq, Nat.reduceBEq ], by simp only [hd, aq, Nat.reduceBEq ], by simp (maxDischargeDepth := 20) only [dg, ak, hr], kp⟩
  ·simp only [hc, not_false_eq_true, if_true] at bM
   rw [AR hc] at hX;have hn := qg ht o.p (by omega)
   have on : eA l st.next := (Gr.next hn).ok o
   have Pb : (m.set b (.cells [.fz tg 4 (jD l), .int .i64 ((st.pos + 1 : Nat) : Int), .int .i64 st.deep, tv, hv, .int .i64 st.fe, .int .i64 st.fp] 7 ai false)).next = m.next := rfl
   generalize m.set b _ = m' at *
   have oP : 8 * (l.length - st.next.pos) + (gP.ll (o1 + 1)).bi < k := by simp only [gP.bi, RS.next] at *; omega
   obtain ⟨s2, r2, e, g, ar, _⟩ := go_ok ht k (.ll (o1 + 1)) st.next on.p oP trivial
   obtain ⟨x, rfl⟩ := jJ ar
   simp only [e, Option.bind_some, List.headD_cons] at bM;have r0 : Rd (ext (bump (bump m' 0) 19) [.cells [.int .i64 ((st.now l).kind : Int), .str (st.now l).text, .int .i64 ((st.now l).n : Int), .int .i64 ((st.now l).pos : Int)] 4 ao false, .cells [.int .i64 o1, .int .i64 o2] 2 lb false]) b tg l st.next (Pr P m.next (nb m.next 21)) := by
    have := (ak (k := 0) Fx).box 19 [.cells [.int .i64 ((st.now l).kind : Int), .str (st.now l).text, .int .i64 ((st.now l).n : Int), .int .i64 ((st.now l).pos : Int)] 4 ao false, .cells [.int .i64 o1, .int .i64 o2] 2 lb false]
    rw [<- Pb]; exact this
   have kp : Kp m' (ext (bump (bump m' 0) 19) [.cells [.int .i64 ((st.now l).kind : Int), .str (st.now l).text, .int .i64 ((st.now l).n : Int), .int .i64 ((st.now l).pos : Int)] 4 ao false, .cells [.int .i64 o1, .int .i64 o2] 2 lb false]) P := Fx.kp (by simp +contextual -implicitDefEqProofs (maxSteps := 1000000) (maxDischargeDepth := 8) only [bI, G5, G4, G3, G0, GZ, GY, ab, implies_true, simprocAttr]) (fun c hc => by simp +contextual -implicitDefEqProofs (maxSteps := 1000000) (maxDischargeDepth := 8) only [hc, G5, G4, G3, G0, GZ, GY, ab, implies_true, simprocAttr])
   have p19 : Pr P m.next (nb m.next 21) (nb m.next 19) := nW (by decide)
   have p20 : Pr P m.next (nb m.next 21) (nb m.next 20) := nW (by decide)
   have g19 : (ext (bump (bump m' 0) 19) [.cells [.int .i64 ((st.now l).kind : Int), .str (st.now l).text, .int .i64 ((st.now l).n : Int), .int .i64 ((st.now l).pos : Int)] 4 ao false, .cells [.int .i64 o1, .int .i64 o2] 2 lb false]).get (nb m.next 19) = .cells [.int .i64 ((st.now l).kind : Int), .str (st.now l).text, .int .i64 ((st.now l).n : Int), .int .i64 ((st.now l).pos : Int)] 4 ao false := by
    rw [<- Pb]; exact (aM (m := bump (bump m' 0) 19) (i := 0) rfl (by simp)).trans rfl
   have W2 : (ext (bump (bump m' 0) 19) [.cells [.int .i64 ((st.now l).kind : Int), .str (st.now l).text, .int .i64 ((st.now l).n : Int), .int .i64 ((st.now l).pos : Int)] 4 ao false, .cells [.int .i64 o1, .int .i64 o2] 2 lb false]).get (nb m.next 20) = .cells [.int .i64 o1, .int .i64 o2] 2 lb false := by
    rw [<- Pb]; exact (aM (m := bump (bump m' 0) 19) (i := 1) rfl (by simp)).trans rfl
   have n0 : (ext (bump (bump m' 0) 19) [.cells [.int .i64 ((st.now l).kind : Int), .str (st.now l).text, .int .i64 ((st.now l).n : Int), .int .i64 ((st.now l).pos : Int)] 4 ao false, .cells [.int .i64 o1, .int .i64 o2] 2 lb false]).next = nb m.next 21 := by rw [<- Pb, aK]; rfl
   generalize hC : run U e6 _ _ = C at hX
   obtain ⟨m1, rfl, r1, k1⟩ := JH (o1 + 1) _ _ _ _ _ _ _ on oP e r0 hC
   clear hC;have g19 := (k1.k _ p19).trans g19
   have W2 := (k1.k _ p20).trans W2
   have n1 : nb m.next 21 <= m1.next := by rw [<- n0]; exact k1.n
   have n19 : nb m.next 19 < m1.next := mn (by unfold nb; omega) n1
   have n20 : nb m.next 20 < m1.next := mn (by unfold nb; omega) n1
   have Xr := g.ok on
   simp +contextual -implicitDefEqProofs (maxSteps := 1000000) (maxDischargeDepth := 8) only [h0, h1, h5, h6, hd, g19, W2, n19, n20, EK, cq, fJ, List.headD_cons, ax, ab, implies_true, simprocAttr] at hX
   generalize hC : run U aA _ _ = C at hX
   obtain ⟨m5, rfl, r5, k5⟩ := pL (P := Pr P m.next (nb m.next 21)) (kids := [left, x]) ht Xr (r1.Ir _) (by simp) (Cs (by rfl)) (fun c hc => by rw [cm hc]; exact nW (by simp)) (fun c hc => ⟨.inl hc, gq.of (by have := r1.mb hc; unfold nb; omega)⟩) (by simp) hC
   clear hC;have k5' := (k1.trans (lO r1 _)).trans k5
   have W2 := ((lO r1 _).trans k5).k _ p20 |>.trans W2
   have kk := (Vo.trans kp).trans (k5'.bO fun c hc => .inl hc)
   have g1 := ((Gr.next hn).trans g).put (by have := g.t; simp only [RS.next] at this; omega) (d := nd 5 [left, x] o2 [] (st.now l).pos)
   have hq : (s2.put (nd 5 [left, x] o2 [] (st.now l).pos)).pos = s2.pos := by unfold RS.put RS.nM; split <;> split <;> first | rfl | exact c6.1
   have FO : ∀ a b' c, 8 * (l.length - (s2.put (nd 5 [left, x] o2 [] (st.now l).pos)).pos) + (gP.ko a b' c).bi < k := fun _ _ _ => by have := g.p; have := g.pl; simp only [gP.bi, RS.next] at *; omega
   have o5 := g1.ok o
   have r5 := r5.bO (Q := P) fun c hc => .inl hc
   clear r0 r1 k1 kp Vo k5 k5' Fx
   simp +contextual -implicitDefEqProofs (maxSteps := 1000000) (maxDischargeDepth := 8) only [h0, h1, h5, h6, hd, W2, w2, ax, ab, implies_true, simprocAttr] at hX
   have w3 : IntKind.i64.wrap 2 = 2 := wrap_i64 (by omega) (by omega)
   by_cases h3 : o1 = 3
   ·rw [if_pos h3] at bM
    rw [AQ h3] at hX;subst hL;obtain ⟨fr', m9, rfl, q5, qd, q6, q7⟩ := LL _ _ _ _ _ _ _ P _ _ _ o5 (FO _ _ _) bM r5 (by simp only [h0, aq, Nat.reduceBEq ]) (by simp only [h1, aq, Nat.reduceBEq ]) (by simp only [aq, Nat.reduceBEq ]) (by first | (simp only [aq, Nat.reduceBEq ]; done) | simp only [h3, w3, Int.reduceSub, aq, Nat.reduceBEq ]) (by simp only [hd, aq, Nat.reduceBEq ]) hX
    exact ⟨fr', m9, rfl, q5, qd, q6, kk.trans q7⟩
   ·rw [if_neg h3] at bM
    rw [AR h3] at hX;subst hL;obtain ⟨fr', m9, rfl, q5, qd, q6, q7⟩ := LL _ _ _ _ _ _ _ P _ _ _ o5 (FO _ _ _) bM r5 (by simp only [h0, aq, Nat.reduceBEq ]) (by simp only [h1, aq, Nat.reduceBEq ]) (by simp only [aq, Nat.reduceBEq ]) (by first | (simp only [aq, Nat.reduceBEq ]; done) | simp only [h3, w3, Int.reduceSub, aq, Nat.reduceBEq ]) (by simp only [hd, aq, Nat.reduceBEq ]) hX
    exact ⟨fr', m9, rfl, q5, qd, q6, kk.trans q7⟩
 ·have b1 := eU ji
  simp only [gF, ji, false_and, if_false, bf, eO] at bM;obtain ⟨rfl, rfl⟩ := bM
  simp +contextual -implicitDefEqProofs (maxSteps := 1000000) (maxDischargeDepth := 8) only [dk, h0, h1, h5, h6, hd, hF, h, b1, dg, ak, ax, ab, implies_true, simprocAttr] at hX
  subst hX;exact ⟨_, _, rfl, by simp only [h5, List.headD_cons, aq, Nat.reduceBEq ], by simp only [hd, aq, Nat.reduceBEq ], ak h, aR h⟩
omit ht in
theorem L5 (ht : bS l) (JH : rc l tg et [] k .front) (LL : DI l tg k) (least : Int) : rc l tg e6 [.int .i64 least] (k + 1) (.ll least) := by
 intro st m b P s1 r X o hk bM h hX
 rw [bY (by simp [dH])] at hX
 generalize hL : exec (UT B K) (aE.loop dk) = L at hX
 have oP : 8 * (l.length - st.pos) + gP.front.bi < k := by simp only [gP.bi] at *; omega
 obtain ⟨s2, r2, e, g, ar, _⟩ := go_ok ht k .front st o.p oP trivial
 obtain ⟨x, rfl⟩ := jJ ar
 simp only [gF, e, Option.bind_some, List.headD_cons] at bM;simp +contextual -implicitDefEqProofs (maxSteps := 1000000) (maxDischargeDepth := 8) only [dH, ax, ab, implies_true, simprocAttr] at hX
 generalize hC : run U et _ _ = C at hX
 obtain ⟨m1, rfl, r1, k1⟩ := JH _ _ _ _ _ _ _ o oP e h hC
 clear hC;simp +contextual -implicitDefEqProofs (maxSteps := 1000000) (maxDischargeDepth := 8) only [List.headD_cons, ax, ab, implies_true, simprocAttr] at hX
 subst hL;generalize hC : exec _ (.loop dk) _ _ = C at hX
 obtain ⟨fr', m9, rfl, q5, qd, q6, q7⟩ := LL _ _ _ _ _ _ _ P _ _ _ (g.ok o) (by have := g.p; simp only [gP.bi] at *; omega) bM r1 (by simp only [aq, Nat.reduceBEq ]) (by simp only [aq, Nat.reduceBEq ]) (by simp only [aq, Nat.reduceBEq ]) (by simp only [aq, Nat.reduceBEq ]) (by simp only [aq, Nat.reduceBEq ]) hC
 clear hC;simp +contextual -implicitDefEqProofs (maxSteps := 1000000) (maxDischargeDepth := 8) only [q5, qd, ax, ab, implies_true, simprocAttr] at hX
 subst hX;exact ⟨_, rfl, q6, k1.trans q7⟩
structure ad0 (l : List Tok) (tg k : Nat) : Prop where
 expr : rc l tg aV [] k .expr
 ll : ∀ n : Int, rc l tg e6 [.int .i64 n] k (.ll n)
 ko : DI l tg k
 front : rc l tg et [] k .front
 atom : rc l tg ja [] k .atom
 cells : IA l tg k
 inner : ∀ a z : bK, rc l tg cx [.str a, .str z] k (.inner a z)
 args : N8 l tg k
 lm : IB l tg k
omit ht in
theorem DQ (ht : bS l) : ∀ k, ad0 l tg k := by
 intro k
 induction k with
 | zero =>
  exact ⟨fun _ _ _ _ _ _ _ _ q => absurd q (by omega), fun _ _ _ _ _ _ _ _ _ q => absurd q (by omega), fun _ _ _ _ _ _ _ _ _ _ _ _ q => absurd q (by omega), fun _ _ _ _ _ _ _ _ q => absurd q (by omega), fun _ _ _ _ _ _ _ _ q => absurd q (by omega), fun _ _ _ _ _ _ _ _ _ _ q => absurd q (by omega), fun _ _ _ _ _ _ _ _ _ _ q => absurd q (by omega), fun _ _ _ _ _ _ _ _ q => absurd q (by omega), fun _ _ _ _ _ _ _ _ _ _ _ _ q => absurd q (by omega)⟩
 | succ k ih =>
  exact ⟨Po ht (ih.ll 1), L5 ht ih.front ih.ko, L6 ht ih.ll ih.ko, LV ht ih.front ih.atom (L7 ih.cells), PG ht (ih.inner _ _) ih.args, L8 ht (ih.inner _ _) ih.cells, fun a z => LK ht ih.expr, PI ht ih.lm, PJ ht ih.expr ih.lm⟩
end
end
section
section
variable {tg : Nat} {l : List Tok} {st : RS} {tv hv : EV} {b : Nat} {m : Mem}
theorem ER (hg : m.get b = .cells (bc tg l st tv hv) 7 ai false) (hb : b < m.next) :
  run U nZ [.ptr b 0] m = some (.ret (.agg [.int .i64 st.fe, .int .i64 st.fp]) (bump m 1)) := by
 rw [lN];obtain ⟨X, hE⟩ : ∃ X, pK bm.results (exec B3 bm.body (ab [.ptr b 0] 0 pq) m) = X := ⟨_, rfl⟩
 have hX := hE
 simp +contextual -implicitDefEqProofs (maxSteps := 1000000) (maxDischargeDepth := 8) only [bm, hg, hb, ax, ab, implies_true, simprocAttr] at hX
 subst hX;exact y5 (by simp [bm]) hE rfl rfl AO
theorem K7 (hg : m.get b = .cells (bc tg l st tv hv) 7 ai false) (hb : b < m.next) :
  run U nY [.agg [.ptr b 0]] m = some (.ret (bo (st.fe = 0)) (bump m 2)) := by
 have h1 : ∀ M : Mem, M.get b = .cells (bc tg l st tv hv) 7 ai false -> b < M.next -> kC B3 bm [.ptr b 0] M = some (.ret (.agg [.int .i64 st.fe, .int .i64 st.fp]) (bump M 1)) := fun M h1 h2 => by
  have := ER (m := M) h1 h2
  rwa [lN] at this
 rw [s6];obtain ⟨X, hE⟩ : ∃ X, pK bB.results (exec B4 bB.body (ab [.agg [.ptr b 0]] 0 pq) m) = X := ⟨_, rfl⟩
 have hX := hE
 simp +contextual -implicitDefEqProofs (maxSteps := 1000000) (maxDischargeDepth := 8) only [bB, rH, h1, hg, hb, ax, ab, implies_true, simprocAttr] at hX
 subst hX;exact y5 (by simp [bB]) hE rfl rfl (ti AO)
theorem Qb (h : KI b tg l st tv hv) (hg : m.get b = .cells (bc tg l st tv hv) 7 ai false) (hb : b < m.next) : ∃ m', run U xJ [.ptr b 0] m = some (.ret (.agg (st.now l).cells) m') /\ qQ m m' b (.cells (bc tg l st.next tv hv) 7 ai false) := by
 have ht := h.token
 have hw := cQ (i := st.pos) (by have := h.p; omega)
 rw [bY (by simp [ed])]
 generalize hY : pK _ _ = Y
 simp +contextual -implicitDefEqProofs (maxSteps := 1000000) (maxDischargeDepth := 8) only [ed, ht, hg, hb, hw, ax, ab, implies_true, simprocAttr] at hY
 have h1 : qQ m (m.set b (.cells (bc tg l st.next tv hv) 7 ai false)) b (.cells (bc tg l st.next tv hv) 7 ai false) := .set (fy _) fun _ _ _ => rfl
 refine ⟨_, hY.symm, ?_⟩
 have h2 := h1.trans (qQ.ext (ys := [.cells [.int .i64 ((st.now l).kind : Int), .str (st.now l).text, .int .i64 ((st.now l).n : Int), .int .i64 ((st.now l).pos : Int)] 4 ao false]) h1.g hb)
 have h3 := h2.trans (qQ.bump (k := 19) h2.g)
 exact h3.trans (qQ.ext h3.g (mn hb h3.n))
theorem QQ (h : KI b tg l st tv hv) (hg : m.get b = .cells (bc tg l st tv hv) 7 ai false) (hb : b < m.next) : ∃ m', run U eK [.ptr b 0] m = some (.ret (.str (st.cr l)) m') /\ qQ m m' b (.cells (bc tg l (st.name l) tv hv) 7 ai false) := by
 have ht := h.token
 have hf := h.acg
 rw [bY (by simp [cJ])]
 generalize hY : pK _ _ = Y
 have bad : ¬ st.np l -> ∀ M : Mem, qQ m M b (.cells (bc tg l st tv hv) 7 ai false) -> ∃ m2, run U dU [.ptr b 0, .int .i64 8, .int .i64 ((st.now l).pos : Int)] M = some (.ret (.tuple []) m2) /\ qQ m m2 b (.cells (bc tg l (st.name l) tv hv) 7 ai false) := by
  intro hc M u
  obtain ⟨m2, e2, u2⟩ := vc u.g (mn hb u.n) 8 ((st.now l).pos : Int)
  have : st.name l = st.fail 8 (st.now l).pos := if_neg hc
  exact ⟨m2, e2, by rw [this]; exact u.trans u2⟩
 have hk : ((st.now l).kind : Int) = 1 ↔ (st.now l).kind = 1 := by omega
 by_cases ji : st.fe = 0
 ·by_cases Ni : (st.now l).kind = 1
  ·have hc : st.np l := ⟨ji, Ni⟩
   have e1 : st.cr l = (st.now l).text := if_pos hc
   have e2 : st.name l = st.next := if_pos hc
   have u1 : qQ m (bump (bump m 0) 19) b (.cells (bc tg l st tv hv) 7 ai false) := (qQ.bump hg).trans (qQ.bump hg)
   obtain ⟨m2, q2, u2⟩ := Qb h u1.g (mn hb u1.n)
   unfold Tok.cells at q2;simp +contextual -implicitDefEqProofs (maxSteps := 1000000) (maxDischargeDepth := 8) only [cJ, ht, hf, hg, hb, ji, Ni, q2, gL, ax, ab, implies_true, simprocAttr] at hY
   rw [e1, e2];exact ⟨_, hY.symm, u1.trans u2⟩
  ·have hc : ¬ st.np l := fun q => Ni q.2
   have FO : ¬ (((st.now l).kind : Int) = 1) := by omega
   have e1 : st.cr l = [] := if_neg hc
   have u1 : qQ m (bump (bump (bump m 0) 19) 19) b (.cells (bc tg l st tv hv) 7 ai false) := ((qQ.bump hg).trans (qQ.bump hg)).trans (qQ.bump hg)
   obtain ⟨m2, q2, u2⟩ := bad hc _ u1
   simp +contextual -implicitDefEqProofs (maxSteps := 1000000) (maxDischargeDepth := 8) only [cJ, ht, hf, hg, hb, ji, FO, q2, gL, fT, ax, ab, implies_true, simprocAttr] at hY
   rw [e1];exact ⟨_, hY.symm, u2⟩
 ·have hc : ¬ st.np l := fun q => ji q.1
  have e1 : st.cr l = [] := if_neg hc
  have u1 : qQ m (bump (bump m 0) 19) b (.cells (bc tg l st tv hv) 7 ai false) := (qQ.bump hg).trans (qQ.bump hg)
  obtain ⟨m2, q2, u2⟩ := bad hc _ u1
  simp +contextual -implicitDefEqProofs (maxSteps := 1000000) (maxDischargeDepth := 8) only [cJ, ht, hf, hg, hb, ji, q2, gL, fT, ax, ab, implies_true, simprocAttr] at hY
  rw [e1];exact ⟨_, hY.symm, u2⟩
end
section
variable {m M : Mem} {b tg : Nat} {l : List Tok} {st : RS} {P Q : Nat -> Prop} {X : Option Fin}
theorem xF : ∀ M : Mem, Rd M b tg l st P -> run U nY [.agg [.ptr b 0]] M = some (.ret (bo (st.fe = 0)) (bump M 2)) := fun M h => by
 obtain ⟨tv, hv, xs, h⟩ := h; exact K7 h.g h.lt
theorem Wg : ∀ M : Mem, Rd M b tg l st P -> run U nZ [.ptr b 0] M = some (.ret (.agg [.int .i64 st.fe, .int .i64 st.fp]) (bump M 1)) := fun M h => by
 obtain ⟨tv, hv, xs, h⟩ := h; exact ER h.g h.lt
theorem np (ht : bS l) (o : eA l st) (h : Rd m b tg l st P) (hX : run U eK [.ptr b 0] m = X) : ∃ m', X = some (.ret (.str (st.cr l)) m') /\ Rd m' b tg l (st.name l) P /\ Kp m m' P := by
 obtain ⟨tv, hv, xs, h⟩ := h
 obtain ⟨m', e', u⟩ := QQ (o.U2 ht) h.g h.lt
 have q : (st.name l).tree = st.tree /\ (st.name l).high = st.high := by
  unfold RS.name; split
  ·exact ⟨rfl, rfl⟩
  ·exact c6.2.2
 exact ⟨m', hX.symm.trans e', ⟨_, _, _, h.Ol q.1 q.2 u⟩, h.kp u⟩
end
end
section
section
variable {m M : Mem} {b tg : Nat} {l : List Tok} {st : RS} {P Q : Nat -> Prop} {X : Option Fin}
theorem zF (ht : bS l) (o : eA l st) (h : Rd m b tg l st P) (hX : run U aV [.ptr b 0] m = X) : ∃ m', X = some (.ret (.int .i64 (jy l st).2) m') /\ Rd m' b tg l (jy l st).1 P /\ Kp m m' P := by
 obtain ⟨k, r, e, hk, hv, _⟩ := kX ht o.p
 rw [hv];exact (DQ ht k).expr _ _ _ _ _ _ _ o hk e h hX
theorem abm (ht : bS l) (o : eA l st) (h : Rd m b tg l st P) {a z : bK} (hX : run U cx [.ptr b 0, .str a, .str z] m = X) : ∃ m', X = some (.ret (.int .i64 (ze l a z st).2) m') /\ Rd m' b tg l (ze l a z st).1 P /\ Kp m m' P := by
 obtain ⟨k, r, e, hk, hv, _⟩ := EA ht o.p a z
 rw [hv];exact (DQ ht k).inner _ _ _ _ _ _ _ _ _ o hk e h hX
theorem YG (ht : bS l) (o : eA l st) (h : Rd m b tg l st P) {s : bK} {p : Int} (hX : run U jb [.ptr b 0, .str s, .int .i64 p] m = X) : ∃ m', X = some (.ret (.int .i64 ((sf l st).1.fV (nd 11 (sf l st).2 0 s p))) m') /\ Rd m' b tg l ((sf l st).1.put (nd 11 (sf l st).2 0 s p)) P /\ Kp m m' P := by
 obtain ⟨k, e, hk, _⟩ := Iw ht o.p
 exact GR ht (DQ ht k).args o hk e h hX
theorem tB (ht : bS l) (o : eA l st) : Gr l st (jy l st).1 := by obtain ⟨_, _, _, _, _, g, _⟩ := kX ht o.p; exact g
theorem Vs (ht : bS l) (o : eA l st) {a z : bK} : Gr l st (ze l a z st).1 := by obtain ⟨_, _, _, _, _, g, _⟩ := EA ht o.p a z; exact g
theorem Wk (ht : bS l) (o : eA l st) : Gr l st (sf l st).1 := by obtain ⟨_, _, _, g, _⟩ := Iw ht o.p; exact g
theorem J7 (ht : bS l) (o : eA l st) (h : Rd m b tg l st Q) {kind n p : Int} {s : bK} {kids : List Int} {kv : EV} (KD : kids.length < 1000000) (ho : jF m kv (is kids) kids.length 1 0) (hp : ∀ c, ¬ gq kv c -> Q c) (hq : ∀ c, P c -> Q c /\ gq kv c) (hz : kids = [] -> kv = .ae) (hX : run U di [.agg [.ptr b 0], .agg [.int .i64 kind, kv, .int .i64 n, .str s, .int .i64 p]] m = X) : ∃ m', X = some (.ret (.int .i64 (kE l st (nd kind kids n s p)).2) m') /\ Rd m' b tg l (kE l st (nd kind kids n s p)).1 P /\ Kp m m' P := by
 rw [bY (by simp [dY])] at hX
 simp +contextual -implicitDefEqProofs (maxSteps := 1000000) (maxDischargeDepth := 8) only [dY, ax, ab, implies_true, simprocAttr] at hX
 have r0 := h.Ir [.cells [.ptr b 0] 1 ah false, .cells [.int .i64 kind, kv, .int .i64 n, .str s, .int .i64 p] 5 aX false]
 have k0 := (lO h [.cells [.ptr b 0] 1 ah false, .cells [.int .i64 kind, kv, .int .i64 n, .str s, .int .i64 p] 5 aX false])
 have ho0 := ho.ext [.cells [.ptr b 0] 1 ah false, .cells [.int .i64 kind, kv, .int .i64 n, .str s, .int .i64 p] 5 aX false]
 have e0 : (ext m [.cells [.ptr b 0] 1 ah false, .cells [.int .i64 kind, kv, .int .i64 n, .str s, .int .i64 p] 5 aX false]).get (nb m.next 0) = .cells [.ptr b 0] 1 ah false := by rw [aM rfl (by simp)]; rfl
 have e1 : (ext m [.cells [.ptr b 0] 1 ah false, .cells [.int .i64 kind, kv, .int .i64 n, .str s, .int .i64 p] 5 aX false]).get (nb m.next 1) = .cells [.int .i64 kind, kv, .int .i64 n, .str s, .int .i64 p] 5 aX false := by rw [aM rfl (by simp)]; rfl
 have en : (ext m [.cells [.ptr b 0] 1 ah false, .cells [.int .i64 kind, kv, .int .i64 n, .str s, .int .i64 p] 5 aX false]).next = nb m.next 2 := aK
 generalize ext m [.cells [.ptr b 0] 1 ah false, .cells [.int .i64 kind, kv, .int .i64 n, .str s, .int .i64 p] 5 aX false] = M0 at *
 generalize hC : run U aP _ _ = C at hX
 obtain ⟨m1, rfl, r1, k1⟩ := nV ht o r0 hC
 clear hC;have e0 := (k1.k _ (nW (by simp))).trans e0
 have e1 := (k1.k _ (nW (by simp))).trans e1
 have n1 : nb m.next 2 <= m1.next := by rw [<- en]; exact k1.n
 have n0 : nb m.next 0 < m1.next := mn (by unfold nb; omega) n1
 have n1 : nb m.next 1 < m1.next := mn (by unfold nb; omega) n1
 simp +contextual -implicitDefEqProofs (maxSteps := 1000000) (maxDischargeDepth := 8) only [e0, e1, n0, n1, ax, ab, implies_true, simprocAttr] at hX
 generalize hC : run U aA _ _ = C at hX
 obtain ⟨m2, rfl, r2, k2⟩ := pL (P := P) (kids := kids) ht ((Gr.want ht o.p).ok o) r1 KD (ho0.kp k1 fun c hc => .inl (hp c hc)) (fun c hc => .inl (hp c hc)) (fun c hc => ⟨.inl (hq c hc).1, (hq c hc).2⟩) hz hC
 clear hC;simp +contextual -implicitDefEqProofs (maxSteps := 1000000) (maxDischargeDepth := 8) only [ax, ab, implies_true, simprocAttr] at hX
 subst hX;exact ⟨_, rfl, r2, ((k0.bO fun c hc => (hq c hc).1).trans (k1.bO fun c hc => .inl (hq c hc).1)).trans k2⟩
end
end
section
section
variable {m M : Mem} {b tg : Nat} {l : List Tok} {st : RS} {P Q : Nat -> Prop} {X : Option Fin}
theorem drawn {m0 m7 : Mem} {n c : Nat} {st' : RS} (h0 : Rd m0 b tg l st P) (hn : m0.next <= c) (hc : c < m0.next + n) (h7 : Rd m7 b tg l st' (Pr P m0.next (m0.next + n))) (k7 : Kp (bump m0 n) m7 (Pr P m0.next (m0.next + n))) (cs : List EV) :
  Rd (m7.set c (.cells cs 1 bC false)) b tg l st' (Pr P m0.next (m0.next + n)) /\ Kp m0 (m7.set c (.cells cs 1 bC false)) P /\ c < m7.next /\ Pr P m0.next (m0.next + n) c /\ (∀ a, P a -> a ≠ c) := by
 have pc : Pr P m0.next (m0.next + n) c := .inr ⟨hn, hc⟩
 have hP : ∀ a, P a -> a ≠ c := fun a ha => by have := h0.mb ha; omega
 have k7n : m0.next + n <= m7.next := k7.n
 refine ⟨?_, ⟨?_, fun a ha => ?_⟩, by omega, pc, hP⟩
 ·exact h7.Qu pc _
 ·show m0.next <= m7.next
  omega
 ·rw [az (hP a ha)]; exact k7.k a (.inl ha)
theorem jH (h : Rd m b tg l st P) (n : Nat) : Rd (bump m n) b tg l st (Pr P m.next (m.next + n)) := h.grown (M := bump m n) (by rw [bu]; exact bI) fun _ _ => rfl
theorem qc {m : Mem} {c n : Nat} {cs : List EV} (hc : c < m.next) (hl : cs.length = n) : jF (m.set c (.cells cs 1 bC false)) (.slice c 0 n (some n)) cs n 1 0 :=
 ⟨.inr ⟨c, some n, bC, rfl, ml _, hc, bJ, .inr rfl⟩, by omega⟩
structure Bx (m M : Mem) (b : Nat) (P : Nat -> Prop) : Prop where
 k : Kp m M P
 g : M.get (nb m.next 0) = .cells [.ptr b 0] 1 ah false
 n : nb m.next 0 < M.next
theorem Bx.step {M' : Mem} {R : Nat -> Prop} (h : Bx m M b P) (k : Kp M M' R) (hP : ∀ c, P c -> R c) (h0 : R (nb m.next 0)) : Bx m M' b P := ⟨h.k.trans (k.bO hP), (k.k _ h0).trans h.g, mn h.n k.n⟩
theorem rz : Pr P m.next (nb m.next 1) (nb m.next 0) := nW (by simp)
theorem Bx.start (h : Rd m b tg l st P) (n : Nat) : Rd (bump (ext m [.cells [.ptr b 0] 1 ah false]) n) b tg l st (Pr P m.next (nb m.next 1)) /\ Bx m (bump (ext m [.cells [.ptr b 0] 1 ah false]) n) b P := by
 have r0 := h.Ir [.cells [.ptr b 0] 1 ah false]
 refine ⟨ak r0, (lO h _).trans ((aR r0).bO fun c hc => .inl hc), ?_, ?_⟩
 ·rw [gA, aM rfl (by simp)]; rfl
 ·rw [bu, aK]; unfold nb; simp; omega
theorem Bx.uI (h : Rd m b tg l st P) : Rd (ext m [.cells [.ptr b 0] 1 ah false]) b tg l st (Pr P m.next (nb m.next 1)) /\ Bx m (ext m [.cells [.ptr b 0] 1 ah false]) b P := by
 have r0 := h.Ir [.cells [.ptr b 0] 1 ah false]
 refine ⟨r0, lO h _, ?_, ?_⟩
 ·rw [aM rfl (by simp)]; rfl
 ·rw [aK]; unfold nb; simp
theorem Qo (ht : bS l) (o : eA l st) (h : Rd m b tg l st P) {p : Nat} (hX : run U nO [.agg [.ptr b 0], .int .i64 (p : Int)] m = X) : ∃ m', X = some (.ret (.int .i64 (nn l 20 p st).2) m') /\ Rd m' b tg l (nn l 20 p st).1 P /\ Kp m m' P := by
 rw [bY (by simp [fh])] at hX
 simp +contextual -implicitDefEqProofs (maxSteps := 1000000) (maxDischargeDepth := 8) only [fh, ax, ab, implies_true, simprocAttr] at hX
 have en : (ext m [.cells [.ptr b 0] 1 ah false]).next = nb m.next 1 := aK
 obtain ⟨r0, x0⟩ := Bx.uI h
 generalize ext m [.cells [.ptr b 0] 1 ah false] = M0 at *
 rw [<- en] at hX;have rb := jH r0 9
 generalize hC : run U aV _ _ = C at hX
 obtain ⟨m7, rfl, r7, k7⟩ := zF ht o rb hC
 clear hC;generalize hx : (jy l st).2 = x at *
 have e7 := (k7.k _ (.inl rz)).trans x0.g
 have hM : ∀ B, Mem.mk m7.next (ext (Mem.mk (M0.next + 4) m7.gH) [B]).gH = m7.set (M0.next + 4) B := fun _ => rfl
 obtain ⟨r8, k8, n8, p8, Ph⟩ := drawn (c := M0.next + 4) r0 (by omega) (by omega) r7 k7 [.int .i64 x]
 simp +contextual -implicitDefEqProofs (maxSteps := 1000000) (maxDischargeDepth := 8) only [e7, hM, ax, ab, implies_true, simprocAttr] at hX
 generalize hC : run U di _ _ = C at hX
 obtain ⟨m9, rfl, r9, k9⟩ := J7 (P := Pr P m.next (nb m.next 1)) (kids := [x]) ht ((tB ht o).ok o) r8 (by simp) (qc n8 rfl) (fun c hc => by rw [cm hc]; exact p8) (fun c hc => ⟨.inl hc, gq.of (Ph c hc)⟩) (by simp) hC
 clear hC;simp +contextual -implicitDefEqProofs (maxSteps := 1000000) (maxDischargeDepth := 8) only [ax, ab, implies_true, simprocAttr] at hX
 subst hX;subst hx;exact ⟨_, rfl, r9.bO fun c hc => .inl hc, x0.k.trans ((k8.trans k9).bO fun c hc => .inl hc)⟩
theorem K9 (ht : bS l) (o : eA l st) (h : Rd m b tg l st P) {p : Nat} (hX : run U nN [.agg [.ptr b 0], .int .i64 (p : Int)] m = X) : ∃ m', X = some (.ret (.int .i64 (nn l 21 p st).2) m') /\ Rd m' b tg l (nn l 21 p st).1 P /\ Kp m m' P := by
 rw [bY (by simp [fg])] at hX
 simp +contextual -implicitDefEqProofs (maxSteps := 1000000) (maxDischargeDepth := 8) only [fg, ax, ab, implies_true, simprocAttr] at hX
 have en : (ext m [.cells [.ptr b 0] 1 ah false]).next = nb m.next 1 := aK
 obtain ⟨r0, x0⟩ := Bx.uI h
 generalize ext m [.cells [.ptr b 0] 1 ah false] = M0 at *
 rw [<- en] at hX;have rb := jH r0 9
 generalize hC : run U aV _ _ = C at hX
 obtain ⟨m7, rfl, r7, k7⟩ := zF ht o rb hC
 clear hC;generalize hx : (jy l st).2 = x at *
 have e7 := (k7.k _ (.inl rz)).trans x0.g
 have hM : ∀ B, Mem.mk m7.next (ext (Mem.mk (M0.next + 4) m7.gH) [B]).gH = m7.set (M0.next + 4) B := fun _ => rfl
 obtain ⟨r8, k8, n8, p8, Ph⟩ := drawn (c := M0.next + 4) r0 (by omega) (by omega) r7 k7 [.int .i64 x]
 simp +contextual -implicitDefEqProofs (maxSteps := 1000000) (maxDischargeDepth := 8) only [e7, hM, ax, ab, implies_true, simprocAttr] at hX
 generalize hC : run U di _ _ = C at hX
 obtain ⟨m9, rfl, r9, k9⟩ := J7 (P := Pr P m.next (nb m.next 1)) (kids := [x]) ht ((tB ht o).ok o) r8 (by simp) (qc n8 rfl) (fun c hc => by rw [cm hc]; exact p8) (fun c hc => ⟨.inl hc, gq.of (Ph c hc)⟩) (by simp) hC
 clear hC;simp +contextual -implicitDefEqProofs (maxSteps := 1000000) (maxDischargeDepth := 8) only [ax, ab, implies_true, simprocAttr] at hX
 subst hX;subst hx;exact ⟨_, rfl, r9.bO fun c hc => .inl hc, x0.k.trans ((k8.trans k9).bO fun c hc => .inl hc)⟩
theorem Mi (ht : bS l) (o : eA l st) (h : Rd m b tg l st P) {p : Nat} (hX : run U nQ [.agg [.ptr b 0], .int .i64 (p : Int)] m = X) : ∃ m', X = some (.ret (.int .i64 (kE l st (nd 18 [] 0 [] p)).2) m') /\ Rd m' b tg l (kE l st (nd 18 [] 0 [] p)).1 P /\ Kp m m' P := by
 rw [bY (by simp [fm])] at hX
 simp +contextual -implicitDefEqProofs (maxSteps := 1000000) (maxDischargeDepth := 8) only [fm, ax, ab, implies_true, simprocAttr] at hX
 obtain ⟨r0, x0⟩ := Bx.uI h
 generalize ext m [.cells [.ptr b 0] 1 ah false] = M0 at *
 generalize hC : run U di _ _ = C at hX
 obtain ⟨m9, rfl, r9, k9⟩ := J7 (P := P) (kids := []) ht o r0 (by simp) ⟨.inl ⟨rfl, rfl, rfl⟩, rfl⟩ (fun c hc => absurd gq.nil hc) (fun c hc => ⟨.inl hc, gq.nil⟩) (by simp) hC
 clear hC;simp +contextual -implicitDefEqProofs (maxSteps := 1000000) (maxDischargeDepth := 8) only [ax, ab, implies_true, simprocAttr] at hX
 subst hX;exact ⟨_, rfl, r9, x0.k.trans k9⟩
theorem Px (ht : bS l) (o : eA l st) (h : Rd m b tg l st P) {p : Nat} (hX : run U nP [.agg [.ptr b 0], .int .i64 (p : Int)] m = X) : ∃ m', X = some (.ret (.int .i64 (kE l st (nd 19 [] 0 [] p)).2) m') /\ Rd m' b tg l (kE l st (nd 19 [] 0 [] p)).1 P /\ Kp m m' P := by
 rw [bY (by simp [fi])] at hX
 simp +contextual -implicitDefEqProofs (maxSteps := 1000000) (maxDischargeDepth := 8) only [fi, ax, ab, implies_true, simprocAttr] at hX
 obtain ⟨r0, x0⟩ := Bx.uI h
 generalize ext m [.cells [.ptr b 0] 1 ah false] = M0 at *
 generalize hC : run U di _ _ = C at hX
 obtain ⟨m9, rfl, r9, k9⟩ := J7 (P := P) (kids := []) ht o r0 (by simp) ⟨.inl ⟨rfl, rfl, rfl⟩, rfl⟩ (fun c hc => absurd gq.nil hc) (fun c hc => ⟨.inl hc, gq.nil⟩) (by simp) hC
 clear hC;simp +contextual -implicitDefEqProofs (maxSteps := 1000000) (maxDischargeDepth := 8) only [ax, ab, implies_true, simprocAttr] at hX
 subst hX;exact ⟨_, rfl, r9, x0.k.trans k9⟩
theorem Q2 (ht : bS l) (o : eA l st) (h : Rd m b tg l st P) {p : Int} (hX : run U kQ [.agg [.ptr b 0], .int .i64 p] m = X) : ∃ m', X = some (.ret (.int .i64 (y7 l st).2) m') /\ Rd m' b tg l (y7 l st).1 P /\ Kp m m' P := by
 rw [bY (by simp [dX])] at hX
 have hT := jG (b := b) (tg := tg) (P := P) ht o
 simp +contextual -implicitDefEqProofs (maxSteps := 1000000) (maxDischargeDepth := 8) only [dX, hT, h, dg, ak, ax, ab, implies_true, simprocAttr] at hX
 obtain ⟨r0, x0⟩ := Bx.start h 19
 generalize bump (ext m [.cells [.ptr b 0] 1 ah false]) 19 = M0 at *
 generalize hC : run U eK _ _ = C at hX
 obtain ⟨m1, rfl, r1, k1⟩ := np ht o r0 hC
 clear hC;have x1 := x0.step k1 (fun c hc => .inl hc) rz
 have g1 := Gr.name ht o.p
 have o1 := g1.ok o
 have y1 := x1.g
 have z1 := x1.n
 simp +contextual -implicitDefEqProofs (maxSteps := 1000000) (maxDischargeDepth := 8) only [y1, z1, ax, ab, implies_true, simprocAttr] at hX
 generalize hC : run U aP _ _ = C at hX
 obtain ⟨m2, rfl, r2, k2⟩ := nV ht o1 r1 hC
 clear hC;have x2 := x1.step k2 (fun c hc => .inl hc) rz
 have o2 := (Gr.want ht o1.p (s := [61])).ok o1
 have y2 := x2.g
 have z2 := x2.n
 simp +contextual -implicitDefEqProofs (maxSteps := 1000000) (maxDischargeDepth := 8) only [y2, z2, ax, ab, implies_true, simprocAttr] at hX
 have rb := jH r2 10
 generalize hC : run U aV _ _ = C at hX
 obtain ⟨m7, rfl, r7, k7⟩ := zF ht o2 rb hC
 clear hC;generalize hx : (jy l ((st.name l).want l [61])).2 = x at *
 have e7 := (k7.k _ (.inl rz)).trans x2.g
 have hM : ∀ B, Mem.mk m7.next (ext (Mem.mk (m2.next + 5) m7.gH) [B]).gH = m7.set (m2.next + 5) B := fun _ => rfl
 obtain ⟨r8, k8, n8, p8, Ph⟩ := drawn (c := m2.next + 5) r2 (by omega) (by omega) r7 k7 [.int .i64 x]
 simp +contextual -implicitDefEqProofs (maxSteps := 1000000) (maxDischargeDepth := 8) only [e7, hM, ax, ab, implies_true, simprocAttr] at hX
 generalize hC : run U di _ _ = C at hX
 obtain ⟨m9, rfl, r9, k9⟩ := J7 (P := Pr P m.next (nb m.next 1)) (kids := [x]) ht ((tB ht o2).ok o2) r8 (by simp) (qc n8 rfl) (fun c hc => by rw [cm hc]; exact p8) (fun c hc => ⟨.inl hc, gq.of (Ph c hc)⟩) (by simp) hC
 clear hC;simp +contextual -implicitDefEqProofs (maxSteps := 1000000) (maxDischargeDepth := 8) only [ax, ab, implies_true, simprocAttr] at hX
 subst hX;subst hx;exact ⟨_, rfl, r9.bO fun c hc => .inl hc, x2.k.trans ((k8.trans k9).bO fun c hc => .inl hc)⟩
end
end
section
section
variable {m M : Mem} {b tg : Nat} {l : List Tok} {st : RS} {P Q : Nat -> Prop} {X : Option Fin}
structure W9 (m M : Mem) (b : Nat) (t : Tok) (P : Nat -> Prop) : Prop extends Bx m M b P where
 t : M.get (nb m.next 20) = .cells [.int .i64 (t.kind : Int), .str t.text, .int .i64 (t.n : Int), .int .i64 (t.pos : Int)] 4 ao false
 tn : nb m.next 20 < M.next
theorem W9.step {M' : Mem} {R : Nat -> Prop} {t : Tok} (h : W9 m M b t P) (k : Kp M M' R) (hP : ∀ c, P c -> R c) (h0 : R (nb m.next 0)) (h1 : R (nb m.next 20)) : W9 m M' b t P := ⟨h.toBx.step k hP h0, (k.k _ h1).trans h.t, mn h.tn k.n⟩
theorem KC : Pr P m.next (nb m.next 21) (nb m.next 0) := nW (by simp)
theorem K8 : Pr P m.next (nb m.next 21) (nb m.next 20) := nW (by simp)
theorem W9.start (h : Rd m b tg l st P) (t : Tok) : Rd (ext (bump (ext m [.cells [.ptr b 0] 1 ah false]) 19) [.cells [.int .i64 (t.kind : Int), .str t.text, .int .i64 (t.n : Int), .int .i64 (t.pos : Int)] 4 ao false]) b tg l st (Pr P m.next (nb m.next 21)) /\ W9 m (ext (bump (ext m [.cells [.ptr b 0] 1 ah false]) 19) [.cells [.int .i64 (t.kind : Int), .str t.text, .int .i64 (t.n : Int), .int .i64 (t.pos : Int)] 4 ao false]) b t P := by
 obtain ⟨r0, x0⟩ := Bx.start h 19
 have hn : (bump (ext m [.cells [.ptr b 0] 1 ah false]) 19).next = nb m.next 20 := by rw [bu, aK, eV]; rfl
 have hold : ∀ c, c < m.next -> (bump (ext m [.cells [.ptr b 0] 1 ah false]) 19).get c = m.get c := fun c hc => by rw [gA, aL hc]
 generalize bump (ext m [.cells [.ptr b 0] 1 ah false]) 19 = M0 at *
 have k1 := lO r0 [.cells [.int .i64 (t.kind : Int), .str t.text, .int .i64 (t.n : Int), .int .i64 (t.pos : Int)] 4 ao false]
 have e1 : (ext M0 [.cells [.int .i64 (t.kind : Int), .str t.text, .int .i64 (t.n : Int), .int .i64 (t.pos : Int)] 4 ao false]).get (nb M0.next 0) = .cells [.int .i64 (t.kind : Int), .str t.text, .int .i64 (t.n : Int), .int .i64 (t.pos : Int)] 4 ao false := by rw [aM rfl (by simp)]; rfl
 have en : (ext M0 [.cells [.int .i64 (t.kind : Int), .str t.text, .int .i64 (t.n : Int), .int .i64 (t.pos : Int)] 4 ao false]).next = nb m.next 21 := by rw [aK, hn, eV]; rfl
 refine ⟨?_, x0.step k1 (fun c hc => .inl hc) rz, ?_, ?_⟩
 ·rw [<- en]
  exact h.grown (by rw [en]; exact bI) fun c hc => by rw [aL (by rw [hn]; exact mn hc bI)]; exact hold c hc
 ·rw [hn, eV] at e1; exact e1
 ·rw [en]; unfold nb; simp
theorem Lp (ht : bS l) (o : eA l st) (h : Rd m b tg l st P) (hX : run U nq [.agg [.ptr b 0]] m = X) : ∃ m', X = some (.ret (.int .i64 (jK l st).2) m') /\ Rd m' b tg l (jK l st).1 P /\ Kp m m' P := by
 rw [bY (by simp [c8])] at hX
 have hT := jG (b := b) (tg := tg) (P := P) ht o
 simp +contextual -implicitDefEqProofs (maxSteps := 1000000) (maxDischargeDepth := 8) only [c8, hT, h, dg, ak, ax, ab, implies_true, simprocAttr] at hX
 obtain ⟨r0, x0⟩ := W9.start h (st.now l)
 generalize ext (bump (ext m [.cells [.ptr b 0] 1 ah false]) 19) _ = M0 at *
 generalize hC : run U eK _ _ = C at hX
 obtain ⟨m1, rfl, r1, k1⟩ := np ht o r0 hC
 clear hC;have x1 := x0.step k1 (fun c hc => .inl hc) KC K8
 have g1 := Gr.name ht o.p
 have o1 := g1.ok o
 have y1 := x1.g
 have z1 := x1.n
 have u1 := x1.t
 have w1 := x1.tn
 have hT1 := jG (b := b) (tg := tg) (P := P) ht o1
 have hI1 := Vq (b := b) (tg := tg) (P := P) ht o1
 have MF := r1.bO (Q := P) fun c hc => .inl hc
 have Uv : jK l st = if (st.name l).is l [40] then kE l ((sf l (st.name l)).1.put (nd 11 (sf l (st.name l)).2 0 (st.cr l) (st.now l).pos)) (nd 22 [(sf l (st.name l)).1.fV (nd 11 (sf l (st.name l)).2 0 (st.cr l) (st.now l).pos)] 0 [] (st.now l).pos)
   else if (st.name l).is l [91] then kE l (jy l ((ze l [91] [93] (st.name l)).1.want l [61])).1 (nd 14 [(ze l [91] [93] (st.name l)).2, (jy l ((ze l [91] [93] (st.name l)).1.want l [61])).2] 0 (st.cr l) ((st.name l).now l).pos)
   else kE l (jy l ((st.name l).want l [61])).1 (nd 13 [(jy l ((st.name l).want l [61])).2] 0 (st.cr l) (st.now l).pos) := rfl
 by_cases c1 : (st.name l).is l [40]
 ·simp +contextual -implicitDefEqProofs (maxSteps := 1000000) (maxDischargeDepth := 8) only [y1, z1, u1, w1, hI1, MF, c1, ak, dg, gL, ax, ab, implies_true, simprocAttr] at hX
  rw [Uv, if_pos c1];have ra := ak (k := 20) r1
  have xa := x1.step (aR (k := 20) r1) (fun c hc => .inl hc) KC K8
  rw [show nb m1.next 20 = (bump m1 20).next from bu.symm] at hX;generalize bump m1 20 = mA at *
  have rb := jH ra 13
  generalize hC : run U jb _ _ = C at hX
  obtain ⟨m7, rfl, r7, k7⟩ := YG ht o1 rb hC
  clear hC;have ga := Wk ht o1
  have oc : eA l ((sf l (st.name l)).1.put (nd 11 (sf l (st.name l)).2 0 (st.cr l) (st.now l).pos)) := ((g1.trans ga).lay (fun _ => by
   have h1 := CE (st := st) (l := l)
   have h2 := ga.t
   rw [h1.1, h1.2.2 c1.1] at h2;omega)).ok o
  generalize (sf l (st.name l)).1.put (nd 11 (sf l (st.name l)).2 0 (st.cr l) (st.now l).pos) = s7 at *
  generalize (sf l (st.name l)).1.fV (nd 11 (sf l (st.name l)).2 0 (st.cr l) (st.now l).pos) = x at *
  have e7 := (k7.k _ (.inl KC)).trans xa.g
  have t7 := (k7.k _ (.inl K8)).trans xa.t
  have hM : ∀ B, Mem.mk m7.next (ext (Mem.mk (mA.next + 7) m7.gH) [B]).gH = m7.set (mA.next + 7) B := fun _ => rfl
  obtain ⟨r8, k8, n8, p8, Ph⟩ := drawn (c := mA.next + 7) ra (by omega) (by omega) r7 k7 [.int .i64 x]
  have iM := Ph _ K8
  have n7 : nb m.next 20 < m7.next := mn xa.tn k8.n
  simp +contextual -implicitDefEqProofs (maxSteps := 1000000) (maxDischargeDepth := 8) only [e7, t7, hM, iM, n7, ax, ab, implies_true, simprocAttr] at hX
  generalize hC : run U di _ _ = C at hX
  obtain ⟨m9, rfl, r9, k9⟩ := J7 (P := Pr P m.next (nb m.next 21)) (kids := [x]) ht oc r8 (by simp) (qc n8 rfl) (fun c hc => by rw [cm hc]; exact p8) (fun c hc => ⟨.inl hc, gq.of (Ph c hc)⟩) (by simp) hC
  clear hC;simp +contextual -implicitDefEqProofs (maxSteps := 1000000) (maxDischargeDepth := 8) only [ax, ab, implies_true, simprocAttr] at hX
  subst hX;exact ⟨_, rfl, r9.bO fun c hc => .inl hc, xa.k.trans ((k8.trans k9).bO fun c hc => .inl hc)⟩
 ·rw [Uv, if_neg c1]
  by_cases c2 : (st.name l).is l [91]
  ·simp +contextual -implicitDefEqProofs (maxSteps := 1000000) (maxDischargeDepth := 8) only [y1, z1, u1, w1, hI1, hT1, MF, c1, c2, ak, dg, gL, fT, ax, ab, implies_true, simprocAttr] at hX
   rw [if_pos c2];have ra := ak (k := 19) (ak (k := 20) (ak (k := 20) r1))
   have xa := ((x1.step (aR (k := 20) r1) (fun c hc => .inl hc) KC K8).step (aR (k := 20) (ak (k := 20) r1)) (fun c hc => .inl hc) KC K8).step (aR (k := 19) (ak (k := 20) (ak (k := 20) r1))) (fun c hc => .inl hc) KC K8
   generalize bump (bump (bump m1 20) 20) 19 = mA at *
   generalize hC : run U cx _ _ = C at hX
   obtain ⟨m2, rfl, r2, k2⟩ := abm ht o1 ra hC
   clear hC;have x2 := xa.step k2 (fun c hc => .inl hc) KC K8
   have o2 := (Vs ht o1 (a := [91]) (z := [93])).ok o1
   have y2 := x2.g
   have z2 := x2.n
   simp +contextual -implicitDefEqProofs (maxSteps := 1000000) (maxDischargeDepth := 8) only [y2, z2, ax, ab, implies_true, simprocAttr] at hX
   generalize hC : run U aP _ _ = C at hX
   obtain ⟨m3, rfl, r3, k3⟩ := nV ht o2 r2 hC
   clear hC;have x3 := x2.step k3 (fun c hc => .inl hc) KC K8
   have o3 := (Gr.want ht o2.p (s := [61])).ok o2
   have y3 := x3.g
   have z3 := x3.n
   have EK : eD 2 [EV.int .i64 0] = [EV.int .i64 0, EV.int .i64 0] := rfl
   simp +contextual -implicitDefEqProofs (maxSteps := 1000000) (maxDischargeDepth := 8) only [y3, z3, EK, cq, fJ, ax, ab, implies_true, simprocAttr] at hX
   have rb := jH r3 11
   generalize hC : run U aV _ _ = C at hX
   obtain ⟨m7, rfl, r7, k7⟩ := zF ht o3 rb hC
   clear hC;generalize (ze l [91] [93] (st.name l)).2 = y at *
   have o7 := (tB ht o3).ok o3
   generalize (jy l ((ze l [91] [93] (st.name l)).1.want l [61])).1 = s7 at *
   generalize (jy l ((ze l [91] [93] (st.name l)).1.want l [61])).2 = x at *
   have e7 := (k7.k _ (.inl KC)).trans x3.g
   have hM : ∀ B, Mem.mk m7.next (ext (Mem.mk (m3.next + 6) m7.gH) [B]).gH = m7.set (m3.next + 6) B := fun _ => rfl
   obtain ⟨r8, k8, n8, p8, Ph⟩ := drawn (c := m3.next + 6) r3 (by omega) (by omega) r7 k7 [.int .i64 y, .int .i64 x]
   simp +contextual -implicitDefEqProofs (maxSteps := 1000000) (maxDischargeDepth := 8) only [e7, hM, EK, cq, fJ, ax, ab, implies_true, simprocAttr] at hX
   generalize hC : run U di _ _ = C at hX
   obtain ⟨m9, rfl, r9, k9⟩ := J7 (P := Pr P m.next (nb m.next 21)) (kids := [y, x]) ht o7 r8 (by simp) (qc n8 rfl) (fun c hc => by rw [cm hc]; exact p8) (fun c hc => ⟨.inl hc, gq.of (Ph c hc)⟩) (by simp) hC
   clear hC;simp +contextual -implicitDefEqProofs (maxSteps := 1000000) (maxDischargeDepth := 8) only [ax, ab, implies_true, simprocAttr] at hX
   subst hX;exact ⟨_, rfl, r9.bO fun c hc => .inl hc, x3.k.trans ((k8.trans k9).bO fun c hc => .inl hc)⟩
  ·simp +contextual -implicitDefEqProofs (maxSteps := 1000000) (maxDischargeDepth := 8) only [y1, z1, u1, w1, hI1, hT1, MF, c1, c2, ak, dg, gL, fT, ax, ab, implies_true, simprocAttr] at hX
   rw [if_neg c2];have ra := ak (k := 20) (ak (k := 20) r1)
   have xa := (x1.step (aR (k := 20) r1) (fun c hc => .inl hc) KC K8).step (aR (k := 20) (ak (k := 20) r1)) (fun c hc => .inl hc) KC K8
   generalize bump (bump m1 20) 20 = mA at *
   generalize hC : run U aP _ _ = C at hX
   obtain ⟨m3, rfl, r3, k3⟩ := nV ht o1 ra hC
   clear hC;have x3 := xa.step k3 (fun c hc => .inl hc) KC K8
   have o3 := (Gr.want ht o1.p (s := [61])).ok o1
   have y3 := x3.g
   have z3 := x3.n
   have u3 := x3.t
   have w3 := x3.tn
   simp +contextual -implicitDefEqProofs (maxSteps := 1000000) (maxDischargeDepth := 8) only [y3, z3, u3, w3, ax, ab, implies_true, simprocAttr] at hX
   have rb := jH r3 11
   generalize hC : run U aV _ _ = C at hX
   obtain ⟨m7, rfl, r7, k7⟩ := zF ht o3 rb hC
   clear hC;have o7 := (tB ht o3).ok o3
   generalize (jy l ((st.name l).want l [61])).1 = s7 at *
   generalize (jy l ((st.name l).want l [61])).2 = x at *
   have e7 := (k7.k _ (.inl KC)).trans x3.g
   have t7 := (k7.k _ (.inl K8)).trans x3.t
   have hM : ∀ B, Mem.mk m7.next (ext (Mem.mk (m3.next + 5) m7.gH) [B]).gH = m7.set (m3.next + 5) B := fun _ => rfl
   obtain ⟨r8, k8, n8, p8, Ph⟩ := drawn (c := m3.next + 5) r3 (by omega) (by omega) r7 k7 [.int .i64 x]
   have iM := Ph _ K8
   have n7 : nb m.next 20 < m7.next := mn x3.tn k8.n
   simp +contextual -implicitDefEqProofs (maxSteps := 1000000) (maxDischargeDepth := 8) only [e7, t7, hM, iM, n7, ax, ab, implies_true, simprocAttr] at hX
   generalize hC : run U di _ _ = C at hX
   obtain ⟨m9, rfl, r9, k9⟩ := J7 (P := Pr P m.next (nb m.next 21)) (kids := [x]) ht o7 r8 (by simp) (qc n8 rfl) (fun c hc => by rw [cm hc]; exact p8) (fun c hc => ⟨.inl hc, gq.of (Ph c hc)⟩) (by simp) hC
   clear hC;simp +contextual -implicitDefEqProofs (maxSteps := 1000000) (maxDischargeDepth := 8) only [ax, ab, implies_true, simprocAttr] at hX
   subst hX;exact ⟨_, rfl, r9.bO fun c hc => .inl hc, x3.k.trans ((k8.trans k9).bO fun c hc => .inl hc)⟩
end
end
section
section
variable {m M : Mem} {b tg : Nat} {l : List Tok} {st : RS} {P Q : Nat -> Prop} {X : Option Fin}
def WH : List bK := [G8, yf, G9]
theorem O4 (ht : bS l) (o : eA l st) {bx bw : Nat} (h : Rd m b tg l st P) (qn : m.get bx = .cells [.ptr b 0] 1 ah false) (Yc : m.get bw = .cells [.str G8, .str yf, .str G9] 1 dO false) (px : P bx) (pw : P bw) {fr : Fr} (h1 : fr.get 1 = .ptr bx 0) (h2 : fr.get 2 = .int .i64 0) (h5 : fr.get 5 = .slice bw 0 3 (some 3)) (h6 : fr.get 6 = .int .i64 3) (h7 : fr.get 7 = .int .i64 0) (hd : fr.defers = []) :
  ∃ o, exec U (.loop dj) fr m = some o /\ ((∃ i, i < 3 /\ (∀ j, j < i -> ¬ st.is l (WH.getD j [])) /\ st.is l (WH.getD i []) /\ ∃ fr' m', o = .ret fr' m' /\ fr'.get 2 = .int .i64 ((i + 1 : Nat) : Int) /\ fr'.defers = [] /\ Rd m' b tg l st.next P /\ Kp m m' P) \/
   ((∀ j, j < 3 -> ¬ st.is l (WH.getD j [])) /\ ∃ fr' m', o = .exit 0 fr' m' /\ fr'.get 1 = .ptr bx 0 /\ fr'.defers = [] /\ Rd m' b tg l st P /\ Kp m m' P)) := by
 refine iE (σ := Nat) (fun i fr M => i <= 3 /\ (∀ j, j < i -> ¬ st.is l (WH.getD j [])) /\ Rd M b tg l st P /\ Kp m M P /\ fr.get 1 = .ptr bx 0 /\ fr.get 2 = .int .i64 0 /\ fr.get 5 = .slice bw 0 3 (some 3) /\ fr.get 6 = .int .i64 3 /\ fr.get 7 = .int .i64 (i : Int) /\ fr.defers = []) (fun i => 3 - i) _ ?_ 0 fr m ⟨ml _, fun j hj => absurd hj (by omega), h, ⟨fy _, fun _ _ => rfl⟩, h1, h2, h5, h6, h7, hd⟩
 rintro i fr M ⟨hi, mE, r, k, h1, h2, h5, h6, h7, hd⟩
 generalize hX : exec U dj fr M = X
 have ex := (k.k _ px).trans qn
 have ew := (k.k _ pw).trans Yc
 have nx := r.mb px
 have nw := r.mb pw
 by_cases bn : i < 3
 ·have hc : (i : Int) < 3 := by omega
  have ug := cQ (i := i) (by omega)
  have hg : ([.str G8, .str yf, .str G9] : List EV)[i]? = some (.str (WH.getD i [])) := by
   match i, bn with
   | 0, _ => rfl
   | 1, _ => rfl
   | 2, _ => rfl
  have Tp : idx 3 (.int .i64 (i : Int)) = some i := b9 bn
  simp +contextual -implicitDefEqProofs (maxSteps := 1000000) (maxDischargeDepth := 8) only [dj, h1, h2, h5, h6, h7, hd, hc, ex, ew, nx, nw, Tp, hg, ug, Nat.mul_one, ax, ab, implies_true, simprocAttr] at hX
  generalize XG : WH.getD i [] = w at *
  generalize hC : run U aU _ _ = C at hX
  obtain ⟨m1, rfl, r1, k1⟩ := oY ht o r hC
  clear hC;by_cases hq : st.is l w
  ·rw [eT hq] at hX
   simp +contextual -implicitDefEqProofs (maxSteps := 1000000) (maxDischargeDepth := 8) only [hd, ug, ax, ab, implies_true, simprocAttr] at hX
   subst hX;rw [show st.skip l w = st.next from if_pos hq] at r1;exact mC (.inl ⟨i, bn, mE, by rw [XG]; exact hq, _, _, rfl, by simp only [aq, Nat.reduceBEq ], by simp only [hd, aq, Nat.reduceBEq ], r1, k.trans k1⟩)
  ·rw [eU hq] at hX
   simp +contextual -implicitDefEqProofs (maxSteps := 1000000) (maxDischargeDepth := 8) only [h7, hd, ug, ax, ab, implies_true, simprocAttr] at hX
   subst hX;rw [show st.skip l w = st from if_neg hq] at r1;refine eR (i + 1) (by omega) ⟨bn, fun j hj => ?_, r1, k.trans k1, by simp only [h1, aq, Nat.reduceBEq ], by simp only [h2, aq, Nat.reduceBEq ], by simp only [h5, aq, Nat.reduceBEq ], by simp only [h6, aq, Nat.reduceBEq ], by simp only [aq, Nat.reduceBEq ], by simp only [hd, aq, Nat.reduceBEq ]⟩
   by_cases q : j = i
   ·rw [q, XG]; exact hq
   ·exact mE j (by omega)
 ·have hc : ¬ ((i : Int) < 3) := by omega
  simp +contextual -implicitDefEqProofs (maxSteps := 1000000) (maxDischargeDepth := 8) only [dj, h6, h7, hd, hc, ax, ab, implies_true, simprocAttr] at hX
  subst hX;exact eS (.inr ⟨fun j hj => mE j (by omega), _, _, rfl, by simp only [h1, aq, Nat.reduceBEq ], by simp only [hd, aq, Nat.reduceBEq ], r, k⟩)
theorem Q5 (ht : bS l) (o : eA l st) (h : Rd m b tg l st P) (hX : run U iu [.agg [.ptr b 0]] m = X) : ∃ m', X = some (.ret (.int .i64 (jm l st).2) m') /\ Rd m' b tg l (jm l st).1 P /\ Kp m m' P := by
 rw [bY (by simp [dF])] at hX
 generalize hL : exec (UT B K) (aE.loop dj) = L at hX
 have EK : eD 3 [EV.str []] = [EV.str [], EV.str [], EV.str []] := rfl
 simp +contextual -implicitDefEqProofs (maxSteps := 1000000) (maxDischargeDepth := 8) only [dF, EK, cq, fJ, ax, ab, implies_true, simprocAttr] at hX
 subst hL;have r0 := h.Ir [.cells [.ptr b 0] 1 ah false, .cells [.str G8, .str yf, .str G9] 1 dO false]
 have k0 := lO h [.cells [.ptr b 0] 1 ah false, .cells [.str G8, .str yf, .str G9] 1 dO false]
 have e0 : (ext m [.cells [.ptr b 0] 1 ah false, .cells [.str G8, .str yf, .str G9] 1 dO false]).get (nb m.next 0) = .cells [.ptr b 0] 1 ah false := by rw [aM rfl (by simp)]; rfl
 have e1 : (ext m [.cells [.ptr b 0] 1 ah false, .cells [.str G8, .str yf, .str G9] 1 dO false]).get (nb m.next 1) = .cells [.str G8, .str yf, .str G9] 1 dO false := by rw [aM rfl (by simp)]; rfl
 have p0 : Pr P m.next (nb m.next 2) (nb m.next 0) := nW (by simp)
 have p1 : Pr P m.next (nb m.next 2) (nb m.next 1) := nW (by simp)
 generalize hC : exec (UT B K) (aE.loop dj) _ _ = C at hX
 obtain ⟨o', rfl, hh⟩ := iD hC (O4 ht o r0 e0 e1 p0 p1 (by simp only [aq, Nat.reduceBEq ]) (by simp only [aq, Nat.reduceBEq ]) (by simp only [aq, Nat.reduceBEq ]) (by simp only [aq, Nat.reduceBEq ]) (by simp only [aq, Nat.reduceBEq ]) (by simp only [aq, Nat.reduceBEq ]))
 clear hC;rcases hh with ⟨i, hi, mE, zh, fr', m', rfl, f2, fd, r1, k1⟩ | ⟨mE, fr', m', rfl, f1, fd, r1, k1⟩
 ·have hk : jm l st = (st.next, ((i + 1 : Nat) : Int)) := by
   match i, hi with
   | 0, _ => exact if_pos zh
   | 1, _ => exact (if_neg (mE 0 (by omega))).trans (if_pos zh)
   | 2, _ => exact (if_neg (mE 0 (by omega))).trans ((if_neg (mE 1 (by omega))).trans (if_pos zh))
  simp +contextual -implicitDefEqProofs (maxSteps := 1000000) (maxDischargeDepth := 8) only [f2, fd, ax, ab, implies_true, simprocAttr] at hX
  subst hX;rw [hk];exact ⟨_, rfl, r1.bO fun c hc => .inl hc, k0.trans (k1.bO fun c hc => .inl hc)⟩
 ·have hk : jm l st = (st.fail 8 (st.now l).pos, 0) := (if_neg (mE 0 (by omega))).trans ((if_neg (mE 1 (by omega))).trans (if_neg (mE 2 (by omega))))
  have e2 := (k1.k _ p0).trans e0
  have n2 := r1.mb p0
  have hT := jG (b := b) (tg := tg) (P := P) ht o
  have r2 := r1.bO (Q := P) fun c hc => .inl hc
  have k2 := k0.trans (k1.bO fun c hc => .inl hc)
  have n4 : ([.int .i64 ((st.now l).kind : Int), .str (st.now l).text, .int .i64 ((st.now l).n : Int), .int .i64 ((st.now l).pos : Int)] : List EV)[3]? = some (.int .i64 ((st.now l).pos : Int)) := rfl
  simp +contextual -implicitDefEqProofs (maxSteps := 1000000) (maxDischargeDepth := 8) only [f1, fd, e2, n2, n4, hT, r2, ak, ax, ab, implies_true, simprocAttr] at hX
  generalize hC : run U dU _ _ = C at hX
  obtain ⟨m5, rfl, r5, k5⟩ := J0 (ak (ak r2)) hC
  clear hC;simp +contextual -implicitDefEqProofs (maxSteps := 1000000) (maxDischargeDepth := 8) only [fd, ax, ab, implies_true, simprocAttr] at hX
  subst hX;rw [hk];exact ⟨_, rfl, r5, ((k2.trans (aR r2)).trans (aR (ak r2))).trans k5⟩
end
end
section
def PK (l : List Tok) (tg k : Nat) : Prop := ∀ (st : RS) (m : Mem) (b : Nat) (P : Nat -> Prop) (s1 : RS) (r : List Int) (X : Option Fin), eA l st -> 8 * (l.length - st.pos) + PC.block.bi < k -> lR l k .block st = some (s1, r) -> Rd m b tg l st P -> run U eP [.agg [.ptr b 0]] m = X -> ∃ m', X = some (.ret (.int .i64 (r.headD 0)) m') /\ Rd m' b tg l s1 P /\ Kp m m' P
section
variable {m M : Mem} {b tg : Nat} {l : List Tok} {st : RS} {P Q : Nat -> Prop} {X : Option Fin}
theorem rv {v : EV} {out : List Int} {x : Int} {n0 : Nat} (h : Rd m b tg l st (Pv P v)) (hP : ∀ c, P c -> c < n0) (uw : n0 <= m.next) (eF : jF m v (is out) out.length 1 n0) (hl : out.length < 1000000) :
  ∃ v2 M2, fS (ext m [.cells [.int .i64 x] 1 bC false]) bC 1 v (.slice (nb m.next 0) 0 1 (some 1)) = some (v2, M2) /\ jF M2 v2 (is (out ++ [x])) (out ++ [x]).length 1 n0 /\ Rd M2 b tg l st (Pv P v2) /\ Kp m M2 P := by
 obtain ⟨ha, jn⟩ := gj (e := bC) (eF.ext [.cells [.int .i64 x] 1 bC false]) (by rw [aK]; exact pN uw bI) (xD rfl) rfl (by decide) (by unfold room; omega)
 have Rm := Rd.grow (e := bC) (n := out.length + 1) (cs := is out ++ [.int .i64 x]) (dg (ys := [.cells [.int .i64 x] 1 bC false]) h) fun c hc => eF.lt (.inr (hP c hc))
 have FO : Kp (ext m [.cells [.int .i64 x] 1 bC false]) (grow (ext m [.cells [.int .i64 x] 1 bC false]) v bC 1 (is out ++ [.int .i64 x])) P := ⟨by rw [iJ]; exact bI, fun c hc => jq ((dg (ys := [.cells [.int .i64 x] 1 bC false]) h).mb (.inl hc)) (eF.lt (.inr (hP c hc)))⟩
 refine ⟨_, _, ha, ?_, Rm, ((LB h).bO fun c hc => .inl hc).trans FO⟩
 rw [CI, jz]; exact jn
theorem sd (ht : bS l) {k : Nat} (o : eA l st) (hk : 8 * (l.length - st.pos) + PC.block.bi < k) {s1 : RS} {r : List Int} (e : lR l k .block st = some (s1, r)) : Gr l st s1 /\ ∃ x, r = [x] := by
 obtain ⟨s2, r2, e2, g, a, _⟩ := kU ht k .block st o.p hk trivial
 rw [e] at e2;obtain ⟨rfl, rfl⟩ := eO _ _ _ _ ▸ pH e2
 exact ⟨g, jJ a⟩
theorem Qp {c n : Nat} {cap : Option Nat} (hc : Q c) : ∀ a, Pv P (.slice c 0 n cap) a -> P a \/ Q a := fun a ha => ha.elim .inl fun q => .inr (by rw [cm q]; exact hc)
theorem KJ (ht : bS l) {k : Nat} (ih : PK l tg k) (o : eA l st) (hk : 8 * (l.length - st.pos) + PC.block.bi < k) (h : Rd m b tg l st P) {p : Nat} {s1 : RS} {r : List Int} (bM : uD l (lR l k .block) p st = some (s1, r)) (hX : run U jL [.agg [.ptr b 0], .int .i64 (p : Int)] m = X) : ∃ m', X = some (.ret (.int .i64 (r.headD 0)) m') /\ Rd m' b tg l s1 P /\ Kp m m' P := by
 rw [bY (by simp [c7])] at hX
 have EK : eD 2 [EV.int .i64 0] = [EV.int .i64 0, EV.int .i64 0] := rfl
 simp +contextual -implicitDefEqProofs (maxSteps := 1000000) (maxDischargeDepth := 8) only [c7, EK, cq, fJ, ax, ab, implies_true, simprocAttr] at hX
 have en : (ext m [.cells [.ptr b 0] 1 ah false]).next = nb m.next 1 := aK
 obtain ⟨r0, x0⟩ := Bx.uI h
 generalize ext m [.cells [.ptr b 0] 1 ah false] = M0 at *
 rw [<- en] at hX;have rb := jH r0 7
 have ge := tB ht o
 have oe := ge.ok o
 obtain ⟨s2, r2, e2, g2, _, _⟩ := kU ht k .block (jy l st).1 oe.p (by have := ge.p; simp only [PC.bi] at *; omega) trivial
 obtain ⟨_, y, rfl⟩ := sd ht oe (by have := ge.p; simp only [PC.bi] at *; omega) e2
 have FP : some (s2.put (nd 16 [(jy l st).2, y] 0 [] p), [s2.fV (nd 16 [(jy l st).2, y] 0 [] p)]) = some (s1, r) := by
  rw [<- bM]; unfold uD; simp only [e2, Option.bind_some]; rfl
 generalize hC : run U aV _ _ = C at hX
 obtain ⟨m7, rfl, r7, k7⟩ := zF ht o rb hC
 clear hC;generalize (jy l st).2 = x at *
 generalize (jy l st).1 = s7 at *
 have e7 := (k7.k _ (.inl rz)).trans x0.g
 simp +contextual -implicitDefEqProofs (maxSteps := 1000000) (maxDischargeDepth := 8) only [e7, EK, cq, fJ, ax, ab, implies_true, simprocAttr] at hX
 generalize hC : run U eP _ _ = C at hX
 obtain ⟨m8, rfl, r8, k8⟩ := ih _ _ _ _ _ _ _ oe (by have := ge.p; simp only [PC.bi] at *; omega) e2 r7 hC
 clear hC;have hM : ∀ B, Mem.mk m8.next (ext (Mem.mk (M0.next + 5) m8.gH) [B]).gH = m8.set (M0.next + 5) B := fun _ => rfl
 obtain ⟨r9, k9, n9, p9, Tu⟩ := drawn (c := M0.next + 5) r0 (by omega) (by omega) r8 (k7.trans k8) [.int .i64 x, .int .i64 y]
 have e8 : (m8.set (M0.next + 5) (.cells [.int .i64 x, .int .i64 y] 1 bC false)).get (nb m.next 0) = .cells [.ptr b 0] 1 ah false := by rw [az (Tu _ rz)]; exact (k8.k _ (.inl rz)).trans e7
 have n8 : nb m.next 0 < (m8.set (M0.next + 5) (.cells [.int .i64 x, .int .i64 y] 1 bC false)).next := r9.mb (.inl rz)
 simp +contextual -implicitDefEqProofs (maxSteps := 1000000) (maxDischargeDepth := 8) only [hM, EK, cq, fJ, List.headD_cons, ax, ab, implies_true, simprocAttr] at hX
 have eF := qc (m := m8) (cs := [.int .i64 x, .int .i64 y]) n9 rfl
 generalize m8.set (M0.next + 5) (.cells [.int .i64 x, .int .i64 y] 1 bC false) = M9 at *
 simp +contextual -implicitDefEqProofs (maxSteps := 1000000) (maxDischargeDepth := 8) only [e8, n8, ax, ab, implies_true, simprocAttr] at hX
 generalize hC : run U aA _ _ = C at hX
 obtain ⟨m5, rfl, r5, k5⟩ := pL (P := Pr P m.next (nb m.next 1)) (kids := [x, y]) ht (g2.ok oe) r9 (by simp) eF (fun c hc => by rw [cm hc]; exact p9) (fun c hc => ⟨.inl hc, gq.of (Tu c hc)⟩) (by simp) hC
 clear hC;simp +contextual -implicitDefEqProofs (maxSteps := 1000000) (maxDischargeDepth := 8) only [ax, ab, implies_true, simprocAttr] at hX
 subst hX;obtain ⟨rfl, rfl⟩ := eO _ _ _ _ ▸ pH FP
 exact ⟨_, rfl, r5.bO fun c hc => .inl hc, x0.k.trans ((k9.trans k5).bO fun c hc => .inl hc)⟩
theorem U3 {m : Mem} {c n lo : Nat} {cs : List EV} (qm : lo <= c) (hc : c < m.next) (hl : cs.length = n) : jF (m.set c (.cells cs 1 bC false)) (.slice c 0 n (some n)) cs n 1 lo :=
 ⟨.inr ⟨c, some n, bC, rfl, qm, hc, bJ, .inr rfl⟩, by omega⟩
theorem Og (ht : bS l) {k : Nat} (ih : PK l tg k) (o : eA l st) (hk : 8 * (l.length - st.pos) + PC.block.bi < k) (h : Rd m b tg l st P) {p : Nat} {s1 : RS} {r : List Int} (bM : Ur l (lR l k .block) p st = some (s1, r)) (hX : run U kj [.agg [.ptr b 0], .int .i64 (p : Int)] m = X) : ∃ m', X = some (.ret (.int .i64 (r.headD 0)) m') /\ Rd m' b tg l s1 P /\ Kp m m' P := by
 rw [bY (by simp [dE])] at hX
 have EK : eD 2 [EV.int .i64 0] = [EV.int .i64 0, EV.int .i64 0] := rfl
 simp +contextual -implicitDefEqProofs (maxSteps := 1000000) (maxDischargeDepth := 8) only [dE, EK, cq, fJ, ax, ab, implies_true, simprocAttr] at hX
 have en : (ext m [.cells [.ptr b 0] 1 ah false]).next = nb m.next 1 := aK
 obtain ⟨r0, x0⟩ := Bx.uI h
 generalize ext m [.cells [.ptr b 0] 1 ah false] = M0 at *
 rw [<- en] at hX;have rb := jH r0 7
 have ge := tB ht o
 have oe := ge.ok o
 obtain ⟨s2, r2, e2, g2, _, _⟩ := kU ht k .block (jy l st).1 oe.p (by have := ge.p; simp only [PC.bi] at *; omega) trivial
 obtain ⟨_, y, rfl⟩ := sd ht oe (by have := ge.p; simp only [PC.bi] at *; omega) e2
 have FP : (if s2.is l P5 then (lR l k .block s2.next).bind fun c => uv c.1 (nd 15 ((jy l st).2 :: [y] ++ c.2) 0 [] p) else uv s2 (nd 15 ((jy l st).2 :: [y]) 0 [] p)) = some (s1, r) := by
  rw [<- bM]; unfold Ur; simp only [e2, Option.bind_some]
 generalize hC : run U aV _ _ = C at hX
 obtain ⟨m7, rfl, r7, k7⟩ := zF ht o rb hC
 clear hC;generalize (jy l st).2 = x at *
 generalize (jy l st).1 = s7 at *
 have e7 := (k7.k _ (.inl rz)).trans x0.g
 simp +contextual -implicitDefEqProofs (maxSteps := 1000000) (maxDischargeDepth := 8) only [e7, EK, cq, fJ, ax, ab, implies_true, simprocAttr] at hX
 generalize hC : run U eP _ _ = C at hX
 obtain ⟨m8, rfl, r8, k8⟩ := ih _ _ _ _ _ _ _ oe (by have := ge.p; simp only [PC.bi] at *; omega) e2 r7 hC
 clear hC;have hM : ∀ B, Mem.mk m8.next (ext (Mem.mk (M0.next + 5) m8.gH) [B]).gH = m8.set (M0.next + 5) B := fun _ => rfl
 obtain ⟨r9, k9, n9, p9, Tu⟩ := drawn (c := M0.next + 5) r0 (by omega) (by omega) r8 (k7.trans k8) [.int .i64 x, .int .i64 y]
 have e8 : (m8.set (M0.next + 5) (.cells [.int .i64 x, .int .i64 y] 1 bC false)).get (nb m.next 0) = .cells [.ptr b 0] 1 ah false := by rw [az (Tu _ rz)]; exact (k8.k _ (.inl rz)).trans e7
 have n8 : nb m.next 0 < (m8.set (M0.next + 5) (.cells [.int .i64 x, .int .i64 y] 1 bC false)).next := r9.mb (.inl rz)
 simp +contextual -implicitDefEqProofs (maxSteps := 1000000) (maxDischargeDepth := 8) only [hM, EK, cq, fJ, List.headD_cons, ax, ab, implies_true, simprocAttr] at hX
 have eF := U3 (m := m8) (cs := [.int .i64 x, .int .i64 y]) (Nat.le_add_right M0.next 5) n9 rfl
 have hn9 : M0.next <= (m8.set (M0.next + 5) (.cells [.int .i64 x, .int .i64 y] 1 bC false)).next := by show M0.next <= m8.next; omega
 generalize m8.set (M0.next + 5) (.cells [.int .i64 x, .int .i64 y] 1 bC false) = M9 at *
 have r9 := r9.bO (Q := Pv (Pr P m.next (nb m.next 1)) (.slice (M0.next + 5) 0 2 (some 2))) fun c hc => (Qp p9 c hc).elim .inl id
 have hP1 : ∀ c, Pr P m.next (nb m.next 1) c -> c < M0.next := fun c hc => r0.mb hc
 have hs : nb (M0.next + 5) 0 = M0.next + 5 := rfl
 rw [hs] at hX;generalize EV.slice (M0.next + 5) 0 2 (some 2) = kv at *
 have o9 := g2.ok oe
 have hkv : kv.cells = some [kv] := by rcases eF.is with ⟨rfl, _⟩ | ⟨_, _, _, rfl, _⟩ <;> rfl
 simp +contextual -implicitDefEqProofs (maxSteps := 1000000) (maxDischargeDepth := 8) only [e8, n8, ax, ab, implies_true, simprocAttr] at hX
 generalize hC : run U aU _ _ = C at hX
 obtain ⟨m10, rfl, Y1, Uo⟩ := oY ht o9 r9 hC
 clear hC;have eF := eF.kp Uo fun c hc => .inr hc
 have e10 := (Uo.k _ (.inl rz)).trans e8
 have n10 := mn n8 Uo.n
 have abL := pN hn9 Uo.n
 by_cases hq : s2.is l P5
 ·rw [eT (show s2.is l [101, 108, 115, 101] from hq)] at hX
  rw [if_pos hq] at FP;rw [show s2.skip l [101, 108, 115, 101] = s2.next from if_pos hq] at Y1
  have Fx := is_lt ht o9.p hq
  have gnx := Gr.next Fx
  have Y3 := gnx.ok o9
  have WT : 8 * (l.length - s2.next.pos) + PC.block.bi < k := by have := ge.p; have := g2.p; simp only [PC.bi, RS.next] at *; omega
  obtain ⟨s3, r3, e3, g3, _, _⟩ := kU ht k .block s2.next Y3.p WT trivial
  obtain ⟨_, z, rfl⟩ := sd ht Y3 WT e3
  simp only [e3, Option.bind_some, uv] at FP;simp +contextual -implicitDefEqProofs (maxSteps := 1000000) (maxDischargeDepth := 8) only [e10, n10, ax, ab, implies_true, simprocAttr] at hX
  generalize hC : run U eP _ _ = C at hX
  obtain ⟨m11, rfl, r11, Xv⟩ := ih _ _ _ _ _ _ _ Y3 WT e3 Y1 hC
  clear hC;have eF := eF.kp Xv fun c hc => .inr hc
  have e11 := (Xv.k _ (.inl rz)).trans e10
  have n11 := mn n10 Xv.n
  obtain ⟨v2, M2, ha, jn, r12, WI⟩ := rv (out := [x, y]) (x := z) r11 hP1 (pN abL Xv.n) eF (by simp)
  have e12 := (WI.k _ rz).trans e11
  have n12 := mn n11 WI.n
  simp +contextual -implicitDefEqProofs (maxSteps := 1000000) (maxDischargeDepth := 8) only [ha, e12, n12, List.headD_cons, ax, ab, implies_true, simprocAttr] at hX
  have Vw : v2.cells = some [v2] := by rcases jn.is with ⟨rfl, _⟩ | ⟨_, _, _, rfl, _⟩ <;> rfl
  simp +contextual -implicitDefEqProofs (maxSteps := 1000000) (maxDischargeDepth := 8) only [Vw, ax, ab, implies_true, simprocAttr] at hX
  generalize hC : run U aA _ _ = C at hX
  obtain ⟨m5, rfl, r5, k5⟩ := pL (P := Pr P m.next (nb m.next 1)) (kids := [x, y] ++ [z]) ht (g3.ok Y3) r12 (by simp) jn.Vj (fun c hc => .inr hc) (fun c hc => ⟨.inl hc, jn.lt (.inr (hP1 c hc))⟩) (by simp) hC
  clear hC;simp +contextual -implicitDefEqProofs (maxSteps := 1000000) (maxDischargeDepth := 8) only [ax, ab, implies_true, simprocAttr] at hX
  subst hX;obtain ⟨rfl, rfl⟩ := eO _ _ _ _ ▸ pH FP
  exact ⟨_, rfl, r5.bO fun c hc => .inl hc, x0.k.trans ((k9.trans ((Uo.bO fun c hc => .inl hc).trans ((Xv.bO fun c hc => .inl hc).trans (WI.trans k5)))).bO fun c hc => .inl hc)⟩
 ·rw [eU (show ¬ s2.is l [101, 108, 115, 101] from hq)] at hX
  rw [if_neg hq] at FP;rw [show s2.skip l [101, 108, 115, 101] = s2 from if_neg hq] at Y1
  simp only [uv] at FP;simp +contextual -implicitDefEqProofs (maxSteps := 1000000) (maxDischargeDepth := 8) only [e10, n10, hkv, ax, ab, implies_true, simprocAttr] at hX
  generalize hC : run U aA _ _ = C at hX
  obtain ⟨m5, rfl, r5, k5⟩ := pL (P := Pr P m.next (nb m.next 1)) (kids := [x, y]) ht o9 Y1 (by simp) eF.Vj (fun c hc => .inr hc) (fun c hc => ⟨.inl hc, eF.lt (.inr (hP1 c hc))⟩) (by simp) hC
  clear hC;simp +contextual -implicitDefEqProofs (maxSteps := 1000000) (maxDischargeDepth := 8) only [ax, ab, implies_true, simprocAttr] at hX
  subst hX;obtain ⟨rfl, rfl⟩ := eO _ _ _ _ ▸ pH FP
  exact ⟨_, rfl, r5.bO fun c hc => .inl hc, x0.k.trans ((k9.trans ((Uo.bO fun c hc => .inl hc).trans k5)).bO fun c hc => .inl hc)⟩
theorem RM (ht : bS l) {k : Nat} (ih : PK l tg k) (o : eA l st) (hk : 8 * (l.length - st.pos) + PC.block.bi < k) (h : Rd m b tg l st P) {p : Int} {s1 : RS} {r : List Int} (bM : JT l (lR l k .block) st = some (s1, r)) (hX : run U jM [.agg [.ptr b 0], .int .i64 p] m = X) : ∃ m', X = some (.ret (.int .i64 (r.headD 0)) m') /\ Rd m' b tg l s1 P /\ Kp m m' P := by
 rw [bY (by simp [c9])] at hX
 have hT := jG (b := b) (tg := tg) (P := P) ht o
 have EK : eD 3 [EV.int .i64 0] = [EV.int .i64 0, EV.int .i64 0, EV.int .i64 0] := rfl
 simp +contextual -implicitDefEqProofs (maxSteps := 1000000) (maxDischargeDepth := 8) only [c9, hT, h, dg, ak, ax, ab, implies_true, simprocAttr] at hX
 obtain ⟨r0, x0⟩ := Bx.start h 19
 generalize bump (ext m [.cells [.ptr b 0] 1 ah false]) 19 = M0 at *
 generalize hC : run U eK _ _ = C at hX
 obtain ⟨m1, rfl, r1, k1⟩ := np ht o r0 hC
 clear hC;have x1 := x0.step k1 (fun c hc => .inl hc) rz
 have g1 := Gr.name ht o.p
 have o1 := g1.ok o
 have y1 := x1.g
 have z1 := x1.n
 simp +contextual -implicitDefEqProofs (maxSteps := 1000000) (maxDischargeDepth := 8) only [y1, z1, ax, ab, implies_true, simprocAttr] at hX
 generalize hC : run U aP _ _ = C at hX
 obtain ⟨m2, rfl, r2, k2⟩ := nV ht o1 r1 hC
 clear hC;have x2 := x1.step k2 (fun c hc => .inl hc) rz
 have g2 := g1.trans (Gr.want ht o1.p (s := [61]))
 have o2 := g2.ok o
 have y2 := x2.g
 have z2 := x2.n
 simp +contextual -implicitDefEqProofs (maxSteps := 1000000) (maxDischargeDepth := 8) only [y2, z2, ax, ab, implies_true, simprocAttr] at hX
 generalize hC : run U aV _ _ = C at hX
 obtain ⟨m3, rfl, r3, k3⟩ := zF ht o2 r2 hC
 clear hC;have x3 := x2.step k3 (fun c hc => .inl hc) rz
 have g3 := g2.trans (tB ht o2)
 have o3 := g3.ok o
 have y3 := x3.g
 have z3 := x3.n
 simp +contextual -implicitDefEqProofs (maxSteps := 1000000) (maxDischargeDepth := 8) only [y3, z3, ax, ab, implies_true, simprocAttr] at hX
 generalize hC : run U aP _ _ = C at hX
 obtain ⟨m4, rfl, r4, k4⟩ := nV ht o3 r3 hC
 clear hC;have x4 := x3.step k4 (fun c hc => .inl hc) rz
 have g4 := g3.trans (Gr.want ht o3.p (s := [44]))
 have o4 := g4.ok o
 have y4 := x4.g
 have z4 := x4.n
 simp +contextual -implicitDefEqProofs (maxSteps := 1000000) (maxDischargeDepth := 8) only [y4, z4, EK, cq, fJ, ax, ab, implies_true, simprocAttr] at hX
 have rb := jH r4 8
 have ge := g4.trans (tB ht o4)
 have oe := ge.ok o
 have hke : 8 * (l.length - (jy l ((jy l ((st.name l).want l [61])).1.want l [44])).1.pos) + PC.block.bi < k := by have := ge.p; simp only [PC.bi] at *; omega
 obtain ⟨s2, r2', e2, g2', _, _⟩ := kU ht k .block _ oe.p hke trivial
 obtain ⟨_, y, rfl⟩ := sd ht oe hke e2
 have FP : some (s2.put (nd 17 [(jy l ((st.name l).want l [61])).2, (jy l ((jy l ((st.name l).want l [61])).1.want l [44])).2, y] 0 (st.cr l) (st.now l).pos), [s2.fV (nd 17 [(jy l ((st.name l).want l [61])).2, (jy l ((jy l ((st.name l).want l [61])).1.want l [44])).2, y] 0 (st.cr l) (st.now l).pos)]) = some (s1, r) := by
  rw [<- bM]; unfold JT; simp only [e2, Option.bind_some]; rfl
 generalize hC : run U aV _ _ = C at hX
 obtain ⟨m7, rfl, r7, k7⟩ := zF ht o4 rb hC
 clear hC;generalize (jy l ((jy l ((st.name l).want l [61])).1.want l [44])).2 = x at *
 generalize (jy l ((jy l ((st.name l).want l [61])).1.want l [44])).1 = s7 at *
 generalize (jy l ((st.name l).want l [61])).2 = w at *
 have e7 := (k7.k _ (.inl rz)).trans x4.g
 simp +contextual -implicitDefEqProofs (maxSteps := 1000000) (maxDischargeDepth := 8) only [e7, EK, cq, fJ, ax, ab, implies_true, simprocAttr] at hX
 generalize hC : run U eP _ _ = C at hX
 obtain ⟨m8, rfl, r8, k8⟩ := ih _ _ _ _ _ _ _ oe hke e2 r7 hC
 clear hC;have hM : ∀ B, Mem.mk m8.next (ext (Mem.mk (m4.next + 6) m8.gH) [B]).gH = m8.set (m4.next + 6) B := fun _ => rfl
 obtain ⟨r9, k9, n9, p9, Tu⟩ := drawn (c := m4.next + 6) r4 (by omega) (by omega) r8 (k7.trans k8) [.int .i64 w, .int .i64 x, .int .i64 y]
 have e8 : (m8.set (m4.next + 6) (.cells [.int .i64 w, .int .i64 x, .int .i64 y] 1 bC false)).get (nb m.next 0) = .cells [.ptr b 0] 1 ah false := by rw [az (Tu _ rz)]; exact (k8.k _ (.inl rz)).trans e7
 have n8 : nb m.next 0 < (m8.set (m4.next + 6) (.cells [.int .i64 w, .int .i64 x, .int .i64 y] 1 bC false)).next := r9.mb (.inl rz)
 simp +contextual -implicitDefEqProofs (maxSteps := 1000000) (maxDischargeDepth := 8) only [hM, EK, cq, fJ, List.headD_cons, ax, ab, implies_true, simprocAttr] at hX
 have eF := qc (m := m8) (cs := [.int .i64 w, .int .i64 x, .int .i64 y]) n9 rfl
 generalize m8.set (m4.next + 6) (.cells [.int .i64 w, .int .i64 x, .int .i64 y] 1 bC false) = M9 at *
 simp +contextual -implicitDefEqProofs (maxSteps := 1000000) (maxDischargeDepth := 8) only [e8, n8, ax, ab, implies_true, simprocAttr] at hX
 generalize hC : run U aA _ _ = C at hX
 obtain ⟨m5, rfl, r5, k5⟩ := pL (P := Pr P m.next (nb m.next 1)) (kids := [w, x, y]) ht (g2'.ok oe) r9 (by simp) eF (fun c hc => by rw [cm hc]; exact p9) (fun c hc => ⟨.inl hc, gq.of (Tu c hc)⟩) (by simp) hC
 clear hC;simp +contextual -implicitDefEqProofs (maxSteps := 1000000) (maxDischargeDepth := 8) only [ax, ab, implies_true, simprocAttr] at hX
 subst hX;obtain ⟨rfl, rfl⟩ := eO _ _ _ _ ▸ pH FP
 exact ⟨_, rfl, r5.bO fun c hc => .inl hc, x4.k.trans ((k9.trans k5).bO fun c hc => .inl hc)⟩
end
end
section
section
variable {m M : Mem} {b tg : Nat} {l : List Tok} {st : RS} {P Q : Nat -> Prop} {X : Option Fin}
def Sm : List bK := [Oh, Ws, Av, Oi, Ax, oJ, vw, DR]
def YZ : List Nat := [kQ, kj, jL, jM, nQ, nP, nO, nN]
def rm : List EV := [.str Oh, .func kQ [] [], .str Ws, .func kj [] [], .str Av, .func jL [] [], .str Oi, .func jM [] [], .str Ax, .func nQ [] [], .str oJ, .func nP [] [], .str vw, .func nO [] [], .str DR, .func nN [] []]
theorem Oz (m : Mem) : run U FK [] m = some (.ret (.slice (nb m.next 0) 0 8 (some 8)) (ext m [.cells rm 2 cN false])) := by
 rw [bY (by simp [gp])]
 have EK : eD 8 [EV.str [], EV.aO] = [EV.str [], EV.aO, EV.str [], EV.aO, EV.str [], EV.aO, EV.str [], EV.aO, EV.str [], EV.aO, EV.str [], EV.aO, EV.str [], EV.aO, EV.str [], EV.aO] := rfl
 generalize hX : pK _ _ = X
 simp +contextual -implicitDefEqProofs (maxSteps := 1000000) (maxDischargeDepth := 8) only [gp, EK, cq, fJ, ax, ab, implies_true, simprocAttr] at hX
 exact hX.symm
theorem Ox (ht : bS l) (o : eA l st) {bx bs : Nat} (h : Rd m b tg l st P) (qn : m.get bx = .cells [.ptr b 0] 1 ah false) (Yd : m.get bs = .cells rm 2 cN false) (px : P bx) (ps : P bs) {p : Nat} {s1 : RS} {r : List Int}
  (bD : ∀ i, i < 8 -> (∀ j, j < i -> ¬ st.is l (Sm.getD j [])) -> st.is l (Sm.getD i []) -> ∀ (M : Mem) (X : Option Fin), Rd M b tg l st.next P -> run U (YZ.getD i 0) [.agg [.ptr b 0], .int .i64 (p : Int)] M = X -> ∃ m', X = some (.ret (.int .i64 (r.headD 0)) m') /\ Rd m' b tg l s1 P /\ Kp M m' P)
  {fr : Fr} (h1 : fr.get 1 = .ptr bx 0) (h3 : fr.get 3 = .int .i64 (p : Int)) (CO : fr.get 10 = .slice bs 0 8 (some 8)) (IQ : fr.get 11 = .int .i64 8) (KH : fr.get 12 = .int .i64 0) (hd : fr.defers = []) :
  ∃ o, exec U (.loop b6) fr m = some o /\ ((∃ i, i < 8 /\ (∀ j, j < i -> ¬ st.is l (Sm.getD j [])) /\ st.is l (Sm.getD i []) /\ ∃ fr' m', o = .ret fr' m' /\ fr'.get 2 = .int .i64 (r.headD 0) /\ fr'.defers = [] /\ Rd m' b tg l s1 P /\ Kp m m' P) \/
   ((∀ j, j < 8 -> ¬ st.is l (Sm.getD j [])) /\ ∃ fr' m', o = .exit 0 fr' m' /\ fr'.get 1 = .ptr bx 0 /\ fr'.defers = [] /\ Rd m' b tg l st P /\ Kp m m' P)) := by
 refine iE (σ := Nat) (fun i fr M => i <= 8 /\ (∀ j, j < i -> ¬ st.is l (Sm.getD j [])) /\ Rd M b tg l st P /\ Kp m M P /\ fr.get 1 = .ptr bx 0 /\ fr.get 3 = .int .i64 (p : Int) /\ fr.get 10 = .slice bs 0 8 (some 8) /\ fr.get 11 = .int .i64 8 /\ fr.get 12 = .int .i64 (i : Int) /\ fr.defers = []) (fun i => 8 - i) _ ?_ 0 fr m ⟨ml _, fun j hj => absurd hj (by omega), h, ⟨fy _, fun _ _ => rfl⟩, h1, h3, CO, IQ, KH, hd⟩
 rintro i fr M ⟨hi, mE, r0, k, h1, h3, CO, IQ, KH, hd⟩
 generalize hX : exec U b6 fr M = X
 have ex := (k.k _ px).trans qn
 have es := (k.k _ ps).trans Yd
 have nx := r0.mb px
 have ns := r0.mb ps
 by_cases bn : i < 8
 ·have hc : (i : Int) < 8 := by omega
  have ug := cQ (i := i) (by omega)
  have Tp : idx 8 (.int .i64 (i : Int)) = some i := b9 bn
  have XS : partOf (some 2) rm (i * 2) = some (.agg [.str (Sm.getD i []), .func (YZ.getD i 0) [] []]) := by
   match i, bn with
   | 0, _ => rfl
   | 1, _ => rfl
   | 2, _ => rfl
   | 3, _ => rfl
   | 4, _ => rfl
   | 5, _ => rfl
   | 6, _ => rfl
   | 7, _ => rfl
  have hci := bD i bn mE
  simp +contextual -implicitDefEqProofs (maxSteps := 1000000) (maxDischargeDepth := 8) only [b6, h1, h3, CO, IQ, KH, hd, hc, ex, es, nx, ns, Tp, ug, XS, ax, ab, implies_true, simprocAttr] at hX
  generalize XG : Sm.getD i [] = w at *
  generalize YZ.getD i 0 = f at *
  have r1 := r0.Ir [.cells [.str w, .func f [] []] 2 cN false]
  have k1 := lO r0 [.cells [.str w, .func f [] []] 2 cN false]
  have e1 : (ext M [.cells [.str w, .func f [] []] 2 cN false]).get (nb M.next 0) = .cells [.str w, .func f [] []] 2 cN false := by rw [aM rfl (by simp)]; rfl
  have p1 : Pr P M.next (nb M.next 1) (nb M.next 0) := nW (by simp)
  generalize hC : run U aU _ _ = C at hX
  obtain ⟨m2, rfl, r2, k2⟩ := oY ht o r1 hC
  clear hC;have e2 := (k2.k _ p1).trans e1
  have n2 := r2.mb p1
  have PV := (k2.k _ (.inl px)).trans ((k1.k _ px).trans ex)
  have Uc := r2.mb (.inl px)
  have k3 := k.trans (k1.trans (k2.bO fun c hc => .inl hc))
  have r3 := r2.bO (Q := P) fun c hc => .inl hc
  by_cases hq : st.is l w
  ·rw [eT hq] at hX
   rw [show st.skip l w = st.next from if_pos hq] at r3;simp +contextual -implicitDefEqProofs (maxSteps := 1000000) (maxDischargeDepth := 8) only [h1, h3, e2, n2, PV, Uc, ax, ab, implies_true, simprocAttr] at hX
   generalize hC : run U f _ _ = C at hX
   obtain ⟨m4, rfl, r4, k4⟩ := hci hq _ _ r3 hC
   clear hC;simp +contextual -implicitDefEqProofs (maxSteps := 1000000) (maxDischargeDepth := 8) only [hd, ax, ab, implies_true, simprocAttr] at hX
   subst hX;exact mC (.inl ⟨i, bn, mE, by rw [XG]; exact hq, _, _, rfl, by simp only [aq, Nat.reduceBEq ], by simp only [hd, aq, Nat.reduceBEq ], r4, k3.trans k4⟩)
  ·rw [eU hq] at hX
   rw [show st.skip l w = st from if_neg hq] at r3;simp +contextual -implicitDefEqProofs (maxSteps := 1000000) (maxDischargeDepth := 8) only [KH, ug, ax, ab, implies_true, simprocAttr] at hX
   subst hX;refine eR (i + 1) (by omega) ⟨bn, fun j hj => ?_, r3, k3, by simp only [h1, aq, Nat.reduceBEq ], by simp only [h3, aq, Nat.reduceBEq ], by simp only [CO, aq, Nat.reduceBEq ], by simp only [IQ, aq, Nat.reduceBEq ], by simp only [aq, Nat.reduceBEq ], by simp only [hd, aq, Nat.reduceBEq ]⟩
   by_cases q : j = i
   ·rw [q, XG]; exact hq
   ·exact mE j (by omega)
 ·have hc : ¬ ((i : Int) < 8) := by omega
  simp +contextual -implicitDefEqProofs (maxSteps := 1000000) (maxDischargeDepth := 8) only [b6, IQ, KH, hd, hc, ax, ab, implies_true, simprocAttr] at hX
  subst hX;exact eS (.inr ⟨fun j hj => mE j (by omega), _, _, rfl, by simp only [h1, aq, Nat.reduceBEq ], by simp only [hd, aq, Nat.reduceBEq ], r0, k⟩)
def Wl (l : List Tok) (tg k : Nat) : Prop := ∀ (st : RS) (m : Mem) (b : Nat) (P : Nat -> Prop) (s1 : RS) (r : List Int) (X : Option Fin), eA l st -> 8 * (l.length - st.pos) + PC.stmt.bi < k -> lR l k .stmt st = some (s1, r) -> Rd m b tg l st P -> run U kA [.agg [.ptr b 0]] m = X -> ∃ m', X = some (.ret (.int .i64 (r.headD 0)) m') /\ Rd m' b tg l s1 P /\ Kp m m' P
theorem Ow (ht : bS l) {k : Nat} (ih : PK l tg k) : Wl l tg (k + 1) := by
 intro st m b P s1 r X o hk bM h hX
 rw [bY (by simp [cb])] at hX
 generalize hL : exec (UT B K) (aE.loop b6) = L at hX
 have hT := jG (b := b) (tg := tg) (P := P) ht o
 have hS := Oz
 simp +contextual -implicitDefEqProofs (maxSteps := 1000000) (maxDischargeDepth := 8) only [cb, hT, hS, h, dg, ak, ax, ab, implies_true, simprocAttr] at hX
 subst hL;have uw : (bump (ext m [.cells [.ptr b 0] 1 ah false]) 19).next = nb m.next 20 := by rw [bu, aK, eV]; rfl
 have hold : ∀ c, c < m.next -> (bump (ext m [.cells [.ptr b 0] 1 ah false]) 19).get c = m.get c := fun c hc => by rw [gA, aL hc]
 have eb : (bump (ext m [.cells [.ptr b 0] 1 ah false]) 19).get (nb m.next 0) = .cells [.ptr b 0] 1 ah false := by rw [gA, aM rfl (by simp)]; rfl
 generalize bump (ext m [.cells [.ptr b 0] 1 ah false]) 19 = MA at *
 have en : (ext MA [.cells rm 2 cN false]).next = nb m.next 21 := by rw [aK, uw, eV]; rfl
 have r0 : Rd (ext MA [.cells rm 2 cN false]) b tg l st (Pr P m.next (nb m.next 21)) := by
  have := h.grown (M := ext MA [.cells rm 2 cN false]) (by rw [en]; exact bI) fun c hc => by rw [aL (by rw [uw]; exact mn hc bI)]; exact hold c hc
  rwa [en] at this
 have k0 : Kp m (ext MA [.cells rm 2 cN false]) P := h.kp (by rw [en]; exact bI) fun c hc => by rw [aL (by rw [uw]; exact mn hc bI)]; exact hold c hc
 have e0 : (ext MA [.cells rm 2 cN false]).get (nb m.next 0) = .cells [.ptr b 0] 1 ah false := by rw [aL (by rw [uw]; unfold nb; omega)]; exact eb
 have e1 : (ext MA [.cells rm 2 cN false]).get (nb m.next 20) = .cells rm 2 cN false := by
  have : (ext MA [.cells rm 2 cN false]).get (nb MA.next 0) = .cells rm 2 cN false := by rw [aM rfl (by simp)]; rfl
  rw [uw, eV] at this; exact this
 generalize ext MA [.cells rm 2 cN false] = M0 at *
 have bD : ∀ i, i < 8 -> (∀ j, j < i -> ¬ st.is l (Sm.getD j [])) -> st.is l (Sm.getD i []) -> ∀ (M : Mem) (X : Option Fin), Rd M b tg l st.next (Pr P m.next (nb m.next 21)) -> run U (YZ.getD i 0) [.agg [.ptr b 0], .int .i64 ((st.now l).pos : Int)] M = X -> ∃ m', X = some (.ret (.int .i64 (r.headD 0)) m') /\ Rd m' b tg l s1 (Pr P m.next (nb m.next 21)) /\ Kp M m' (Pr P m.next (nb m.next 21)) := by
  intro i hi mE zh M X hr hX
  have hn := is_lt ht o.p zh
  have on : eA l st.next := (Gr.next hn).ok o
  have VO : 8 * (l.length - st.next.pos) + PC.block.bi < k := by simp only [PC.bi, RS.next] at *; omega
  simp only [lR] at bM;have n0 : 0 < i -> ¬ st.is l Oh := fun q => mE 0 q
  have n1 : 1 < i -> ¬ st.is l Ws := fun q => mE 1 q
  have n2 : 2 < i -> ¬ st.is l Av := fun q => mE 2 q
  have n3 : 3 < i -> ¬ st.is l Oi := fun q => mE 3 q
  have n4 : 4 < i -> ¬ st.is l Ax := fun q => mE 4 q
  have n5 : 5 < i -> ¬ st.is l oJ := fun q => mE 5 q
  have n6 : 6 < i -> ¬ st.is l vw := fun q => mE 6 q
  match i, hi with
  | 0, _ =>
   rw [if_pos (show st.is l Oh from zh)] at bM;obtain ⟨rfl, rfl⟩ := eO _ _ _ _ ▸ pH bM
   exact Q2 ht on hr hX
  | 1, _ =>
   rw [if_neg (n0 (by omega)), if_pos (show st.is l Ws from zh)] at bM;exact Og ht ih on VO hr bM hX
  | 2, _ =>
   rw [if_neg (n0 (by omega)), if_neg (n1 (by omega)), if_pos (show st.is l Av from zh)] at bM;exact KJ ht ih on VO hr bM hX
  | 3, _ =>
   rw [if_neg (n0 (by omega)), if_neg (n1 (by omega)), if_neg (n2 (by omega)), if_pos (show st.is l Oi from zh)] at bM;exact RM ht ih on VO hr bM hX
  | 4, _ =>
   rw [if_neg (n0 (by omega)), if_neg (n1 (by omega)), if_neg (n2 (by omega)), if_neg (n3 (by omega)), if_pos (show st.is l Ax from zh)] at bM;obtain ⟨rfl, rfl⟩ := eO _ _ _ _ ▸ pH bM
   exact Mi ht on hr hX
  | 5, _ =>
   rw [if_neg (n0 (by omega)), if_neg (n1 (by omega)), if_neg (n2 (by omega)), if_neg (n3 (by omega)), if_neg (n4 (by omega)), if_pos (show st.is l oJ from zh)] at bM;obtain ⟨rfl, rfl⟩ := eO _ _ _ _ ▸ pH bM
   exact Px ht on hr hX
  | 6, _ =>
   rw [if_neg (n0 (by omega)), if_neg (n1 (by omega)), if_neg (n2 (by omega)), if_neg (n3 (by omega)), if_neg (n4 (by omega)), if_neg (n5 (by omega)), if_pos (show st.is l vw from zh)] at bM;obtain ⟨rfl, rfl⟩ := eO _ _ _ _ ▸ pH bM
   exact Qo ht on hr hX
  | 7, _ =>
   rw [if_neg (n0 (by omega)), if_neg (n1 (by omega)), if_neg (n2 (by omega)), if_neg (n3 (by omega)), if_neg (n4 (by omega)), if_neg (n5 (by omega)), if_neg (n6 (by omega)), if_pos (show st.is l DR from zh)] at bM;obtain ⟨rfl, rfl⟩ := eO _ _ _ _ ▸ pH bM
   exact K9 ht on hr hX
 generalize hC : exec (UT B K) (aE.loop b6) _ _ = C at hX
 obtain ⟨o', rfl, hh⟩ := iD hC (Ox ht o r0 e0 e1 KC K8 bD (by simp only [aq, Nat.reduceBEq ]) (by simp only [aq, Nat.reduceBEq ]) (by simp only [aq, Nat.reduceBEq ]) (by simp only [aq, Nat.reduceBEq ]) (by simp only [aq, Nat.reduceBEq ]) (by simp only [aq, Nat.reduceBEq ]))
 clear hC;rcases hh with ⟨i, hi, mE, zh, fr', m', rfl, f2, fd, r1, k1⟩ | ⟨mE, fr', m', rfl, f1, fd, r1, k1⟩
 ·simp +contextual -implicitDefEqProofs (maxSteps := 1000000) (maxDischargeDepth := 8) only [f2, fd, ax, ab, implies_true, simprocAttr] at hX
  subst hX;exact ⟨_, rfl, r1.bO fun c hc => .inl hc, k0.trans (k1.bO fun c hc => .inl hc)⟩
 ·simp only [lR] at bM
  rw [if_neg (show ¬ st.is l Oh from mE 0 (by omega)), if_neg (show ¬ st.is l Ws from mE 1 (by omega)), if_neg (show ¬ st.is l Av from mE 2 (by omega)), if_neg (show ¬ st.is l Oi from mE 3 (by omega)), if_neg (show ¬ st.is l Ax from mE 4 (by omega)), if_neg (show ¬ st.is l oJ from mE 5 (by omega)), if_neg (show ¬ st.is l vw from mE 6 (by omega)), if_neg (show ¬ st.is l DR from mE 7 (by omega))] at bM;obtain ⟨rfl, rfl⟩ := eO _ _ _ _ ▸ pH bM
  have e2 := (k1.k _ KC).trans e0
  have n2 := r1.mb KC
  simp +contextual -implicitDefEqProofs (maxSteps := 1000000) (maxDischargeDepth := 8) only [f1, fd, e2, n2, ax, ab, implies_true, simprocAttr] at hX
  generalize hC : run U nq _ _ = C at hX
  obtain ⟨m3, rfl, r3, k3⟩ := Lp ht o r1 hC
  clear hC;simp +contextual -implicitDefEqProofs (maxSteps := 1000000) (maxDischargeDepth := 8) only [fd, ax, ab, implies_true, simprocAttr] at hX
  subst hX;exact ⟨_, rfl, r3.bO fun c hc => .inl hc, k0.trans ((k1.trans k3).bO fun c hc => .inl hc)⟩
end
end
section
def N7 (l : List Tok) (tg k : Nat) : Prop := ∀ (out : List Int) (v pv : EV) (st : RS) (fr : Fr) (m : Mem) (b n0 bx : Nat) (P : Nat -> Prop) (s1 : RS) (r : List Int) (X : Option Out), eA l st -> 8 * (l.length - st.pos) + (PC.kr out).bi < k -> st.fe = 0 -> out.length <= st.pos -> lR l k (.kr out) st = some (s1, r) -> Rd m b tg l st (Pv P v) -> (∀ c, P c -> c < n0) -> n0 <= m.next -> jF m v (is out) out.length 1 n0 -> (out = [] -> v = .ae) -> m.get bx = .cells [.ptr b 0] 1 ah false -> P bx -> fr.get 1 = .ptr bx 0 -> fr.get 3 = pv -> fr.get 4 = v -> fr.defers = [] -> exec U (.loop dS) fr m = X -> ∃ fr' m' v', X = some (.exit 0 fr' m') /\ fr'.get 1 = .ptr bx 0 /\ fr'.get 3 = pv /\ fr'.get 4 = v' /\ fr'.defers = [] /\ jF m' v' (is r) r.length 1 n0 /\ Rd m' b tg l s1 (Pv P v') /\ Kp m m' P /\ (r = [] -> v' = .ae)
section
variable {tg : Nat} {l : List Tok}
theorem Qf (ht : bS l) {k : Nat} {st : RS} (o : eA l st) (hk : 8 * (l.length - st.pos) + PC.stmt.bi < k) {s1 : RS} {r : List Int} (e : lR l k .stmt st = some (s1, r)) : Gr l st s1 /\ (s1.fe = 0 -> st.pos < s1.pos) /\ ∃ x, r = [x] := by
 obtain ⟨s2, r2, e2, g, a, mo⟩ := kU ht k .stmt st o.p hk trivial
 rw [e] at e2;obtain ⟨rfl, rfl⟩ := eO _ _ _ _ ▸ pH e2
 exact ⟨g, mo, jJ a⟩
theorem Ml (ht : bS l) {k : Nat} (JH : Wl l tg k) (LL : N7 l tg k) : N7 l tg (k + 1) := by
 intro out v pv st fr m b n0 bx P s1 r X o hk ji hm bM h hP uw eF hz qn px h1 h3 h4 hd hX
 have hkv : v.cells = some [v] := by rcases eF.is with ⟨rfl, _⟩ | ⟨_, _, _, rfl, _⟩ <;> rfl
 rw [eB] at hX;generalize hL : exec U (.loop dS) = L at hX
 have nx := h.mb (.inl px)
 simp +contextual -implicitDefEqProofs (maxSteps := 1000000) (maxDischargeDepth := 8) only [dS, h1, h3, h4, hd, qn, nx, ax, ab, implies_true, simprocAttr] at hX
 generalize hC : run U aU _ _ = C at hX
 obtain ⟨m1, rfl, r1, k1⟩ := oY ht o h hC
 clear hC;have ED := eF.kp k1 fun c hc => .inr hc
 have Zp := (k1.k _ (.inl px)).trans qn
 have nx1 := r1.mb (.inl px)
 simp only [lR] at bM;by_cases hq : st.is l [125]
 ·rw [eT hq] at hX
  rw [if_pos hq] at bM;rw [show st.skip l [125] = st.next from if_pos hq] at r1
  obtain ⟨rfl, rfl⟩ := eO _ _ _ _ ▸ pH bM
  simp +contextual -implicitDefEqProofs (maxSteps := 1000000) (maxDischargeDepth := 8) only [h1, h3, h4, hd, ax, ab, implies_true, simprocAttr] at hX
  subst hX;exact ⟨_, _, v, rfl, by simp only [h1, aq, Nat.reduceBEq ], by simp only [h3, aq, Nat.reduceBEq ], by simp only [h4, aq, Nat.reduceBEq ], by simp only [hd, aq, Nat.reduceBEq ], ED, r1, k1.bO fun c hc => .inl hc, hz⟩
 ·rw [eU hq] at hX
  rw [if_neg hq] at bM;rw [show st.skip l [125] = st from if_neg hq] at r1
  simp +contextual -implicitDefEqProofs (maxSteps := 1000000) (maxDischargeDepth := 8) only [h1, h3, h4, hd, Zp, nx1, ax, ab, implies_true, simprocAttr] at hX
  have PS : 8 * (l.length - st.pos) + PC.stmt.bi < k := by simp only [PC.bi] at *; omega
  obtain ⟨s2, r2, e, _⟩ := kU ht k .stmt st o.p PS trivial
  obtain ⟨g, mo, x, rfl⟩ := Qf ht o PS e
  simp only [e, Option.bind_some] at bM;have o2 := g.ok o
  generalize hC : run U kA _ _ = C at hX
  obtain ⟨m2, rfl, r2, k2⟩ := JH _ _ _ _ _ _ _ o PS e r1 hC
  clear hC;have jn := ED.kp k2 fun c hc => .inr hc
  have PV := (k2.k _ (.inl px)).trans Zp
  have WI := (k1.trans k2).bO (Q := P) fun c hc => .inl hc
  obtain ⟨v2, M2, ha, mf, r3, k3⟩ := rv (out := out) (x := x) r2 hP (pN uw WI.n) jn (by have := o.p; have := ht.lt; omega)
  have ex3 := (k3.k _ px).trans PV
  have nx3 := r3.mb (.inl px)
  have k13 := WI.trans k3
  have hF := xF (b := b) (tg := tg) (l := l) (st := s2) (P := Pv P v2)
  by_cases hf : s2.fe = 0
  ·rw [if_pos hf] at bM
   simp +contextual -implicitDefEqProofs (maxSteps := 1000000) (maxDischargeDepth := 8) only [h1, h3, h4, hd, ha, ex3, nx3, hF, r3, hf, List.headD_cons, gL, ax, ab, implies_true, simprocAttr] at hX
   subst hL;have bn := mo hf
   have IN := g.pl
   obtain ⟨fr', m', v', rfl, q1, q3, q4, qd, qo, qr, qk, qz⟩ := LL (out ++ [x]) v2 pv _ _ _ _ n0 bx P _ _ _ o2 (by simp only [PC.bi] at *; omega) hf (by rw [jz, List.length_singleton]; omega) bM (ak r3) hP (pN uw (pN k13.n (by rw [bu]; exact bI))) (mf.kp (aR r3) fun c hc => .inr hc) (by simp) ex3 px (by simp only [h1, aq, Nat.reduceBEq ]) (by simp only [h3, aq, Nat.reduceBEq ]) (by simp only [aq, Nat.reduceBEq ]) (by simp only [hd, aq, Nat.reduceBEq ]) hX
   exact ⟨fr', m', v', rfl, q1, q3, q4, qd, qo, qr, (k13.trans ((aR r3).bO fun c hc => .inl hc)).trans qk, qz⟩
  ·rw [if_neg hf] at bM
   obtain ⟨rfl, rfl⟩ := eO _ _ _ _ ▸ pH bM
   simp +contextual -implicitDefEqProofs (maxSteps := 1000000) (maxDischargeDepth := 8) only [h1, h3, h4, hd, ha, ex3, nx3, hF, r3, hf, List.headD_cons, fT, ax, ab, implies_true, simprocAttr] at hX
   subst hX;exact ⟨_, _, v2, rfl, by simp only [h1, aq, Nat.reduceBEq ], by simp only [h3, aq, Nat.reduceBEq ], by simp only [aq, Nat.reduceBEq ], by simp only [hd, aq, Nat.reduceBEq ], mf.kp (aR r3) fun c hc => .inr hc, ak r3, k13.trans ((aR r3).bO fun c hc => .inl hc), by simp⟩
theorem Mk (ht : bS l) {k : Nat} (ih : N7 l tg k) : PK l tg (k + 1) := by
 intro st m b P s1 r X o hk bM h hX
 rw [bY (by simp [da])] at hX
 generalize hL : exec (UT B K) (aE.loop dS) = L at hX
 have hT := jG (b := b) (tg := tg) (P := P) ht o
 simp +contextual -implicitDefEqProofs (maxSteps := 1000000) (maxDischargeDepth := 8) only [da, hT, h, dg, ak, ax, ab, implies_true, simprocAttr] at hX
 obtain ⟨r0, x0⟩ := Bx.start h 19
 generalize bump (ext m [.cells [.ptr b 0] 1 ah false]) 19 = M0 at *
 generalize hC : run U aP _ _ = C at hX
 obtain ⟨m1, rfl, r1, k1⟩ := nV ht o r0 hC
 clear hC;have x1 := x0.step k1 (fun c hc => .inl hc) rz
 have y1 := x1.g
 have z1 := x1.n
 simp only [lR] at bM;by_cases hq : st.is l [123]
 ·rw [eT hq] at hX
  rw [if_pos hq] at bM;have hn := is_lt ht o.p hq
  have on : eA l st.next := (Gr.next hn).ok o
  rw [show st.want l [123] = st.next from if_pos hq] at r1
  simp +contextual -implicitDefEqProofs (maxSteps := 1000000) (maxDischargeDepth := 8) only [y1, z1, ax, ab, implies_true, simprocAttr] at hX
  generalize hC : run U eJ _ _ = C at hX
  obtain ⟨m2, rfl, r2, k2⟩ := Jh ht on r1 hC
  clear hC;have x2 := x1.step k2 (fun c hc => .inl hc) rz
  have y2 := x2.g
  have z2 := x2.n
  have go := Gr.open hn (p := ((st.now l).pos : Int))
  have oo := go.ok o
  obtain ⟨q1, q2, q3⟩ := lE (st := st.next) (p := ((st.now l).pos : Int))
  by_cases hf : (st.next.open (st.now l).pos).fe = 0
  ·rw [if_pos hf] at bM
   have KD : 8 * (l.length - (st.next.open (st.now l).pos).pos) + (PC.kr []).bi < k := by rw [q1]; simp only [PC.bi, RS.next] at *; omega
   obtain ⟨s2, rr, e, g, a, _⟩ := kU ht k (.kr []) (st.next.open (st.now l).pos) oo.p KD ⟨hf, ml _⟩
   simp only [e, Option.bind_some, uv] at bM;simp +contextual -implicitDefEqProofs (maxSteps := 1000000) (maxDischargeDepth := 8) only [y2, z2, hf, gL, ax, ab, implies_true, simprocAttr] at hX
   subst hL;generalize hC : exec (UT B K) (aE.loop dS) _ _ = C at hX
   obtain ⟨fr', m3, v, rfl, f1, f3, f4, fd, eF, r3, k3, hz⟩ := ih [] .ae (.int .i64 ((st.now l).pos : Int)) _ _ _ _ m2.next (nb m.next 0) (Pr P m.next (nb m.next 1)) _ _ _ oo KD hf (ml _) e r2.pv (fun c hc => r2.mb hc) (fy _) ⟨.inl ⟨rfl, rfl, rfl⟩, rfl⟩ (fun _ => rfl) y2 rz (by simp only [aq, Nat.reduceBEq ]) (by simp only [aq, Nat.reduceBEq ]) (by simp only [aq, Nat.reduceBEq ]) (by simp only [aq, Nat.reduceBEq ]) hC
   clear hC;have x3 := x2.step k3 (fun c hc => .inl hc) rz
   have y3 := x3.g
   have z3 := x3.n
   have o3 := g.ok oo
   have gc := (go.trans g).close (by have := g.d0; rw [q2] at this; simp only [RS.next] at this; exact this)
   have WN : v.cells = some [v] := by rcases eF.is with ⟨rfl, _⟩ | ⟨_, _, _, rfl, _⟩ <;> rfl
   simp +contextual -implicitDefEqProofs (maxSteps := 1000000) (maxDischargeDepth := 8) only [f1, f3, f4, fd, y3, z3, ax, ab, implies_true, simprocAttr] at hX
   generalize hC : run U dB _ _ = C at hX
   obtain ⟨m4, rfl, r4, k4⟩ := A7 ht o3 r3 hC
   clear hC;have x4 := x3.step k4 (fun c hc => .inl (.inl hc)) (.inl rz)
   have y4 := x4.g
   have z4 := x4.n
   have nz := eF.kp k4 fun c hc => .inr hc
   simp +contextual -implicitDefEqProofs (maxSteps := 1000000) (maxDischargeDepth := 8) only [f1, f3, f4, fd, y4, z4, WN, ax, ab, implies_true, simprocAttr] at hX
   generalize hC : run U aA _ _ = C at hX
   obtain ⟨m5, rfl, r5, k5⟩ := pL (P := Pr P m.next (nb m.next 1)) (kids := rr) ht (gc.ok o) r4 (by have : rr.length <= s2.pos + 1 := a; have := o3.p; have := ht.lt; omega) nz.Vj (fun c hc => .inr hc) (fun c hc => ⟨.inl hc, nz.lt (.inr (r2.mb hc))⟩) hz hC
   clear hC;simp +contextual -implicitDefEqProofs (maxSteps := 1000000) (maxDischargeDepth := 8) only [fd, ax, ab, implies_true, simprocAttr] at hX
   subst hX;obtain ⟨rfl, rfl⟩ := eO _ _ _ _ ▸ pH bM
   exact ⟨_, rfl, r5.bO fun c hc => .inl hc, x4.k.trans (k5.bO fun c hc => .inl hc)⟩
  ·rw [if_neg hf] at bM
   obtain ⟨rfl, rfl⟩ := eO _ _ _ _ ▸ pH bM
   simp +contextual -implicitDefEqProofs (maxSteps := 1000000) (maxDischargeDepth := 8) only [y2, z2, hf, fT, ax, ab, implies_true, simprocAttr] at hX
   subst hX;exact ⟨_, rfl, r2.bO fun c hc => .inl hc, x2.k⟩
 ·rw [eU hq] at hX
  rw [if_neg hq] at bM;obtain ⟨rfl, rfl⟩ := eO _ _ _ _ ▸ pH bM
  rw [show st.want l [123] = st.fail 8 (st.now l).pos from if_neg hq] at r1
  simp +contextual -implicitDefEqProofs (maxSteps := 1000000) (maxDischargeDepth := 8) only [y1, z1, ax, ab, implies_true, simprocAttr] at hX
  subst hX;exact ⟨_, rfl, r1.bO fun c hc => .inl hc, x1.k⟩
structure ad2 (l : List Tok) (tg k : Nat) : Prop where
 SH : Wl l tg k
 de : PK l tg k
 YJ : N7 l tg k
theorem P2 (ht : bS l) : ∀ k, ad2 l tg k := by
 intro k
 induction k with
 | zero => exact ⟨fun _ _ _ _ _ _ _ _ q => absurd q (by omega), fun _ _ _ _ _ _ _ _ q => absurd q (by omega), fun _ _ _ _ _ _ _ _ _ _ _ _ _ _ q => absurd q (by omega)⟩
 | succ k ih => exact ⟨Ow ht ih.de, Mk ht ih.YJ, Ml ht ih.SH ih.YJ⟩
end
end
section
def R9 (l : List Tok) (tg k : Nat) : Prop := ∀ (out : List Int) (v : EV) (st : RS) (fr : Fr) (m : Mem) (b n0 bx : Nat) (P : Nat -> Prop) (s1 : RS) (r : List Int) (X : Option Out), eA l st -> 8 * (l.length - st.pos) + (PC.rA out).bi < k -> out.length <= 8 -> lR l k (.rA out) st = some (s1, r) -> Rd m b tg l st (Pv P v) -> (∀ c, P c -> c < n0) -> n0 <= m.next -> jF m v (is out) out.length 1 n0 -> (out = [] -> v = .ae) -> m.get bx = .cells [.ptr b 0] 1 ah false -> P bx -> fr.get 1 = .ptr bx 0 -> fr.get 3 = v -> fr.get 4 = .bool true -> fr.defers = [] -> exec U (.loop aF) fr m = X -> ∃ fr' m' v', X = some (.exit 0 fr' m') /\ fr'.get 1 = .ptr bx 0 /\ fr'.get 3 = v' /\ fr'.defers = [] /\ jF m' v' (is r) r.length 1 n0 /\ Rd m' b tg l s1 (Pv P v') /\ Kp m m' P /\ (r = [] -> v' = .ae)
section
variable {tg : Nat} {l : List Tok} {m : Mem} {b : Nat} {st : RS} {P : Nat -> Prop}
theorem MH {v : EV} {out : List Int} {x : Int} {n0 c : Nat} (h : Rd m b tg l st (Pv P v)) (hP : ∀ c, P c -> c < n0) (uw : n0 <= m.next) (eF : jF m v (is out) out.length 1 n0) (hl : out.length < 1000000) (hc : m.get c = .cells [.int .i64 x] 1 bC false) :
  ∃ v2 M2, fS m bC 1 v (.slice c 0 1 (some 1)) = some (v2, M2) /\ jF M2 v2 (is (out ++ [x])) (out ++ [x]).length 1 n0 /\ Rd M2 b tg l st (Pv P v2) /\ Kp m M2 P := by
 obtain ⟨ha, jn⟩ := gj (e := bC) eF uw (oK (cap := some 1) hc rfl) rfl (by decide) (by unfold room; omega)
 have Rm := Rd.grow (e := bC) (n := out.length + 1) (cs := is out ++ [.int .i64 x]) h fun c hc => eF.lt (.inr (hP c hc))
 have FO : Kp m (grow m v bC 1 (is out ++ [.int .i64 x])) P := ⟨by rw [iJ]; exact bI, fun c hc => jq (h.mb (.inl hc)) (eF.lt (.inr (hP c hc)))⟩
 refine ⟨_, _, ha, ?_, Rm, FO⟩
 rw [CI, jz]; exact jn
theorem Qv (ht : bS l) {k : Nat} (ih : R9 l tg k) : R9 l tg (k + 1) := by
 intro out v st fr m b n0 bx P s1 r X o hk hm bM h hP uw eF hz qn px h1 h3 h4 hd hX
 have hlen : ∀ M, Es v M = some (.val (.int .i64 (out.length : Int)) M) := fun M => by
  rcases eF.is with ⟨rfl, q, _⟩ | ⟨kb, cap, t, rfl, _⟩
  ·rw [q]; rfl
  ·rfl
 have hF := xF (b := b) (tg := tg) (l := l) (st := st) (P := Pv P v)
 have hT := jG (b := b) (tg := tg) (P := Pv P v) ht o
 have nx := h.mb (.inl px)
 rw [eB] at hX;generalize hL : exec U (.loop aF) = L at hX
 simp only [lR] at bM;by_cases hf : st.fe = 0
 ·rw [if_pos hf] at bM
  simp +contextual -implicitDefEqProofs (maxSteps := 1000000) (maxDischargeDepth := 8) only [aF, h1, h3, h4, hd, qn, nx, hF, hT, h, hf, gL, ak, ax, ab, implies_true, simprocAttr] at hX
  have h0 := ak (k := 19) (ak (k := 2) h)
  have k0 := (aR (k := 2) h).trans (aR (k := 19) (ak (k := 2) h))
  generalize hC : run U eK _ _ = C at hX
  obtain ⟨m1, rfl, r1, k1⟩ := np ht o h0 hC
  clear hC;have Y4 := k0.trans k1
  have ED := eF.kp Y4 fun c hc => .inr hc
  have Zp := (Y4.k _ (.inl px)).trans qn
  have nx1 := r1.mb (.inl px)
  have g1 := Gr.name ht o.p
  have o1 := g1.ok o
  have h8 : ((out.length : Int) = 8) = (out.length = 8) := propext (by omega)
  simp +contextual -implicitDefEqProofs (maxSteps := 1000000) (maxDischargeDepth := 8) only [h1, h3, h4, hd, Zp, nx1, hlen, h8, ax, ab, implies_true, simprocAttr] at hX
  obtain ⟨na1, na2, na3⟩ := CE (st := st) (l := l)
  by_cases q8 : out.length = 8
  ·rw [AQ q8] at hX
   rw [if_pos q8] at bM;generalize hC : run U dU _ _ = C at hX
   obtain ⟨m2, rfl, r2, k2⟩ := J0 r1 hC
   clear hC;have g2 : Gr l st ((st.name l).fail 3 (st.now l).pos) := g1.trans (.fail g1.pl (by decide))
   have t2 : ((st.name l).fail 3 (st.now l).pos).tree = st.tree := by rw [c6.2.2.1, na1]
   have f2 : ((st.name l).fail 3 (st.now l).pos).fe = 0 -> st.pos + 1 <= ((st.name l).fail 3 (st.now l).pos).pos := fun q => absurd q (ej (by decide))
   have lt8 : ((st.name l).fail 3 (st.now l).pos).fe = 0 -> out.length < 8 := fun q => absurd q (ej (by decide))
   generalize hS0 : (st.name l).fail 3 (st.now l).pos = S0 at *
   have Gy := Y4.trans k2
   have o2 := g2.ok o
   have jn := eF.kp Gy fun c hc => .inr hc
   have PV := (Gy.k _ (.inl px)).trans qn
   have Uc := r2.mb (.inl px)
   have p8 : ((jm l S0).1.put (nd 24 [] (jm l S0).2 (st.cr l) (st.now l).pos)).fe = 0 -> st.pos < ((jm l S0).1.put (nd 24 [] (jm l S0).2 (st.cr l) (st.now l).pos)).pos := fun q => by
    have gk := (pj ht o2.p).1
    have := f2 (gk.f (xG q)); have := gk.p
    rw [ol]; omega
   have l8 : ((jm l S0).1.put (nd 24 [] (jm l S0).2 (st.cr l) (st.now l).pos)).fe = 0 -> out.length < 8 := fun q => by
    have gk := (pj ht o2.p).1
    exact lt8 (gk.f (xG q))
   simp +contextual -implicitDefEqProofs (maxSteps := 1000000) (maxDischargeDepth := 8) only [h1, h3, h4, hd, PV, Uc, ax, ab, implies_true, simprocAttr] at hX
   have rb := jH r2 12
   generalize hC : run U iu _ _ = C at hX
   obtain ⟨m7, rfl, r7, k7⟩ := Q5 ht o2 rb hC
   clear hC;obtain ⟨gk, tk, _, _⟩ := pj ht o2.p
   have o7 := gk.ok o2
   have e7 := (k7.k _ (.inl (.inl px))).trans PV
   generalize hS7 : (jm l S0).1 = s7 at *
   generalize (jm l S0).2 = kd at *
   simp +contextual -implicitDefEqProofs (maxSteps := 1000000) (maxDischargeDepth := 8) only [e7, ax, ab, implies_true, simprocAttr] at hX
   generalize hC : run U aA _ _ = C at hX
   obtain ⟨m8, rfl, r8, k8⟩ := pL (P := Pr (Pv P v) m2.next (m2.next + 12)) (kids := []) ht o7 r7 (by simp) ⟨.inl ⟨rfl, rfl, rfl⟩, rfl⟩ (fun c hc => absurd gq.nil hc) (fun c hc => ⟨hc, gq.nil⟩) (by simp) hC
   clear hC;have o8 : eA l (s7.put (nd 24 [] kd (st.cr l) (st.now l).pos)) := ((g2.trans gk).lay (fun w => by have := gk.p; have := f2 (gk.f w); rw [tk, t2]; omega)).ok o
   generalize s7.put (nd 24 [] kd (st.cr l) (st.now l).pos) = s8 at *
   generalize s7.fV (nd 24 [] kd (st.cr l) (st.now l).pos) = y at *
   have hM : ∀ B, Mem.mk m8.next (ext (Mem.mk (m2.next + 9) m8.gH) [B]).gH = m8.set (m2.next + 9) B := fun _ => rfl
   obtain ⟨r9, k9, n9, p9, Tu⟩ := drawn (c := m2.next + 9) r2 (by omega) (by omega) r8 (k7.trans k8) [.int .i64 y]
   have hM9 : (m8.set (m2.next + 9) (.cells [.int .i64 y] 1 bC false)).get (m2.next + 9) = .cells [.int .i64 y] 1 bC false := bJ
   have Ro := jn.kp k9 fun c hc => .inr hc
   have Xw := (Gy.trans k9).bO (Q := P) fun c hc => .inl hc
   simp +contextual -implicitDefEqProofs (maxSteps := 1000000) (maxDischargeDepth := 8) only [hM, ax, ab, implies_true, simprocAttr] at hX
   generalize m8.set (m2.next + 9) (.cells [.int .i64 y] 1 bC false) = M9 at *
   have hs : nb (m2.next + 9) 0 = m2.next + 9 := rfl
   rw [hs] at hX;obtain ⟨v2, M2, ha, mf, r3, k3⟩ := MH (x := y) (r9.bO (Q := Pv P v) fun c hc => .inl hc) hP (pN uw Xw.n) Ro (by omega) hM9
   have M5 := Xw.trans k3
   have e3 := (M5.k _ px).trans qn
   have n3 := r3.mb (.inl px)
   simp +contextual -implicitDefEqProofs (maxSteps := 1000000) (maxDischargeDepth := 8) only [ha, e3, n3, h1, ax, ab, implies_true, simprocAttr] at hX
   generalize hC : run U aU _ _ = C at hX
   obtain ⟨m4, rfl, r4, k4⟩ := oY ht o8 r3 hC
   clear hC;have nz := mf.kp k4 fun c hc => .inr hc
   have CH := M5.trans (k4.bO fun c hc => .inl hc)
   have e4 := (CH.k _ px).trans qn
   have n4 := r4.mb (.inl px)
   by_cases hq : s8.is l [44]
   ·rw [if_pos hq] at bM
    rw [eT hq] at hX;rw [show s8.skip l [44] = s8.next from if_pos hq] at r4
    simp +contextual -implicitDefEqProofs (maxSteps := 1000000) (maxDischargeDepth := 8) only [ax, ab, implies_true, simprocAttr] at hX
    subst hL;have hn := is_lt ht o8.p hq
    obtain ⟨fr', m', v', rfl, q1, q3, qd, qo, qr, qk, qz⟩ := ih (out ++ [y]) v2 _ _ _ _ n0 bx P _ _ _ ((Gr.next hn).ok o8) (by have := p8 hq.1; have := o8.p; simp only [PC.bi, RS.next] at *; omega) (by rw [jz, List.length_singleton]; have := l8 hq.1; omega) bM r4 hP (pN uw CH.n) nz (by simp) e4 px (by simp only [h1, aq, Nat.reduceBEq ]) (by simp only [aq, Nat.reduceBEq ]) (by simp only [aq, Nat.reduceBEq ]) (by simp only [hd, aq, Nat.reduceBEq ]) hX
    exact ⟨fr', m', v', rfl, q1, q3, qd, qo, qr, CH.trans qk, qz⟩
   ·rw [if_neg hq] at bM
    obtain ⟨rfl, rfl⟩ := eO _ _ _ _ ▸ pH bM
    rw [eU hq] at hX;rw [show s8.skip l [44] = s8 from if_neg hq] at r4
    simp +contextual -implicitDefEqProofs (maxSteps := 1000000) (maxDischargeDepth := 8) only [ax, ab, implies_true, simprocAttr] at hX
    subst hL;rw [eB] at hX;generalize exec U (.loop aF) = L at hX
    simp +contextual -implicitDefEqProofs (maxSteps := 1000000) (maxDischargeDepth := 8) only [aF, h1, hd, ax, ab, implies_true, simprocAttr] at hX
    subst hX;exact ⟨_, _, v2, rfl, by simp only [h1, aq, Nat.reduceBEq ], by simp only [aq, Nat.reduceBEq ], by simp only [hd, aq, Nat.reduceBEq ], nz, r4, CH, by simp⟩
  ·rw [AR q8] at hX
   rw [if_neg q8] at bM;have g2 := g1
   have t2 := na1
   have f2 : (st.name l).fe = 0 -> st.pos + 1 <= (st.name l).pos := fun q => by rw [na3 q]; exact fy _
   have lt8 : (st.name l).fe = 0 -> out.length < 8 := fun _ => by omega
   have r2 := r1
   have Gy := Y4
   generalize hm2 : m1 = m2 at r2 Gy hX
   clear hm2;generalize hS0 : st.name l = S0 at *
   have o2 := g2.ok o
   have jn := eF.kp Gy fun c hc => .inr hc
   have PV := (Gy.k _ (.inl px)).trans qn
   have Uc := r2.mb (.inl px)
   have p8 : ((jm l S0).1.put (nd 24 [] (jm l S0).2 (st.cr l) (st.now l).pos)).fe = 0 -> st.pos < ((jm l S0).1.put (nd 24 [] (jm l S0).2 (st.cr l) (st.now l).pos)).pos := fun q => by
    have gk := (pj ht o2.p).1
    have := f2 (gk.f (xG q)); have := gk.p
    rw [ol]; omega
   have l8 : ((jm l S0).1.put (nd 24 [] (jm l S0).2 (st.cr l) (st.now l).pos)).fe = 0 -> out.length < 8 := fun q => by
    have gk := (pj ht o2.p).1
    exact lt8 (gk.f (xG q))
   have rb := jH r2 12
   generalize hC : run U iu _ _ = C at hX
   obtain ⟨m7, rfl, r7, k7⟩ := Q5 ht o2 rb hC
   clear hC;obtain ⟨gk, tk, _, _⟩ := pj ht o2.p
   have o7 := gk.ok o2
   have e7 := (k7.k _ (.inl (.inl px))).trans PV
   generalize hS7 : (jm l S0).1 = s7 at *
   generalize (jm l S0).2 = kd at *
   simp +contextual -implicitDefEqProofs (maxSteps := 1000000) (maxDischargeDepth := 8) only [e7, ax, ab, implies_true, simprocAttr] at hX
   generalize hC : run U aA _ _ = C at hX
   obtain ⟨m8, rfl, r8, k8⟩ := pL (P := Pr (Pv P v) m2.next (m2.next + 12)) (kids := []) ht o7 r7 (by simp) ⟨.inl ⟨rfl, rfl, rfl⟩, rfl⟩ (fun c hc => absurd gq.nil hc) (fun c hc => ⟨hc, gq.nil⟩) (by simp) hC
   clear hC;have o8 : eA l (s7.put (nd 24 [] kd (st.cr l) (st.now l).pos)) := ((g2.trans gk).lay (fun w => by have := gk.p; have := f2 (gk.f w); rw [tk, t2]; omega)).ok o
   generalize s7.put (nd 24 [] kd (st.cr l) (st.now l).pos) = s8 at *
   generalize s7.fV (nd 24 [] kd (st.cr l) (st.now l).pos) = y at *
   have hM : ∀ B, Mem.mk m8.next (ext (Mem.mk (m2.next + 9) m8.gH) [B]).gH = m8.set (m2.next + 9) B := fun _ => rfl
   obtain ⟨r9, k9, n9, p9, Tu⟩ := drawn (c := m2.next + 9) r2 (by omega) (by omega) r8 (k7.trans k8) [.int .i64 y]
   have hM9 : (m8.set (m2.next + 9) (.cells [.int .i64 y] 1 bC false)).get (m2.next + 9) = .cells [.int .i64 y] 1 bC false := bJ
   have Ro := jn.kp k9 fun c hc => .inr hc
   have Xw := (Gy.trans k9).bO (Q := P) fun c hc => .inl hc
   simp +contextual -implicitDefEqProofs (maxSteps := 1000000) (maxDischargeDepth := 8) only [hM, ax, ab, implies_true, simprocAttr] at hX
   generalize m8.set (m2.next + 9) (.cells [.int .i64 y] 1 bC false) = M9 at *
   have hs : nb (m2.next + 9) 0 = m2.next + 9 := rfl
   rw [hs] at hX;obtain ⟨v2, M2, ha, mf, r3, k3⟩ := MH (x := y) (r9.bO (Q := Pv P v) fun c hc => .inl hc) hP (pN uw Xw.n) Ro (by omega) hM9
   have M5 := Xw.trans k3
   have e3 := (M5.k _ px).trans qn
   have n3 := r3.mb (.inl px)
   simp +contextual -implicitDefEqProofs (maxSteps := 1000000) (maxDischargeDepth := 8) only [ha, e3, n3, h1, ax, ab, implies_true, simprocAttr] at hX
   generalize hC : run U aU _ _ = C at hX
   obtain ⟨m4, rfl, r4, k4⟩ := oY ht o8 r3 hC
   clear hC;have nz := mf.kp k4 fun c hc => .inr hc
   have CH := M5.trans (k4.bO fun c hc => .inl hc)
   have e4 := (CH.k _ px).trans qn
   have n4 := r4.mb (.inl px)
   by_cases hq : s8.is l [44]
   ·rw [if_pos hq] at bM
    rw [eT hq] at hX;rw [show s8.skip l [44] = s8.next from if_pos hq] at r4
    simp +contextual -implicitDefEqProofs (maxSteps := 1000000) (maxDischargeDepth := 8) only [ax, ab, implies_true, simprocAttr] at hX
    subst hL;have hn := is_lt ht o8.p hq
    obtain ⟨fr', m', v', rfl, q1, q3, qd, qo, qr, qk, qz⟩ := ih (out ++ [y]) v2 _ _ _ _ n0 bx P _ _ _ ((Gr.next hn).ok o8) (by have := p8 hq.1; have := o8.p; simp only [PC.bi, RS.next] at *; omega) (by rw [jz, List.length_singleton]; have := l8 hq.1; omega) bM r4 hP (pN uw CH.n) nz (by simp) e4 px (by simp only [h1, aq, Nat.reduceBEq ]) (by simp only [aq, Nat.reduceBEq ]) (by simp only [aq, Nat.reduceBEq ]) (by simp only [hd, aq, Nat.reduceBEq ]) hX
    exact ⟨fr', m', v', rfl, q1, q3, qd, qo, qr, CH.trans qk, qz⟩
   ·rw [if_neg hq] at bM
    obtain ⟨rfl, rfl⟩ := eO _ _ _ _ ▸ pH bM
    rw [eU hq] at hX;rw [show s8.skip l [44] = s8 from if_neg hq] at r4
    simp +contextual -implicitDefEqProofs (maxSteps := 1000000) (maxDischargeDepth := 8) only [ax, ab, implies_true, simprocAttr] at hX
    subst hL;rw [eB] at hX;generalize exec U (.loop aF) = L at hX
    simp +contextual -implicitDefEqProofs (maxSteps := 1000000) (maxDischargeDepth := 8) only [aF, h1, hd, ax, ab, implies_true, simprocAttr] at hX
    subst hX;exact ⟨_, _, v2, rfl, by simp only [h1, aq, Nat.reduceBEq ], by simp only [aq, Nat.reduceBEq ], by simp only [hd, aq, Nat.reduceBEq ], nz, r4, CH, by simp⟩
 ·rw [if_neg hf] at bM
  obtain ⟨rfl, rfl⟩ := eO _ _ _ _ ▸ pH bM
  simp +contextual -implicitDefEqProofs (maxSteps := 1000000) (maxDischargeDepth := 8) only [aF, h1, h3, h4, hd, qn, nx, hF, hT, h, hf, gL, fT, ak, ax, ab, implies_true, simprocAttr] at hX
  subst hX;exact ⟨_, _, v, rfl, by simp only [h1, aq, Nat.reduceBEq ], by simp only [h3, aq, Nat.reduceBEq ], by simp only [hd, aq, Nat.reduceBEq ], eF.kp (aR h) fun c hc => .inr hc, ak h, (aR h).bO fun c hc => .inl hc, hz⟩
end
end
end Go.Proofs.YtdiccmapankckaaDoor.Ev
