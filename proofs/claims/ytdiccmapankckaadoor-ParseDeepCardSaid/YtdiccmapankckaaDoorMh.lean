/- WExpr9, WExpr10, PPa, WPa1, WPa2, WPa3, WPa4, WPa5, WPa6, WPa7, WPa8. -/
import Derived.Test.YtdiccmapankckaaDoorMg
set_option linter.unusedSimpArgs false
set_option linter.unusedVariables false
set_option linter.unusedSectionVars false
set_option linter.defProp false
set_option maxRecDepth 20000
set_option maxHeartbeats 8000000
namespace Go.Proofs.YtdiccmapankckaaDoor.Ev
open Go
section
theorem E7.next {m : Mem} {b tg : Nat} {l : List Tok} {st : RS} {P : Nat -> Prop} {tv hv : EV} {xs : List Nv} (h : E7 m b tg l st P tv hv xs) : Rd (m.set b (.cells [.fz tg 4 (mr l), .int .i64 ((st.pos + 1 : Nat) : Int), .int .i64 st.deep, tv, hv, .int .i64 st.fe, .int .i64 st.fp] 7 ai false)) b tg l st.next P /\ Kp m (m.set b (.cells [.fz tg 4 (mr l), .int .i64 ((st.pos + 1 : Nat) : Int), .int .i64 st.deep, tv, hv, .int .i64 st.fe, .int .i64 st.fp] 7 ai false)) P := by
 have u : qN m (m.set b (.cells (aZ tg l st.next tv hv) 7 ai false)) b (.cells (aZ tg l st.next tv hv) 7 ai false) := .set (fh _) fun _ _ _ => rfl
 exact ⟨⟨tv, hv, xs, h.NY rfl rfl u⟩, h.kp u⟩
theorem Rd.Qm {m : Mem} {b tg : Nat} {l : List Tok} {st : RS} {P : Nat -> Prop} (h : Rd m b tg l st P) {c0 : Nat} (hp : P c0) (B : fQ) : Rd (m.set c0 B) b tg l st P := by
 obtain ⟨tv, hv, xs, h⟩ := h
 have f := (h.p c0 hp).2
 have fk := h.pk c0 hp
 have key : ∀ c, c ≠ c0 -> (m.set c0 B).get c = m.get c := fun c hc => az hc
 exact ⟨tv, hv, xs, (key b (fun q => f.ne q.symm)).trans h.g, h.lt, h.t.gF (fh _) fun c _ _ ho => key c fun q => ho (q ▸ f.t), h.h.gF (fh _) fun c _ _ ho => key c fun q => ho (q ▸ f.h), h.a, h.x, h.hl, fun x hx => ⟨(h.k x hx).o.gF (fh _) fun c _ _ ho => key c fun q => ho (q ▸ fk x hx), (h.k x hx).f, (h.k x hx).nl, (h.k x hx).z⟩, h.p, h.pk⟩
section
variable {l : List Tok} {tg : Nat} (ht : bS l) {k : Nat}
include ht
theorem Pp (Jp : q9 l tg cu [.str [40], .str [41]] k (.inner [40] [41])) (Lv : NL l tg k) : q9 l tg jh [] (k + 1) .atom := by
 intro st m b P s1 r X o hk bM h hX
 rw [bX (by simp [bQ])] at hX
 have hT := jE (b := b) (tg := tg) (P := P) ht o
 have hF := JH (b := b) (tg := tg) (l := l) (st := st) (P := P)
 have hI := Vj (b := b) (tg := tg) (P := P) ht o
 have bt := h.lt
 by_cases im : st.fe = 0
 ·have b1 := eB im
  by_cases hp : st.is l [40]
  ·have b2 := eB hp
   simp +contextual -implicitDefEqProofs (maxSteps := 1000000) (maxDischargeDepth := 8) only [bQ, hT, hF, hI, h, b1, b2, da, ak, aq, aa, implies_true, simprocAttr] at hX
   simp only [jk, im, not_true_eq_false, if_false, if_pos hp] at bM;generalize hC : run U cu _ _ = C at hX
   have kp : Kp m (bump (bump (ext (bump m 19) [.cells [.int .i64 ((st.now l).kind : Int), .str (st.now l).text, .int .i64 ((st.now l).n : Int), .int .i64 ((st.now l).pos : Int)] 4 aB false]) 0) 20) P := h.kp (by simp +contextual -implicitDefEqProofs (maxSteps := 1000000) (maxDischargeDepth := 8) only [bE, Kq, Ko, Km, Kl, Kk, Kj, aa, implies_true, simprocAttr]) (fun c hc => by simp +contextual -implicitDefEqProofs (maxSteps := 1000000) (maxDischargeDepth := 8) only [hc, Kq, Ko, Km, Kl, Kk, Kj, aa, implies_true, simprocAttr])
   obtain ⟨m1, rfl, h1, k1⟩ := Jp _ _ _ P _ _ _ o (by simp only [gL.bg] at *; omega) bM (by simp (maxDischargeDepth := 20) only [da, ak, h]) hC
   clear hC;simp +contextual -implicitDefEqProofs (maxSteps := 1000000) (maxDischargeDepth := 8) only [aq, aa, implies_true, simprocAttr] at hX
   subst hX;exact ⟨_, rfl, h1, kp.trans k1⟩
  ·have b2 := eR hp
   by_cases q2 : (st.now l).kind = 2
   ·have b3 : bo (((st.now l).kind : Int) = 2) = .bool true := eB (by omega)
    have hn := qc ht o.p (by omega)
    have on : ez l st.next := (Gr.next hn).ok o
    simp only [jk, im, not_true_eq_false, if_false, if_neg hp, if_pos q2, bc, eM] at bM;obtain ⟨rfl, rfl⟩ := bM
    clear q2;obtain ⟨tv, hv, xs, h⟩ := h
    have hr : Rd m b tg l st P := ⟨tv, hv, xs, h⟩
    have hg := h.g
    have hw := cx (i := st.pos) (by have := o.p; have := ht.lt; omega)
    obtain ⟨Fj, Vh⟩ := h.next
    simp +contextual -implicitDefEqProofs (maxSteps := 1000000) (maxDischargeDepth := 8) only [bQ, hT, hF, hI, hr, b1, b2, b3, da, ak, hg, bt, hw, aq, aa, implies_true, simprocAttr] at hX
    generalize m.set b _ = m' at *
    generalize hC : run U ay _ _ = C at hX
    have RD : Rd (bump (bump (ext (bump m' 19) [.cells [.int .i64 ((st.now l).kind : Int), .str (st.now l).text, .int .i64 ((st.now l).n : Int), .int .i64 ((st.now l).pos : Int)] 4 aB false]) 0) 20) b tg l st.next P := by simp (maxDischargeDepth := 20) only [da, ak, Fj]
    have kp : Kp m' (bump (bump (ext (bump m' 19) [.cells [.int .i64 ((st.now l).kind : Int), .str (st.now l).text, .int .i64 ((st.now l).n : Int), .int .i64 ((st.now l).pos : Int)] 4 aB false]) 0) 20) P := Fj.kp (by simp +contextual -implicitDefEqProofs (maxSteps := 1000000) (maxDischargeDepth := 8) only [bE, Kq, Ko, Km, Kl, Kk, Kj, aa, implies_true, simprocAttr]) (fun c hc => by simp +contextual -implicitDefEqProofs (maxSteps := 1000000) (maxDischargeDepth := 8) only [hc, Kq, Ko, Km, Kl, Kk, Kj, aa, implies_true, simprocAttr])
    obtain ⟨m5, rfl, h5, k5⟩ := pG (P := P) (Q := P) (kids := []) ht on RD (by simp) ⟨.inl ⟨rfl, rfl, rfl⟩, rfl⟩ (fun c hc => absurd gz.nil hc) (fun c hc => ⟨hc, gz.nil⟩) (fun _ => rfl) hC
    clear hC;simp +contextual -implicitDefEqProofs (maxSteps := 1000000) (maxDischargeDepth := 8) only [aq, aa, implies_true, simprocAttr] at hX
    subst hX;exact ⟨_, rfl, h5, (Vh.trans kp).trans k5⟩
   ·have b3 : bo (((st.now l).kind : Int) = 2) = .bool false := eR (by omega)
    by_cases q1 : (st.now l).kind = 1
    ·have b4 : bo (((st.now l).kind : Int) = 1) = .bool true := eB (by omega)
     have hn := qc ht o.p (by omega)
     have on : ez l st.next := (Gr.next hn).ok o
     simp only [jk, im, not_true_eq_false, if_false, if_neg hp, if_neg q2, if_pos q1] at bM;clear q2 q1;obtain ⟨tv, hv, xs, h⟩ := h
     have hr : Rd m b tg l st P := ⟨tv, hv, xs, h⟩
     have hg := h.g
     have hw := cx (i := st.pos) (by have := o.p; have := ht.lt; omega)
     obtain ⟨Fj, Vh⟩ := h.next
     simp +contextual -implicitDefEqProofs (maxSteps := 1000000) (maxDischargeDepth := 8) only [bQ, hT, hF, hI, hr, b1, b2, b3, b4, da, ak, hg, bt, hw, aq, aa, implies_true, simprocAttr] at hX
     have afv : b < (m.set b (.cells [.fz tg 4 (mr l), .int .i64 ((st.pos + 1 : Nat) : Int), .int .i64 st.deep, tv, hv, .int .i64 st.fe, .int .i64 st.fp] 7 ai false)).next := bt
     have OR : (m.set b (.cells [.fz tg 4 (mr l), .int .i64 ((st.pos + 1 : Nat) : Int), .int .i64 st.deep, tv, hv, .int .i64 st.fe, .int .i64 st.fp] 7 ai false)).next = m.next := rfl
     generalize m.set b _ = m' at *
     have hI' := Vj (b := b) (tg := tg) (P := P) ht on
     have RD : Rd (bump (bump (bump (ext (bump m' 19) [.cells [.int .i64 ((st.now l).kind : Int), .str (st.now l).text, .int .i64 ((st.now l).n : Int), .int .i64 ((st.now l).pos : Int)] 4 aB false]) 0) 20) 20) b tg l st.next P := by simp (maxDischargeDepth := 20) only [da, ak, Fj]
     have kp : Kp m' (bump (bump (bump (ext (bump m' 19) [.cells [.int .i64 ((st.now l).kind : Int), .str (st.now l).text, .int .i64 ((st.now l).n : Int), .int .i64 ((st.now l).pos : Int)] 4 aB false]) 0) 20) 20) P := Fj.kp (by simp +contextual -implicitDefEqProofs (maxSteps := 1000000) (maxDischargeDepth := 8) only [bE, Kq, Ko, Km, Kl, Kk, Kj, aa, implies_true, simprocAttr]) (fun c hc => by simp +contextual -implicitDefEqProofs (maxSteps := 1000000) (maxDischargeDepth := 8) only [hc, Kq, Ko, Km, Kl, Kk, Kj, aa, implies_true, simprocAttr])
     by_cases hq : st.next.is l [40]
     ·have b5 := eB hq
      rw [if_pos hq] at bM;have nH : 8 * (l.length - st.next.pos) + gL.args.bg < k := by simp only [gL.bg, RS.next] at *; omega
      obtain ⟨s2, r2, e, g, a, _⟩ := go_ok ht k .args st.next on.p nH trivial
      simp only [e, Option.bind_some, bc, eM] at bM;obtain ⟨rfl, rfl⟩ := bM
      simp +contextual -implicitDefEqProofs (maxSteps := 1000000) (maxDischargeDepth := 8) only [hI', Fj, b5, da, ak, OR, aq, aa, implies_true, simprocAttr] at hX
      generalize hC : run U ji _ _ = C at hX
      obtain ⟨m5, rfl, h5, k5⟩ := GI (P := P) ht Lv on nH e RD hC
      clear hC;simp +contextual -implicitDefEqProofs (maxSteps := 1000000) (maxDischargeDepth := 8) only [aq, aa, implies_true, simprocAttr] at hX
      subst hX;exact ⟨_, rfl, h5, (Vh.trans kp).trans k5⟩
     ·have b5 := eR hq
      rw [if_neg hq] at bM;simp only [bc, eM] at bM;obtain ⟨rfl, rfl⟩ := bM
      simp +contextual -implicitDefEqProofs (maxSteps := 1000000) (maxDischargeDepth := 8) only [hI', Fj, b5, da, ak, OR, aq, aa, implies_true, simprocAttr] at hX
      generalize hC : run U ay _ _ = C at hX
      obtain ⟨m5, rfl, h5, k5⟩ := pG (P := P) (Q := P) (kids := []) ht on RD (by simp) ⟨.inl ⟨rfl, rfl, rfl⟩, rfl⟩ (fun c hc => absurd gz.nil hc) (fun c hc => ⟨hc, gz.nil⟩) (fun _ => rfl) hC
      clear hC;simp +contextual -implicitDefEqProofs (maxSteps := 1000000) (maxDischargeDepth := 8) only [aq, aa, implies_true, simprocAttr] at hX
      subst hX;exact ⟨_, rfl, h5, (Vh.trans kp).trans k5⟩
    ·have b4 : bo (((st.now l).kind : Int) = 1) = .bool false := eR (by omega)
     --aen
     have n0 : nb m.next 19 < (bump (bump (ext (bump m 19) [.cells [.int .i64 ((st.now l).kind : Int), .str (st.now l).text, .int .i64 ((st.now l).n : Int), .int .i64 ((st.now l).pos : Int)] 4 aB false]) 0) 20).next := by simp only [bz, aM, e6]; unfold nb; simp
     have h0 : Rd (bump (bump (ext (bump m 19) [.cells [.int .i64 ((st.now l).kind : Int), .str (st.now l).text, .int .i64 ((st.now l).n : Int), .int .i64 ((st.now l).pos : Int)] 4 aB false]) 0) 20) b tg l st (Pr P m.next (nb m.next (19 + 1))) := by
      exact ak (ak (h.box 19 [.cells [.int .i64 ((st.now l).kind : Int), .str (st.now l).text, .int .i64 ((st.now l).n : Int), .int .i64 ((st.now l).pos : Int)] 4 aB false]))
     have kp : Kp m (bump (bump (ext (bump m 19) [.cells [.int .i64 ((st.now l).kind : Int), .str (st.now l).text, .int .i64 ((st.now l).n : Int), .int .i64 ((st.now l).pos : Int)] 4 aB false]) 0) 20) P := h.kp (by simp +contextual -implicitDefEqProofs (maxSteps := 1000000) (maxDischargeDepth := 8) only [bE, Kq, Ko, Km, Kl, Kk, Kj, aa, implies_true, simprocAttr]) (fun c hc => by simp +contextual -implicitDefEqProofs (maxSteps := 1000000) (maxDischargeDepth := 8) only [hc, Kq, Ko, Km, Kl, Kk, Kj, aa, implies_true, simprocAttr])
     have p0 : Pr P m.next (nb m.next (19 + 1)) (nb m.next 19) := nU (by decide)
     have b0 : (bump (bump (ext (bump m 19) [.cells [.int .i64 ((st.now l).kind : Int), .str (st.now l).text, .int .i64 ((st.now l).n : Int), .int .i64 ((st.now l).pos : Int)] 4 aB false]) 0) 20).get (nb m.next 19) = .cells [.int .i64 ((st.now l).kind : Int), .str (st.now l).text, .int .i64 ((st.now l).n : Int), .int .i64 ((st.now l).pos : Int)] 4 aB false := by
      rw [gP, gP, <- Nat.add_zero 19, <- e6];exact (aK (m := bump m 19) (i := 0) rfl (by simp)).trans rfl
     have k0 : Kp (bump (bump (ext (bump m 19) [.cells [.int .i64 ((st.now l).kind : Int), .str (st.now l).text, .int .i64 ((st.now l).n : Int), .int .i64 ((st.now l).pos : Int)] 4 aB false]) 0) 20) (bump (bump (ext (bump m 19) [.cells [.int .i64 ((st.now l).kind : Int), .str (st.now l).text, .int .i64 ((st.now l).n : Int), .int .i64 ((st.now l).pos : Int)] 4 aB false]) 0) 20) (Pr P m.next (nb m.next (19 + 1))) := ⟨fh _, fun _ _ => rfl⟩
     simp +contextual -implicitDefEqProofs (maxSteps := 1000000) (maxDischargeDepth := 8) only [bQ, hT, hF, hI, h, b1, b2, b3, b4, da, ak, aq, aa, implies_true, simprocAttr] at hX
     clear b1 b2 b3 b4;generalize hC : run U aT _ _ = C at hX
     obtain ⟨m1, rfl, h1, k1⟩ := oU ht o h0 hC
     clear hC;have b1 := (k1.k _ p0).trans b0
     have k1 := k0.trans k1
     have n1 := mn n0 k1.n
     by_cases w0 : st.is l [116, 114, 117, 101]
     ·have hn := is_lt ht o.p w0
      have hw : st.skip l [116, 114, 117, 101] = st.next := by unfold RS.skip; rw [if_pos w0]
      rw [hw] at h1;have on : ez l st.next := (Gr.next hn).ok o
      rw [eB w0] at hX;simp +contextual -implicitDefEqProofs (maxSteps := 1000000) (maxDischargeDepth := 8) only [b1, n1, aq, aa, implies_true, simprocAttr] at hX
      simp only [jk, im, not_true_eq_false, if_false, if_neg hp, if_neg q2, if_neg q1, if_pos w0, bc, eM] at bM;obtain ⟨rfl, rfl⟩ := bM
      generalize hC : run U ay _ _ = C at hX
      obtain ⟨m5, rfl, h5, k5⟩ := pG (P := P) (kids := []) ht on h1 (by simp) ⟨.inl ⟨rfl, rfl, rfl⟩, rfl⟩ (fun c hc => absurd gz.nil hc) (fun c hc => ⟨.inl hc, gz.nil⟩) (fun _ => rfl) hC
      clear hC;simp +contextual -implicitDefEqProofs (maxSteps := 1000000) (maxDischargeDepth := 8) only [aq, aa, implies_true, simprocAttr] at hX
      subst hX;exact ⟨_, rfl, h5, kp.trans ((k1.bO fun c hc => .inl hc).trans k5)⟩
     ·have hw : st.skip l [116, 114, 117, 101] = st := by unfold RS.skip; rw [if_neg w0]
      rw [hw] at h1;rw [eR w0] at hX;simp +contextual -implicitDefEqProofs (maxSteps := 1000000) (maxDischargeDepth := 8) only [b1, n1, aq, aa, implies_true, simprocAttr] at hX
      clear h0 b0 k0;have h0 := h1
      have b0 := b1
      have k0 := k1
      clear h1 b1 k1 n1;generalize hC : run U aT _ _ = C at hX
      obtain ⟨m2, rfl, h1, k1⟩ := oU ht o h0 hC
      clear hC;have b1 := (k1.k _ p0).trans b0
      have k1 := k0.trans k1
      have n1 := mn n0 k1.n
      by_cases w1 : st.is l [102, 97, 108, 115, 101]
      ·have hn := is_lt ht o.p w1
       have hw : st.skip l [102, 97, 108, 115, 101] = st.next := by unfold RS.skip; rw [if_pos w1]
       rw [hw] at h1;have on : ez l st.next := (Gr.next hn).ok o
       rw [eB w1] at hX;simp +contextual -implicitDefEqProofs (maxSteps := 1000000) (maxDischargeDepth := 8) only [b1, n1, aq, aa, implies_true, simprocAttr] at hX
       simp only [jk, im, not_true_eq_false, if_false, if_neg hp, if_neg q2, if_neg q1, if_neg w0, if_pos w1, bc, eM] at bM;obtain ⟨rfl, rfl⟩ := bM
       generalize hC : run U ay _ _ = C at hX
       obtain ⟨m5, rfl, h5, k5⟩ := pG (P := P) (kids := []) ht on h1 (by simp) ⟨.inl ⟨rfl, rfl, rfl⟩, rfl⟩ (fun c hc => absurd gz.nil hc) (fun c hc => ⟨.inl hc, gz.nil⟩) (fun _ => rfl) hC
       clear hC;simp +contextual -implicitDefEqProofs (maxSteps := 1000000) (maxDischargeDepth := 8) only [aq, aa, implies_true, simprocAttr] at hX
       subst hX;exact ⟨_, rfl, h5, kp.trans ((k1.bO fun c hc => .inl hc).trans k5)⟩
      ·have hw : st.skip l [102, 97, 108, 115, 101] = st := by unfold RS.skip; rw [if_neg w1]
       rw [hw] at h1;rw [eR w1] at hX;simp +contextual -implicitDefEqProofs (maxSteps := 1000000) (maxDischargeDepth := 8) only [b1, n1, aq, aa, implies_true, simprocAttr] at hX
       clear h0 b0 k0;have h0 := h1
       have b0 := b1
       have k0 := k1
       clear h1 b1 k1 n1;generalize hC : run U aT _ _ = C at hX
       obtain ⟨m3, rfl, h1, k1⟩ := oU ht o h0 hC
       clear hC;have b1 := (k1.k _ p0).trans b0
       have k1 := k0.trans k1
       have n1 := mn n0 k1.n
       by_cases w2 : st.is l [110, 105, 108]
       ·have hn := is_lt ht o.p w2
        have hw : st.skip l [110, 105, 108] = st.next := by unfold RS.skip; rw [if_pos w2]
        rw [hw] at h1;have on : ez l st.next := (Gr.next hn).ok o
        rw [eB w2] at hX;simp +contextual -implicitDefEqProofs (maxSteps := 1000000) (maxDischargeDepth := 8) only [b1, n1, aq, aa, implies_true, simprocAttr] at hX
        simp only [jk, im, not_true_eq_false, if_false, if_neg hp, if_neg q2, if_neg q1, if_neg w0, if_neg w1, if_pos w2, bc, eM] at bM;obtain ⟨rfl, rfl⟩ := bM
        generalize hC : run U ay _ _ = C at hX
        obtain ⟨m5, rfl, h5, k5⟩ := pG (P := P) (kids := []) ht on h1 (by simp) ⟨.inl ⟨rfl, rfl, rfl⟩, rfl⟩ (fun c hc => absurd gz.nil hc) (fun c hc => ⟨.inl hc, gz.nil⟩) (fun _ => rfl) hC
        clear hC;simp +contextual -implicitDefEqProofs (maxSteps := 1000000) (maxDischargeDepth := 8) only [aq, aa, implies_true, simprocAttr] at hX
        subst hX;exact ⟨_, rfl, h5, kp.trans ((k1.bO fun c hc => .inl hc).trans k5)⟩
       ·have hw : st.skip l [110, 105, 108] = st := by unfold RS.skip; rw [if_neg w2]
        rw [hw] at h1;rw [eR w2] at hX;simp +contextual -implicitDefEqProofs (maxSteps := 1000000) (maxDischargeDepth := 8) only [b1, n1, aq, aa, implies_true, simprocAttr] at hX
        clear h0 b0 k0;have h0 := h1
        have b0 := b1
        have k0 := k1
        clear h1 b1 k1 n1;generalize hC : run U aT _ _ = C at hX
        obtain ⟨m4, rfl, h1, k1⟩ := oU ht o h0 hC
        clear hC;have b1 := (k1.k _ p0).trans b0
        have k1 := k0.trans k1
        have n1 := mn n0 k1.n
        by_cases w3 : st.is l [108, 101, 110]
        ·have hn := is_lt ht o.p w3
         have hw : st.skip l [108, 101, 110] = st.next := by unfold RS.skip; rw [if_pos w3]
         rw [hw] at h1;have on : ez l st.next := (Gr.next hn).ok o
         rw [eB w3] at hX;simp +contextual -implicitDefEqProofs (maxSteps := 1000000) (maxDischargeDepth := 8) only [b1, n1, aq, aa, implies_true, simprocAttr] at hX
         simp only [jk, im, not_true_eq_false, if_false, if_neg hp, if_neg q2, if_neg q1, if_neg w0, if_neg w1, if_neg w2, if_pos w3] at bM;have hb := h1.grown (M := bump m4 9) (by rw [bz]; exact bE) (fun _ _ => rfl)
         have nH : 8 * (l.length - st.next.pos) + (gL.inner [40] [41]).bg < k := by simp only [gL.bg, RS.next] at *; omega
         obtain ⟨s2, r2, e, g, ar, _⟩ := go_ok ht k (.inner [40] [41]) st.next on.p nH trivial
         obtain ⟨x, rfl⟩ := jI ar
         simp only [e, Option.bind_some, bc, eM] at bM;obtain ⟨rfl, rfl⟩ := bM
         generalize hC : run U cu _ _ = C at hX
         obtain ⟨m7, rfl, h7, k7⟩ := Jp _ _ _ _ _ _ _ on nH e hb hC
         clear hC;have b7 := (k7.k _ (.inl p0)).trans b1
         have hM : ∀ B, Mem.mk m7.next (ext (Mem.mk (m4.next + 3) m7.gB) [B]).gB = m7.set (m4.next + 3) B := fun _ => rfl
         have iQ : nb m.next 19 ≠ m4.next + 3 := by omega
         have k7n : m4.next + 9 <= m7.next := k7.n
         have Vv : m4.next + 3 < m7.next := by omega
         have pc : Pr (Pr P m.next (nb m.next (19 + 1))) m4.next (bump m4 9).next (m4.next + 3) := .inr ⟨by omega, by rw [bz]; unfold nb; omega⟩
         have h8 := h7.Qm pc (.cells [.int .i64 x] 1 bn false)
         simp +contextual -implicitDefEqProofs (maxSteps := 1000000) (maxDischargeDepth := 8) only [b7, hM, iQ, Vv, List.headD_cons, aq, aa, implies_true, simprocAttr] at hX
         generalize hC : run U ay _ _ = C at hX
         obtain ⟨m8, rfl, h9, k9⟩ := pG (P := Pr P m.next (nb m.next (19 + 1))) (kids := [x]) ht (g.ok on) h8 (by simp) ⟨.inr ⟨_, _, _, rfl, lu _, Vv, bK, .inr rfl⟩, rfl⟩ (fun c hc => by rw [cj hc]; exact pc) (fun c hc => ⟨.inl hc, gz.of (by have := h1.mb hc; omega)⟩) (by simp) hC
         clear hC;have kq : Kp m7 (m7.set (m4.next + 3) (.cells [.int .i64 x] 1 bn false)) (Pr P m.next (nb m.next (19 + 1))) := ⟨fh _, fun c hc => az (by have := h1.mb hc; omega)⟩
         simp +contextual -implicitDefEqProofs (maxSteps := 1000000) (maxDischargeDepth := 8) only [aq, aa, implies_true, simprocAttr] at hX
         subst hX;exact ⟨_, rfl, h9.bO fun c hc => .inl hc, kp.trans ((((k1.trans (aQ h1)).trans (k7.bO fun c hc => .inl hc)).trans (kq.trans k9)).bO fun c hc => .inl hc)⟩
        ·have hw : st.skip l [108, 101, 110] = st := by unfold RS.skip; rw [if_neg w3]
         rw [hw] at h1;rw [eR w3] at hX;simp +contextual -implicitDefEqProofs (maxSteps := 1000000) (maxDischargeDepth := 8) only [b1, n1, aq, aa, implies_true, simprocAttr] at hX
         clear h0 b0 k0;have h0 := h1
         have b0 := b1
         have k0 := k1
         clear h1 b1 k1 n1;generalize hC : run U aT _ _ = C at hX
         obtain ⟨m5, rfl, h1, k1⟩ := oU ht o h0 hC
         clear hC;have b1 := (k1.k _ p0).trans b0
         have k1 := k0.trans k1
         have n1 := mn n0 k1.n
         by_cases w4 : st.is l [110, 101, 119]
         ·have hn := is_lt ht o.p w4
          have hw : st.skip l [110, 101, 119] = st.next := by unfold RS.skip; rw [if_pos w4]
          rw [hw] at h1;have on : ez l st.next := (Gr.next hn).ok o
          rw [eB w4] at hX;simp +contextual -implicitDefEqProofs (maxSteps := 1000000) (maxDischargeDepth := 8) only [b1, n1, aq, aa, implies_true, simprocAttr] at hX
          simp only [jk, im, not_true_eq_false, if_false, if_neg hp, if_neg q2, if_neg q1, if_neg w0, if_neg w1, if_neg w2, if_neg w3, if_pos w4] at bM;have hb := h1.grown (M := bump m5 9) (by rw [bz]; exact bE) (fun _ _ => rfl)
          have nH : 8 * (l.length - st.next.pos) + (gL.inner [40] [41]).bg < k := by simp only [gL.bg, RS.next] at *; omega
          obtain ⟨s2, r2, e, g, ar, _⟩ := go_ok ht k (.inner [40] [41]) st.next on.p nH trivial
          obtain ⟨x, rfl⟩ := jI ar
          simp only [e, Option.bind_some, bc, eM] at bM;obtain ⟨rfl, rfl⟩ := bM
          generalize hC : run U cu _ _ = C at hX
          obtain ⟨m7, rfl, h7, k7⟩ := Jp _ _ _ _ _ _ _ on nH e hb hC
          clear hC;have b7 := (k7.k _ (.inl p0)).trans b1
          have hM : ∀ B, Mem.mk m7.next (ext (Mem.mk (m5.next + 3) m7.gB) [B]).gB = m7.set (m5.next + 3) B := fun _ => rfl
          have iQ : nb m.next 19 ≠ m5.next + 3 := by omega
          have k7n : m5.next + 9 <= m7.next := k7.n
          have Vv : m5.next + 3 < m7.next := by omega
          have pc : Pr (Pr P m.next (nb m.next (19 + 1))) m5.next (bump m5 9).next (m5.next + 3) := .inr ⟨by omega, by rw [bz]; unfold nb; omega⟩
          have h8 := h7.Qm pc (.cells [.int .i64 x] 1 bn false)
          simp +contextual -implicitDefEqProofs (maxSteps := 1000000) (maxDischargeDepth := 8) only [b7, hM, iQ, Vv, List.headD_cons, aq, aa, implies_true, simprocAttr] at hX
          generalize hC : run U ay _ _ = C at hX
          obtain ⟨m8, rfl, h9, k9⟩ := pG (P := Pr P m.next (nb m.next (19 + 1))) (kids := [x]) ht (g.ok on) h8 (by simp) ⟨.inr ⟨_, _, _, rfl, lu _, Vv, bK, .inr rfl⟩, rfl⟩ (fun c hc => by rw [cj hc]; exact pc) (fun c hc => ⟨.inl hc, gz.of (by have := h1.mb hc; omega)⟩) (by simp) hC
          clear hC;have kq : Kp m7 (m7.set (m5.next + 3) (.cells [.int .i64 x] 1 bn false)) (Pr P m.next (nb m.next (19 + 1))) := ⟨fh _, fun c hc => az (by have := h1.mb hc; omega)⟩
          simp +contextual -implicitDefEqProofs (maxSteps := 1000000) (maxDischargeDepth := 8) only [aq, aa, implies_true, simprocAttr] at hX
          subst hX;exact ⟨_, rfl, h9.bO fun c hc => .inl hc, kp.trans ((((k1.trans (aQ h1)).trans (k7.bO fun c hc => .inl hc)).trans (kq.trans k9)).bO fun c hc => .inl hc)⟩
         ·have hw : st.skip l [110, 101, 119] = st := by unfold RS.skip; rw [if_neg w4]
          rw [hw] at h1;rw [eR w4] at hX;simp +contextual -implicitDefEqProofs (maxSteps := 1000000) (maxDischargeDepth := 8) only [b1, n1, aq, aa, implies_true, simprocAttr] at hX
          clear h0 b0 k0;have h0 := h1
          have b0 := b1
          have k0 := k1
          clear h1 b1 k1 n1;simp only [jk, im, not_true_eq_false, if_false, if_neg hp, if_neg q2, if_neg q1, if_neg w0, if_neg w1, if_neg w2, if_neg w3, if_neg w4, bc, eM] at bM;obtain ⟨rfl, rfl⟩ := bM
          generalize hC : run U dR _ _ = C at hX
          obtain ⟨m5, rfl, h5, k5⟩ := JL h0 hC
          clear hC;simp +contextual -implicitDefEqProofs (maxSteps := 1000000) (maxDischargeDepth := 8) only [aq, aa, implies_true, simprocAttr] at hX
          subst hX;exact ⟨_, rfl, h5.bO fun c hc => .inl hc, kp.trans ((k0.trans k5).bO fun c hc => .inl hc)⟩
     --END
 ·have b1 := eR im
  have kp : Kp m (bump (ext (bump m 19) [.cells [.int .i64 ((st.now l).kind : Int), .str (st.now l).text, .int .i64 ((st.now l).n : Int), .int .i64 ((st.now l).pos : Int)] 4 aB false]) 0) P := h.kp (by simp +contextual -implicitDefEqProofs (maxSteps := 1000000) (maxDischargeDepth := 8) only [bE, Kq, Ko, Km, Kl, Kk, Kj, aa, implies_true, simprocAttr]) (fun c hc => by simp +contextual -implicitDefEqProofs (maxSteps := 1000000) (maxDischargeDepth := 8) only [hc, Kq, Ko, Km, Kl, Kk, Kj, aa, implies_true, simprocAttr])
  simp +contextual -implicitDefEqProofs (maxSteps := 1000000) (maxDischargeDepth := 8) only [bQ, hT, hF, hI, h, b1, da, ak, aq, aa, implies_true, simprocAttr] at hX
  subst hX;simp only [jk, im, not_false_eq_true, if_true, bc, eM] at bM;obtain ⟨rfl, rfl⟩ := bM
  exact ⟨_, rfl, by simp (maxDischargeDepth := 20) only [da, ak, h], kp⟩
end
end
section
def Dz (l : List Tok) (tg k : Nat) : Prop := ∀ (least nO left : Int) (st : RS) (fr : Fr) (m : Mem) (b : Nat) (P : Nat -> Prop) (s1 : RS) (r : List Int) (X : Option Out), ez l st -> 8 * (l.length - st.pos) + (gL.kV least nO left).bg < k -> jk l k (.kV least nO left) st = some (s1, r) -> Rd m b tg l st P -> fr.get 0 = .ptr b 0 -> fr.get 1 = .int .i64 least -> fr.get 5 = .int .i64 left -> fr.get 6 = .int .i64 nO -> fr.defers = [] -> exec U (.loop dg) fr m = X -> ∃ fr' m', X = some (.exit 0 fr' m') /\ fr'.get 5 = .int .i64 (r.headD 0) /\ fr'.defers = [] /\ Rd m' b tg l s1 P /\ Kp m m' P
section
variable {l : List Tok} {tg : Nat} (ht : bS l) {k : Nat}
include ht
theorem LQ (Jp : ∀ n : Int, q9 l tg eX [.int .i64 n] k (.lR n)) (Lv : Dz l tg k) : Dz l tg (k + 1) := by
 intro least nO left st fr m b P s1 r X o hk bM h h0 h1 h5 h6 hd hX
 rw [eP] at hX;generalize hL : exec U (.loop dg) = L at hX
 have hT := jE (b := b) (tg := tg) (P := P) ht o
 have hF := JH (b := b) (tg := tg) (l := l) (st := st) (P := P)
 have bt := h.lt
 by_cases im : st.fe = 0
 ·have b1 := eB im
  have lq := U5 (st.now l).text
  have hk4 : (((st.now l).kind : Int) = 4) = ((st.now l).kind = 4) := propext (by omega)
  have hle := Mv (st.now l).text
  simp only [jk, im, true_and] at bM;generalize hO : mw (st.now l).text = O at *
  obtain ⟨o1, o2⟩ := O
  simp only at bM hle lq
  have w1 : IntKind.i64.wrap (o1 + 1) = o1 + 1 := wrap_i64 (by omega) (by omega)
  have w2 : IntKind.i64.wrap (o1 - 1) = o1 - 1 := wrap_i64 (by omega) (by omega)
  obtain ⟨tv, hv, xs, h⟩ := h
  have hr : Rd m b tg l st P := ⟨tv, hv, xs, h⟩
  have hg := h.g
  have hw := cx (i := st.pos) (by have := o.p; have := ht.lt; omega)
  obtain ⟨Fj, Vh⟩ := h.next
  have EA : eA 2 [EV.int .i64 0] = [EV.int .i64 0, EV.int .i64 0] := rfl
  simp +contextual -implicitDefEqProofs (maxSteps := 1000000) (maxDischargeDepth := 8) only [dg, h0, h1, h5, h6, hd, hT, hF, hr, b1, lq, hk4, w1, w2, bt, hg, hw, EA, cm, fG, da, ak, aq, aa, implies_true, simprocAttr] at hX
  by_cases hc : ((((st.now l).kind ≠ 4 \/ o2 = 0) \/ o1 < least) \/ nO < o1)
  ·simp only [hc, not_true_eq_false, if_false, bc, eM] at bM
   obtain ⟨rfl, rfl⟩ := bM
   rw [AM hc] at hX;subst hX;have kp : Kp m (ext (bump (bump m 0) 19) [.cells [.int .i64 ((st.now l).kind : Int), .str (st.now l).text, .int .i64 ((st.now l).n : Int), .int .i64 ((st.now l).pos : Int)] 4 aB false, .cells [.int .i64 o1, .int .i64 o2] 2 kY false]) P := hr.kp (by simp +contextual -implicitDefEqProofs (maxSteps := 1000000) (maxDischargeDepth := 8) only [bE, Kq, Ko, Km, Kl, Kk, Kj, aa, implies_true, simprocAttr]) (fun c hc => by simp +contextual -implicitDefEqProofs (maxSteps := 1000000) (maxDischargeDepth := 8) only [hc, Kq, Ko, Km, Kl, Kk, Kj, aa, implies_true, simprocAttr])
   exact ⟨_, _, rfl, by simp only [h5, List.headD_cons, ap, Nat.reduceBEq ], by simp only [hd, ap, Nat.reduceBEq ], by simp (maxDischargeDepth := 20) only [da, ak, hr], kp⟩
  ·simp only [hc, not_false_eq_true, if_true] at bM
   rw [AN hc] at hX;have hn := qc ht o.p (by omega)
   have on : ez l st.next := (Gr.next hn).ok o
   have OR : (m.set b (.cells [.fz tg 4 (mr l), .int .i64 ((st.pos + 1 : Nat) : Int), .int .i64 st.deep, tv, hv, .int .i64 st.fe, .int .i64 st.fp] 7 ai false)).next = m.next := rfl
   generalize m.set b _ = m' at *
   have nH : 8 * (l.length - st.next.pos) + (gL.lR (o1 + 1)).bg < k := by simp only [gL.bg, RS.next] at *; omega
   obtain ⟨s2, r2, e, g, ar, _⟩ := go_ok ht k (.lR (o1 + 1)) st.next on.p nH trivial
   obtain ⟨x, rfl⟩ := jI ar
   simp only [e, Option.bind_some, List.headD_cons] at bM;have r0 : Rd (ext (bump (bump m' 0) 19) [.cells [.int .i64 ((st.now l).kind : Int), .str (st.now l).text, .int .i64 ((st.now l).n : Int), .int .i64 ((st.now l).pos : Int)] 4 aB false, .cells [.int .i64 o1, .int .i64 o2] 2 kY false]) b tg l st.next (Pr P m.next (nb m.next 21)) := by
    have := (ak (k := 0) Fj).box 19 [.cells [.int .i64 ((st.now l).kind : Int), .str (st.now l).text, .int .i64 ((st.now l).n : Int), .int .i64 ((st.now l).pos : Int)] 4 aB false, .cells [.int .i64 o1, .int .i64 o2] 2 kY false]
    rw [<- OR]; exact this
   have kp : Kp m' (ext (bump (bump m' 0) 19) [.cells [.int .i64 ((st.now l).kind : Int), .str (st.now l).text, .int .i64 ((st.now l).n : Int), .int .i64 ((st.now l).pos : Int)] 4 aB false, .cells [.int .i64 o1, .int .i64 o2] 2 kY false]) P := Fj.kp (by simp +contextual -implicitDefEqProofs (maxSteps := 1000000) (maxDischargeDepth := 8) only [bE, Kq, Ko, Km, Kl, Kk, Kj, aa, implies_true, simprocAttr]) (fun c hc => by simp +contextual -implicitDefEqProofs (maxSteps := 1000000) (maxDischargeDepth := 8) only [hc, Kq, Ko, Km, Kl, Kk, Kj, aa, implies_true, simprocAttr])
   have p19 : Pr P m.next (nb m.next 21) (nb m.next 19) := nU (by decide)
   have p20 : Pr P m.next (nb m.next 21) (nb m.next 20) := nU (by decide)
   have g19 : (ext (bump (bump m' 0) 19) [.cells [.int .i64 ((st.now l).kind : Int), .str (st.now l).text, .int .i64 ((st.now l).n : Int), .int .i64 ((st.now l).pos : Int)] 4 aB false, .cells [.int .i64 o1, .int .i64 o2] 2 kY false]).get (nb m.next 19) = .cells [.int .i64 ((st.now l).kind : Int), .str (st.now l).text, .int .i64 ((st.now l).n : Int), .int .i64 ((st.now l).pos : Int)] 4 aB false := by
    rw [<- OR]; exact (aK (m := bump (bump m' 0) 19) (i := 0) rfl (by simp)).trans rfl
   have WJ : (ext (bump (bump m' 0) 19) [.cells [.int .i64 ((st.now l).kind : Int), .str (st.now l).text, .int .i64 ((st.now l).n : Int), .int .i64 ((st.now l).pos : Int)] 4 aB false, .cells [.int .i64 o1, .int .i64 o2] 2 kY false]).get (nb m.next 20) = .cells [.int .i64 o1, .int .i64 o2] 2 kY false := by
    rw [<- OR]; exact (aK (m := bump (bump m' 0) 19) (i := 1) rfl (by simp)).trans rfl
   have n0 : (ext (bump (bump m' 0) 19) [.cells [.int .i64 ((st.now l).kind : Int), .str (st.now l).text, .int .i64 ((st.now l).n : Int), .int .i64 ((st.now l).pos : Int)] 4 aB false, .cells [.int .i64 o1, .int .i64 o2] 2 kY false]).next = nb m.next 21 := by rw [<- OR, aM]; rfl
   generalize hC : run U eX _ _ = C at hX
   obtain ⟨m1, rfl, r1, k1⟩ := Jp (o1 + 1) _ _ _ _ _ _ _ on nH e r0 hC
   clear hC;have g19 := (k1.k _ p19).trans g19
   have WJ := (k1.k _ p20).trans WJ
   have n1 : nb m.next 21 <= m1.next := by rw [<- n0]; exact k1.n
   have n19 : nb m.next 19 < m1.next := mn (by unfold nb; omega) n1
   have n20 : nb m.next 20 < m1.next := mn (by unfold nb; omega) n1
   have W8 := g.ok on
   simp +contextual -implicitDefEqProofs (maxSteps := 1000000) (maxDischargeDepth := 8) only [h0, h1, h5, h6, hd, g19, WJ, n19, n20, EA, cm, fG, List.headD_cons, aq, aa, implies_true, simprocAttr] at hX
   generalize hC : run U ay _ _ = C at hX
   obtain ⟨m5, rfl, r5, k5⟩ := pG (P := Pr P m.next (nb m.next 21)) (kids := [left, x]) ht W8 (r1.H3 _) (by simp) (Cl (by rfl)) (fun c hc => by rw [cj hc]; exact nU (by simp)) (fun c hc => ⟨.inl hc, gz.of (by have := r1.mb hc; unfold nb; omega)⟩) (by simp) hC
   clear hC;have k5' := (k1.trans (lI r1 _)).trans k5
   have WJ := ((lI r1 _).trans k5).k _ p20 |>.trans WJ
   have kk := (Vh.trans kp).trans (k5'.bO fun c hc => .inl hc)
   have g1 := ((Gr.next hn).trans g).put (by have := g.t; simp only [RS.next] at this; omega) (d := nd 5 [left, x] o2 [] (st.now l).pos)
   have hq : (s2.put (nd 5 [left, x] o2 [] (st.now l).pos)).pos = s2.pos := by unfold RS.put RS.nh; split <;> split <;> first | rfl | exact cU.1
   have Fk : ∀ a b' c, 8 * (l.length - (s2.put (nd 5 [left, x] o2 [] (st.now l).pos)).pos) + (gL.kV a b' c).bg < k := fun _ _ _ => by have := g.p; have := g.pl; simp only [gL.bg, RS.next] at *; omega
   have o5 := g1.ok o
   have r5 := r5.bO (Q := P) fun c hc => .inl hc
   clear r0 r1 k1 kp Vh k5 k5' Fj
   simp +contextual -implicitDefEqProofs (maxSteps := 1000000) (maxDischargeDepth := 8) only [h0, h1, h5, h6, hd, WJ, w2, aq, aa, implies_true, simprocAttr] at hX
   have w3 : IntKind.i64.wrap 2 = 2 := wrap_i64 (by omega) (by omega)
   by_cases h3 : o1 = 3
   ·rw [if_pos h3] at bM
    rw [AM h3] at hX;subst hL;obtain ⟨fr', m9, rfl, q5, qd, q6, q7⟩ := Lv _ _ _ _ _ _ _ P _ _ _ o5 (Fk _ _ _) bM r5 (by simp only [h0, ap, Nat.reduceBEq ]) (by simp only [h1, ap, Nat.reduceBEq ]) (by simp only [ap, Nat.reduceBEq ]) (by first | (simp only [ap, Nat.reduceBEq ]; done) | simp only [h3, w3, Int.reduceSub, ap, Nat.reduceBEq ]) (by simp only [hd, ap, Nat.reduceBEq ]) hX
    exact ⟨fr', m9, rfl, q5, qd, q6, kk.trans q7⟩
   ·rw [if_neg h3] at bM
    rw [AN h3] at hX;subst hL;obtain ⟨fr', m9, rfl, q5, qd, q6, q7⟩ := Lv _ _ _ _ _ _ _ P _ _ _ o5 (Fk _ _ _) bM r5 (by simp only [h0, ap, Nat.reduceBEq ]) (by simp only [h1, ap, Nat.reduceBEq ]) (by simp only [ap, Nat.reduceBEq ]) (by first | (simp only [ap, Nat.reduceBEq ]; done) | simp only [h3, w3, Int.reduceSub, ap, Nat.reduceBEq ]) (by simp only [hd, ap, Nat.reduceBEq ]) hX
    exact ⟨fr', m9, rfl, q5, qd, q6, kk.trans q7⟩
 ·have b1 := eR im
  simp only [jk, im, false_and, if_false, bc, eM] at bM;obtain ⟨rfl, rfl⟩ := bM
  simp +contextual -implicitDefEqProofs (maxSteps := 1000000) (maxDischargeDepth := 8) only [dg, h0, h1, h5, h6, hd, hF, h, b1, da, ak, aq, aa, implies_true, simprocAttr] at hX
  subst hX;exact ⟨_, _, rfl, by simp only [h5, List.headD_cons, ap, Nat.reduceBEq ], by simp only [hd, ap, Nat.reduceBEq ], ak h, aQ h⟩
omit ht in
theorem LP (ht : bS l) (Jp : q9 l tg eo [] k .front) (Lv : Dz l tg k) (least : Int) : q9 l tg eX [.int .i64 least] (k + 1) (.lR least) := by
 intro st m b P s1 r X o hk bM h hX
 rw [bX (by simp [dC])] at hX
 generalize hL : exec (UT B K) (aH.loop dg) = L at hX
 have nH : 8 * (l.length - st.pos) + gL.front.bg < k := by simp only [gL.bg] at *; omega
 obtain ⟨s2, r2, e, g, ar, _⟩ := go_ok ht k .front st o.p nH trivial
 obtain ⟨x, rfl⟩ := jI ar
 simp only [jk, e, Option.bind_some, List.headD_cons] at bM;simp +contextual -implicitDefEqProofs (maxSteps := 1000000) (maxDischargeDepth := 8) only [dC, aq, aa, implies_true, simprocAttr] at hX
 generalize hC : run U eo _ _ = C at hX
 obtain ⟨m1, rfl, r1, k1⟩ := Jp _ _ _ _ _ _ _ o nH e h hC
 clear hC;simp +contextual -implicitDefEqProofs (maxSteps := 1000000) (maxDischargeDepth := 8) only [List.headD_cons, aq, aa, implies_true, simprocAttr] at hX
 subst hL;generalize hC : exec _ (.loop dg) _ _ = C at hX
 obtain ⟨fr', m9, rfl, q5, qd, q6, q7⟩ := Lv _ _ _ _ _ _ _ P _ _ _ (g.ok o) (by have := g.p; simp only [gL.bg] at *; omega) bM r1 (by simp only [ap, Nat.reduceBEq ]) (by simp only [ap, Nat.reduceBEq ]) (by simp only [ap, Nat.reduceBEq ]) (by simp only [ap, Nat.reduceBEq ]) (by simp only [ap, Nat.reduceBEq ]) hC
 clear hC;simp +contextual -implicitDefEqProofs (maxSteps := 1000000) (maxDischargeDepth := 8) only [q5, qd, aq, aa, implies_true, simprocAttr] at hX
 subst hX;exact ⟨_, rfl, q6, k1.trans q7⟩
structure adj (l : List Tok) (tg k : Nat) : Prop where
 expr : q9 l tg aU [] k .expr
 lR : ∀ n : Int, q9 l tg eX [.int .i64 n] k (.lR n)
 kV : Dz l tg k
 front : q9 l tg eo [] k .front
 atom : q9 l tg jh [] k .atom
 cells : Ib l tg k
 inner : ∀ a z : bZ, q9 l tg cu [.str a, .str z] k (.inner a z)
 args : NL l tg k
 lU : Ic l tg k
omit ht in
theorem DH (ht : bS l) : ∀ k, adj l tg k := by
 intro k
 induction k with
 | zero =>
  exact ⟨fun _ _ _ _ _ _ _ _ q => absurd q (by omega), fun _ _ _ _ _ _ _ _ _ q => absurd q (by omega), fun _ _ _ _ _ _ _ _ _ _ _ _ q => absurd q (by omega), fun _ _ _ _ _ _ _ _ q => absurd q (by omega), fun _ _ _ _ _ _ _ _ q => absurd q (by omega), fun _ _ _ _ _ _ _ _ _ _ q => absurd q (by omega), fun _ _ _ _ _ _ _ _ _ _ q => absurd q (by omega), fun _ _ _ _ _ _ _ _ q => absurd q (by omega), fun _ _ _ _ _ _ _ _ _ _ _ _ q => absurd q (by omega)⟩
 | succ k ih =>
  exact ⟨O4 ht (ih.lR 1), LP ht ih.front ih.kV, LQ ht ih.lR ih.kV, LG ht ih.front ih.atom (LR ih.cells), Pp ht (ih.inner _ _) ih.args, LS ht (ih.inner _ _) ih.cells, fun a z => Lu ht ih.expr, Ps ht ih.lU, Pt ht ih.expr ih.lU⟩
end
end
section
def j0 (l : List Tok) (st : RS) : RS × Int := match jk l (8 * (l.length - st.pos) + 5) .expr st with
 | some (s, r) => (s, r.headD 0)
 | none => (st, 0)
def CC (l : List Tok) (a z : bZ) (st : RS) : RS × Int := match jk l (8 * (l.length - st.pos) + 1) (.inner a z) st with
 | some (s, r) => (s, r.headD 0)
 | none => (st, 0)
def wX (l : List Tok) (st : RS) : RS × List Int := match jk l (8 * (l.length - st.pos) + 1) .args st with
 | some (s, r) => (s, r)
 | none => (st, [])
def RS.nV (st : RS) (l : List Tok) : Prop := st.fe = 0 /\ (st.now l).kind = 1
instance (st : RS) (l : List Tok) : Decidable (st.nV l) := inferInstanceAs (Decidable (_ /\ _))
def RS.name (st : RS) (l : List Tok) : RS := if st.nV l then st.next else st.fail 8 (st.now l).pos
def RS.cP (st : RS) (l : List Tok) : bZ := if st.nV l then (st.now l).text else []
def NU : bZ := [118, 97, 114]
def Wa : bZ := [105, 102]
def PN : bZ := [101, 108, 115, 101]
def Av : bZ := [119, 104, 105, 108, 101]
def NV : bZ := [102, 111, 114]
def Aw : bZ := [98, 114, 101, 97, 107]
def oI : bZ := [99, 111, 110, 116, 105, 110, 117, 101]
def vp : bZ := [114, 101, 116, 117, 114, 110]
def DI : bZ := [112, 114, 105, 110, 116]
def Fp : bZ := [105, 110, 116]
def yb : bZ := [98, 111, 111, 108]
def GQ : bZ := [97, 114, 114]
def Ap : bZ := [102, 110]
def kE (l : List Tok) (st : RS) : RS × Int := if st.is l Fp then (st.next, 1) else if st.is l yb then (st.next, 2) else if st.is l GQ then (st.next, 3) else (st.fail 8 (st.now l).pos, 0)
def lP (l : List Tok) (st : RS) (d : Nd) : RS × Int := ((st.want l [59]).put d, (st.want l [59]).gO d)
def Ei (l : List Tok) (st : RS) : RS × Int :=
 let e := j0 l ((st.name l).want l [61])
 lP l e.1 (nd 12 [e.2] 0 (st.cP l) (st.now l).pos)
def qb (l : List Tok) (kind : Int) (p : Nat) (st : RS) : RS × Int :=
 let e := j0 l st
 lP l e.1 (nd kind [e.2] 0 [] p)
def lC (l : List Tok) (st : RS) : RS × Int :=
 let n := st.name l
 let p : Int := (st.now l).pos
 if n.is l [40] then
  let a := wX l n
  let c := nd 11 a.2 0 (st.cP l) p
  lP l (a.1.put c) (nd 22 [a.1.gO c] 0 [] p)
 else if n.is l [91] then
  let i := CC l [91] [93] n
  let e := j0 l (i.1.want l [61])
  lP l e.1 (nd 14 [i.2, e.2] 0 (st.cP l) (n.now l).pos)
 else
  let e := j0 l (n.want l [61])
  lP l e.1 (nd 13 [e.2] 0 (st.cP l) p)
inductive PC where
 | stmt
 | block
 | kW (out : List Int)
 | um (out : List Int)
 | func
 | qX (out : List Int)
def IV (x : RS × Int) : RS × List Int := (x.1, [x.2])
def uU (st : RS) (d : Nd) : Option (RS × List Int) := some (st.put d, [st.gO d])
def Xg (l : List Tok) (go : RS -> Option (RS × List Int)) (p : Nat) (st : RS) : Option (RS × List Int) :=
 let e := j0 l st
 (go e.1).bind fun b => if b.1.is l PN then (go b.1.next).bind fun c => uU c.1 (nd 15 (e.2 :: b.2 ++ c.2) 0 [] p) else uU b.1 (nd 15 (e.2 :: b.2) 0 [] p)
def DF (l : List Tok) (go : RS -> Option (RS × List Int)) (p : Nat) (st : RS) : Option (RS × List Int) :=
 let e := j0 l st
 (go e.1).bind fun b => uU b.1 (nd 16 (e.2 :: b.2) 0 [] p)
def RI (l : List Tok) (go : RS -> Option (RS × List Int)) (st : RS) : Option (RS × List Int) :=
 let e := j0 l ((st.name l).want l [61])
 let f := j0 l (e.1.want l [44])
 (go f.1).bind fun b => uU b.1 (nd 17 (e.2 :: f.2 :: b.2) 0 (st.cP l) (st.now l).pos)
def lW (l : List Tok) : Nat -> PC -> RS -> Option (RS × List Int)
 | 0, _, _ => none
 | k + 1, .stmt, st =>
  let p := (st.now l).pos
  if st.is l NU then some (IV (Ei l st.next))
  else if st.is l Wa then Xg l (lW l k .block) p st.next
  else if st.is l Av then DF l (lW l k .block) p st.next
  else if st.is l NV then RI l (lW l k .block) st.next
  else if st.is l Aw then some (IV (lP l st.next (nd 18 [] 0 [] p)))
  else if st.is l oI then some (IV (lP l st.next (nd 19 [] 0 [] p)))
  else if st.is l vp then some (IV (qb l 20 p st.next))
  else if st.is l DI then some (IV (qb l 21 p st.next))
  else some (IV (lC l st))
 | k + 1, .block, st =>
  let p : Int := (st.now l).pos
  if st.is l [123] then
   if (st.next.open p).fe = 0 then (lW l k (.kW []) (st.next.open p)).bind fun b => uU b.1.close (nd 23 b.2 0 [] p)
   else some (st.next.open p, [-1])
  else some (st.fail 8 p, [-1])
 | k + 1, .kW out, st =>
  if st.is l [125] then some (st.next, out)
  else (lW l k .stmt st).bind fun b => if b.1.fe = 0 then lW l k (.kW (out ++ b.2)) b.1 else some (b.1, out ++ b.2)
 | k + 1, .um out, st =>
  if st.fe = 0 then
   let p : Int := (st.now l).pos
   let s1 := if out.length = 8 then (st.name l).fail 3 p else st.name l
   let kd := kE l s1
   let d := nd 24 [] kd.2 (st.cP l) p
   if (kd.1.put d).is l [44] then lW l k (.um (out ++ [kd.1.gO d])) (kd.1.put d).next else some (kd.1.put d, out ++ [kd.1.gO d])
  else some (st, out)
 | k + 1, .func, st =>
  let s0 := st.want l Ap
  let s1 := (s0.name l).want l [40]
  (if s1.is l [41] then some (s1, []) else lW l k (.um []) s1).bind fun a =>
   let kd := kE l (a.1.want l [41])
   (lW l k .block kd.1).bind fun b => uU b.1 (nd 25 (a.2 ++ b.2) kd.2 (s0.cP l) (s0.now l).pos)
 | k + 1, .qX out, st =>
  if st.fe = 0 /\ (st.now l).kind ≠ 0 then
   let s0 := if out.length = 200 /\ st.is l Ap then st.fail 3 (st.now l).pos else st
   (lW l k .func s0).bind fun b => if b.1.fe = 0 then lW l k (.qX (out ++ b.2)) b.1 else some (b.1, out ++ b.2)
  else some (st, out)
def PC.bg : PC -> Nat
 | .stmt => 1 | .block => 0 | .kW _ => 2 | .um _ => 0 | .func => 1 | .qX _ => 2
def PC.may (st : RS) : PC -> Prop
 | .kW out => st.fe = 0 /\ out.length <= st.pos
 | .um out => out.length <= 8
 | .qX out => out.length <= st.pos
 | _ => True
def PC.TZ (s1 : RS) : PC -> List Int -> Prop
 | .kW _, r => r.length <= s1.pos + 1
 | .um _, r => r.length <= 9
 | .qX _, r => r.length <= s1.pos + 1
 | _, r => r.length = 1
def PC.more (st s1 : RS) : PC -> Prop
 | .stmt => s1.fe = 0 -> st.pos < s1.pos
 | .func => s1.fe = 0 -> st.pos < s1.pos
 | _ => True
section
variable {l : List Tok} {st s1 : RS}
theorem kR (ht : bS l) (hp : st.pos < l.length) : ∃ k r, jk l k .expr st = some ((j0 l st).1, r) /\ 8 * (l.length - st.pos) + gL.expr.bg < k /\ (j0 l st).2 = r.headD 0 /\ Gr l st (j0 l st).1 /\ r.length = 1 := by
 obtain ⟨s1, r, e, g, a, _⟩ := go_ok ht (8 * (l.length - st.pos) + 5) .expr st hp (by simp only [gL.bg]; omega) trivial
 have q : j0 l st = (s1, r.headD 0) := by unfold j0; rw [e]
 exact ⟨_, r, by rw [q]; exact e, by simp only [gL.bg]; omega, by rw [q], by rw [q]; exact g, a⟩
theorem Ep (ht : bS l) (hp : st.pos < l.length) (a z : bZ) : ∃ k r, jk l k (.inner a z) st = some ((CC l a z st).1, r) /\ 8 * (l.length - st.pos) + (gL.inner a z).bg < k /\ (CC l a z st).2 = r.headD 0 /\ Gr l st (CC l a z st).1 /\ r.length = 1 := by
 obtain ⟨s1, r, e, g, ar, _⟩ := go_ok ht (8 * (l.length - st.pos) + 1) (.inner a z) st hp (by simp only [gL.bg]; omega) trivial
 have q : CC l a z st = (s1, r.headD 0) := by unfold CC; rw [e]
 exact ⟨_, r, by rw [q]; exact e, by simp only [gL.bg]; omega, by rw [q], by rw [q]; exact g, ar⟩
theorem H7 (ht : bS l) (hp : st.pos < l.length) : ∃ k, jk l k .args st = some ((wX l st).1, (wX l st).2) /\ 8 * (l.length - st.pos) + gL.args.bg < k /\ Gr l st (wX l st).1 /\ (wX l st).2.length <= 9 := by
 obtain ⟨s1, r, e, g, ar, _⟩ := go_ok ht (8 * (l.length - st.pos) + 1) .args st hp (by simp only [gL.bg]; omega) trivial
 have q : wX l st = (s1, r) := by unfold wX; rw [e]
 exact ⟨_, by rw [q]; exact e, by simp only [gL.bg]; omega, by rw [q]; exact g, by rw [q]; exact ar⟩
theorem TJ (h : st.fe ≠ 0) {e p : Int} : st.fail e p = st := if_neg h
theorem KR (h : st.fe ≠ 0) {d : Nd} : st.put d = st := by
 have h0 : st.nh d = st := by
  unfold RS.nh; split
  ·exact TJ h
  ·rfl
 unfold RS.put; rw [h0]; exact if_neg h
theorem oi {d : Nd} : (st.put d).pos = st.pos := by unfold RS.put RS.nh; split <;> split <;> first | rfl | exact cU.1
theorem xD {d : Nd} (h : (st.put d).fe = 0) : st.fe = 0 := BP fun q => q (by rwa [KR q] at h)
theorem Gr.lay (h : Gr l st s1) (h1 : s1.fe = 0 -> s1.tree.length + st.pos + 1 <= st.tree.length + s1.pos) {d : Nd} : Gr l st (s1.put d) := by
 by_cases q : s1.fe = 0
 ·exact h.put (h1 q)
 ·rw [KR q]; exact h
theorem Gr.name (ht : bS l) (h : st.pos < l.length) : Gr l st (st.name l) := by
 unfold RS.name; split
 ·rename_i q; exact .next (qc ht h (by have := q.2; omega))
 ·exact .fail h (by decide)
theorem Cw : (st.name l).tree = st.tree /\ (st.name l).deep = st.deep /\ ((st.name l).fe = 0 -> (st.name l).pos = st.pos + 1) := by
 unfold RS.name; split
 ·exact ⟨rfl, rfl, fun _ => rfl⟩
 ·exact ⟨cU.2.2.1, cU.2.1, fun q => absurd q (eg (by decide))⟩
theorem BR {s : bZ} : (st.want l s).fe = 0 -> (st.want l s).pos = st.pos + 1 := by
 unfold RS.want; split
 ·exact fun _ => rfl
 ·exact fun q => absurd q (eg (by decide))
theorem pg (ht : bS l) (h : st.pos < l.length) : Gr l st (kE l st).1 /\ (kE l st).1.tree = st.tree /\ 0 <= (kE l st).2 /\ (kE l st).2 <= 3 := by
 unfold kE
 split
 ·rename_i q; exact ⟨.next (is_lt ht h q), rfl, by simp, by simp⟩
 ·split
  ·rename_i q; exact ⟨.next (is_lt ht h q), rfl, by simp, by simp⟩
  ·split
   ·rename_i q; exact ⟨.next (is_lt ht h q), rfl, by simp, by simp⟩
   ·exact ⟨.fail h (by decide), cU.2.2.1, by simp, by simp⟩
theorem oC (ht : bS l) (g : Gr l st s1) (d : Nd) : Gr l st (lP l s1 d).1 /\ ((lP l s1 d).1.fe = 0 -> st.pos < (lP l s1 d).1.pos) := by
 have gw := Gr.want ht g.pl (s := [59])
 refine ⟨(g.trans gw).lay fun q => ?_, fun q => ?_⟩
 ·have h1 := BR q
  have h2 := g.t
  rw [rf.2]; omega
 ·have h1 := BR (xD q)
  have h2 := g.p
  show st.pos < (RS.put _ d).pos
  rw [oi]; omega
theorem MI (ht : bS l) (hp : st.pos < l.length) : Gr l st (Ei l st).1 /\ ((Ei l st).1.fe = 0 -> st.pos < (Ei l st).1.pos) := by
 have g1 := Gr.name ht hp
 have g2 := g1.trans (Gr.want ht g1.pl (s := [61]))
 obtain ⟨_, _, _, _, _, g3, _⟩ := kR ht g2.pl
 exact oC ht (g2.trans g3) _
theorem Cq (ht : bS l) (hp : st.pos < l.length) (kind : Int) (p : Nat) : Gr l st (qb l kind p st).1 /\ ((qb l kind p st).1.fe = 0 -> st.pos < (qb l kind p st).1.pos) := by
 obtain ⟨_, _, _, _, _, g3, _⟩ := kR ht hp
 exact oC ht g3 _
theorem Gd (ht : bS l) (hp : st.pos < l.length) : Gr l st (lC l st).1 /\ ((lC l st).1.fe = 0 -> st.pos < (lC l st).1.pos) := by
 have g1 := Gr.name ht hp
 obtain ⟨n1, n2, n3⟩ := Cw (st := st) (l := l)
 unfold lC;simp only
 split
 ·rename_i q
  obtain ⟨_, _, _, g2, _⟩ := H7 ht g1.pl
  refine oC ht ((g1.trans g2).lay fun w => ?_) _
  have h1 := n3 q.1
  have h2 := g2.t
  rw [n1] at h2;omega
 ·split
  ·obtain ⟨_, _, _, _, _, g2, _⟩ := Ep ht g1.pl [91] [93]
   have g3 := (g1.trans g2).trans (Gr.want ht g2.pl (s := [61]))
   obtain ⟨_, _, _, _, _, g4, _⟩ := kR ht g3.pl
   exact oC ht (g3.trans g4) _
  ·have g3 := g1.trans (Gr.want ht g1.pl (s := [61]))
   obtain ⟨_, _, _, _, _, g4, _⟩ := kR ht g3.pl
   exact oC ht (g3.trans g4) _
end
theorem kP {l : List Tok} (ht : bS l) : ∀ (k : Nat) (c : PC) (st : RS), st.pos < l.length -> 8 * (l.length - st.pos) + c.bg < k -> c.may st -> ∃ s1 r, lW l k c st = some (s1, r) /\ Gr l st s1 /\ c.TZ s1 r /\ c.more st s1 := by
 intro k
 induction k with
 | zero => intro c st hp hk; omega
 | succ k ih =>
  intro c st hp hk hm
  cases c with
  | stmt =>
   have tk : ∀ {x : RS × Int}, st.pos + 1 < l.length -> (Gr l st.next x.1 /\ (x.1.fe = 0 -> st.next.pos < x.1.pos)) -> ∃ s1 r, some (IV x) = some (s1, r) /\ Gr l st s1 /\ PC.TZ s1 .stmt r /\ PC.more st s1 .stmt := by
    intro x hn ⟨g, q⟩
    exact ⟨_, _, rfl, (Gr.next hn).trans g, rfl, fun w => by have := q w; simp only [RS.next] at this; omega⟩
   -- a block behind tokens N5 aeu taken
   have c9 : ∀ {s0 : RS}, st.pos + 1 < l.length -> Gr l st.next s0 -> ∃ s1 r, lW l k .block s0 = some (s1, r) /\ Gr l st.next s1 /\ r.length = 1 := by
    intro s0 hn g
    obtain ⟨s1, r, e, g1, a, _⟩ := ih .block s0 g.pl (by have := g.p; simp only [PC.bg, RS.next] at *; omega) trivial
    exact ⟨s1, r, e, g.trans g1, a⟩
   have lay : ∀ {s0 : RS} (d : Nd), st.pos + 1 < l.length -> Gr l st.next s0 -> ∃ s1 r, uU s0 d = some (s1, r) /\ Gr l st s1 /\ PC.TZ s1 .stmt r /\ PC.more st s1 .stmt := by
    intro s0 d hn g
    refine ⟨_, _, rfl, ((Gr.next hn).trans g).lay fun _ => ?_, rfl, fun w => ?_⟩
    ·have := g.t; simp only [RS.next] at this; omega
    ·rw [oi]; have := g.p; simp only [RS.next] at this; omega
   simp only [lW]
   split
   ·rename_i q; have hn := is_lt ht hp q; exact tk hn (MI ht hn)
   ·split
    ·rename_i q; have hn := is_lt ht hp q
     obtain ⟨_, _, _, _, _, ge, _⟩ := kR (st := st.next) ht hn
     obtain ⟨s1, r, e, g, a⟩ := c9 hn ge
     simp only [Xg, e, Option.bind_some]
     split
     ·rename_i q2
      obtain ⟨s2, r2, e2, g2, a2⟩ := c9 hn (g.trans (.next (is_lt ht g.pl q2)))
      simp only [e2, Option.bind_some];exact lay _ hn g2
     ·exact lay _ hn g
    ·split
     ·rename_i q; have hn := is_lt ht hp q
      obtain ⟨_, _, _, _, _, ge, _⟩ := kR (st := st.next) ht hn
      obtain ⟨s1, r, e, g, a⟩ := c9 hn ge
      simp only [DF, e, Option.bind_some];exact lay _ hn g
     ·split
      ·rename_i q; have hn := is_lt ht hp q
       have g1 : Gr l st.next (st.next.name l) := Gr.name ht hn
       have g2 := g1.trans (Gr.want ht g1.pl (s := [61]))
       obtain ⟨_, _, _, _, _, ge, _⟩ := kR ht g2.pl
       have g3 := g2.trans ge
       have g4 := g3.trans (Gr.want ht g3.pl (s := [44]))
       obtain ⟨_, _, _, _, _, gf, _⟩ := kR ht g4.pl
       obtain ⟨s1, r, e, g, a⟩ := c9 hn (g4.trans gf)
       simp only [RI, e, Option.bind_some];exact lay _ hn g
      ·split
       ·rename_i q; have hn := is_lt ht hp q; exact tk hn (oC ht (.refl hn) _)
       ·split
        ·rename_i q; have hn := is_lt ht hp q; exact tk hn (oC ht (.refl hn) _)
        ·split
         ·rename_i q; have hn := is_lt ht hp q; exact tk hn (Cq ht hn _ _)
         ·split
          ·rename_i q; have hn := is_lt ht hp q; exact tk hn (Cq ht hn _ _)
          ·obtain ⟨g, q⟩ := Gd ht hp
           exact ⟨_, _, rfl, g, rfl, q⟩
  | block =>
   simp only [lW]
   split
   ·rename_i q
    have hn := is_lt ht hp q
    have go := Gr.open hn (p := ((st.now l).pos : Int))
    obtain ⟨o1, o2, o3⟩ := lx (st := st.next) (p := ((st.now l).pos : Int))
    split
    ·rename_i qf
     obtain ⟨s1, r, e, g, a, _⟩ := ih (.kW []) (st.next.open (st.now l).pos) go.pl (by rw [o1]; simp only [PC.bg, RS.next] at *; omega) ⟨qf, lu _⟩
     have g1 := (go.trans g).close (by have := g.d0; rw [o2] at this; simp only [RS.next] at this; exact this)
     refine ⟨_, _, by simp only [e, Option.bind_some]; rfl, g1.lay fun _ => ?_, by rfl, trivial⟩
     have := g.t; rw [o1, o3] at this; simp only [RS.next, RS.close] at *; omega
    ·exact ⟨_, _, rfl, go, rfl, trivial⟩
   ·exact ⟨_, _, rfl, .fail hp (by decide), rfl, trivial⟩
  | kW out =>
   obtain ⟨hf, hm⟩ := hm
   simp only [lW]
   split
   ·rename_i q
    exact ⟨_, _, rfl, .next (is_lt ht hp q), by show out.length <= _; simp only [RS.next]; omega, trivial⟩
   ·obtain ⟨s1, r, e, g, a, mo⟩ := ih .stmt st hp (by simp only [PC.bg] at *; omega) trivial
    have a : r.length = 1 := a
    simp only [e, Option.bind_some]
    split
    ·rename_i q
     have bt := mo q
     obtain ⟨s2, r2, e2, g2, a2, _⟩ := ih (.kW (out ++ r)) s1 g.pl (by simp only [PC.bg] at *; omega) ⟨q, by rw [ja, a]; omega⟩
     exact ⟨_, _, e2, g.trans g2, a2, trivial⟩
    ·exact ⟨_, _, rfl, g, by show (out ++ r).length <= _; rw [ja, a]; have := g.p; omega, trivial⟩
  | um out =>
   have hm : out.length <= 8 := hm
   simp only [lW]
   split
   ·rename_i qf
    have g1 := Gr.name ht hp
    obtain ⟨n1, n2, n3⟩ := Cw (st := st) (l := l)
    have g0 : Gr l st (if out.length = 8 then (st.name l).fail 3 (st.now l).pos else st.name l) := by
     split
     ·exact g1.trans (.fail g1.pl (by decide))
     ·exact g1
    have t0 : (if out.length = 8 then (st.name l).fail 3 (st.now l).pos else st.name l).tree = st.tree := by
     split
     ·rw [cU.2.2.1, n1]
     ·exact n1
    have f0 : (if out.length = 8 then (st.name l).fail 3 (st.now l).pos else st.name l).fe = 0 -> out.length < 8 /\ st.pos + 1 <= (if out.length = 8 then (st.name l).fail 3 (st.now l).pos else st.name l).pos := by
     split
     ·exact fun q => absurd q (eg (by decide))
     ·intro w; exact ⟨by omega, by rw [n3 w]; exact fh _⟩
    generalize (if out.length = 8 then (st.name l).fail 3 (st.now l).pos else st.name l) = s0 at *
    obtain ⟨g2, t2, _, _⟩ := pg ht g0.pl
    have g3 := (g0.trans g2).lay (d := nd 24 [] (kE l s0).2 (st.cP l) (st.now l).pos) fun w => by
     have := f0 (g2.f w); have := g2.p; rw [t2, t0]; omega
    split
    ·rename_i q
     have hn := is_lt ht g3.pl q
     have hf := f0 (g2.f (xD q.1))
     obtain ⟨s2, r2, e2, g4, a2, _⟩ := ih (.um (out ++ [(kE l s0).1.gO (nd 24 [] (kE l s0).2 (st.cP l) (st.now l).pos)])) ((kE l s0).1.put (nd 24 [] (kE l s0).2 (st.cP l) (st.now l).pos)).next hn (by have := g3.p; simp only [PC.bg, RS.next] at *; omega) (by show (out ++ [_]).length <= 8; rw [ja, List.length_singleton]; omega)
     exact ⟨_, _, e2, g3.trans ((Gr.next hn).trans g4), a2, trivial⟩
    ·exact ⟨_, _, rfl, g3, by show (out ++ [_]).length <= 9; rw [ja, List.length_singleton]; omega, trivial⟩
   ·exact ⟨_, _, rfl, .refl hp, by show out.length <= 9; omega, trivial⟩
  | func =>
   simp only [lW];have g0 := Gr.want ht hp (s := Ap)
   have w0 := BR (st := st) (l := l) (s := Ap)
   have d0 := (rf (st := st) (l := l) (s := Ap)).2
   generalize st.want l Ap = s0 at *
   have g1 : Gr l s0 (s0.name l) := Gr.name ht g0.pl
   have g2 : Gr l s0 ((s0.name l).want l [40]) := g1.trans (Gr.want ht g1.pl)
   generalize (s0.name l).want l [40] = s1 at *
   have Vt : ∃ s2 r, (if s1.is l [41] then some (s1, []) else lW l k (.um []) s1) = some (s2, r) /\ Gr l s1 s2 /\ r.length <= 9 := by
    split
    ·exact ⟨_, _, rfl, .refl g2.pl, lu _⟩
    ·obtain ⟨s2, r2, e2, g4, a2, _⟩ := ih (.um []) s1 g2.pl (by have := g0.p; have := g2.p; simp only [PC.bg] at *; omega) (lu _)
     exact ⟨_, _, e2, g4, a2⟩
   obtain ⟨s2, r, e, g3, _⟩ := Vt
   simp only [e, Option.bind_some];have g4 := (g2.trans g3).trans (Gr.want ht g3.pl (s := [41]))
   obtain ⟨g5, _⟩ := pg ht g4.pl
   have g6 := g4.trans g5
   obtain ⟨s5, r5, e5, g7, a5, _⟩ := ih .block (kE l (s2.want l [41])).1 g6.pl (by have := g0.p; have := g6.p; simp only [PC.bg] at *; omega) trivial
   simp only [e5, Option.bind_some];have g8 := g6.trans g7
   refine ⟨_, _, rfl, (g0.trans g8).lay fun q => ?_, rfl, fun q => ?_⟩
   ·have h1 := w0 (g8.f q); have := g8.t; rw [d0] at this; omega
   ·have h1 := w0 (g8.f (xD q)); rw [oi]; have := g8.p; omega
  | qX out =>
   have hm : out.length <= st.pos := hm
   simp only [lW]
   split
   ·rename_i qf
    have g0 : Gr l st (if out.length = 200 /\ st.is l Ap then st.fail 3 (st.now l).pos else st) := by
     split
     ·exact .fail hp (by decide)
     ·exact .refl hp
    have p0 : (if out.length = 200 /\ st.is l Ap then st.fail 3 (st.now l).pos else st).pos = st.pos := by
     split
     ·exact cU.1
     ·rfl
    generalize (if out.length = 200 /\ st.is l Ap then st.fail 3 (st.now l).pos else st) = s0 at *
    obtain ⟨s1, r, e, g, a, mo⟩ := ih .func s0 g0.pl (by rw [p0]; simp only [PC.bg] at *; omega) trivial
    have a : r.length = 1 := a
    simp only [e, Option.bind_some];have g1 := g0.trans g
    split
    ·rename_i q
     have bt := mo q
     rw [p0] at bt;obtain ⟨s2, r2, e2, g2, a2, _⟩ := ih (.qX (out ++ r)) s1 g.pl (by simp only [PC.bg] at *; omega) (by show (out ++ r).length <= _; rw [ja, a]; omega)
     exact ⟨_, _, e2, g1.trans g2, a2, trivial⟩
    ·exact ⟨_, _, rfl, g1, by show (out ++ r).length <= _; rw [ja, a]; have := g1.p; omega, trivial⟩
   ·refine ⟨_, _, rfl, .refl hp, ?_, trivial⟩
    show out.length <= st.pos + 1
    omega
end
section
section
variable {tg : Nat} {l : List Tok} {st : RS} {tv hv : EV} {b : Nat} {m : Mem}
theorem EG (hg : m.get b = .cells (aZ tg l st tv hv) 7 ai false) (hb : b < m.next) :
  run U nY [.ptr b 0] m = some (.ret (.agg [.int .i64 st.fe, .int .i64 st.fp]) (bump m 1)) := by
 rw [lH];obtain ⟨X, hE⟩ : ∃ X, pF bm.results (exec B3 bm.body (aa [.ptr b 0] 0 ph) m) = X := ⟨_, rfl⟩
 have hX := hE
 simp +contextual -implicitDefEqProofs (maxSteps := 1000000) (maxDischargeDepth := 8) only [bm, hg, hb, aq, aa, implies_true, simprocAttr] at hX
 subst hX;exact y5 (by simp [bm]) hE rfl rfl AJ
theorem KQ (hg : m.get b = .cells (aZ tg l st tv hv) 7 ai false) (hb : b < m.next) :
  run U nX [.agg [.ptr b 0]] m = some (.ret (bo (st.fe = 0)) (bump m 2)) := by
 have h1 : ∀ M : Mem, M.get b = .cells (aZ tg l st tv hv) 7 ai false -> b < M.next -> kz B3 bm [.ptr b 0] M = some (.ret (.agg [.int .i64 st.fe, .int .i64 st.fp]) (bump M 1)) := fun M h1 h2 => by
  have := EG (m := M) h1 h2
  rwa [lH] at this
 rw [sZ];obtain ⟨X, hE⟩ : ∃ X, pF bC.results (exec B4 bC.body (aa [.agg [.ptr b 0]] 0 ph) m) = X := ⟨_, rfl⟩
 have hX := hE
 simp +contextual -implicitDefEqProofs (maxSteps := 1000000) (maxDischargeDepth := 8) only [bC, rE, h1, hg, hb, aq, aa, implies_true, simprocAttr] at hX
 subst hX;exact y5 (by simp [bC]) hE rfl rfl (td AJ)
theorem P0 (h : Kv b tg l st tv hv) (hg : m.get b = .cells (aZ tg l st tv hv) 7 ai false) (hb : b < m.next) : ∃ m', run U xG [.ptr b 0] m = some (.ret (.agg (st.now l).cells) m') /\ qN m m' b (.cells (aZ tg l st.next tv hv) 7 ai false) := by
 have ht := h.token
 have hw := cx (i := st.pos) (by have := h.p; omega)
 rw [bX (by simp [dX])]
 generalize hY : pF _ _ = Y
 simp +contextual -implicitDefEqProofs (maxSteps := 1000000) (maxDischargeDepth := 8) only [dX, ht, hg, hb, hw, aq, aa, implies_true, simprocAttr] at hY
 have h1 : qN m (m.set b (.cells (aZ tg l st.next tv hv) 7 ai false)) b (.cells (aZ tg l st.next tv hv) 7 ai false) := .set (fh _) fun _ _ _ => rfl
 refine ⟨_, hY.symm, ?_⟩
 have h2 := h1.trans (qN.ext (ys := [.cells [.int .i64 ((st.now l).kind : Int), .str (st.now l).text, .int .i64 ((st.now l).n : Int), .int .i64 ((st.now l).pos : Int)] 4 aB false]) h1.g hb)
 have h3 := h2.trans (qN.bump (k := 19) h2.g)
 exact h3.trans (qN.ext h3.g (mn hb h3.n))
theorem QF (h : Kv b tg l st tv hv) (hg : m.get b = .cells (aZ tg l st tv hv) 7 ai false) (hb : b < m.next) : ∃ m', run U eF [.ptr b 0] m = some (.ret (.str (st.cP l)) m') /\ qN m m' b (.cells (aZ tg l (st.name l) tv hv) 7 ai false) := by
 have ht := h.token
 have hf := h.abG
 rw [bX (by simp [cH])]
 generalize hY : pF _ _ = Y
 have bad : ¬ st.nV l -> ∀ M : Mem, qN m M b (.cells (aZ tg l st tv hv) 7 ai false) -> ∃ m2, run U dR [.ptr b 0, .int .i64 8, .int .i64 ((st.now l).pos : Int)] M = some (.ret (.tuple []) m2) /\ qN m m2 b (.cells (aZ tg l (st.name l) tv hv) 7 ai false) := by
  intro hc M u
  obtain ⟨m2, e2, u2⟩ := u7 u.g (mn hb u.n) 8 ((st.now l).pos : Int)
  have : st.name l = st.fail 8 (st.now l).pos := if_neg hc
  exact ⟨m2, e2, by rw [this]; exact u.trans u2⟩
 have hk : ((st.now l).kind : Int) = 1 ↔ (st.now l).kind = 1 := by omega
 by_cases im : st.fe = 0
 ·by_cases Kt : (st.now l).kind = 1
  ·have hc : st.nV l := ⟨im, Kt⟩
   have e1 : st.cP l = (st.now l).text := if_pos hc
   have e2 : st.name l = st.next := if_pos hc
   have u1 : qN m (bump (bump m 0) 19) b (.cells (aZ tg l st tv hv) 7 ai false) := (qN.bump hg).trans (qN.bump hg)
   obtain ⟨m2, q2, u2⟩ := P0 h u1.g (mn hb u1.n)
   unfold Tok.cells at q2;simp +contextual -implicitDefEqProofs (maxSteps := 1000000) (maxDischargeDepth := 8) only [cH, ht, hf, hg, hb, im, Kt, q2, fY, aq, aa, implies_true, simprocAttr] at hY
   rw [e1, e2];exact ⟨_, hY.symm, u1.trans u2⟩
  ·have hc : ¬ st.nV l := fun q => Kt q.2
   have Fk : ¬ (((st.now l).kind : Int) = 1) := by omega
   have e1 : st.cP l = [] := if_neg hc
   have u1 : qN m (bump (bump (bump m 0) 19) 19) b (.cells (aZ tg l st tv hv) 7 ai false) := ((qN.bump hg).trans (qN.bump hg)).trans (qN.bump hg)
   obtain ⟨m2, q2, u2⟩ := bad hc _ u1
   simp +contextual -implicitDefEqProofs (maxSteps := 1000000) (maxDischargeDepth := 8) only [cH, ht, hf, hg, hb, im, Fk, q2, fY, fA, aq, aa, implies_true, simprocAttr] at hY
   rw [e1];exact ⟨_, hY.symm, u2⟩
 ·have hc : ¬ st.nV l := fun q => im q.1
  have e1 : st.cP l = [] := if_neg hc
  have u1 : qN m (bump (bump m 0) 19) b (.cells (aZ tg l st tv hv) 7 ai false) := (qN.bump hg).trans (qN.bump hg)
  obtain ⟨m2, q2, u2⟩ := bad hc _ u1
  simp +contextual -implicitDefEqProofs (maxSteps := 1000000) (maxDischargeDepth := 8) only [cH, ht, hf, hg, hb, im, q2, fY, fA, aq, aa, implies_true, simprocAttr] at hY
  rw [e1];exact ⟨_, hY.symm, u2⟩
end
section
variable {m M : Mem} {b tg : Nat} {l : List Tok} {st : RS} {P Q : Nat -> Prop} {X : Option Fin}
theorem xC : ∀ M : Mem, Rd M b tg l st P -> run U nX [.agg [.ptr b 0]] M = some (.ret (bo (st.fe = 0)) (bump M 2)) := fun M h => by
 obtain ⟨tv, hv, xs, h⟩ := h; exact KQ h.g h.lt
theorem VW : ∀ M : Mem, Rd M b tg l st P -> run U nY [.ptr b 0] M = some (.ret (.agg [.int .i64 st.fe, .int .i64 st.fp]) (bump M 1)) := fun M h => by
 obtain ⟨tv, hv, xs, h⟩ := h; exact EG h.g h.lt
theorem nV (ht : bS l) (o : ez l st) (h : Rd m b tg l st P) (hX : run U eF [.ptr b 0] m = X) : ∃ m', X = some (.ret (.str (st.cP l)) m') /\ Rd m' b tg l (st.name l) P /\ Kp m m' P := by
 obtain ⟨tv, hv, xs, h⟩ := h
 obtain ⟨m', e', u⟩ := QF (o.U1 ht) h.g h.lt
 have q : (st.name l).tree = st.tree /\ (st.name l).high = st.high := by
  unfold RS.name; split
  ·exact ⟨rfl, rfl⟩
  ·exact cU.2.2
 exact ⟨m', hX.symm.trans e', ⟨_, _, _, h.NY q.1 q.2 u⟩, h.kp u⟩
end
end
section
section
variable {m M : Mem} {b tg : Nat} {l : List Tok} {st : RS} {P Q : Nat -> Prop} {X : Option Fin}
theorem zF (ht : bS l) (o : ez l st) (h : Rd m b tg l st P) (hX : run U aU [.ptr b 0] m = X) : ∃ m', X = some (.ret (.int .i64 (j0 l st).2) m') /\ Rd m' b tg l (j0 l st).1 P /\ Kp m m' P := by
 obtain ⟨k, r, e, hk, hv, _⟩ := kR ht o.p
 rw [hv];exact (DH ht k).expr _ _ _ _ _ _ _ o hk e h hX
theorem aaO (ht : bS l) (o : ez l st) (h : Rd m b tg l st P) {a z : bZ} (hX : run U cu [.ptr b 0, .str a, .str z] m = X) : ∃ m', X = some (.ret (.int .i64 (CC l a z st).2) m') /\ Rd m' b tg l (CC l a z st).1 P /\ Kp m m' P := by
 obtain ⟨k, r, e, hk, hv, _⟩ := Ep ht o.p a z
 rw [hv];exact (DH ht k).inner _ _ _ _ _ _ _ _ _ o hk e h hX
theorem Yk (ht : bS l) (o : ez l st) (h : Rd m b tg l st P) {s : bZ} {p : Int} (hX : run U ji [.ptr b 0, .str s, .int .i64 p] m = X) : ∃ m', X = some (.ret (.int .i64 ((wX l st).1.gO (nd 11 (wX l st).2 0 s p))) m') /\ Rd m' b tg l ((wX l st).1.put (nd 11 (wX l st).2 0 s p)) P /\ Kp m m' P := by
 obtain ⟨k, e, hk, _⟩ := H7 ht o.p
 exact GI ht (DH ht k).args o hk e h hX
theorem tx (ht : bS l) (o : ez l st) : Gr l st (j0 l st).1 := by obtain ⟨_, _, _, _, _, g, _⟩ := kR ht o.p; exact g
theorem Vl (ht : bS l) (o : ez l st) {a z : bZ} : Gr l st (CC l a z st).1 := by obtain ⟨_, _, _, _, _, g, _⟩ := Ep ht o.p a z; exact g
theorem V2 (ht : bS l) (o : ez l st) : Gr l st (wX l st).1 := by obtain ⟨_, _, _, g, _⟩ := H7 ht o.p; exact g
theorem JQ (ht : bS l) (o : ez l st) (h : Rd m b tg l st Q) {kind n p : Int} {s : bZ} {kids : List Int} {kv : EV} (Gs : kids.length < 1000000) (ho : jz m kv (is kids) kids.length 1 0) (hp : ∀ c, ¬ gz kv c -> Q c) (hq : ∀ c, P c -> Q c /\ gz kv c) (hz : kids = [] -> kv = .ae) (hX : run U dc [.agg [.ptr b 0], .agg [.int .i64 kind, kv, .int .i64 n, .str s, .int .i64 p]] m = X) : ∃ m', X = some (.ret (.int .i64 (lP l st (nd kind kids n s p)).2) m') /\ Rd m' b tg l (lP l st (nd kind kids n s p)).1 P /\ Kp m m' P := by
 rw [bX (by simp [dV])] at hX
 simp +contextual -implicitDefEqProofs (maxSteps := 1000000) (maxDischargeDepth := 8) only [dV, aq, aa, implies_true, simprocAttr] at hX
 have r0 := h.H3 [.cells [.ptr b 0] 1 ah false, .cells [.int .i64 kind, kv, .int .i64 n, .str s, .int .i64 p] 5 aW false]
 have k0 := (lI h [.cells [.ptr b 0] 1 ah false, .cells [.int .i64 kind, kv, .int .i64 n, .str s, .int .i64 p] 5 aW false])
 have ho0 := ho.ext [.cells [.ptr b 0] 1 ah false, .cells [.int .i64 kind, kv, .int .i64 n, .str s, .int .i64 p] 5 aW false]
 have e0 : (ext m [.cells [.ptr b 0] 1 ah false, .cells [.int .i64 kind, kv, .int .i64 n, .str s, .int .i64 p] 5 aW false]).get (nb m.next 0) = .cells [.ptr b 0] 1 ah false := by rw [aK rfl (by simp)]; rfl
 have e1 : (ext m [.cells [.ptr b 0] 1 ah false, .cells [.int .i64 kind, kv, .int .i64 n, .str s, .int .i64 p] 5 aW false]).get (nb m.next 1) = .cells [.int .i64 kind, kv, .int .i64 n, .str s, .int .i64 p] 5 aW false := by rw [aK rfl (by simp)]; rfl
 have en : (ext m [.cells [.ptr b 0] 1 ah false, .cells [.int .i64 kind, kv, .int .i64 n, .str s, .int .i64 p] 5 aW false]).next = nb m.next 2 := aM
 generalize ext m [.cells [.ptr b 0] 1 ah false, .cells [.int .i64 kind, kv, .int .i64 n, .str s, .int .i64 p] 5 aW false] = M0 at *
 generalize hC : run U aO _ _ = C at hX
 obtain ⟨m1, rfl, r1, k1⟩ := nT ht o r0 hC
 clear hC;have e0 := (k1.k _ (nU (by simp))).trans e0
 have e1 := (k1.k _ (nU (by simp))).trans e1
 have n1 : nb m.next 2 <= m1.next := by rw [<- en]; exact k1.n
 have n0 : nb m.next 0 < m1.next := mn (by unfold nb; omega) n1
 have n1 : nb m.next 1 < m1.next := mn (by unfold nb; omega) n1
 simp +contextual -implicitDefEqProofs (maxSteps := 1000000) (maxDischargeDepth := 8) only [e0, e1, n0, n1, aq, aa, implies_true, simprocAttr] at hX
 generalize hC : run U ay _ _ = C at hX
 obtain ⟨m2, rfl, r2, k2⟩ := pG (P := P) (kids := kids) ht ((Gr.want ht o.p).ok o) r1 Gs (ho0.kp k1 fun c hc => .inl (hp c hc)) (fun c hc => .inl (hp c hc)) (fun c hc => ⟨.inl (hq c hc).1, (hq c hc).2⟩) hz hC
 clear hC;simp +contextual -implicitDefEqProofs (maxSteps := 1000000) (maxDischargeDepth := 8) only [aq, aa, implies_true, simprocAttr] at hX
 subst hX;exact ⟨_, rfl, r2, ((k0.bO fun c hc => (hq c hc).1).trans (k1.bO fun c hc => .inl (hq c hc).1)).trans k2⟩
end
end
section
section
variable {m M : Mem} {b tg : Nat} {l : List Tok} {st : RS} {P Q : Nat -> Prop} {X : Option Fin}
theorem drawn {m0 m7 : Mem} {n c : Nat} {st' : RS} (h0 : Rd m0 b tg l st P) (hn : m0.next <= c) (hc : c < m0.next + n) (h7 : Rd m7 b tg l st' (Pr P m0.next (m0.next + n))) (k7 : Kp (bump m0 n) m7 (Pr P m0.next (m0.next + n))) (cs : List EV) :
  Rd (m7.set c (.cells cs 1 bn false)) b tg l st' (Pr P m0.next (m0.next + n)) /\ Kp m0 (m7.set c (.cells cs 1 bn false)) P /\ c < m7.next /\ Pr P m0.next (m0.next + n) c /\ (∀ a, P a -> a ≠ c) := by
 have pc : Pr P m0.next (m0.next + n) c := .inr ⟨hn, hc⟩
 have hP : ∀ a, P a -> a ≠ c := fun a ha => by have := h0.mb ha; omega
 have k7n : m0.next + n <= m7.next := k7.n
 refine ⟨?_, ⟨?_, fun a ha => ?_⟩, by omega, pc, hP⟩
 ·exact h7.Qm pc _
 ·show m0.next <= m7.next
  omega
 ·rw [az (hP a ha)]; exact k7.k a (.inl ha)
theorem jG (h : Rd m b tg l st P) (n : Nat) : Rd (bump m n) b tg l st (Pr P m.next (m.next + n)) := h.grown (M := bump m n) (by rw [bz]; exact bE) fun _ _ => rfl
theorem p7 {m : Mem} {c n : Nat} {cs : List EV} (hc : c < m.next) (hl : cs.length = n) : jz (m.set c (.cells cs 1 bn false)) (.slice c 0 n (some n)) cs n 1 0 :=
 ⟨.inr ⟨c, some n, bn, rfl, lu _, hc, bK, .inr rfl⟩, by omega⟩
structure Bx (m M : Mem) (b : Nat) (P : Nat -> Prop) : Prop where
 k : Kp m M P
 g : M.get (nb m.next 0) = .cells [.ptr b 0] 1 ah false
 n : nb m.next 0 < M.next
theorem Bx.step {M' : Mem} {R : Nat -> Prop} (h : Bx m M b P) (k : Kp M M' R) (hP : ∀ c, P c -> R c) (h0 : R (nb m.next 0)) : Bx m M' b P := ⟨h.k.trans (k.bO hP), (k.k _ h0).trans h.g, mn h.n k.n⟩
theorem rz : Pr P m.next (nb m.next 1) (nb m.next 0) := nU (by simp)
theorem Bx.start (h : Rd m b tg l st P) (n : Nat) : Rd (bump (ext m [.cells [.ptr b 0] 1 ah false]) n) b tg l st (Pr P m.next (nb m.next 1)) /\ Bx m (bump (ext m [.cells [.ptr b 0] 1 ah false]) n) b P := by
 have r0 := h.H3 [.cells [.ptr b 0] 1 ah false]
 refine ⟨ak r0, (lI h _).trans ((aQ r0).bO fun c hc => .inl hc), ?_, ?_⟩
 ·rw [gP, aK rfl (by simp)]; rfl
 ·rw [bz, aM]; unfold nb; simp; omega
theorem Bx.uD (h : Rd m b tg l st P) : Rd (ext m [.cells [.ptr b 0] 1 ah false]) b tg l st (Pr P m.next (nb m.next 1)) /\ Bx m (ext m [.cells [.ptr b 0] 1 ah false]) b P := by
 have r0 := h.H3 [.cells [.ptr b 0] 1 ah false]
 refine ⟨r0, lI h _, ?_, ?_⟩
 ·rw [aK rfl (by simp)]; rfl
 ·rw [aM]; unfold nb; simp
theorem Qg (ht : bS l) (o : ez l st) (h : Rd m b tg l st P) {p : Nat} (hX : run U nK [.agg [.ptr b 0], .int .i64 (p : Int)] m = X) : ∃ m', X = some (.ret (.int .i64 (qb l 20 p st).2) m') /\ Rd m' b tg l (qb l 20 p st).1 P /\ Kp m m' P := by
 rw [bX (by simp [fc])] at hX
 simp +contextual -implicitDefEqProofs (maxSteps := 1000000) (maxDischargeDepth := 8) only [fc, aq, aa, implies_true, simprocAttr] at hX
 have en : (ext m [.cells [.ptr b 0] 1 ah false]).next = nb m.next 1 := aM
 obtain ⟨r0, x0⟩ := Bx.uD h
 generalize ext m [.cells [.ptr b 0] 1 ah false] = M0 at *
 rw [<- en] at hX;have rb := jG r0 9
 generalize hC : run U aU _ _ = C at hX
 obtain ⟨m7, rfl, r7, k7⟩ := zF ht o rb hC
 clear hC;generalize hx : (j0 l st).2 = x at *
 have e7 := (k7.k _ (.inl rz)).trans x0.g
 have hM : ∀ B, Mem.mk m7.next (ext (Mem.mk (M0.next + 4) m7.gB) [B]).gB = m7.set (M0.next + 4) B := fun _ => rfl
 obtain ⟨r8, k8, n8, p8, OX⟩ := drawn (c := M0.next + 4) r0 (by omega) (by omega) r7 k7 [.int .i64 x]
 simp +contextual -implicitDefEqProofs (maxSteps := 1000000) (maxDischargeDepth := 8) only [e7, hM, aq, aa, implies_true, simprocAttr] at hX
 generalize hC : run U dc _ _ = C at hX
 obtain ⟨m9, rfl, r9, k9⟩ := JQ (P := Pr P m.next (nb m.next 1)) (kids := [x]) ht ((tx ht o).ok o) r8 (by simp) (p7 n8 rfl) (fun c hc => by rw [cj hc]; exact p8) (fun c hc => ⟨.inl hc, gz.of (OX c hc)⟩) (by simp) hC
 clear hC;simp +contextual -implicitDefEqProofs (maxSteps := 1000000) (maxDischargeDepth := 8) only [aq, aa, implies_true, simprocAttr] at hX
 subst hX;subst hx;exact ⟨_, rfl, r9.bO fun c hc => .inl hc, x0.k.trans ((k8.trans k9).bO fun c hc => .inl hc)⟩
theorem KT (ht : bS l) (o : ez l st) (h : Rd m b tg l st P) {p : Nat} (hX : run U nJ [.agg [.ptr b 0], .int .i64 (p : Int)] m = X) : ∃ m', X = some (.ret (.int .i64 (qb l 21 p st).2) m') /\ Rd m' b tg l (qb l 21 p st).1 P /\ Kp m m' P := by
 rw [bX (by simp [e9])] at hX
 simp +contextual -implicitDefEqProofs (maxSteps := 1000000) (maxDischargeDepth := 8) only [e9, aq, aa, implies_true, simprocAttr] at hX
 have en : (ext m [.cells [.ptr b 0] 1 ah false]).next = nb m.next 1 := aM
 obtain ⟨r0, x0⟩ := Bx.uD h
 generalize ext m [.cells [.ptr b 0] 1 ah false] = M0 at *
 rw [<- en] at hX;have rb := jG r0 9
 generalize hC : run U aU _ _ = C at hX
 obtain ⟨m7, rfl, r7, k7⟩ := zF ht o rb hC
 clear hC;generalize hx : (j0 l st).2 = x at *
 have e7 := (k7.k _ (.inl rz)).trans x0.g
 have hM : ∀ B, Mem.mk m7.next (ext (Mem.mk (M0.next + 4) m7.gB) [B]).gB = m7.set (M0.next + 4) B := fun _ => rfl
 obtain ⟨r8, k8, n8, p8, OX⟩ := drawn (c := M0.next + 4) r0 (by omega) (by omega) r7 k7 [.int .i64 x]
 simp +contextual -implicitDefEqProofs (maxSteps := 1000000) (maxDischargeDepth := 8) only [e7, hM, aq, aa, implies_true, simprocAttr] at hX
 generalize hC : run U dc _ _ = C at hX
 obtain ⟨m9, rfl, r9, k9⟩ := JQ (P := Pr P m.next (nb m.next 1)) (kids := [x]) ht ((tx ht o).ok o) r8 (by simp) (p7 n8 rfl) (fun c hc => by rw [cj hc]; exact p8) (fun c hc => ⟨.inl hc, gz.of (OX c hc)⟩) (by simp) hC
 clear hC;simp +contextual -implicitDefEqProofs (maxSteps := 1000000) (maxDischargeDepth := 8) only [aq, aa, implies_true, simprocAttr] at hX
 subst hX;subst hx;exact ⟨_, rfl, r9.bO fun c hc => .inl hc, x0.k.trans ((k8.trans k9).bO fun c hc => .inl hc)⟩
theorem L5 (ht : bS l) (o : ez l st) (h : Rd m b tg l st P) {p : Nat} (hX : run U nM [.agg [.ptr b 0], .int .i64 (p : Int)] m = X) : ∃ m', X = some (.ret (.int .i64 (lP l st (nd 18 [] 0 [] p)).2) m') /\ Rd m' b tg l (lP l st (nd 18 [] 0 [] p)).1 P /\ Kp m m' P := by
 rw [bX (by simp [fg])] at hX
 simp +contextual -implicitDefEqProofs (maxSteps := 1000000) (maxDischargeDepth := 8) only [fg, aq, aa, implies_true, simprocAttr] at hX
 obtain ⟨r0, x0⟩ := Bx.uD h
 generalize ext m [.cells [.ptr b 0] 1 ah false] = M0 at *
 generalize hC : run U dc _ _ = C at hX
 obtain ⟨m9, rfl, r9, k9⟩ := JQ (P := P) (kids := []) ht o r0 (by simp) ⟨.inl ⟨rfl, rfl, rfl⟩, rfl⟩ (fun c hc => absurd gz.nil hc) (fun c hc => ⟨.inl hc, gz.nil⟩) (by simp) hC
 clear hC;simp +contextual -implicitDefEqProofs (maxSteps := 1000000) (maxDischargeDepth := 8) only [aq, aa, implies_true, simprocAttr] at hX
 subst hX;exact ⟨_, rfl, r9, x0.k.trans k9⟩
theorem Pg (ht : bS l) (o : ez l st) (h : Rd m b tg l st P) {p : Nat} (hX : run U nL [.agg [.ptr b 0], .int .i64 (p : Int)] m = X) : ∃ m', X = some (.ret (.int .i64 (lP l st (nd 19 [] 0 [] p)).2) m') /\ Rd m' b tg l (lP l st (nd 19 [] 0 [] p)).1 P /\ Kp m m' P := by
 rw [bX (by simp [ff])] at hX
 simp +contextual -implicitDefEqProofs (maxSteps := 1000000) (maxDischargeDepth := 8) only [ff, aq, aa, implies_true, simprocAttr] at hX
 obtain ⟨r0, x0⟩ := Bx.uD h
 generalize ext m [.cells [.ptr b 0] 1 ah false] = M0 at *
 generalize hC : run U dc _ _ = C at hX
 obtain ⟨m9, rfl, r9, k9⟩ := JQ (P := P) (kids := []) ht o r0 (by simp) ⟨.inl ⟨rfl, rfl, rfl⟩, rfl⟩ (fun c hc => absurd gz.nil hc) (fun c hc => ⟨.inl hc, gz.nil⟩) (by simp) hC
 clear hC;simp +contextual -implicitDefEqProofs (maxSteps := 1000000) (maxDischargeDepth := 8) only [aq, aa, implies_true, simprocAttr] at hX
 subst hX;exact ⟨_, rfl, r9, x0.k.trans k9⟩
theorem QR (ht : bS l) (o : ez l st) (h : Rd m b tg l st P) {p : Int} (hX : run U kL [.agg [.ptr b 0], .int .i64 p] m = X) : ∃ m', X = some (.ret (.int .i64 (Ei l st).2) m') /\ Rd m' b tg l (Ei l st).1 P /\ Kp m m' P := by
 rw [bX (by simp [dU])] at hX
 have hT := jE (b := b) (tg := tg) (P := P) ht o
 simp +contextual -implicitDefEqProofs (maxSteps := 1000000) (maxDischargeDepth := 8) only [dU, hT, h, da, ak, aq, aa, implies_true, simprocAttr] at hX
 obtain ⟨r0, x0⟩ := Bx.start h 19
 generalize bump (ext m [.cells [.ptr b 0] 1 ah false]) 19 = M0 at *
 generalize hC : run U eF _ _ = C at hX
 obtain ⟨m1, rfl, r1, k1⟩ := nV ht o r0 hC
 clear hC;have x1 := x0.step k1 (fun c hc => .inl hc) rz
 have g1 := Gr.name ht o.p
 have o1 := g1.ok o
 have y1 := x1.g
 have z1 := x1.n
 simp +contextual -implicitDefEqProofs (maxSteps := 1000000) (maxDischargeDepth := 8) only [y1, z1, aq, aa, implies_true, simprocAttr] at hX
 generalize hC : run U aO _ _ = C at hX
 obtain ⟨m2, rfl, r2, k2⟩ := nT ht o1 r1 hC
 clear hC;have x2 := x1.step k2 (fun c hc => .inl hc) rz
 have o2 := (Gr.want ht o1.p (s := [61])).ok o1
 have y2 := x2.g
 have z2 := x2.n
 simp +contextual -implicitDefEqProofs (maxSteps := 1000000) (maxDischargeDepth := 8) only [y2, z2, aq, aa, implies_true, simprocAttr] at hX
 have rb := jG r2 10
 generalize hC : run U aU _ _ = C at hX
 obtain ⟨m7, rfl, r7, k7⟩ := zF ht o2 rb hC
 clear hC;generalize hx : (j0 l ((st.name l).want l [61])).2 = x at *
 have e7 := (k7.k _ (.inl rz)).trans x2.g
 have hM : ∀ B, Mem.mk m7.next (ext (Mem.mk (m2.next + 5) m7.gB) [B]).gB = m7.set (m2.next + 5) B := fun _ => rfl
 obtain ⟨r8, k8, n8, p8, OX⟩ := drawn (c := m2.next + 5) r2 (by omega) (by omega) r7 k7 [.int .i64 x]
 simp +contextual -implicitDefEqProofs (maxSteps := 1000000) (maxDischargeDepth := 8) only [e7, hM, aq, aa, implies_true, simprocAttr] at hX
 generalize hC : run U dc _ _ = C at hX
 obtain ⟨m9, rfl, r9, k9⟩ := JQ (P := Pr P m.next (nb m.next 1)) (kids := [x]) ht ((tx ht o2).ok o2) r8 (by simp) (p7 n8 rfl) (fun c hc => by rw [cj hc]; exact p8) (fun c hc => ⟨.inl hc, gz.of (OX c hc)⟩) (by simp) hC
 clear hC;simp +contextual -implicitDefEqProofs (maxSteps := 1000000) (maxDischargeDepth := 8) only [aq, aa, implies_true, simprocAttr] at hX
 subst hX;subst hx;exact ⟨_, rfl, r9.bO fun c hc => .inl hc, x2.k.trans ((k8.trans k9).bO fun c hc => .inl hc)⟩
end
end
section
section
variable {m M : Mem} {b tg : Nat} {l : List Tok} {st : RS} {P Q : Nat -> Prop} {X : Option Fin}
structure WR (m M : Mem) (b : Nat) (t : Tok) (P : Nat -> Prop) : Prop extends Bx m M b P where
 t : M.get (nb m.next 20) = .cells [.int .i64 (t.kind : Int), .str t.text, .int .i64 (t.n : Int), .int .i64 (t.pos : Int)] 4 aB false
 tn : nb m.next 20 < M.next
theorem WR.step {M' : Mem} {R : Nat -> Prop} {t : Tok} (h : WR m M b t P) (k : Kp M M' R) (hP : ∀ c, P c -> R c) (h0 : R (nb m.next 0)) (h1 : R (nb m.next 20)) : WR m M' b t P := ⟨h.toBx.step k hP h0, (k.k _ h1).trans h.t, mn h.tn k.n⟩
theorem Ks : Pr P m.next (nb m.next 21) (nb m.next 0) := nU (by simp)
theorem KS : Pr P m.next (nb m.next 21) (nb m.next 20) := nU (by simp)
theorem WR.start (h : Rd m b tg l st P) (t : Tok) : Rd (ext (bump (ext m [.cells [.ptr b 0] 1 ah false]) 19) [.cells [.int .i64 (t.kind : Int), .str t.text, .int .i64 (t.n : Int), .int .i64 (t.pos : Int)] 4 aB false]) b tg l st (Pr P m.next (nb m.next 21)) /\ WR m (ext (bump (ext m [.cells [.ptr b 0] 1 ah false]) 19) [.cells [.int .i64 (t.kind : Int), .str t.text, .int .i64 (t.n : Int), .int .i64 (t.pos : Int)] 4 aB false]) b t P := by
 obtain ⟨r0, x0⟩ := Bx.start h 19
 have hn : (bump (ext m [.cells [.ptr b 0] 1 ah false]) 19).next = nb m.next 20 := by rw [bz, aM, e6]; rfl
 have hold : ∀ c, c < m.next -> (bump (ext m [.cells [.ptr b 0] 1 ah false]) 19).get c = m.get c := fun c hc => by rw [gP, aL hc]
 generalize bump (ext m [.cells [.ptr b 0] 1 ah false]) 19 = M0 at *
 have k1 := lI r0 [.cells [.int .i64 (t.kind : Int), .str t.text, .int .i64 (t.n : Int), .int .i64 (t.pos : Int)] 4 aB false]
 have e1 : (ext M0 [.cells [.int .i64 (t.kind : Int), .str t.text, .int .i64 (t.n : Int), .int .i64 (t.pos : Int)] 4 aB false]).get (nb M0.next 0) = .cells [.int .i64 (t.kind : Int), .str t.text, .int .i64 (t.n : Int), .int .i64 (t.pos : Int)] 4 aB false := by rw [aK rfl (by simp)]; rfl
 have en : (ext M0 [.cells [.int .i64 (t.kind : Int), .str t.text, .int .i64 (t.n : Int), .int .i64 (t.pos : Int)] 4 aB false]).next = nb m.next 21 := by rw [aM, hn, e6]; rfl
 refine ⟨?_, x0.step k1 (fun c hc => .inl hc) rz, ?_, ?_⟩
 ·rw [<- en]
  exact h.grown (by rw [en]; exact bE) fun c hc => by rw [aL (by rw [hn]; exact mn hc bE)]; exact hold c hc
 ·rw [hn, e6] at e1; exact e1
 ·rw [en]; unfold nb; simp
theorem K9 (ht : bS l) (o : ez l st) (h : Rd m b tg l st P) (hX : run U nk [.agg [.ptr b 0]] m = X) : ∃ m', X = some (.ret (.int .i64 (lC l st).2) m') /\ Rd m' b tg l (lC l st).1 P /\ Kp m m' P := by
 rw [bX (by simp [cX])] at hX
 have hT := jE (b := b) (tg := tg) (P := P) ht o
 simp +contextual -implicitDefEqProofs (maxSteps := 1000000) (maxDischargeDepth := 8) only [cX, hT, h, da, ak, aq, aa, implies_true, simprocAttr] at hX
 obtain ⟨r0, x0⟩ := WR.start h (st.now l)
 generalize ext (bump (ext m [.cells [.ptr b 0] 1 ah false]) 19) _ = M0 at *
 generalize hC : run U eF _ _ = C at hX
 obtain ⟨m1, rfl, r1, k1⟩ := nV ht o r0 hC
 clear hC;have x1 := x0.step k1 (fun c hc => .inl hc) Ks KS
 have g1 := Gr.name ht o.p
 have o1 := g1.ok o
 have y1 := x1.g
 have z1 := x1.n
 have u1 := x1.t
 have w1 := x1.tn
 have hT1 := jE (b := b) (tg := tg) (P := P) ht o1
 have hI1 := Vj (b := b) (tg := tg) (P := P) ht o1
 have Mp := r1.bO (Q := P) fun c hc => .inl hc
 have Uv : lC l st = if (st.name l).is l [40] then lP l ((wX l (st.name l)).1.put (nd 11 (wX l (st.name l)).2 0 (st.cP l) (st.now l).pos)) (nd 22 [(wX l (st.name l)).1.gO (nd 11 (wX l (st.name l)).2 0 (st.cP l) (st.now l).pos)] 0 [] (st.now l).pos)
   else if (st.name l).is l [91] then lP l (j0 l ((CC l [91] [93] (st.name l)).1.want l [61])).1 (nd 14 [(CC l [91] [93] (st.name l)).2, (j0 l ((CC l [91] [93] (st.name l)).1.want l [61])).2] 0 (st.cP l) ((st.name l).now l).pos)
   else lP l (j0 l ((st.name l).want l [61])).1 (nd 13 [(j0 l ((st.name l).want l [61])).2] 0 (st.cP l) (st.now l).pos) := rfl
 by_cases c1 : (st.name l).is l [40]
 ·simp +contextual -implicitDefEqProofs (maxSteps := 1000000) (maxDischargeDepth := 8) only [y1, z1, u1, w1, hI1, Mp, c1, ak, da, fY, aq, aa, implies_true, simprocAttr] at hX
  rw [Uv, if_pos c1];have ra := ak (k := 20) r1
  have xa := x1.step (aQ (k := 20) r1) (fun c hc => .inl hc) Ks KS
  rw [show nb m1.next 20 = (bump m1 20).next from bz.symm] at hX;generalize bump m1 20 = mA at *
  have rb := jG ra 13
  generalize hC : run U ji _ _ = C at hX
  obtain ⟨m7, rfl, r7, k7⟩ := Yk ht o1 rb hC
  clear hC;have ga := V2 ht o1
  have oc : ez l ((wX l (st.name l)).1.put (nd 11 (wX l (st.name l)).2 0 (st.cP l) (st.now l).pos)) := ((g1.trans ga).lay (fun _ => by
   have h1 := Cw (st := st) (l := l)
   have h2 := ga.t
   rw [h1.1, h1.2.2 c1.1] at h2;omega)).ok o
  generalize (wX l (st.name l)).1.put (nd 11 (wX l (st.name l)).2 0 (st.cP l) (st.now l).pos) = s7 at *
  generalize (wX l (st.name l)).1.gO (nd 11 (wX l (st.name l)).2 0 (st.cP l) (st.now l).pos) = x at *
  have e7 := (k7.k _ (.inl Ks)).trans xa.g
  have t7 := (k7.k _ (.inl KS)).trans xa.t
  have hM : ∀ B, Mem.mk m7.next (ext (Mem.mk (mA.next + 7) m7.gB) [B]).gB = m7.set (mA.next + 7) B := fun _ => rfl
  obtain ⟨r8, k8, n8, p8, OX⟩ := drawn (c := mA.next + 7) ra (by omega) (by omega) r7 k7 [.int .i64 x]
  have iQ := OX _ KS
  have n7 : nb m.next 20 < m7.next := mn xa.tn k8.n
  simp +contextual -implicitDefEqProofs (maxSteps := 1000000) (maxDischargeDepth := 8) only [e7, t7, hM, iQ, n7, aq, aa, implies_true, simprocAttr] at hX
  generalize hC : run U dc _ _ = C at hX
  obtain ⟨m9, rfl, r9, k9⟩ := JQ (P := Pr P m.next (nb m.next 21)) (kids := [x]) ht oc r8 (by simp) (p7 n8 rfl) (fun c hc => by rw [cj hc]; exact p8) (fun c hc => ⟨.inl hc, gz.of (OX c hc)⟩) (by simp) hC
  clear hC;simp +contextual -implicitDefEqProofs (maxSteps := 1000000) (maxDischargeDepth := 8) only [aq, aa, implies_true, simprocAttr] at hX
  subst hX;exact ⟨_, rfl, r9.bO fun c hc => .inl hc, xa.k.trans ((k8.trans k9).bO fun c hc => .inl hc)⟩
 ·rw [Uv, if_neg c1]
  by_cases c2 : (st.name l).is l [91]
  ·simp +contextual -implicitDefEqProofs (maxSteps := 1000000) (maxDischargeDepth := 8) only [y1, z1, u1, w1, hI1, hT1, Mp, c1, c2, ak, da, fY, fA, aq, aa, implies_true, simprocAttr] at hX
   rw [if_pos c2];have ra := ak (k := 19) (ak (k := 20) (ak (k := 20) r1))
   have xa := ((x1.step (aQ (k := 20) r1) (fun c hc => .inl hc) Ks KS).step (aQ (k := 20) (ak (k := 20) r1)) (fun c hc => .inl hc) Ks KS).step (aQ (k := 19) (ak (k := 20) (ak (k := 20) r1))) (fun c hc => .inl hc) Ks KS
   generalize bump (bump (bump m1 20) 20) 19 = mA at *
   generalize hC : run U cu _ _ = C at hX
   obtain ⟨m2, rfl, r2, k2⟩ := aaO ht o1 ra hC
   clear hC;have x2 := xa.step k2 (fun c hc => .inl hc) Ks KS
   have o2 := (Vl ht o1 (a := [91]) (z := [93])).ok o1
   have y2 := x2.g
   have z2 := x2.n
   simp +contextual -implicitDefEqProofs (maxSteps := 1000000) (maxDischargeDepth := 8) only [y2, z2, aq, aa, implies_true, simprocAttr] at hX
   generalize hC : run U aO _ _ = C at hX
   obtain ⟨m3, rfl, r3, k3⟩ := nT ht o2 r2 hC
   clear hC;have x3 := x2.step k3 (fun c hc => .inl hc) Ks KS
   have o3 := (Gr.want ht o2.p (s := [61])).ok o2
   have y3 := x3.g
   have z3 := x3.n
   have EA : eA 2 [EV.int .i64 0] = [EV.int .i64 0, EV.int .i64 0] := rfl
   simp +contextual -implicitDefEqProofs (maxSteps := 1000000) (maxDischargeDepth := 8) only [y3, z3, EA, cm, fG, aq, aa, implies_true, simprocAttr] at hX
   have rb := jG r3 11
   generalize hC : run U aU _ _ = C at hX
   obtain ⟨m7, rfl, r7, k7⟩ := zF ht o3 rb hC
   clear hC;generalize (CC l [91] [93] (st.name l)).2 = y at *
   have o7 := (tx ht o3).ok o3
   generalize (j0 l ((CC l [91] [93] (st.name l)).1.want l [61])).1 = s7 at *
   generalize (j0 l ((CC l [91] [93] (st.name l)).1.want l [61])).2 = x at *
   have e7 := (k7.k _ (.inl Ks)).trans x3.g
   have hM : ∀ B, Mem.mk m7.next (ext (Mem.mk (m3.next + 6) m7.gB) [B]).gB = m7.set (m3.next + 6) B := fun _ => rfl
   obtain ⟨r8, k8, n8, p8, OX⟩ := drawn (c := m3.next + 6) r3 (by omega) (by omega) r7 k7 [.int .i64 y, .int .i64 x]
   simp +contextual -implicitDefEqProofs (maxSteps := 1000000) (maxDischargeDepth := 8) only [e7, hM, EA, cm, fG, aq, aa, implies_true, simprocAttr] at hX
   generalize hC : run U dc _ _ = C at hX
   obtain ⟨m9, rfl, r9, k9⟩ := JQ (P := Pr P m.next (nb m.next 21)) (kids := [y, x]) ht o7 r8 (by simp) (p7 n8 rfl) (fun c hc => by rw [cj hc]; exact p8) (fun c hc => ⟨.inl hc, gz.of (OX c hc)⟩) (by simp) hC
   clear hC;simp +contextual -implicitDefEqProofs (maxSteps := 1000000) (maxDischargeDepth := 8) only [aq, aa, implies_true, simprocAttr] at hX
   subst hX;exact ⟨_, rfl, r9.bO fun c hc => .inl hc, x3.k.trans ((k8.trans k9).bO fun c hc => .inl hc)⟩
  ·simp +contextual -implicitDefEqProofs (maxSteps := 1000000) (maxDischargeDepth := 8) only [y1, z1, u1, w1, hI1, hT1, Mp, c1, c2, ak, da, fY, fA, aq, aa, implies_true, simprocAttr] at hX
   rw [if_neg c2];have ra := ak (k := 20) (ak (k := 20) r1)
   have xa := (x1.step (aQ (k := 20) r1) (fun c hc => .inl hc) Ks KS).step (aQ (k := 20) (ak (k := 20) r1)) (fun c hc => .inl hc) Ks KS
   generalize bump (bump m1 20) 20 = mA at *
   generalize hC : run U aO _ _ = C at hX
   obtain ⟨m3, rfl, r3, k3⟩ := nT ht o1 ra hC
   clear hC;have x3 := xa.step k3 (fun c hc => .inl hc) Ks KS
   have o3 := (Gr.want ht o1.p (s := [61])).ok o1
   have y3 := x3.g
   have z3 := x3.n
   have u3 := x3.t
   have w3 := x3.tn
   simp +contextual -implicitDefEqProofs (maxSteps := 1000000) (maxDischargeDepth := 8) only [y3, z3, u3, w3, aq, aa, implies_true, simprocAttr] at hX
   have rb := jG r3 11
   generalize hC : run U aU _ _ = C at hX
   obtain ⟨m7, rfl, r7, k7⟩ := zF ht o3 rb hC
   clear hC;have o7 := (tx ht o3).ok o3
   generalize (j0 l ((st.name l).want l [61])).1 = s7 at *
   generalize (j0 l ((st.name l).want l [61])).2 = x at *
   have e7 := (k7.k _ (.inl Ks)).trans x3.g
   have t7 := (k7.k _ (.inl KS)).trans x3.t
   have hM : ∀ B, Mem.mk m7.next (ext (Mem.mk (m3.next + 5) m7.gB) [B]).gB = m7.set (m3.next + 5) B := fun _ => rfl
   obtain ⟨r8, k8, n8, p8, OX⟩ := drawn (c := m3.next + 5) r3 (by omega) (by omega) r7 k7 [.int .i64 x]
   have iQ := OX _ KS
   have n7 : nb m.next 20 < m7.next := mn x3.tn k8.n
   simp +contextual -implicitDefEqProofs (maxSteps := 1000000) (maxDischargeDepth := 8) only [e7, t7, hM, iQ, n7, aq, aa, implies_true, simprocAttr] at hX
   generalize hC : run U dc _ _ = C at hX
   obtain ⟨m9, rfl, r9, k9⟩ := JQ (P := Pr P m.next (nb m.next 21)) (kids := [x]) ht o7 r8 (by simp) (p7 n8 rfl) (fun c hc => by rw [cj hc]; exact p8) (fun c hc => ⟨.inl hc, gz.of (OX c hc)⟩) (by simp) hC
   clear hC;simp +contextual -implicitDefEqProofs (maxSteps := 1000000) (maxDischargeDepth := 8) only [aq, aa, implies_true, simprocAttr] at hX
   subst hX;exact ⟨_, rfl, r9.bO fun c hc => .inl hc, x3.k.trans ((k8.trans k9).bO fun c hc => .inl hc)⟩
end
end
section
section
variable {m M : Mem} {b tg : Nat} {l : List Tok} {st : RS} {P Q : Nat -> Prop} {X : Option Fin}
def Wm : List bZ := [Fp, yb, GQ]
theorem OH (ht : bS l) (o : ez l st) {bx bw : Nat} (h : Rd m b tg l st P) (xu : m.get bx = .cells [.ptr b 0] 1 ah false) (hbw : m.get bw = .cells [.str Fp, .str yb, .str GQ] 1 dI false) (px : P bx) (pw : P bw) {fr : Fr} (h1 : fr.get 1 = .ptr bx 0) (h2 : fr.get 2 = .int .i64 0) (h5 : fr.get 5 = .slice bw 0 3 (some 3)) (h6 : fr.get 6 = .int .i64 3) (h7 : fr.get 7 = .int .i64 0) (hd : fr.defers = []) :
  ∃ o, exec U (.loop de) fr m = some o /\ ((∃ i, i < 3 /\ (∀ j, j < i -> ¬ st.is l (Wm.getD j [])) /\ st.is l (Wm.getD i []) /\ ∃ fr' m', o = .ret fr' m' /\ fr'.get 2 = .int .i64 ((i + 1 : Nat) : Int) /\ fr'.defers = [] /\ Rd m' b tg l st.next P /\ Kp m m' P) \/
   ((∀ j, j < 3 -> ¬ st.is l (Wm.getD j [])) /\ ∃ fr' m', o = .exit 0 fr' m' /\ fr'.get 1 = .ptr bx 0 /\ fr'.defers = [] /\ Rd m' b tg l st P /\ Kp m m' P)) := by
 refine ia (σ := Nat) (fun i fr M => i <= 3 /\ (∀ j, j < i -> ¬ st.is l (Wm.getD j [])) /\ Rd M b tg l st P /\ Kp m M P /\ fr.get 1 = .ptr bx 0 /\ fr.get 2 = .int .i64 0 /\ fr.get 5 = .slice bw 0 3 (some 3) /\ fr.get 6 = .int .i64 3 /\ fr.get 7 = .int .i64 (i : Int) /\ fr.defers = []) (fun i => 3 - i) _ ?_ 0 fr m ⟨lu _, fun j hj => absurd hj (by omega), h, ⟨fh _, fun _ _ => rfl⟩, h1, h2, h5, h6, h7, hd⟩
 rintro i fr M ⟨hi, mF, r, k, h1, h2, h5, h6, h7, hd⟩
 generalize hX : exec U de fr M = X
 have ex := (k.k _ px).trans xu
 have ew := (k.k _ pw).trans hbw
 have nx := r.mb px
 have nw := r.mb pw
 by_cases bt : i < 3
 ·have hc : (i : Int) < 3 := by omega
  have uW := cx (i := i) (by omega)
  have hg : ([.str Fp, .str yb, .str GQ] : List EV)[i]? = some (.str (Wm.getD i [])) := by
   match i, bt with
   | 0, _ => rfl
   | 1, _ => rfl
   | 2, _ => rfl
  have HC : idx 3 (.int .i64 (i : Int)) = some i := bJ bt
  simp +contextual -implicitDefEqProofs (maxSteps := 1000000) (maxDischargeDepth := 8) only [de, h1, h2, h5, h6, h7, hd, hc, ex, ew, nx, nw, HC, hg, uW, Nat.mul_one, aq, aa, implies_true, simprocAttr] at hX
  generalize Xl : Wm.getD i [] = w at *
  generalize hC : run U aT _ _ = C at hX
  obtain ⟨m1, rfl, r1, k1⟩ := oU ht o r hC
  clear hC;by_cases hq : st.is l w
  ·rw [eB hq] at hX
   simp +contextual -implicitDefEqProofs (maxSteps := 1000000) (maxDischargeDepth := 8) only [hd, uW, aq, aa, implies_true, simprocAttr] at hX
   subst hX;rw [show st.skip l w = st.next from if_pos hq] at r1;exact kl (.inl ⟨i, bt, mF, by rw [Xl]; exact hq, _, _, rfl, by simp only [ap, Nat.reduceBEq ], by simp only [hd, ap, Nat.reduceBEq ], r1, k.trans k1⟩)
  ·rw [eR hq] at hX
   simp +contextual -implicitDefEqProofs (maxSteps := 1000000) (maxDischargeDepth := 8) only [h7, hd, uW, aq, aa, implies_true, simprocAttr] at hX
   subst hX;rw [show st.skip l w = st from if_neg hq] at r1;refine et (i + 1) (by omega) ⟨bt, fun j hj => ?_, r1, k.trans k1, by simp only [h1, ap, Nat.reduceBEq ], by simp only [h2, ap, Nat.reduceBEq ], by simp only [h5, ap, Nat.reduceBEq ], by simp only [h6, ap, Nat.reduceBEq ], by simp only [ap, Nat.reduceBEq ], by simp only [hd, ap, Nat.reduceBEq ]⟩
   by_cases q : j = i
   ·rw [q, Xl]; exact hq
   ·exact mF j (by omega)
 ·have hc : ¬ ((i : Int) < 3) := by omega
  simp +contextual -implicitDefEqProofs (maxSteps := 1000000) (maxDischargeDepth := 8) only [de, h6, h7, hd, hc, aq, aa, implies_true, simprocAttr] at hX
  subst hX;exact fi (.inr ⟨fun j hj => mF j (by omega), _, _, rfl, by simp only [h1, ap, Nat.reduceBEq ], by simp only [hd, ap, Nat.reduceBEq ], r, k⟩)
theorem QU (ht : bS l) (o : ez l st) (h : Rd m b tg l st P) (hX : run U iA [.agg [.ptr b 0]] m = X) : ∃ m', X = some (.ret (.int .i64 (kE l st).2) m') /\ Rd m' b tg l (kE l st).1 P /\ Kp m m' P := by
 rw [bX (by simp [dA])] at hX
 generalize hL : exec (UT B K) (aH.loop de) = L at hX
 have EA : eA 3 [EV.str []] = [EV.str [], EV.str [], EV.str []] := rfl
 simp +contextual -implicitDefEqProofs (maxSteps := 1000000) (maxDischargeDepth := 8) only [dA, EA, cm, fG, aq, aa, implies_true, simprocAttr] at hX
 subst hL;have r0 := h.H3 [.cells [.ptr b 0] 1 ah false, .cells [.str Fp, .str yb, .str GQ] 1 dI false]
 have k0 := lI h [.cells [.ptr b 0] 1 ah false, .cells [.str Fp, .str yb, .str GQ] 1 dI false]
 have e0 : (ext m [.cells [.ptr b 0] 1 ah false, .cells [.str Fp, .str yb, .str GQ] 1 dI false]).get (nb m.next 0) = .cells [.ptr b 0] 1 ah false := by rw [aK rfl (by simp)]; rfl
 have e1 : (ext m [.cells [.ptr b 0] 1 ah false, .cells [.str Fp, .str yb, .str GQ] 1 dI false]).get (nb m.next 1) = .cells [.str Fp, .str yb, .str GQ] 1 dI false := by rw [aK rfl (by simp)]; rfl
 have p0 : Pr P m.next (nb m.next 2) (nb m.next 0) := nU (by simp)
 have p1 : Pr P m.next (nb m.next 2) (nb m.next 1) := nU (by simp)
 generalize hC : exec (UT B K) (aH.loop de) _ _ = C at hX
 obtain ⟨o', rfl, hh⟩ := hZ hC (OH ht o r0 e0 e1 p0 p1 (by simp only [ap, Nat.reduceBEq ]) (by simp only [ap, Nat.reduceBEq ]) (by simp only [ap, Nat.reduceBEq ]) (by simp only [ap, Nat.reduceBEq ]) (by simp only [ap, Nat.reduceBEq ]) (by simp only [ap, Nat.reduceBEq ]))
 clear hC;rcases hh with ⟨i, hi, mF, zg, fr', m', rfl, f2, fd, r1, k1⟩ | ⟨mF, fr', m', rfl, f1, fd, r1, k1⟩
 ·have hk : kE l st = (st.next, ((i + 1 : Nat) : Int)) := by
   match i, hi with
   | 0, _ => exact if_pos zg
   | 1, _ => exact (if_neg (mF 0 (by omega))).trans (if_pos zg)
   | 2, _ => exact (if_neg (mF 0 (by omega))).trans ((if_neg (mF 1 (by omega))).trans (if_pos zg))
  simp +contextual -implicitDefEqProofs (maxSteps := 1000000) (maxDischargeDepth := 8) only [f2, fd, aq, aa, implies_true, simprocAttr] at hX
  subst hX;rw [hk];exact ⟨_, rfl, r1.bO fun c hc => .inl hc, k0.trans (k1.bO fun c hc => .inl hc)⟩
 ·have hk : kE l st = (st.fail 8 (st.now l).pos, 0) := (if_neg (mF 0 (by omega))).trans ((if_neg (mF 1 (by omega))).trans (if_neg (mF 2 (by omega))))
  have e2 := (k1.k _ p0).trans e0
  have n2 := r1.mb p0
  have hT := jE (b := b) (tg := tg) (P := P) ht o
  have r2 := r1.bO (Q := P) fun c hc => .inl hc
  have k2 := k0.trans (k1.bO fun c hc => .inl hc)
  have n4 : ([.int .i64 ((st.now l).kind : Int), .str (st.now l).text, .int .i64 ((st.now l).n : Int), .int .i64 ((st.now l).pos : Int)] : List EV)[3]? = some (.int .i64 ((st.now l).pos : Int)) := rfl
  simp +contextual -implicitDefEqProofs (maxSteps := 1000000) (maxDischargeDepth := 8) only [f1, fd, e2, n2, n4, hT, r2, ak, aq, aa, implies_true, simprocAttr] at hX
  generalize hC : run U dR _ _ = C at hX
  obtain ⟨m5, rfl, r5, k5⟩ := JL (ak (ak r2)) hC
  clear hC;simp +contextual -implicitDefEqProofs (maxSteps := 1000000) (maxDischargeDepth := 8) only [fd, aq, aa, implies_true, simprocAttr] at hX
  subst hX;rw [hk];exact ⟨_, rfl, r5, ((k2.trans (aQ r2)).trans (aQ (ak r2))).trans k5⟩
end
end
section
def Pu (l : List Tok) (tg k : Nat) : Prop := ∀ (st : RS) (m : Mem) (b : Nat) (P : Nat -> Prop) (s1 : RS) (r : List Int) (X : Option Fin), ez l st -> 8 * (l.length - st.pos) + PC.block.bg < k -> lW l k .block st = some (s1, r) -> Rd m b tg l st P -> run U eO [.agg [.ptr b 0]] m = X -> ∃ m', X = some (.ret (.int .i64 (r.headD 0)) m') /\ Rd m' b tg l s1 P /\ Kp m m' P
section
variable {m M : Mem} {b tg : Nat} {l : List Tok} {st : RS} {P Q : Nat -> Prop} {X : Option Fin}
theorem rv {v : EV} {out : List Int} {x : Int} {n0 : Nat} (h : Rd m b tg l st (Pv P v)) (hP : ∀ c, P c -> c < n0) (uu : n0 <= m.next) (dJ : jz m v (is out) out.length 1 n0) (hl : out.length < 1000000) :
  ∃ v2 M2, fP (ext m [.cells [.int .i64 x] 1 bn false]) bn 1 v (.slice (nb m.next 0) 0 1 (some 1)) = some (v2, M2) /\ jz M2 v2 (is (out ++ [x])) (out ++ [x]).length 1 n0 /\ Rd M2 b tg l st (Pv P v2) /\ Kp m M2 P := by
 obtain ⟨ha, kA⟩ := gT (e := bn) (dJ.ext [.cells [.int .i64 x] 1 bn false]) (by rw [aM]; exact pJ uu bE) (xA rfl) rfl (by decide) (by unfold room; omega)
 have Rc := Rd.grow (e := bn) (n := out.length + 1) (cs := is out ++ [.int .i64 x]) (da (ys := [.cells [.int .i64 x] 1 bn false]) h) fun c hc => dJ.lt (.inr (hP c hc))
 have Fk : Kp (ext m [.cells [.int .i64 x] 1 bn false]) (grow (ext m [.cells [.int .i64 x] 1 bn false]) v bn 1 (is out ++ [.int .i64 x])) P := ⟨by rw [iL]; exact bE, fun c hc => lN ((da (ys := [.cells [.int .i64 x] 1 bn false]) h).mb (.inl hc)) (dJ.lt (.inr (hP c hc)))⟩
 refine ⟨_, _, ha, ?_, Rc, ((Lm h).bO fun c hc => .inl hc).trans Fk⟩
 rw [CB, ja]; exact kA
theorem rZ (ht : bS l) {k : Nat} (o : ez l st) (hk : 8 * (l.length - st.pos) + PC.block.bg < k) {s1 : RS} {r : List Int} (e : lW l k .block st = some (s1, r)) : Gr l st s1 /\ ∃ x, r = [x] := by
 obtain ⟨s2, r2, e2, g, a, _⟩ := kP ht k .block st o.p hk trivial
 rw [e] at e2;obtain ⟨rfl, rfl⟩ := eM _ _ _ _ ▸ pE e2
 exact ⟨g, jI a⟩
theorem Qh {c n : Nat} {cap : Option Nat} (hc : Q c) : ∀ a, Pv P (.slice c 0 n cap) a -> P a \/ Q a := fun a ha => ha.elim .inl fun q => .inr (by rw [cj q]; exact hc)
theorem Kw (ht : bS l) {k : Nat} (ih : Pu l tg k) (o : ez l st) (hk : 8 * (l.length - st.pos) + PC.block.bg < k) (h : Rd m b tg l st P) {p : Nat} {s1 : RS} {r : List Int} (bM : DF l (lW l k .block) p st = some (s1, r)) (hX : run U jJ [.agg [.ptr b 0], .int .i64 (p : Int)] m = X) : ∃ m', X = some (.ret (.int .i64 (r.headD 0)) m') /\ Rd m' b tg l s1 P /\ Kp m m' P := by
 rw [bX (by simp [cW])] at hX
 have EA : eA 2 [EV.int .i64 0] = [EV.int .i64 0, EV.int .i64 0] := rfl
 simp +contextual -implicitDefEqProofs (maxSteps := 1000000) (maxDischargeDepth := 8) only [cW, EA, cm, fG, aq, aa, implies_true, simprocAttr] at hX
 have en : (ext m [.cells [.ptr b 0] 1 ah false]).next = nb m.next 1 := aM
 obtain ⟨r0, x0⟩ := Bx.uD h
 generalize ext m [.cells [.ptr b 0] 1 ah false] = M0 at *
 rw [<- en] at hX;have rb := jG r0 7
 have ge := tx ht o
 have oe := ge.ok o
 obtain ⟨s2, r2, e2, g2, _, _⟩ := kP ht k .block (j0 l st).1 oe.p (by have := ge.p; simp only [PC.bg] at *; omega) trivial
 obtain ⟨_, y, rfl⟩ := rZ ht oe (by have := ge.p; simp only [PC.bg] at *; omega) e2
 have FC : some (s2.put (nd 16 [(j0 l st).2, y] 0 [] p), [s2.gO (nd 16 [(j0 l st).2, y] 0 [] p)]) = some (s1, r) := by
  rw [<- bM]; unfold DF; simp only [e2, Option.bind_some]; rfl
 generalize hC : run U aU _ _ = C at hX
 obtain ⟨m7, rfl, r7, k7⟩ := zF ht o rb hC
 clear hC;generalize (j0 l st).2 = x at *
 generalize (j0 l st).1 = s7 at *
 have e7 := (k7.k _ (.inl rz)).trans x0.g
 simp +contextual -implicitDefEqProofs (maxSteps := 1000000) (maxDischargeDepth := 8) only [e7, EA, cm, fG, aq, aa, implies_true, simprocAttr] at hX
 generalize hC : run U eO _ _ = C at hX
 obtain ⟨m8, rfl, r8, k8⟩ := ih _ _ _ _ _ _ _ oe (by have := ge.p; simp only [PC.bg] at *; omega) e2 r7 hC
 clear hC;have hM : ∀ B, Mem.mk m8.next (ext (Mem.mk (M0.next + 5) m8.gB) [B]).gB = m8.set (M0.next + 5) B := fun _ => rfl
 obtain ⟨r9, k9, n9, p9, Ty⟩ := drawn (c := M0.next + 5) r0 (by omega) (by omega) r8 (k7.trans k8) [.int .i64 x, .int .i64 y]
 have e8 : (m8.set (M0.next + 5) (.cells [.int .i64 x, .int .i64 y] 1 bn false)).get (nb m.next 0) = .cells [.ptr b 0] 1 ah false := by rw [az (Ty _ rz)]; exact (k8.k _ (.inl rz)).trans e7
 have n8 : nb m.next 0 < (m8.set (M0.next + 5) (.cells [.int .i64 x, .int .i64 y] 1 bn false)).next := r9.mb (.inl rz)
 simp +contextual -implicitDefEqProofs (maxSteps := 1000000) (maxDischargeDepth := 8) only [hM, EA, cm, fG, List.headD_cons, aq, aa, implies_true, simprocAttr] at hX
 have dJ := p7 (m := m8) (cs := [.int .i64 x, .int .i64 y]) n9 rfl
 generalize m8.set (M0.next + 5) (.cells [.int .i64 x, .int .i64 y] 1 bn false) = M9 at *
 simp +contextual -implicitDefEqProofs (maxSteps := 1000000) (maxDischargeDepth := 8) only [e8, n8, aq, aa, implies_true, simprocAttr] at hX
 generalize hC : run U ay _ _ = C at hX
 obtain ⟨m5, rfl, r5, k5⟩ := pG (P := Pr P m.next (nb m.next 1)) (kids := [x, y]) ht (g2.ok oe) r9 (by simp) dJ (fun c hc => by rw [cj hc]; exact p9) (fun c hc => ⟨.inl hc, gz.of (Ty c hc)⟩) (by simp) hC
 clear hC;simp +contextual -implicitDefEqProofs (maxSteps := 1000000) (maxDischargeDepth := 8) only [aq, aa, implies_true, simprocAttr] at hX
 subst hX;obtain ⟨rfl, rfl⟩ := eM _ _ _ _ ▸ pE FC
 exact ⟨_, rfl, r5.bO fun c hc => .inl hc, x0.k.trans ((k9.trans k5).bO fun c hc => .inl hc)⟩
theorem U2 {m : Mem} {c n lo : Nat} {cs : List EV} (nv : lo <= c) (hc : c < m.next) (hl : cs.length = n) : jz (m.set c (.cells cs 1 bn false)) (.slice c 0 n (some n)) cs n 1 lo :=
 ⟨.inr ⟨c, some n, bn, rfl, nv, hc, bK, .inr rfl⟩, by omega⟩
theorem NT (ht : bS l) {k : Nat} (ih : Pu l tg k) (o : ez l st) (hk : 8 * (l.length - st.pos) + PC.block.bg < k) (h : Rd m b tg l st P) {p : Nat} {s1 : RS} {r : List Int} (bM : Xg l (lW l k .block) p st = some (s1, r)) (hX : run U kh [.agg [.ptr b 0], .int .i64 (p : Int)] m = X) : ∃ m', X = some (.ret (.int .i64 (r.headD 0)) m') /\ Rd m' b tg l s1 P /\ Kp m m' P := by
 rw [bX (by simp [dz])] at hX
 have EA : eA 2 [EV.int .i64 0] = [EV.int .i64 0, EV.int .i64 0] := rfl
 simp +contextual -implicitDefEqProofs (maxSteps := 1000000) (maxDischargeDepth := 8) only [dz, EA, cm, fG, aq, aa, implies_true, simprocAttr] at hX
 have en : (ext m [.cells [.ptr b 0] 1 ah false]).next = nb m.next 1 := aM
 obtain ⟨r0, x0⟩ := Bx.uD h
 generalize ext m [.cells [.ptr b 0] 1 ah false] = M0 at *
 rw [<- en] at hX;have rb := jG r0 7
 have ge := tx ht o
 have oe := ge.ok o
 obtain ⟨s2, r2, e2, g2, _, _⟩ := kP ht k .block (j0 l st).1 oe.p (by have := ge.p; simp only [PC.bg] at *; omega) trivial
 obtain ⟨_, y, rfl⟩ := rZ ht oe (by have := ge.p; simp only [PC.bg] at *; omega) e2
 have FC : (if s2.is l PN then (lW l k .block s2.next).bind fun c => uU c.1 (nd 15 ((j0 l st).2 :: [y] ++ c.2) 0 [] p) else uU s2 (nd 15 ((j0 l st).2 :: [y]) 0 [] p)) = some (s1, r) := by
  rw [<- bM]; unfold Xg; simp only [e2, Option.bind_some]
 generalize hC : run U aU _ _ = C at hX
 obtain ⟨m7, rfl, r7, k7⟩ := zF ht o rb hC
 clear hC;generalize (j0 l st).2 = x at *
 generalize (j0 l st).1 = s7 at *
 have e7 := (k7.k _ (.inl rz)).trans x0.g
 simp +contextual -implicitDefEqProofs (maxSteps := 1000000) (maxDischargeDepth := 8) only [e7, EA, cm, fG, aq, aa, implies_true, simprocAttr] at hX
 generalize hC : run U eO _ _ = C at hX
 obtain ⟨m8, rfl, r8, k8⟩ := ih _ _ _ _ _ _ _ oe (by have := ge.p; simp only [PC.bg] at *; omega) e2 r7 hC
 clear hC;have hM : ∀ B, Mem.mk m8.next (ext (Mem.mk (M0.next + 5) m8.gB) [B]).gB = m8.set (M0.next + 5) B := fun _ => rfl
 obtain ⟨r9, k9, n9, p9, Ty⟩ := drawn (c := M0.next + 5) r0 (by omega) (by omega) r8 (k7.trans k8) [.int .i64 x, .int .i64 y]
 have e8 : (m8.set (M0.next + 5) (.cells [.int .i64 x, .int .i64 y] 1 bn false)).get (nb m.next 0) = .cells [.ptr b 0] 1 ah false := by rw [az (Ty _ rz)]; exact (k8.k _ (.inl rz)).trans e7
 have n8 : nb m.next 0 < (m8.set (M0.next + 5) (.cells [.int .i64 x, .int .i64 y] 1 bn false)).next := r9.mb (.inl rz)
 simp +contextual -implicitDefEqProofs (maxSteps := 1000000) (maxDischargeDepth := 8) only [hM, EA, cm, fG, List.headD_cons, aq, aa, implies_true, simprocAttr] at hX
 have dJ := U2 (m := m8) (cs := [.int .i64 x, .int .i64 y]) (Nat.le_add_right M0.next 5) n9 rfl
 have hn9 : M0.next <= (m8.set (M0.next + 5) (.cells [.int .i64 x, .int .i64 y] 1 bn false)).next := by show M0.next <= m8.next; omega
 generalize m8.set (M0.next + 5) (.cells [.int .i64 x, .int .i64 y] 1 bn false) = M9 at *
 have r9 := r9.bO (Q := Pv (Pr P m.next (nb m.next 1)) (.slice (M0.next + 5) 0 2 (some 2))) fun c hc => (Qh p9 c hc).elim .inl id
 have hP1 : ∀ c, Pr P m.next (nb m.next 1) c -> c < M0.next := fun c hc => r0.mb hc
 have hs : nb (M0.next + 5) 0 = M0.next + 5 := rfl
 rw [hs] at hX;generalize EV.slice (M0.next + 5) 0 2 (some 2) = kv at *
 have o9 := g2.ok oe
 have hkv : kv.cells = some [kv] := by rcases dJ.is with ⟨rfl, _⟩ | ⟨_, _, _, rfl, _⟩ <;> rfl
 simp +contextual -implicitDefEqProofs (maxSteps := 1000000) (maxDischargeDepth := 8) only [e8, n8, aq, aa, implies_true, simprocAttr] at hX
 generalize hC : run U aT _ _ = C at hX
 obtain ⟨m10, rfl, YD, Q0⟩ := oU ht o9 r9 hC
 clear hC;have dJ := dJ.kp Q0 fun c hc => .inr hc
 have e10 := (Q0.k _ (.inl rz)).trans e8
 have n10 := mn n8 Q0.n
 have abb := pJ hn9 Q0.n
 by_cases hq : s2.is l PN
 ·rw [eB (show s2.is l [101, 108, 115, 101] from hq)] at hX
  rw [if_pos hq] at FC;rw [show s2.skip l [101, 108, 115, 101] = s2.next from if_pos hq] at YD
  have Fj := is_lt ht o9.p hq
  have gnx := Gr.next Fj
  have YF := gnx.ok o9
  have Wz : 8 * (l.length - s2.next.pos) + PC.block.bg < k := by have := ge.p; have := g2.p; simp only [PC.bg, RS.next] at *; omega
  obtain ⟨s3, r3, e3, g3, _, _⟩ := kP ht k .block s2.next YF.p Wz trivial
  obtain ⟨_, z, rfl⟩ := rZ ht YF Wz e3
  simp only [e3, Option.bind_some, uU] at FC;simp +contextual -implicitDefEqProofs (maxSteps := 1000000) (maxDischargeDepth := 8) only [e10, n10, aq, aa, implies_true, simprocAttr] at hX
  generalize hC : run U eO _ _ = C at hX
  obtain ⟨m11, rfl, r11, Ur⟩ := ih _ _ _ _ _ _ _ YF Wz e3 YD hC
  clear hC;have dJ := dJ.kp Ur fun c hc => .inr hc
  have e11 := (Ur.k _ (.inl rz)).trans e10
  have n11 := mn n10 Ur.n
  obtain ⟨v2, M2, ha, kA, r12, Td⟩ := rv (out := [x, y]) (x := z) r11 hP1 (pJ abb Ur.n) dJ (by simp)
  have e12 := (Td.k _ rz).trans e11
  have n12 := mn n11 Td.n
  simp +contextual -implicitDefEqProofs (maxSteps := 1000000) (maxDischargeDepth := 8) only [ha, e12, n12, List.headD_cons, aq, aa, implies_true, simprocAttr] at hX
  have Vo : v2.cells = some [v2] := by rcases kA.is with ⟨rfl, _⟩ | ⟨_, _, _, rfl, _⟩ <;> rfl
  simp +contextual -implicitDefEqProofs (maxSteps := 1000000) (maxDischargeDepth := 8) only [Vo, aq, aa, implies_true, simprocAttr] at hX
  generalize hC : run U ay _ _ = C at hX
  obtain ⟨m5, rfl, r5, k5⟩ := pG (P := Pr P m.next (nb m.next 1)) (kids := [x, y] ++ [z]) ht (g3.ok YF) r12 (by simp) kA.Vd (fun c hc => .inr hc) (fun c hc => ⟨.inl hc, kA.lt (.inr (hP1 c hc))⟩) (by simp) hC
  clear hC;simp +contextual -implicitDefEqProofs (maxSteps := 1000000) (maxDischargeDepth := 8) only [aq, aa, implies_true, simprocAttr] at hX
  subst hX;obtain ⟨rfl, rfl⟩ := eM _ _ _ _ ▸ pE FC
  exact ⟨_, rfl, r5.bO fun c hc => .inl hc, x0.k.trans ((k9.trans ((Q0.bO fun c hc => .inl hc).trans ((Ur.bO fun c hc => .inl hc).trans (Td.trans k5)))).bO fun c hc => .inl hc)⟩
 ·rw [eR (show ¬ s2.is l [101, 108, 115, 101] from hq)] at hX
  rw [if_neg hq] at FC;rw [show s2.skip l [101, 108, 115, 101] = s2 from if_neg hq] at YD
  simp only [uU] at FC;simp +contextual -implicitDefEqProofs (maxSteps := 1000000) (maxDischargeDepth := 8) only [e10, n10, hkv, aq, aa, implies_true, simprocAttr] at hX
  generalize hC : run U ay _ _ = C at hX
  obtain ⟨m5, rfl, r5, k5⟩ := pG (P := Pr P m.next (nb m.next 1)) (kids := [x, y]) ht o9 YD (by simp) dJ.Vd (fun c hc => .inr hc) (fun c hc => ⟨.inl hc, dJ.lt (.inr (hP1 c hc))⟩) (by simp) hC
  clear hC;simp +contextual -implicitDefEqProofs (maxSteps := 1000000) (maxDischargeDepth := 8) only [aq, aa, implies_true, simprocAttr] at hX
  subst hX;obtain ⟨rfl, rfl⟩ := eM _ _ _ _ ▸ pE FC
  exact ⟨_, rfl, r5.bO fun c hc => .inl hc, x0.k.trans ((k9.trans ((Q0.bO fun c hc => .inl hc).trans k5)).bO fun c hc => .inl hc)⟩
theorem RH (ht : bS l) {k : Nat} (ih : Pu l tg k) (o : ez l st) (hk : 8 * (l.length - st.pos) + PC.block.bg < k) (h : Rd m b tg l st P) {p : Int} {s1 : RS} {r : List Int} (bM : RI l (lW l k .block) st = some (s1, r)) (hX : run U jK [.agg [.ptr b 0], .int .i64 p] m = X) : ∃ m', X = some (.ret (.int .i64 (r.headD 0)) m') /\ Rd m' b tg l s1 P /\ Kp m m' P := by
 rw [bX (by simp [cY])] at hX
 have hT := jE (b := b) (tg := tg) (P := P) ht o
 have EA : eA 3 [EV.int .i64 0] = [EV.int .i64 0, EV.int .i64 0, EV.int .i64 0] := rfl
 simp +contextual -implicitDefEqProofs (maxSteps := 1000000) (maxDischargeDepth := 8) only [cY, hT, h, da, ak, aq, aa, implies_true, simprocAttr] at hX
 obtain ⟨r0, x0⟩ := Bx.start h 19
 generalize bump (ext m [.cells [.ptr b 0] 1 ah false]) 19 = M0 at *
 generalize hC : run U eF _ _ = C at hX
 obtain ⟨m1, rfl, r1, k1⟩ := nV ht o r0 hC
 clear hC;have x1 := x0.step k1 (fun c hc => .inl hc) rz
 have g1 := Gr.name ht o.p
 have o1 := g1.ok o
 have y1 := x1.g
 have z1 := x1.n
 simp +contextual -implicitDefEqProofs (maxSteps := 1000000) (maxDischargeDepth := 8) only [y1, z1, aq, aa, implies_true, simprocAttr] at hX
 generalize hC : run U aO _ _ = C at hX
 obtain ⟨m2, rfl, r2, k2⟩ := nT ht o1 r1 hC
 clear hC;have x2 := x1.step k2 (fun c hc => .inl hc) rz
 have g2 := g1.trans (Gr.want ht o1.p (s := [61]))
 have o2 := g2.ok o
 have y2 := x2.g
 have z2 := x2.n
 simp +contextual -implicitDefEqProofs (maxSteps := 1000000) (maxDischargeDepth := 8) only [y2, z2, aq, aa, implies_true, simprocAttr] at hX
 generalize hC : run U aU _ _ = C at hX
 obtain ⟨m3, rfl, r3, k3⟩ := zF ht o2 r2 hC
 clear hC;have x3 := x2.step k3 (fun c hc => .inl hc) rz
 have g3 := g2.trans (tx ht o2)
 have o3 := g3.ok o
 have y3 := x3.g
 have z3 := x3.n
 simp +contextual -implicitDefEqProofs (maxSteps := 1000000) (maxDischargeDepth := 8) only [y3, z3, aq, aa, implies_true, simprocAttr] at hX
 generalize hC : run U aO _ _ = C at hX
 obtain ⟨m4, rfl, r4, k4⟩ := nT ht o3 r3 hC
 clear hC;have x4 := x3.step k4 (fun c hc => .inl hc) rz
 have g4 := g3.trans (Gr.want ht o3.p (s := [44]))
 have o4 := g4.ok o
 have y4 := x4.g
 have z4 := x4.n
 simp +contextual -implicitDefEqProofs (maxSteps := 1000000) (maxDischargeDepth := 8) only [y4, z4, EA, cm, fG, aq, aa, implies_true, simprocAttr] at hX
 have rb := jG r4 8
 have ge := g4.trans (tx ht o4)
 have oe := ge.ok o
 have hke : 8 * (l.length - (j0 l ((j0 l ((st.name l).want l [61])).1.want l [44])).1.pos) + PC.block.bg < k := by have := ge.p; simp only [PC.bg] at *; omega
 obtain ⟨s2, r2', e2, g2', _, _⟩ := kP ht k .block _ oe.p hke trivial
 obtain ⟨_, y, rfl⟩ := rZ ht oe hke e2
 have FC : some (s2.put (nd 17 [(j0 l ((st.name l).want l [61])).2, (j0 l ((j0 l ((st.name l).want l [61])).1.want l [44])).2, y] 0 (st.cP l) (st.now l).pos), [s2.gO (nd 17 [(j0 l ((st.name l).want l [61])).2, (j0 l ((j0 l ((st.name l).want l [61])).1.want l [44])).2, y] 0 (st.cP l) (st.now l).pos)]) = some (s1, r) := by
  rw [<- bM]; unfold RI; simp only [e2, Option.bind_some]; rfl
 generalize hC : run U aU _ _ = C at hX
 obtain ⟨m7, rfl, r7, k7⟩ := zF ht o4 rb hC
 clear hC;generalize (j0 l ((j0 l ((st.name l).want l [61])).1.want l [44])).2 = x at *
 generalize (j0 l ((j0 l ((st.name l).want l [61])).1.want l [44])).1 = s7 at *
 generalize (j0 l ((st.name l).want l [61])).2 = w at *
 have e7 := (k7.k _ (.inl rz)).trans x4.g
 simp +contextual -implicitDefEqProofs (maxSteps := 1000000) (maxDischargeDepth := 8) only [e7, EA, cm, fG, aq, aa, implies_true, simprocAttr] at hX
 generalize hC : run U eO _ _ = C at hX
 obtain ⟨m8, rfl, r8, k8⟩ := ih _ _ _ _ _ _ _ oe hke e2 r7 hC
 clear hC;have hM : ∀ B, Mem.mk m8.next (ext (Mem.mk (m4.next + 6) m8.gB) [B]).gB = m8.set (m4.next + 6) B := fun _ => rfl
 obtain ⟨r9, k9, n9, p9, Ty⟩ := drawn (c := m4.next + 6) r4 (by omega) (by omega) r8 (k7.trans k8) [.int .i64 w, .int .i64 x, .int .i64 y]
 have e8 : (m8.set (m4.next + 6) (.cells [.int .i64 w, .int .i64 x, .int .i64 y] 1 bn false)).get (nb m.next 0) = .cells [.ptr b 0] 1 ah false := by rw [az (Ty _ rz)]; exact (k8.k _ (.inl rz)).trans e7
 have n8 : nb m.next 0 < (m8.set (m4.next + 6) (.cells [.int .i64 w, .int .i64 x, .int .i64 y] 1 bn false)).next := r9.mb (.inl rz)
 simp +contextual -implicitDefEqProofs (maxSteps := 1000000) (maxDischargeDepth := 8) only [hM, EA, cm, fG, List.headD_cons, aq, aa, implies_true, simprocAttr] at hX
 have dJ := p7 (m := m8) (cs := [.int .i64 w, .int .i64 x, .int .i64 y]) n9 rfl
 generalize m8.set (m4.next + 6) (.cells [.int .i64 w, .int .i64 x, .int .i64 y] 1 bn false) = M9 at *
 simp +contextual -implicitDefEqProofs (maxSteps := 1000000) (maxDischargeDepth := 8) only [e8, n8, aq, aa, implies_true, simprocAttr] at hX
 generalize hC : run U ay _ _ = C at hX
 obtain ⟨m5, rfl, r5, k5⟩ := pG (P := Pr P m.next (nb m.next 1)) (kids := [w, x, y]) ht (g2'.ok oe) r9 (by simp) dJ (fun c hc => by rw [cj hc]; exact p9) (fun c hc => ⟨.inl hc, gz.of (Ty c hc)⟩) (by simp) hC
 clear hC;simp +contextual -implicitDefEqProofs (maxSteps := 1000000) (maxDischargeDepth := 8) only [aq, aa, implies_true, simprocAttr] at hX
 subst hX;obtain ⟨rfl, rfl⟩ := eM _ _ _ _ ▸ pE FC
 exact ⟨_, rfl, r5.bO fun c hc => .inl hc, x4.k.trans ((k9.trans k5).bO fun c hc => .inl hc)⟩
end
end
section
section
variable {m M : Mem} {b tg : Nat} {l : List Tok} {st : RS} {P Q : Nat -> Prop} {X : Option Fin}
def Sl : List bZ := [NU, Wa, Av, NV, Aw, oI, vp, DI]
def YC : List Nat := [kL, kh, jJ, jK, nM, nL, nK, nJ]
def rm : List EV := [.str NU, .func kL [] [], .str Wa, .func kh [] [], .str Av, .func jJ [] [], .str NV, .func jK [] [], .str Aw, .func nM [] [], .str oI, .func nL [] [], .str vp, .func nK [] [], .str DI, .func nJ [] []]
theorem Ob (m : Mem) : run U Fx [] m = some (.ret (.slice (nb m.next 0) 0 8 (some 8)) (ext m [.cells rm 2 cM false])) := by
 rw [bX (by simp [gb])]
 have EA : eA 8 [EV.str [], EV.aN] = [EV.str [], EV.aN, EV.str [], EV.aN, EV.str [], EV.aN, EV.str [], EV.aN, EV.str [], EV.aN, EV.str [], EV.aN, EV.str [], EV.aN, EV.str [], EV.aN] := rfl
 generalize hX : pF _ _ = X
 simp +contextual -implicitDefEqProofs (maxSteps := 1000000) (maxDischargeDepth := 8) only [gb, EA, cm, fG, aq, aa, implies_true, simprocAttr] at hX
 exact hX.symm
theorem N9 (ht : bS l) (o : ez l st) {bx bs : Nat} (h : Rd m b tg l st P) (xu : m.get bx = .cells [.ptr b 0] 1 ah false) (hbs : m.get bs = .cells rm 2 cM false) (px : P bx) (ps : P bs) {p : Nat} {s1 : RS} {r : List Int}
  (bF : ∀ i, i < 8 -> (∀ j, j < i -> ¬ st.is l (Sl.getD j [])) -> st.is l (Sl.getD i []) -> ∀ (M : Mem) (X : Option Fin), Rd M b tg l st.next P -> run U (YC.getD i 0) [.agg [.ptr b 0], .int .i64 (p : Int)] M = X -> ∃ m', X = some (.ret (.int .i64 (r.headD 0)) m') /\ Rd m' b tg l s1 P /\ Kp M m' P)
  {fr : Fr} (h1 : fr.get 1 = .ptr bx 0) (h3 : fr.get 3 = .int .i64 (p : Int)) (zm : fr.get 10 = .slice bs 0 8 (some 8)) (CG : fr.get 11 = .int .i64 8) (FH : fr.get 12 = .int .i64 0) (hd : fr.defers = []) :
  ∃ o, exec U (.loop b6) fr m = some o /\ ((∃ i, i < 8 /\ (∀ j, j < i -> ¬ st.is l (Sl.getD j [])) /\ st.is l (Sl.getD i []) /\ ∃ fr' m', o = .ret fr' m' /\ fr'.get 2 = .int .i64 (r.headD 0) /\ fr'.defers = [] /\ Rd m' b tg l s1 P /\ Kp m m' P) \/
   ((∀ j, j < 8 -> ¬ st.is l (Sl.getD j [])) /\ ∃ fr' m', o = .exit 0 fr' m' /\ fr'.get 1 = .ptr bx 0 /\ fr'.defers = [] /\ Rd m' b tg l st P /\ Kp m m' P)) := by
 refine ia (σ := Nat) (fun i fr M => i <= 8 /\ (∀ j, j < i -> ¬ st.is l (Sl.getD j [])) /\ Rd M b tg l st P /\ Kp m M P /\ fr.get 1 = .ptr bx 0 /\ fr.get 3 = .int .i64 (p : Int) /\ fr.get 10 = .slice bs 0 8 (some 8) /\ fr.get 11 = .int .i64 8 /\ fr.get 12 = .int .i64 (i : Int) /\ fr.defers = []) (fun i => 8 - i) _ ?_ 0 fr m ⟨lu _, fun j hj => absurd hj (by omega), h, ⟨fh _, fun _ _ => rfl⟩, h1, h3, zm, CG, FH, hd⟩
 rintro i fr M ⟨hi, mF, r0, k, h1, h3, zm, CG, FH, hd⟩
 generalize hX : exec U b6 fr M = X
 have ex := (k.k _ px).trans xu
 have es := (k.k _ ps).trans hbs
 have nx := r0.mb px
 have ns := r0.mb ps
 by_cases bt : i < 8
 ·have hc : (i : Int) < 8 := by omega
  have uW := cx (i := i) (by omega)
  have HC : idx 8 (.int .i64 (i : Int)) = some i := bJ bt
  have Xy : partOf (some 2) rm (i * 2) = some (.agg [.str (Sl.getD i []), .func (YC.getD i 0) [] []]) := by
   match i, bt with
   | 0, _ => rfl
   | 1, _ => rfl
   | 2, _ => rfl
   | 3, _ => rfl
   | 4, _ => rfl
   | 5, _ => rfl
   | 6, _ => rfl
   | 7, _ => rfl
  have hci := bF i bt mF
  simp +contextual -implicitDefEqProofs (maxSteps := 1000000) (maxDischargeDepth := 8) only [b6, h1, h3, zm, CG, FH, hd, hc, ex, es, nx, ns, HC, uW, Xy, aq, aa, implies_true, simprocAttr] at hX
  generalize Xl : Sl.getD i [] = w at *
  generalize YC.getD i 0 = f at *
  have r1 := r0.H3 [.cells [.str w, .func f [] []] 2 cM false]
  have k1 := lI r0 [.cells [.str w, .func f [] []] 2 cM false]
  have e1 : (ext M [.cells [.str w, .func f [] []] 2 cM false]).get (nb M.next 0) = .cells [.str w, .func f [] []] 2 cM false := by rw [aK rfl (by simp)]; rfl
  have p1 : Pr P M.next (nb M.next 1) (nb M.next 0) := nU (by simp)
  generalize hC : run U aT _ _ = C at hX
  obtain ⟨m2, rfl, r2, k2⟩ := oU ht o r1 hC
  clear hC;have e2 := (k2.k _ p1).trans e1
  have n2 := r2.mb p1
  have PE := (k2.k _ (.inl px)).trans ((k1.k _ px).trans ex)
  have Uj := r2.mb (.inl px)
  have k3 := k.trans (k1.trans (k2.bO fun c hc => .inl hc))
  have r3 := r2.bO (Q := P) fun c hc => .inl hc
  by_cases hq : st.is l w
  ·rw [eB hq] at hX
   rw [show st.skip l w = st.next from if_pos hq] at r3;simp +contextual -implicitDefEqProofs (maxSteps := 1000000) (maxDischargeDepth := 8) only [h1, h3, e2, n2, PE, Uj, aq, aa, implies_true, simprocAttr] at hX
   generalize hC : run U f _ _ = C at hX
   obtain ⟨m4, rfl, r4, k4⟩ := hci hq _ _ r3 hC
   clear hC;simp +contextual -implicitDefEqProofs (maxSteps := 1000000) (maxDischargeDepth := 8) only [hd, aq, aa, implies_true, simprocAttr] at hX
   subst hX;exact kl (.inl ⟨i, bt, mF, by rw [Xl]; exact hq, _, _, rfl, by simp only [ap, Nat.reduceBEq ], by simp only [hd, ap, Nat.reduceBEq ], r4, k3.trans k4⟩)
  ·rw [eR hq] at hX
   rw [show st.skip l w = st from if_neg hq] at r3;simp +contextual -implicitDefEqProofs (maxSteps := 1000000) (maxDischargeDepth := 8) only [FH, uW, aq, aa, implies_true, simprocAttr] at hX
   subst hX;refine et (i + 1) (by omega) ⟨bt, fun j hj => ?_, r3, k3, by simp only [h1, ap, Nat.reduceBEq ], by simp only [h3, ap, Nat.reduceBEq ], by simp only [zm, ap, Nat.reduceBEq ], by simp only [CG, ap, Nat.reduceBEq ], by simp only [ap, Nat.reduceBEq ], by simp only [hd, ap, Nat.reduceBEq ]⟩
   by_cases q : j = i
   ·rw [q, Xl]; exact hq
   ·exact mF j (by omega)
 ·have hc : ¬ ((i : Int) < 8) := by omega
  simp +contextual -implicitDefEqProofs (maxSteps := 1000000) (maxDischargeDepth := 8) only [b6, CG, FH, hd, hc, aq, aa, implies_true, simprocAttr] at hX
  subst hX;exact fi (.inr ⟨fun j hj => mF j (by omega), _, _, rfl, by simp only [h1, ap, Nat.reduceBEq ], by simp only [hd, ap, Nat.reduceBEq ], r0, k⟩)
def V3 (l : List Tok) (tg k : Nat) : Prop := ∀ (st : RS) (m : Mem) (b : Nat) (P : Nat -> Prop) (s1 : RS) (r : List Int) (X : Option Fin), ez l st -> 8 * (l.length - st.pos) + PC.stmt.bg < k -> lW l k .stmt st = some (s1, r) -> Rd m b tg l st P -> run U kr [.agg [.ptr b 0]] m = X -> ∃ m', X = some (.ret (.int .i64 (r.headD 0)) m') /\ Rd m' b tg l s1 P /\ Kp m m' P
theorem N8 (ht : bS l) {k : Nat} (ih : Pu l tg k) : V3 l tg (k + 1) := by
 intro st m b P s1 r X o hk bM h hX
 rw [bX (by simp [ca])] at hX
 generalize hL : exec (UT B K) (aH.loop b6) = L at hX
 have hT := jE (b := b) (tg := tg) (P := P) ht o
 have hS := Ob
 simp +contextual -implicitDefEqProofs (maxSteps := 1000000) (maxDischargeDepth := 8) only [ca, hT, hS, h, da, ak, aq, aa, implies_true, simprocAttr] at hX
 subst hL;have uu : (bump (ext m [.cells [.ptr b 0] 1 ah false]) 19).next = nb m.next 20 := by rw [bz, aM, e6]; rfl
 have hold : ∀ c, c < m.next -> (bump (ext m [.cells [.ptr b 0] 1 ah false]) 19).get c = m.get c := fun c hc => by rw [gP, aL hc]
 have eb : (bump (ext m [.cells [.ptr b 0] 1 ah false]) 19).get (nb m.next 0) = .cells [.ptr b 0] 1 ah false := by rw [gP, aK rfl (by simp)]; rfl
 generalize bump (ext m [.cells [.ptr b 0] 1 ah false]) 19 = MA at *
 have en : (ext MA [.cells rm 2 cM false]).next = nb m.next 21 := by rw [aM, uu, e6]; rfl
 have r0 : Rd (ext MA [.cells rm 2 cM false]) b tg l st (Pr P m.next (nb m.next 21)) := by
  have := h.grown (M := ext MA [.cells rm 2 cM false]) (by rw [en]; exact bE) fun c hc => by rw [aL (by rw [uu]; exact mn hc bE)]; exact hold c hc
  rwa [en] at this
 have k0 : Kp m (ext MA [.cells rm 2 cM false]) P := h.kp (by rw [en]; exact bE) fun c hc => by rw [aL (by rw [uu]; exact mn hc bE)]; exact hold c hc
 have e0 : (ext MA [.cells rm 2 cM false]).get (nb m.next 0) = .cells [.ptr b 0] 1 ah false := by rw [aL (by rw [uu]; unfold nb; omega)]; exact eb
 have e1 : (ext MA [.cells rm 2 cM false]).get (nb m.next 20) = .cells rm 2 cM false := by
  have : (ext MA [.cells rm 2 cM false]).get (nb MA.next 0) = .cells rm 2 cM false := by rw [aK rfl (by simp)]; rfl
  rw [uu, e6] at this; exact this
 generalize ext MA [.cells rm 2 cM false] = M0 at *
 have bF : ∀ i, i < 8 -> (∀ j, j < i -> ¬ st.is l (Sl.getD j [])) -> st.is l (Sl.getD i []) -> ∀ (M : Mem) (X : Option Fin), Rd M b tg l st.next (Pr P m.next (nb m.next 21)) -> run U (YC.getD i 0) [.agg [.ptr b 0], .int .i64 ((st.now l).pos : Int)] M = X -> ∃ m', X = some (.ret (.int .i64 (r.headD 0)) m') /\ Rd m' b tg l s1 (Pr P m.next (nb m.next 21)) /\ Kp M m' (Pr P m.next (nb m.next 21)) := by
  intro i hi mF zg M X hr hX
  have hn := is_lt ht o.p zg
  have on : ez l st.next := (Gr.next hn).ok o
  have VB : 8 * (l.length - st.next.pos) + PC.block.bg < k := by simp only [PC.bg, RS.next] at *; omega
  simp only [lW] at bM;have n0 : 0 < i -> ¬ st.is l NU := fun q => mF 0 q
  have n1 : 1 < i -> ¬ st.is l Wa := fun q => mF 1 q
  have n2 : 2 < i -> ¬ st.is l Av := fun q => mF 2 q
  have n3 : 3 < i -> ¬ st.is l NV := fun q => mF 3 q
  have n4 : 4 < i -> ¬ st.is l Aw := fun q => mF 4 q
  have n5 : 5 < i -> ¬ st.is l oI := fun q => mF 5 q
  have n6 : 6 < i -> ¬ st.is l vp := fun q => mF 6 q
  match i, hi with
  | 0, _ =>
   rw [if_pos (show st.is l NU from zg)] at bM;obtain ⟨rfl, rfl⟩ := eM _ _ _ _ ▸ pE bM
   exact QR ht on hr hX
  | 1, _ =>
   rw [if_neg (n0 (by omega)), if_pos (show st.is l Wa from zg)] at bM;exact NT ht ih on VB hr bM hX
  | 2, _ =>
   rw [if_neg (n0 (by omega)), if_neg (n1 (by omega)), if_pos (show st.is l Av from zg)] at bM;exact Kw ht ih on VB hr bM hX
  | 3, _ =>
   rw [if_neg (n0 (by omega)), if_neg (n1 (by omega)), if_neg (n2 (by omega)), if_pos (show st.is l NV from zg)] at bM;exact RH ht ih on VB hr bM hX
  | 4, _ =>
   rw [if_neg (n0 (by omega)), if_neg (n1 (by omega)), if_neg (n2 (by omega)), if_neg (n3 (by omega)), if_pos (show st.is l Aw from zg)] at bM;obtain ⟨rfl, rfl⟩ := eM _ _ _ _ ▸ pE bM
   exact L5 ht on hr hX
  | 5, _ =>
   rw [if_neg (n0 (by omega)), if_neg (n1 (by omega)), if_neg (n2 (by omega)), if_neg (n3 (by omega)), if_neg (n4 (by omega)), if_pos (show st.is l oI from zg)] at bM;obtain ⟨rfl, rfl⟩ := eM _ _ _ _ ▸ pE bM
   exact Pg ht on hr hX
  | 6, _ =>
   rw [if_neg (n0 (by omega)), if_neg (n1 (by omega)), if_neg (n2 (by omega)), if_neg (n3 (by omega)), if_neg (n4 (by omega)), if_neg (n5 (by omega)), if_pos (show st.is l vp from zg)] at bM;obtain ⟨rfl, rfl⟩ := eM _ _ _ _ ▸ pE bM
   exact Qg ht on hr hX
  | 7, _ =>
   rw [if_neg (n0 (by omega)), if_neg (n1 (by omega)), if_neg (n2 (by omega)), if_neg (n3 (by omega)), if_neg (n4 (by omega)), if_neg (n5 (by omega)), if_neg (n6 (by omega)), if_pos (show st.is l DI from zg)] at bM;obtain ⟨rfl, rfl⟩ := eM _ _ _ _ ▸ pE bM
   exact KT ht on hr hX
 generalize hC : exec (UT B K) (aH.loop b6) _ _ = C at hX
 obtain ⟨o', rfl, hh⟩ := hZ hC (N9 ht o r0 e0 e1 Ks KS bF (by simp only [ap, Nat.reduceBEq ]) (by simp only [ap, Nat.reduceBEq ]) (by simp only [ap, Nat.reduceBEq ]) (by simp only [ap, Nat.reduceBEq ]) (by simp only [ap, Nat.reduceBEq ]) (by simp only [ap, Nat.reduceBEq ]))
 clear hC;rcases hh with ⟨i, hi, mF, zg, fr', m', rfl, f2, fd, r1, k1⟩ | ⟨mF, fr', m', rfl, f1, fd, r1, k1⟩
 ·simp +contextual -implicitDefEqProofs (maxSteps := 1000000) (maxDischargeDepth := 8) only [f2, fd, aq, aa, implies_true, simprocAttr] at hX
  subst hX;exact ⟨_, rfl, r1.bO fun c hc => .inl hc, k0.trans (k1.bO fun c hc => .inl hc)⟩
 ·simp only [lW] at bM
  rw [if_neg (show ¬ st.is l NU from mF 0 (by omega)), if_neg (show ¬ st.is l Wa from mF 1 (by omega)), if_neg (show ¬ st.is l Av from mF 2 (by omega)), if_neg (show ¬ st.is l NV from mF 3 (by omega)), if_neg (show ¬ st.is l Aw from mF 4 (by omega)), if_neg (show ¬ st.is l oI from mF 5 (by omega)), if_neg (show ¬ st.is l vp from mF 6 (by omega)), if_neg (show ¬ st.is l DI from mF 7 (by omega))] at bM;obtain ⟨rfl, rfl⟩ := eM _ _ _ _ ▸ pE bM
  have e2 := (k1.k _ Ks).trans e0
  have n2 := r1.mb Ks
  simp +contextual -implicitDefEqProofs (maxSteps := 1000000) (maxDischargeDepth := 8) only [f1, fd, e2, n2, aq, aa, implies_true, simprocAttr] at hX
  generalize hC : run U nk _ _ = C at hX
  obtain ⟨m3, rfl, r3, k3⟩ := K9 ht o r1 hC
  clear hC;simp +contextual -implicitDefEqProofs (maxSteps := 1000000) (maxDischargeDepth := 8) only [fd, aq, aa, implies_true, simprocAttr] at hX
  subst hX;exact ⟨_, rfl, r3.bO fun c hc => .inl hc, k0.trans ((k1.trans k3).bO fun c hc => .inl hc)⟩
end
end
section
def NK (l : List Tok) (tg k : Nat) : Prop := ∀ (out : List Int) (v pv : EV) (st : RS) (fr : Fr) (m : Mem) (b n0 bx : Nat) (P : Nat -> Prop) (s1 : RS) (r : List Int) (X : Option Out), ez l st -> 8 * (l.length - st.pos) + (PC.kW out).bg < k -> st.fe = 0 -> out.length <= st.pos -> lW l k (.kW out) st = some (s1, r) -> Rd m b tg l st (Pv P v) -> (∀ c, P c -> c < n0) -> n0 <= m.next -> jz m v (is out) out.length 1 n0 -> (out = [] -> v = .ae) -> m.get bx = .cells [.ptr b 0] 1 ah false -> P bx -> fr.get 1 = .ptr bx 0 -> fr.get 3 = pv -> fr.get 4 = v -> fr.defers = [] -> exec U (.loop dN) fr m = X -> ∃ fr' m' v', X = some (.exit 0 fr' m') /\ fr'.get 1 = .ptr bx 0 /\ fr'.get 3 = pv /\ fr'.get 4 = v' /\ fr'.defers = [] /\ jz m' v' (is r) r.length 1 n0 /\ Rd m' b tg l s1 (Pv P v') /\ Kp m m' P /\ (r = [] -> v' = .ae)
section
variable {tg : Nat} {l : List Tok}
theorem P4 (ht : bS l) {k : Nat} {st : RS} (o : ez l st) (hk : 8 * (l.length - st.pos) + PC.stmt.bg < k) {s1 : RS} {r : List Int} (e : lW l k .stmt st = some (s1, r)) : Gr l st s1 /\ (s1.fe = 0 -> st.pos < s1.pos) /\ ∃ x, r = [x] := by
 obtain ⟨s2, r2, e2, g, a, mo⟩ := kP ht k .stmt st o.p hk trivial
 rw [e] at e2;obtain ⟨rfl, rfl⟩ := eM _ _ _ _ ▸ pE e2
 exact ⟨g, mo, jI a⟩
theorem L8 (ht : bS l) {k : Nat} (Jp : V3 l tg k) (Lv : NK l tg k) : NK l tg (k + 1) := by
 intro out v pv st fr m b n0 bx P s1 r X o hk im hm bM h hP uu dJ hz xu px h1 h3 h4 hd hX
 have hkv : v.cells = some [v] := by rcases dJ.is with ⟨rfl, _⟩ | ⟨_, _, _, rfl, _⟩ <;> rfl
 rw [eP] at hX;generalize hL : exec U (.loop dN) = L at hX
 have nx := h.mb (.inl px)
 simp +contextual -implicitDefEqProofs (maxSteps := 1000000) (maxDischargeDepth := 8) only [dN, h1, h3, h4, hd, xu, nx, aq, aa, implies_true, simprocAttr] at hX
 generalize hC : run U aT _ _ = C at hX
 obtain ⟨m1, rfl, r1, k1⟩ := oU ht o h hC
 clear hC;have Et := dJ.kp k1 fun c hc => .inr hc
 have Y0 := (k1.k _ (.inl px)).trans xu
 have nx1 := r1.mb (.inl px)
 simp only [lW] at bM;by_cases hq : st.is l [125]
 ·rw [eB hq] at hX
  rw [if_pos hq] at bM;rw [show st.skip l [125] = st.next from if_pos hq] at r1
  obtain ⟨rfl, rfl⟩ := eM _ _ _ _ ▸ pE bM
  simp +contextual -implicitDefEqProofs (maxSteps := 1000000) (maxDischargeDepth := 8) only [h1, h3, h4, hd, aq, aa, implies_true, simprocAttr] at hX
  subst hX;exact ⟨_, _, v, rfl, by simp only [h1, ap, Nat.reduceBEq ], by simp only [h3, ap, Nat.reduceBEq ], by simp only [h4, ap, Nat.reduceBEq ], by simp only [hd, ap, Nat.reduceBEq ], Et, r1, k1.bO fun c hc => .inl hc, hz⟩
 ·rw [eR hq] at hX
  rw [if_neg hq] at bM;rw [show st.skip l [125] = st from if_neg hq] at r1
  simp +contextual -implicitDefEqProofs (maxSteps := 1000000) (maxDischargeDepth := 8) only [h1, h3, h4, hd, Y0, nx1, aq, aa, implies_true, simprocAttr] at hX
  have PB : 8 * (l.length - st.pos) + PC.stmt.bg < k := by simp only [PC.bg] at *; omega
  obtain ⟨s2, r2, e, _⟩ := kP ht k .stmt st o.p PB trivial
  obtain ⟨g, mo, x, rfl⟩ := P4 ht o PB e
  simp only [e, Option.bind_some] at bM;have o2 := g.ok o
  generalize hC : run U kr _ _ = C at hX
  obtain ⟨m2, rfl, r2, k2⟩ := Jp _ _ _ _ _ _ _ o PB e r1 hC
  clear hC;have kA := Et.kp k2 fun c hc => .inr hc
  have PE := (k2.k _ (.inl px)).trans Y0
  have Td := (k1.trans k2).bO (Q := P) fun c hc => .inl hc
  obtain ⟨v2, M2, ha, mf, r3, k3⟩ := rv (out := out) (x := x) r2 hP (pJ uu Td.n) kA (by have := o.p; have := ht.lt; omega)
  have ex3 := (k3.k _ px).trans PE
  have nx3 := r3.mb (.inl px)
  have Wn := Td.trans k3
  have hF := xC (b := b) (tg := tg) (l := l) (st := s2) (P := Pv P v2)
  by_cases hf : s2.fe = 0
  ·rw [if_pos hf] at bM
   simp +contextual -implicitDefEqProofs (maxSteps := 1000000) (maxDischargeDepth := 8) only [h1, h3, h4, hd, ha, ex3, nx3, hF, r3, hf, List.headD_cons, fY, aq, aa, implies_true, simprocAttr] at hX
   subst hL;have bt := mo hf
   have HA := g.pl
   obtain ⟨fr', m', v', rfl, q1, q3, q4, qd, qo, qr, qk, qz⟩ := Lv (out ++ [x]) v2 pv _ _ _ _ n0 bx P _ _ _ o2 (by simp only [PC.bg] at *; omega) hf (by rw [ja, List.length_singleton]; omega) bM (ak r3) hP (pJ uu (pJ Wn.n (by rw [bz]; exact bE))) (mf.kp (aQ r3) fun c hc => .inr hc) (by simp) ex3 px (by simp only [h1, ap, Nat.reduceBEq ]) (by simp only [h3, ap, Nat.reduceBEq ]) (by simp only [ap, Nat.reduceBEq ]) (by simp only [hd, ap, Nat.reduceBEq ]) hX
   exact ⟨fr', m', v', rfl, q1, q3, q4, qd, qo, qr, (Wn.trans ((aQ r3).bO fun c hc => .inl hc)).trans qk, qz⟩
  ·rw [if_neg hf] at bM
   obtain ⟨rfl, rfl⟩ := eM _ _ _ _ ▸ pE bM
   simp +contextual -implicitDefEqProofs (maxSteps := 1000000) (maxDischargeDepth := 8) only [h1, h3, h4, hd, ha, ex3, nx3, hF, r3, hf, List.headD_cons, fA, aq, aa, implies_true, simprocAttr] at hX
   subst hX;exact ⟨_, _, v2, rfl, by simp only [h1, ap, Nat.reduceBEq ], by simp only [h3, ap, Nat.reduceBEq ], by simp only [ap, Nat.reduceBEq ], by simp only [hd, ap, Nat.reduceBEq ], mf.kp (aQ r3) fun c hc => .inr hc, ak r3, Wn.trans ((aQ r3).bO fun c hc => .inl hc), by simp⟩
theorem L7 (ht : bS l) {k : Nat} (ih : NK l tg k) : Pu l tg (k + 1) := by
 intro st m b P s1 r X o hk bM h hX
 rw [bX (by simp [cZ])] at hX
 generalize hL : exec (UT B K) (aH.loop dN) = L at hX
 have hT := jE (b := b) (tg := tg) (P := P) ht o
 simp +contextual -implicitDefEqProofs (maxSteps := 1000000) (maxDischargeDepth := 8) only [cZ, hT, h, da, ak, aq, aa, implies_true, simprocAttr] at hX
 obtain ⟨r0, x0⟩ := Bx.start h 19
 generalize bump (ext m [.cells [.ptr b 0] 1 ah false]) 19 = M0 at *
 generalize hC : run U aO _ _ = C at hX
 obtain ⟨m1, rfl, r1, k1⟩ := nT ht o r0 hC
 clear hC;have x1 := x0.step k1 (fun c hc => .inl hc) rz
 have y1 := x1.g
 have z1 := x1.n
 simp only [lW] at bM;by_cases hq : st.is l [123]
 ·rw [eB hq] at hX
  rw [if_pos hq] at bM;have hn := is_lt ht o.p hq
  have on : ez l st.next := (Gr.next hn).ok o
  rw [show st.want l [123] = st.next from if_pos hq] at r1
  simp +contextual -implicitDefEqProofs (maxSteps := 1000000) (maxDischargeDepth := 8) only [y1, z1, aq, aa, implies_true, simprocAttr] at hX
  generalize hC : run U eE _ _ = C at hX
  obtain ⟨m2, rfl, r2, k2⟩ := IT ht on r1 hC
  clear hC;have x2 := x1.step k2 (fun c hc => .inl hc) rz
  have y2 := x2.g
  have z2 := x2.n
  have go := Gr.open hn (p := ((st.now l).pos : Int))
  have oo := go.ok o
  obtain ⟨q1, q2, q3⟩ := lx (st := st.next) (p := ((st.now l).pos : Int))
  by_cases hf : (st.next.open (st.now l).pos).fe = 0
  ·rw [if_pos hf] at bM
   have Gs : 8 * (l.length - (st.next.open (st.now l).pos).pos) + (PC.kW []).bg < k := by rw [q1]; simp only [PC.bg, RS.next] at *; omega
   obtain ⟨s2, rr, e, g, a, _⟩ := kP ht k (.kW []) (st.next.open (st.now l).pos) oo.p Gs ⟨hf, lu _⟩
   simp only [e, Option.bind_some, uU] at bM;simp +contextual -implicitDefEqProofs (maxSteps := 1000000) (maxDischargeDepth := 8) only [y2, z2, hf, fY, aq, aa, implies_true, simprocAttr] at hX
   subst hL;generalize hC : exec (UT B K) (aH.loop dN) _ _ = C at hX
   obtain ⟨fr', m3, v, rfl, f1, f3, f4, fd, dJ, r3, k3, hz⟩ := ih [] .ae (.int .i64 ((st.now l).pos : Int)) _ _ _ _ m2.next (nb m.next 0) (Pr P m.next (nb m.next 1)) _ _ _ oo Gs hf (lu _) e r2.pv (fun c hc => r2.mb hc) (fh _) ⟨.inl ⟨rfl, rfl, rfl⟩, rfl⟩ (fun _ => rfl) y2 rz (by simp only [ap, Nat.reduceBEq ]) (by simp only [ap, Nat.reduceBEq ]) (by simp only [ap, Nat.reduceBEq ]) (by simp only [ap, Nat.reduceBEq ]) hC
   clear hC;have x3 := x2.step k3 (fun c hc => .inl hc) rz
   have y3 := x3.g
   have z3 := x3.n
   have o3 := g.ok oo
   have gc := (go.trans g).close (by have := g.d0; rw [q2] at this; simp only [RS.next] at this; exact this)
   have Wt : v.cells = some [v] := by rcases dJ.is with ⟨rfl, _⟩ | ⟨_, _, _, rfl, _⟩ <;> rfl
   simp +contextual -implicitDefEqProofs (maxSteps := 1000000) (maxDischargeDepth := 8) only [f1, f3, f4, fd, y3, z3, aq, aa, implies_true, simprocAttr] at hX
   generalize hC : run U dw _ _ = C at hX
   obtain ⟨m4, rfl, r4, k4⟩ := A2 ht o3 r3 hC
   clear hC;have x4 := x3.step k4 (fun c hc => .inl (.inl hc)) (.inl rz)
   have y4 := x4.g
   have z4 := x4.n
   have nu := dJ.kp k4 fun c hc => .inr hc
   simp +contextual -implicitDefEqProofs (maxSteps := 1000000) (maxDischargeDepth := 8) only [f1, f3, f4, fd, y4, z4, Wt, aq, aa, implies_true, simprocAttr] at hX
   generalize hC : run U ay _ _ = C at hX
   obtain ⟨m5, rfl, r5, k5⟩ := pG (P := Pr P m.next (nb m.next 1)) (kids := rr) ht (gc.ok o) r4 (by have : rr.length <= s2.pos + 1 := a; have := o3.p; have := ht.lt; omega) nu.Vd (fun c hc => .inr hc) (fun c hc => ⟨.inl hc, nu.lt (.inr (r2.mb hc))⟩) hz hC
   clear hC;simp +contextual -implicitDefEqProofs (maxSteps := 1000000) (maxDischargeDepth := 8) only [fd, aq, aa, implies_true, simprocAttr] at hX
   subst hX;obtain ⟨rfl, rfl⟩ := eM _ _ _ _ ▸ pE bM
   exact ⟨_, rfl, r5.bO fun c hc => .inl hc, x4.k.trans (k5.bO fun c hc => .inl hc)⟩
  ·rw [if_neg hf] at bM
   obtain ⟨rfl, rfl⟩ := eM _ _ _ _ ▸ pE bM
   simp +contextual -implicitDefEqProofs (maxSteps := 1000000) (maxDischargeDepth := 8) only [y2, z2, hf, fA, aq, aa, implies_true, simprocAttr] at hX
   subst hX;exact ⟨_, rfl, r2.bO fun c hc => .inl hc, x2.k⟩
 ·rw [eR hq] at hX
  rw [if_neg hq] at bM;obtain ⟨rfl, rfl⟩ := eM _ _ _ _ ▸ pE bM
  rw [show st.want l [123] = st.fail 8 (st.now l).pos from if_neg hq] at r1
  simp +contextual -implicitDefEqProofs (maxSteps := 1000000) (maxDischargeDepth := 8) only [y1, z1, aq, aa, implies_true, simprocAttr] at hX
  subst hX;exact ⟨_, rfl, r1.bO fun c hc => .inl hc, x1.k⟩
structure adl (l : List Tok) (tg k : Nat) : Prop where
 SM : V3 l tg k
 c9 : Pu l tg k
 Yn : NK l tg k
theorem PK (ht : bS l) : ∀ k, adl l tg k := by
 intro k
 induction k with
 | zero => exact ⟨fun _ _ _ _ _ _ _ _ q => absurd q (by omega), fun _ _ _ _ _ _ _ _ q => absurd q (by omega), fun _ _ _ _ _ _ _ _ _ _ _ _ _ _ q => absurd q (by omega)⟩
 | succ k ih => exact ⟨N8 ht ih.c9, L7 ht ih.Yn, L8 ht ih.SM ih.Yn⟩
end
end
end Go.Proofs.YtdiccmapankckaaDoor.Ev
