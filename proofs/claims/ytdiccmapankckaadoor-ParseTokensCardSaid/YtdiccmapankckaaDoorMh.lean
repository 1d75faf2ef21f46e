/- WLex1, WLex2, WLex3, WLex4, WExpr1, WExpr2, WExpr3, WExpr4, WExpr5, WExpr6, WExpr7, WExpr8. -/
import Derived.Test.YtdiccmapankckaaDoorMg
set_option linter.unusedSimpArgs false
set_option linter.unusedVariables false
set_option linter.unusedSectionVars false
set_option linter.defProp false
set_option maxRecDepth 20000
set_option maxHeartbeats 8000000
namespace Go.Proofs.YtdiccmapankckaaDoor.Ev
open Go
section
theorem R6 {n : Int} : cR B K Jt [.int .u8 n] = some (bo (cZ n)) := by
 rw [eE (by simp [iU])]
 simp +contextual -implicitDefEqProofs (maxSteps := 1000000) (maxDischargeDepth := 8) only [iU, cZ, ax, ab, implies_true, simprocAttr]
theorem N2 : cZ 10 = True := eq_true (by decide)
theorem OB {s : bK} (hs : s.length < 1000000000) {m0 : Mem} {fr : Fr} (h0 : fr.get 0 = .str s) (h3 : fr.get 3 = .bool false) (h4 : fr.get 4 = .int .i64 0) (hd : fr.defers = []) :
  ∃ o, exec U (.loop ig) fr m0 = some o /\ ((∃ fr', o = .ret fr' m0 /\ fr'.get 2 = .int .i64 (bA false s : Int) /\ fr'.defers = []) \/ (bA false s = s.length /\ ∃ fr', o = .exit 0 fr' m0 /\ fr'.get 0 = .str s /\ fr'.defers = [])) := by
 refine iE (σ := Nat) (fun i fr m => m = m0 /\ i <= s.length /\ fr.get 0 = .str s /\ (∃ r, fr.get 3 = .bool r /\ bA false s = i + bA r (s.drop i)) /\ fr.get 4 = .int .i64 (i : Int) /\ fr.defers = []) (fun i => s.length - i) _ ?_ 0 fr m0 ⟨rfl, ml _, h0, ⟨false, h3, by simp⟩, h4, hd⟩
 rintro i fr m ⟨rfl, hi, h0, ⟨r, h3, hr⟩, h4, hd⟩
 generalize hX : exec U ig fr m = X
 by_cases bn : i < s.length
 ·have hc : (i : Int) < (s.length : Int) := by omega
  have hg : s[i]? = some s[i] := nc bn
  have ug := cQ (i := i) (by omega)
  rw [drop_cons bn, bA] at hr;generalize s[i] = c at hg hr
  simp only [cI] at hr
  cases r
  all_goals
   simp +contextual -implicitDefEqProofs (maxSteps := 1000000) (maxDischargeDepth := 8) only [ig, h0, h3, h4, hd, hc, hg, bn, ug, b9, R6, N2, ax, ab, implies_true, simprocAttr] at hX
   subst hX
   repeat' refine uU (fun _ => ?_) (fun _ => ?_)
   all_goals first
    | (refine eR (i + 1) (by omega) ⟨rfl, bn, by simp only [h0, aq, Nat.reduceBEq ], ⟨_, by simp only [h3, aq, Nat.reduceBEq ]; rfl, ?_⟩, by simp only [aq, Nat.reduceBEq ], by simp only [hd, aq, Nat.reduceBEq ]⟩
       rw [hr]; simp [*, N2]; omega)
    | (refine mC (Or.inl ⟨_, rfl, ?_, by simp only [hd, aq, Nat.reduceBEq ]⟩)
       rw [hr]; simp only [aq, Nat.reduceBEq ]; simp [*])
 ·have hc : ¬ ((i : Int) < (s.length : Int)) := by omega
  simp +contextual -implicitDefEqProofs (maxSteps := 1000000) (maxDischargeDepth := 8) only [ig, h0, h3, h4, hd, hc, ax, ab, implies_true, simprocAttr] at hX
  subst hX;obtain rfl : i = s.length := by omega
  rw [List.drop_length] at hr;simp only [bA, Nat.add_zero] at hr;exact eS (.inr ⟨hr, _, rfl, by simp only [h0, aq, Nat.reduceBEq ], by simp only [hd, aq, Nat.reduceBEq ]⟩)
theorem MB {s : bK} (hs : s.length < 1000000000) : cR B K Lt [.str s] = some (.int .i64 (bA false s : Int)) := by
 rw [eE (by simp [jU])]
 generalize hL : exec (UT B K) (aE.loop ig) = L
 simp +contextual -implicitDefEqProofs (maxSteps := 1000000) (maxDischargeDepth := 8) only [jU, ax, ab, implies_true, simprocAttr]
 subst hL;generalize hX : exec _ (.loop ig) _ _ = X
 obtain ⟨o, rfl, h⟩ := iD hX (OB (s := s) hs (by simp only [aq, Nat.reduceBEq ]) (by simp only [aq, Nat.reduceBEq ]) (by simp only [aq, Nat.reduceBEq ]) (by simp only [aq, Nat.reduceBEq ]))
 rcases h with ⟨fr', rfl, h2, hd⟩ | ⟨h, fr', rfl, h0, hd⟩
 ·simp +contextual -implicitDefEqProofs (maxSteps := 1000000) (maxDischargeDepth := 8) only [h2, hd, ax, ab, implies_true, simprocAttr]
 ·simp +contextual -implicitDefEqProofs (maxSteps := 1000000) (maxDischargeDepth := 8) only [h, h0, hd, ax, ab, implies_true, simprocAttr]
end
section
theorem Jl {s : bK} (hs : s.length < 1000000000) (KE : ∀ c ∈ s, aN (cI c)) {m0 : Mem} {fr : Fr} (h0 : fr.get 0 = .str s) (h4 : fr.get 4 = .int .i64 0) (h5 : fr.get 5 = .int .i64 0) (hd : fr.defers = []) :
  ∃ o, exec U (.loop fQ) fr m0 = some o /\ ((qV 0 s = none /\ ∃ fr', o = .ret fr' m0 /\ fr'.get 2 = .int .i64 0 /\ fr'.get 3 = .bool false /\ fr'.defers = []) \/ (∃ n : Nat, qV 0 s = some n /\ ∃ fr', o = .exit 0 fr' m0 /\ fr'.get 4 = .int .i64 (n : Int) /\ fr'.defers = [])) := by
 refine iE (σ := Nat) (fun i fr m => m = m0 /\ i <= s.length /\ fr.get 0 = .str s /\ (∃ n : Nat, fr.get 4 = .int .i64 (n : Int) /\ n <= 9223372036854775807 /\ qV 0 s = qV n (s.drop i)) /\ fr.get 5 = .int .i64 (i : Int) /\ fr.defers = []) (fun i => s.length - i) _ ?_ 0 fr m0 ⟨rfl, ml _, h0, ⟨0, h4, by omega, by simp⟩, h5, hd⟩
 rintro i fr m ⟨rfl, hi, h0, ⟨n, h4, hn, hr⟩, h5, hd⟩
 generalize hX : exec U fQ fr m = X
 by_cases bn : i < s.length
 ·have hc : (i : Int) < (s.length : Int) := by omega
  have hg : s[i]? = some s[i] := nc bn
  have V1 := KE s[i] (Mv bn)
  have ug := cQ (i := i) (by omega)
  rw [drop_cons bn, qV] at hr;generalize s[i] = c at hg hr V1
  unfold aN cI at V1;have Vv : IntKind.u8.wrap ((c.toNat : Int) - 48) = (c.toNat : Int) - 48 := by rw [My]; omega
  have hw3 : IntKind.i64.wrap ((c.toNat : Int) - 48) = (c.toNat : Int) - 48 := wrap_i64 (by omega) (by omega)
  simp +contextual -implicitDefEqProofs (maxSteps := 1000000) (maxDischargeDepth := 8) only [fQ, h0, h4, h5, hd, hc, hg, bn, ug, Vv, hw3, b9, ax, ab, implies_true, simprocAttr] at hX
  subst hX;refine uU (fun hp => mC (Or.inl ⟨?_, _, rfl, ?_, ?_, ?_⟩)) (fun hp => ?_)
  ·rw [hr, if_pos (by omega)]
  ·simp only [aq, Nat.reduceBEq ]
  ·simp only [aq, Nat.reduceBEq ]
  ·simp only [hd, aq, Nat.reduceBEq ]
  ·have hw4 : IntKind.i64.wrap (10 * (n : Int)) = 10 * (n : Int) := wrap_i64 (by omega) (by omega)
   have XH : IntKind.i64.wrap (10 * (n : Int) + ((c.toNat : Int) - 48)) = ((10 * n + (c.toNat - 48) : Nat) : Int) := by rw [wrap_i64 (by omega) (by omega)]; omega
   refine eR (i + 1) (by omega) ⟨rfl, bn, by simp only [h0, aq, Nat.reduceBEq ], ⟨10 * n + (c.toNat - 48), by simp only [hw4, XH, aq, Nat.reduceBEq ], by omega, ?_⟩, by simp only [aq, Nat.reduceBEq ], by simp only [hd, aq, Nat.reduceBEq ]⟩
   rw [hr, if_neg (by omega)]
 ·have hc : ¬ ((i : Int) < (s.length : Int)) := by omega
  simp +contextual -implicitDefEqProofs (maxSteps := 1000000) (maxDischargeDepth := 8) only [fQ, h0, h4, h5, hd, hc, ax, ab, implies_true, simprocAttr] at hX
  subst hX;obtain rfl : i = s.length := by omega
  rw [List.drop_length] at hr;simp only [qV] at hr;exact eS (Or.inr ⟨n, hr, _, rfl, by simp only [h4, aq, Nat.reduceBEq ], by simp only [hd, aq, Nat.reduceBEq ]⟩)
def QG (o : Option Nat) : EV := match o with
 | some n => .tuple [.int .i64 (n : Int), .bool true]
 | none => .tuple [.int .i64 0, .bool false]
theorem OM {s : bK} (hs : s.length < 1000000000) (KE : ∀ c ∈ s, aN (cI c)) : cR B K HC [.str s] = some (QG (qV 0 s)) := by
 rw [eE (by simp [gU])]
 generalize hL : exec (UT B K) (aE.loop fQ) = L
 simp +contextual -implicitDefEqProofs (maxSteps := 1000000) (maxDischargeDepth := 8) only [gU, ax, ab, implies_true, simprocAttr]
 subst hL;generalize hX : exec _ (.loop fQ) _ _ = X
 obtain ⟨o, rfl, h⟩ := iD hX (Jl (s := s) hs KE (by simp only [aq, Nat.reduceBEq ]) (by simp only [aq, Nat.reduceBEq ]) (by simp only [aq, Nat.reduceBEq ]) (by simp only [aq, Nat.reduceBEq ]))
 rcases h with ⟨h, fr', rfl, h2, h3, hd⟩ | ⟨n, h, fr', rfl, h4, hd⟩
 ·simp +contextual -implicitDefEqProofs (maxSteps := 1000000) (maxDischargeDepth := 8) only [h, h2, h3, hd, QG, ax, ab, implies_true, simprocAttr]
 ·simp +contextual -implicitDefEqProofs (maxSteps := 1000000) (maxDischargeDepth := 8) only [h, h4, hd, QG, ax, ab, implies_true, simprocAttr]
theorem SJ {s : bK} {ws : List bK} (hs : s.length < 1000000000) (hws : ws.length < 1000) {m0 : Mem} {fr : Fr} {b t : Nat} {v4 : EV} (hb : m0.get b = .cells (ws.map .str) 1 t false) (h0 : fr.get 0 = .str s) (h3 : fr.get 3 = .slice b 0 ws.length (some ws.length)) (h4 : fr.get 4 = v4) (h5 : fr.get 5 = .int .i64 0) (hd : fr.defers = []) :
  ∃ o, exec U (.loop gm) fr m0 = some o /\ (((2 <= s.length /\ s.take 2 ∈ ws) /\ ∃ fr' m', o = .ret fr' m' /\ fr'.get 2 = .int .i64 2 /\ fr'.defers = []) \/ (¬ (2 <= s.length /\ s.take 2 ∈ ws) /\ ∃ fr' m', o = .exit 0 fr' m' /\ fr'.get 0 = .str s /\ fr'.get 4 = v4 /\ fr'.defers = [])) := by
 refine iE (σ := Nat) (fun i fr m => m.get b = .cells (ws.map .str) 1 t false /\ i <= ws.length /\ fr.get 0 = .str s /\ fr.get 3 = .slice b 0 ws.length (some ws.length) /\ fr.get 4 = v4 /\ fr.get 5 = .int .i64 (i : Int) /\ (2 <= s.length -> s.take 2 ∉ ws.take i) /\ fr.defers = []) (fun i => ws.length - i) _ ?_ 0 fr m0 ⟨hb, ml _, h0, h3, h4, h5, by simp, hd⟩
 rintro i fr m ⟨hb, hi, h0, h3, h4, h5, hall, hd⟩
 generalize hX : exec U gm fr m = X
 by_cases bn : i < ws.length
 ·have hc : (i : Int) < (ws.length : Int) := by omega
  have hg : ws[i]? = some ws[i] := nc bn
  have ug := cQ (i := i) (by omega)
  by_cases h2 : 2 <= s.length
  ·have hc2 : (2 : Int) <= (s.length : Int) := by omega
   have Pg : aw (some (.int .i64 2)) s.length s.length = some 2 := dM (i := 2) h2
   have Nl : aw none 0 2 = some 0 := rfl
   simp +contextual -implicitDefEqProofs (maxSteps := 1000000) (maxDischargeDepth := 8) only [gm, h0, h3, h4, h5, hd, hc, hc2, hg, bn, ug, hb, Pg, Nl, b9, Nat.mul_one, Option.map_none, ax, ab, implies_true, simprocAttr] at hX
   subst hX;refine uU (fun hp => mC (Or.inl ⟨⟨h2, ?_⟩, _, _, rfl, by simp only [aq, Nat.reduceBEq ], by simp only [hd, aq, Nat.reduceBEq ]⟩)) (fun hp => eR (i + 1) (by omega) ⟨by simp only [gA, hb], bn, by simp only [h0, aq, Nat.reduceBEq ], by simp only [h3, aq, Nat.reduceBEq ], by simp only [h4, aq, Nat.reduceBEq ], by simp only [aq, Nat.reduceBEq ], fun _ => ?_, by simp only [hd, aq, Nat.reduceBEq ]⟩)
   ·rw [hp]; exact Mv bn
   ·rw [List.take_succ_eq_append_getElem bn, yb]
    rintro (q | q)
    ·exact hall h2 q
    ·exact hp (DL.1 q)
  ·have hc2 : ¬ (2 : Int) <= (s.length : Int) := by omega
   simp +contextual -implicitDefEqProofs (maxSteps := 1000000) (maxDischargeDepth := 8) only [gm, h0, h3, h4, h5, hd, hc, hc2, hg, bn, ug, hb, b9, ax, ab, implies_true, simprocAttr] at hX
   subst hX;exact eS (Or.inr ⟨fun q => h2 q.1, _, _, rfl, by simp only [h0, aq, Nat.reduceBEq ], by simp only [h4, aq, Nat.reduceBEq ], by simp only [hd, aq, Nat.reduceBEq ]⟩)
 ·have hc : ¬ ((i : Int) < (ws.length : Int)) := by omega
  have : ws.take i = ws := PX (by omega)
  rw [this] at hall;simp +contextual -implicitDefEqProofs (maxSteps := 1000000) (maxDischargeDepth := 8) only [gm, h0, h3, h4, h5, hd, hc, ax, ab, implies_true, simprocAttr] at hX
  subst hX;exact eS (Or.inr ⟨fun q => hall q.1 q.2, _, _, rfl, by simp only [h0, aq, Nat.reduceBEq ], by simp only [h4, aq, Nat.reduceBEq ], by simp only [hd, aq, Nat.reduceBEq ]⟩)
theorem SI {s os : bK} {c : UInt8} (Ap : s[0]? = some c) (hos : os.length < 1000) {m0 : Mem} {fr : Fr} (h0 : fr.get 0 = .str s) (h4 : fr.get 4 = .str os) (h6 : fr.get 6 = .int .i64 0) (hd : fr.defers = []) :
  ∃ o, exec U (.loop ib) fr m0 = some o /\ ((c ∈ os /\ ∃ fr' m', o = .ret fr' m' /\ fr'.get 2 = .int .i64 1 /\ fr'.defers = []) \/ (c ∉ os /\ ∃ fr' m', o = .exit 2 fr' m' /\ fr'.defers = [])) := by
 refine iE (σ := Nat) (fun i fr _ => i <= os.length /\ fr.get 0 = .str s /\ fr.get 4 = .str os /\ fr.get 6 = .int .i64 (i : Int) /\ c ∉ os.take i /\ fr.defers = []) (fun i => os.length - i) _ ?_ 0 fr m0 ⟨ml _, h0, h4, h6, by simp, hd⟩
 rintro i fr m ⟨hi, h0, h4, h6, hall, hd⟩
 generalize hX : exec U ib fr m = X
 have PR : 0 < s.length := (uz.1 Ap).1
 by_cases bn : i < os.length
 ·have hc : (i : Int) < (os.length : Int) := by omega
  have hg : os[i]? = some os[i] := nc bn
  have ug := cQ (i := i) (by omega)
  have he : ∀ d : UInt8, ((c.toNat : Int) = (d.toNat : Int)) = (c = d) := fun d => propext ⟨fun h => UInt8.toNat_inj.1 (by omega), fun h => by rw [h]⟩
  simp +contextual -implicitDefEqProofs (maxSteps := 1000000) (maxDischargeDepth := 8) only [ib, h0, h4, h6, hd, hc, Ap, PR, hg, bn, ug, he, b9, EB, ax, ab, implies_true, simprocAttr] at hX
  subst hX;refine uU (fun hp => mC (Or.inl ⟨?_, _, _, rfl, by simp only [aq, Nat.reduceBEq ], by simp only [hd, aq, Nat.reduceBEq ]⟩)) (fun hp => eR (i + 1) (by omega) ⟨bn, by simp only [h0, aq, Nat.reduceBEq ], by simp only [h4, aq, Nat.reduceBEq ], by simp only [aq, Nat.reduceBEq ], ?_, by simp only [hd, aq, Nat.reduceBEq ]⟩)
  ·rw [hp]; exact Mv bn
  ·rw [List.take_succ_eq_append_getElem bn, yb]
   rintro (q | q)
   ·exact hall q
   ·exact hp (DL.1 q)
 ·have hc : ¬ ((i : Int) < (os.length : Int)) := by omega
  have : os.take i = os := PX (by omega)
  rw [this] at hall;simp +contextual -implicitDefEqProofs (maxSteps := 1000000) (maxDischargeDepth := 8) only [ib, h0, h4, h6, hd, hc, ax, ab, implies_true, simprocAttr] at hX
  subst hX;exact eS (Or.inr ⟨hall, _, _, rfl, by simp only [hd, aq, Nat.reduceBEq ]⟩)
theorem sign_eq {s : bK} (hs : s.length < 1000000000) (PR : s ≠ []) : cR B K Lr [.str s] = some (.int .i64 (eC s : Int)) := by
 obtain ⟨c, s', rfl⟩ : ∃ c s', s = c :: s' := by cases s with | nil => exact absurd rfl PR | cons c s' => exact ⟨c, s', rfl⟩
 have Ap : (c :: s')[0]? = some c := rfl
 generalize hS : c :: s' = s at *
 rw [eE (by simp [jS])]
 generalize hL : exec (UT B K) (aE.loop gm) = L
 generalize hL1 : exec (UT B K) (aE.loop ib) = L1
 have hf : fB (eD 9 [.str []]) [(0, 1, .str [124, 124]), (1, 1, .str [38, 38]), (2, 1, .str [61, 61]), (3, 1, .str [33, 61]), (4, 1, .str [60, 61]), (5, 1, .str [62, 61]), (6, 1, .str [43, 37]), (7, 1, .str [45, 37]), (8, 1, .str [42, 37])] = some (xB.map .str) := by kernel_rfl
 simp +contextual -implicitDefEqProofs (maxSteps := 1000000) (maxDischargeDepth := 8) only [jS, cq, fJ, hf, Nat.mul_one, ax, ab, implies_true, simprocAttr]
 subst hL;generalize hX : exec _ (.loop gm) _ _ = X
 obtain ⟨o, rfl, h⟩ := iD hX (SJ (s := s) (ws := xB) hs (by decide) (b := nb bH.next 0) (by simp +contextual -implicitDefEqProofs (maxSteps := 1000000) (maxDischargeDepth := 8) only [G5, G4, G3, G0, GZ, GY, ab, implies_true, simprocAttr]; rfl) (by simp only [aq, simprocAttr]) (by simp only [aq, simprocAttr]; rfl) rfl (by simp only [aq, simprocAttr]) (by simp only [aq, simprocAttr]))
 rcases h with ⟨h, fr', m', rfl, h2, hd⟩ | ⟨h, fr', m', rfl, h0, h4, hd⟩
 ·have : eC s = 2 := by unfold eC; rw [if_pos h]
  simp +contextual -implicitDefEqProofs (maxSteps := 1000000) (maxDischargeDepth := 8) only [h2, hd, this, ax, ab, implies_true, simprocAttr]
 ·simp only [aq, Nat.reduceBEq ] at h4
  simp +contextual -implicitDefEqProofs (maxSteps := 1000000) (maxDischargeDepth := 8) only [h0, h4, hd, ax, ab, implies_true, simprocAttr]
  subst hL1;generalize hX : exec _ (.loop ib) _ _ = X
  obtain ⟨o, rfl, h1⟩ := iD hX (SI (s := s) (os := OJ) Ap (by decide) (by simp only [h0, aq, Nat.reduceBEq ]) (by simp only [h4, aq, Nat.reduceBEq ]; rfl) (by simp only [aq, Nat.reduceBEq ]) (by simp only [hd, aq, Nat.reduceBEq ]))
  rcases h1 with ⟨h1, fr', m', rfl, h2, hd⟩ | ⟨h1, fr', m', rfl, hd⟩
  ·have : eC s = 1 := by unfold eC; rw [if_neg h, if_pos ⟨c, h1, Ap⟩]
   simp +contextual -implicitDefEqProofs (maxSteps := 1000000) (maxDischargeDepth := 8) only [h2, hd, this, ax, ab, implies_true, simprocAttr]
  ·have : eC s = 0 := by
    unfold eC; rw [if_neg h, if_neg]
    rintro ⟨d, hd1, UD⟩
    rw [Ap] at UD; cases UD; exact h1 hd1
   simp +contextual -implicitDefEqProofs (maxSteps := 1000000) (maxDischargeDepth := 8) only [hd, this, ax, ab, implies_true, simprocAttr]
end
section
theorem U7 {s : bK} (hs : s.length < 1000000000) {v1 v4 : EV} {m0 : Mem} {fr : Fr} (h0 : fr.get 0 = .str s) (h1 : fr.get 1 = v1) (h4 : fr.get 4 = v4) (h6 : fr.get 6 = .int .i64 0) (hd : fr.defers = []) :
  ∃ o, exec U (.loop jh) fr m0 = some o /\ ∃ fr', o = .exit 0 fr' m0 /\ fr'.get 0 = .str s /\ fr'.get 1 = v1 /\ fr'.get 4 = v4 /\ fr'.get 6 = .int .i64 (lead aN s : Int) /\ fr'.defers = [] := by
 refine iE (σ := Nat) (fun i fr m => m = m0 /\ i <= s.length /\ fr.get 0 = .str s /\ fr.get 1 = v1 /\ fr.get 4 = v4 /\ fr.get 6 = .int .i64 (i : Int) /\ lead aN s = i + lead aN (s.drop i) /\ fr.defers = []) (fun i => s.length - i) _ ?_ 0 fr m0 ⟨rfl, ml _, h0, h1, h4, h6, by simp, hd⟩
 rintro i fr m ⟨rfl, hi, h0, h1, h4, h6, hr, hd⟩
 generalize hX : exec U jh fr m = X
 by_cases bn : i < s.length
 ·have hc : (i : Int) < (s.length : Int) := by omega
  have hg : s[i]? = some s[i] := nc bn
  have ug := cQ (i := i) (by omega)
  rw [drop_cons bn, lead] at hr;generalize s[i] = c at hg hr
  simp +contextual -implicitDefEqProofs (maxSteps := 1000000) (maxDischargeDepth := 8) only [jh, h0, h1, h4, h6, hd, hc, hg, bn, ug, b9, zY, ax, ab, implies_true, simprocAttr] at hX
  subst hX;refine uU (fun hp => eR (i + 1) (by omega) ⟨rfl, bn, by simp only [h0, aq, Nat.reduceBEq ], by simp only [h1, aq, Nat.reduceBEq ], by simp only [h4, aq, Nat.reduceBEq ], by simp only [aq, Nat.reduceBEq ], ?_, by simp only [hd, aq, Nat.reduceBEq ]⟩) (fun hp => eS ⟨_, rfl, by simp only [h0, aq, Nat.reduceBEq ], by simp only [h1, aq, Nat.reduceBEq ], by simp only [h4, aq, Nat.reduceBEq ], ?_, by simp only [hd, aq, Nat.reduceBEq ]⟩)
  ·rw [if_pos hp] at hr; omega
  ·rw [if_neg hp] at hr; simp only [h6, hr, Nat.add_zero, aq, Nat.reduceBEq ]
 ·have hc : ¬ ((i : Int) < (s.length : Int)) := by omega
  simp +contextual -implicitDefEqProofs (maxSteps := 1000000) (maxDischargeDepth := 8) only [jh, h0, h1, h4, h6, hd, hc, ax, ab, implies_true, simprocAttr] at hX
  subst hX;obtain rfl : i = s.length := by omega
  rw [List.drop_length] at hr;simp only [lead, Nat.add_zero] at hr;exact eS ⟨_, rfl, by simp only [h0, aq, Nat.reduceBEq ], by simp only [h1, aq, Nat.reduceBEq ], by simp only [h4, aq, Nat.reduceBEq ], by simp only [h6, hr, aq, Nat.reduceBEq ], by simp only [hd, aq, Nat.reduceBEq ]⟩
theorem U6 {s : bK} (hs : s.length < 1000000000) {v1 v4 : EV} {m0 : Mem} {fr : Fr} (h0 : fr.get 0 = .str s) (h1 : fr.get 1 = v1) (h4 : fr.get 4 = v4) (h6 : fr.get 6 = .int .i64 0) (hd : fr.defers = []) :
  ∃ o, exec U (.loop jg) fr m0 = some o /\ ∃ fr', o = .exit 2 fr' m0 /\ fr'.get 0 = .str s /\ fr'.get 1 = v1 /\ fr'.get 4 = v4 /\ fr'.get 6 = .int .i64 (bG s : Int) /\ fr'.defers = [] := by
 refine iE (σ := Nat) (fun i fr m => m = m0 /\ i <= s.length /\ fr.get 0 = .str s /\ fr.get 1 = v1 /\ fr.get 4 = v4 /\ fr.get 6 = .int .i64 (i : Int) /\ (i = 0 \/ bG s = i + lead (fun n => bX n \/ aN n) (s.drop i)) /\ fr.defers = []) (fun i => s.length - i) _ ?_ 0 fr m0 ⟨rfl, ml _, h0, h1, h4, h6, .inl rfl, hd⟩
 rintro i fr m ⟨rfl, hi, h0, h1, h4, h6, hr, hd⟩
 generalize hX : exec U jg fr m = X
 by_cases bn : i < s.length
 ·have hc : (i : Int) < (s.length : Int) := by omega
  have hg : s[i]? = some s[i] := nc bn
  have ug := cQ (i := i) (by omega)
  have hi0 : ((0 : Int) < (i : Int)) = (i ≠ 0) := propext (by omega)
  have uZ : (i = 0 /\ bG s = if bX (cI s[i]) then 1 + lead (fun n => bX n \/ aN n) (s.drop (i + 1)) else 0) \/ (i ≠ 0 /\ bG s = i + if bX (cI s[i]) \/ aN (cI s[i]) then 1 + lead (fun n => bX n \/ aN n) (s.drop (i + 1)) else 0) := by
   by_cases h : i = 0
   ·subst h
    refine .inl ⟨rfl, ?_⟩
    have := drop_cons bn
    rw [List.drop_zero] at this
    conv => lhs; rw [this, bG]
   ·refine .inr ⟨h, ?_⟩
    rcases hr with hr | hr
    ·exact absurd hr h
    ·rw [drop_cons bn, lead] at hr; exact hr
  generalize s[i] = c at hg uZ
  simp +contextual -implicitDefEqProofs (maxSteps := 1000000) (maxDischargeDepth := 8) only [jg, h0, h1, h4, h6, hd, hc, hg, bn, ug, hi0, b9, zY, O0, ax, ab, implies_true, simprocAttr] at hX
  subst hX;refine uU (fun hp => eR (i + 1) (by omega) ⟨rfl, bn, by simp only [h0, aq, Nat.reduceBEq ], by simp only [h1, aq, Nat.reduceBEq ], by simp only [h4, aq, Nat.reduceBEq ], by simp only [aq, Nat.reduceBEq ], .inr ?_, by simp only [hd, aq, Nat.reduceBEq ]⟩) (fun hp => eS ⟨_, rfl, by simp only [h0, aq, Nat.reduceBEq ], by simp only [h1, aq, Nat.reduceBEq ], by simp only [h4, aq, Nat.reduceBEq ], ?_, by simp only [hd, aq, Nat.reduceBEq ]⟩)
  ·rcases uZ with ⟨q, uZ⟩ | ⟨q, uZ⟩
   ·rw [if_pos (by rcases hp with h | h; exact h; exact absurd q h.1)] at uZ; omega
   ·rw [if_pos (by rcases hp with h | h; exact .inl h; exact .inr h.2)] at uZ; omega
  ·rcases uZ with ⟨q, uZ⟩ | ⟨q, uZ⟩
   ·rw [if_neg (fun h => hp (.inl h))] at uZ; simp only [h6, uZ, q, aq, Nat.reduceBEq ]
   ·rw [if_neg (fun h => hp (h.imp id fun h => ⟨q, h⟩)), Nat.add_zero] at uZ; simp only [h6, uZ, aq, Nat.reduceBEq ]
 ·have hc : ¬ ((i : Int) < (s.length : Int)) := by omega
  simp +contextual -implicitDefEqProofs (maxSteps := 1000000) (maxDischargeDepth := 8) only [jg, h0, h1, h4, h6, hd, hc, ax, ab, implies_true, simprocAttr] at hX
  subst hX;obtain rfl : i = s.length := by omega
  have hw : bG s = s.length := by
   rcases hr with hr | hr
   ·have := rf s; omega
   ·rw [List.drop_length] at hr; simpa [lead] using hr
  exact eS ⟨_, rfl, by simp only [h0, aq, Nat.reduceBEq ], by simp only [h1, aq, Nat.reduceBEq ], by simp only [h4, aq, Nat.reduceBEq ], by simp only [h6, hw, aq, Nat.reduceBEq ], by simp only [hd, aq, Nat.reduceBEq ]⟩
def SW : Ar Tok -> EV
 | .ok t => .tuple [.agg t.cells, .int .i64 0]
 | .bad e _ => .tuple [.agg [.int .i64 0, .str [], .int .i64 0, .int .i64 0], .int .i64 (e : Int)]
theorem U8 {s : bK} {p : Nat} (hs : s.length < 1000000000) (PR : s ≠ []) : cR B K Gt [.str s, .int .i64 (p : Int)] = some (SW (ki s p)) := by
 have dx : 0 < s.length := List.length_pos_iff.2 PR
 have Ap : s[0]? = some s[0] := nc dx
 have hle := kH aN s
 have VD := OM (s := s.take (lead aN s)) (by rw [List.length_take]; omega) (wB aN s)
 have hsg := sign_eq hs PR
 have zk := mS (p := p) dx
 rw [zk];generalize s[0] = c at Ap
 have KG : aw (some (.int .i64 (lead aN s : Int))) s.length s.length = some (lead aN s) := dM hle
 have Yc : aw (some (.int .i64 (bG s : Int))) s.length s.length = some (bG s) := dM (rf s)
 have Yd : aw (some (.int .i64 (eC s : Int))) s.length s.length = some (eC s) := dM (yF dx)
 have Nl : ∀ n, aw none 0 n = some 0 := fun n => rfl
 rw [eE (by simp [j7])]
 generalize hL : exec (UT B K) (aE.loop jh) = L
 generalize hL1 : exec (UT B K) (aE.loop jg) = L1
 by_cases KE : aN (cI c)
 ·have VY : aN (c.toNat : Int) := KE
  simp +contextual -implicitDefEqProofs (maxSteps := 1000000) (maxDischargeDepth := 8) only [j7, Ap, dx, VY, EB, zY, ax, ab, implies_true, simprocAttr]
  subst hL;generalize hX : exec _ (.loop jh) _ _ = X
  obtain ⟨o, rfl, fr', rfl, h0, h1, h4, h6, hd⟩ := iD hX (U7 (s := s) hs (by simp only [aq, Nat.reduceBEq ]) rfl rfl (by simp only [aq, Nat.reduceBEq ]) (by simp only [aq, Nat.reduceBEq ]))
  simp only [aq, Nat.reduceBEq ] at h1 h4
  cases hn : qV 0 (s.take (lead aN s)) with
  | none =>
   simp +contextual -implicitDefEqProofs (maxSteps := 1000000) (maxDischargeDepth := 8) only [h0, h1, h4, h6, hd, KG, Nl, VD, hn, QG, KE, BJ, SW, Option.map_none, ax, ab, implies_true, simprocAttr]
  | some n =>
   simp +contextual -implicitDefEqProofs (maxSteps := 1000000) (maxDischargeDepth := 8) only [h0, h1, h4, h6, hd, KG, Nl, VD, hn, QG, KE, BJ, SW, Tok.cells, Option.map_none, ax, ab, implies_true, simprocAttr]
 ·have VY : ¬ aN (c.toNat : Int) := KE
  have p0 : ((0 : Int) < (bG s : Int)) = (0 < bG s) := propext (by omega)
  have p32 : ((32 : Int) < (bG s : Int)) = (32 < bG s) := propext (by omega)
  have ps : ((eC s : Int) = 0) = (eC s = 0) := propext (by omega)
  simp +contextual -implicitDefEqProofs (maxSteps := 1000000) (maxDischargeDepth := 8) only [j7, Ap, dx, VY, EB, zY, ax, ab, implies_true, simprocAttr]
  subst hL1;generalize hX : exec _ (.loop jg) _ _ = X
  obtain ⟨o, rfl, fr', rfl, h0, h1, h4, h6, hd⟩ := iD hX (U6 (s := s) hs (by simp only [aq, Nat.reduceBEq ]) rfl rfl (by simp only [aq, Nat.reduceBEq ]) (by simp only [aq, Nat.reduceBEq ]))
  simp only [aq, Nat.reduceBEq ] at h1 h4;simp +contextual -implicitDefEqProofs (maxSteps := 1000000) (maxDischargeDepth := 8) only [h0, h1, h4, h6, hd, Yc, Yd, Nl, hsg, p0, p32, ps, KE, Sz, Option.map_none, ax, ab, implies_true, simprocAttr]
  by_cases q1 : 0 < bG s /\ s.take (bG s) ∈ iw
  ·rw [CJ q1, if_pos q1]; rfl
  ·rw [CK q1, if_neg q1]
   by_cases q2 : 32 < bG s
   ·rw [CJ q2, if_pos q2]; rfl
   ·rw [CK q2, if_neg q2]
    by_cases q3 : 0 < bG s
    ·rw [CJ q3, if_pos q3]; rfl
    ·rw [CK q3, if_neg q3]
     by_cases q4 : eC s = 0
     ·rw [CJ q4, if_pos q4]; rfl
     ·rw [CK q4, if_neg q4]; rfl
end
section
theorem IW {s : bK} (hs : s.length < 1000000) {bx : Nat} {fr : Fr} {m0 : Mem} {p0 : Nat} (LO : p0 <= s.length) (hb : m0.get bx = .cells [.int .i64 0, .int .i64 0] 2 aZ false) (qn : bx < m0.next) (h0 : fr.get 0 = .str s) (h3 : fr.get 3 = .ptr bx 0) (h4 : fr.get 4 = .ae) (h5 : fr.get 5 = .int .i64 (p0 : Int)) (hd : fr.defers = []) {k0 : Nat} (JM : s.length - p0 < k0) :
  ∃ o, exec U (.loop ff) fr m0 = some o /\ ((∃ l : List Tok, fD k0 (s.drop p0) p0 = .ok l /\ ∃ fr' m', o = .exit 0 fr' m' /\ (∃ v, fr'.get 4 = v /\ jF m' v (jD l).flatten l.length 4 (bx + 1) /\ l.length <= s.length) /\ m'.get bx = .cells [.int .i64 0, .int .i64 0] 2 aZ false /\ bx < m'.next /\ fr'.get 0 = .str s /\ fr'.get 3 = .ptr bx 0 /\ fr'.defers = []) \/
   (∃ e p, fD k0 (s.drop p0) p0 = .bad e p /\ ∃ fr' m', o = .ret fr' m' /\ fr'.get 2 = .ae /\ m'.get bx = .cells [.int .i64 (e : Int), .int .i64 (p : Int)] 2 aZ false /\ fr'.get 3 = .ptr bx 0 /\ fr'.defers = [])) := by
 refine iE (σ := Nat) (fun p fr m => p <= s.length /\ fr.get 0 = .str s /\ fr.get 3 = .ptr bx 0 /\ (∃ (v : EV) (l : List Tok) (k : Nat), fr.get 4 = v /\ jF m v (jD l).flatten l.length 4 (bx + 1) /\ l.length <= p /\ s.length - p < k /\ fD k0 (s.drop p0) p0 = (fD k (s.drop p) p).map (l ++ ·)) /\ m.get bx = .cells [.int .i64 0, .int .i64 0] 2 aZ false /\ bx < m.next /\ fr.get 5 = .int .i64 (p : Int) /\ fr.defers = []) (fun p => s.length - p) _ ?_ p0 fr m0
  ⟨LO, h0, h3, ⟨.ae, [], k0, h4, ⟨.inl ⟨rfl, rfl, rfl⟩, rfl⟩, ml _, JM, by cases fD k0 (s.drop p0) p0 <;> rfl⟩, hb, qn, h5, hd⟩
 rintro p fr m ⟨hp, h0, h3, ⟨v, l, k, h4, eF, hlp, hk, hr⟩, hb, qn, h5, hd⟩
 generalize hX : exec U ff fr m = X
 by_cases bn : p < s.length
 ·have hc : (p : Int) < (s.length : Int) := by omega
  have iM : s.drop p ≠ [] := by intro q; have := congrArg List.length q; rw [uy, List.length_nil] at this; omega
  have h1 := U8 (s := s.drop p) (p := p) (by rw [uy]; omega) iM
  have KG : aw (some (.int .i64 (p : Int))) 0 s.length = some p := dM hp
  have FU : aw none s.length s.length = some s.length := rfl
  obtain ⟨k, rfl⟩ : ∃ k', k = k' + 1 := ⟨k - 1, by omega⟩
  have Ri : fD (k + 1) (s.drop p) p = match ki (s.drop p) p with
   | .bad e q => .bad e q
   | .ok t => (fD k (((s.drop p).drop t.text.length).drop (bA false ((s.drop p).drop t.text.length))) (p + t.text.length + bA false ((s.drop p).drop t.text.length))).map (t :: ·) := by
   cases hsd : s.drop p with
   | nil => exact absurd hsd iM
   | cons c r => rfl
  rw [Ri] at hr
  cases ho : ki (s.drop p) p with
  | bad e q =>
   simp only [ho, Ar.map] at hr;obtain ⟨rfl, he0⟩ := Ei (by rw [uy]; omega) ho
   simp only [ho, SW] at h1;have abJ : ¬ ((e : Int) = 0) := by omega
   simp +contextual -implicitDefEqProofs (maxSteps := 1000000) (maxDischargeDepth := 8) only [ff, h0, h3, h4, h5, hd, hc, KG, FU, h1, hb, qn, abJ, List.take_length, Option.map_none, ax, ab, implies_true, simprocAttr] at hX
   subst hX;exact mC (Or.inr ⟨e, q, hr, _, _, rfl, by simp only [aq, simprocAttr], by simp +contextual -implicitDefEqProofs (maxSteps := 1000000) (maxDischargeDepth := 8) only [hb, qn, G5, G4, G3, G0, GZ, GY, ab, implies_true, simprocAttr], by simp only [h3, aq, simprocAttr], by simp only [hd, aq, simprocAttr]⟩)
  | ok t =>
   simp only [ho] at hr h1;obtain ⟨g1, g2, g3, g4⟩ := lF (by rw [uy]; omega) ho
   rw [uy] at g2;have FV : cR B K Gt [.str (s.drop p), .int .i64 (p : Int)] = some (.tuple [.agg [.int .i64 (t.kind : Int), .str t.text, .int .i64 (t.n : Int), .int .i64 (t.pos : Int)], .int .i64 0]) := h1
   clear h1;have hM : (ext m [fK.cells [EV.int .i64 (t.kind : Int), .str t.text, .int .i64 (t.n : Int), .int .i64 (t.pos : Int)] 4 ao false, fK.cells [EV.int .i64 (t.kind : Int), .str t.text, .int .i64 (t.n : Int), .int .i64 (t.pos : Int)] 4 ao false]).get (nb m.next 1) = .cells [EV.int .i64 (t.kind : Int), .str t.text, .int .i64 (t.n : Int), .int .i64 (t.pos : Int)] 4 ao false := by rw [aM rfl (by simp)]; rfl
   obtain ⟨ha, Ng⟩ := gj (e := ao) (eF.ext [fK.cells [EV.int .i64 (t.kind : Int), .str t.text, .int .i64 (t.n : Int), .int .i64 (t.pos : Int)] 4 ao false, fK.cells [EV.int .i64 (t.kind : Int), .str t.text, .int .i64 (t.n : Int), .int .i64 (t.pos : Int)] 4 ao false]) (by rw [aK]; unfold nb; omega) (oK (cap := some 1) hM rfl) rfl (by decide) (by unfold room; omega)
   rw [aK, eV] at ha;generalize hG : grow (ext m [fK.cells [EV.int .i64 (t.kind : Int), .str t.text, .int .i64 (t.n : Int), .int .i64 (t.pos : Int)] 4 ao false, fK.cells [EV.int .i64 (t.kind : Int), .str t.text, .int .i64 (t.n : Int), .int .i64 (t.pos : Int)] 4 ao false]) v ao 4 _ = M2 at ha Ng
   have hMn : M2.next = nb m.next 3 := by rw [<- hG, iJ, aK, eV]; rfl
   have hold : ∀ c, c < m.next -> gq v c -> M2.get c = m.get c := fun c hc ho => by
    rw [<- hG, jq (by rw [aK]; unfold nb; omega) ho, aL hc]
   have hg6 : M2.get (nb m.next 0) = .cells [EV.int .i64 (t.kind : Int), .str t.text, .int .i64 (t.n : Int), .int .i64 (t.pos : Int)] 4 ao false := by
    rw [<- hG, jq (by rw [aK]; unfold nb; simp) (show gq v (nb m.next 0) from eF.lt (.inl (fy _))), aM rfl (by simp)]; rfl
   have X6 : M2.get bx = .cells [.int .i64 0, .int .i64 0] 2 aZ false := by rw [hold bx qn (eF.lt (.inr (by omega))), hb]
   have ug : IntKind.i64.wrap ((p : Int) + (t.text.length : Int)) = ((p + t.text.length : Nat) : Int) := by rw [wrap_i64 (by omega) (by omega)]; omega
   have XK := MB (s := s.drop (p + t.text.length)) (by rw [uy]; omega)
   have Vx := D7 (s.drop (p + t.text.length)) false
   rw [uy] at Vx;have Vv : IntKind.i64.wrap (((p + t.text.length : Nat) : Int) + (bA false (s.drop (p + t.text.length)) : Int)) = ((p + t.text.length + bA false (s.drop (p + t.text.length)) : Nat) : Int) := by rw [wrap_i64 (by omega) (by omega)]; omega
   have ab1 : aw (some (.int .i64 ((p + t.text.length : Nat) : Int))) 0 s.length = some (p + t.text.length) := dM (by omega)
   simp +contextual -implicitDefEqProofs (maxSteps := 1000000) (maxDischargeDepth := 8) only [ff, h0, h3, h4, h5, hd, hc, KG, FU, FV, hb, qn, ha, hMn, hg6, X6, ug, Vv, XK, ab1, List.take_length, Option.map_none, ax, ab, implies_true, simprocAttr] at hX
   subst hX;refine eR (p + t.text.length + bA false (s.drop (p + t.text.length))) (by omega) ⟨by omega, by simp only [h0, aq, Nat.reduceBEq ], by simp only [h3, aq, Nat.reduceBEq ], ⟨_, l ++ [t], k, by simp only [aq, Nat.reduceBEq ]; rfl, ?_, by simp only [jz, List.length_cons, List.length_nil]; omega, by omega, ?_⟩, X6, by rw [hMn]; unfold nb; omega, by simp only [aq, Nat.reduceBEq ], by simp only [hd, aq, Nat.reduceBEq ]⟩
   ·rw [AA, jz]; exact Ng
   ·rw [hr, Ar.map_map]
    simp only [List.append_assoc, List.cons_append, List.nil_append, List.drop_drop]
 ·have hc : ¬ ((p : Int) < (s.length : Int)) := by omega
  simp +contextual -implicitDefEqProofs (maxSteps := 1000000) (maxDischargeDepth := 8) only [ff, h0, h3, h4, h5, hd, hc, ax, ab, implies_true, simprocAttr] at hX
  subst hX;obtain rfl : p = s.length := by omega
  obtain ⟨k, rfl⟩ : ∃ k', k = k' + 1 := ⟨k - 1, by omega⟩
  rw [List.drop_length] at hr;simp only [fD, Ar.map, List.append_nil] at hr;exact eS (Or.inl ⟨l, hr, _, _, rfl, ⟨v, by simp only [h4, aq, Nat.reduceBEq ], eF, hlp⟩, hb, qn, by simp only [h0, aq, Nat.reduceBEq ], by simp only [h3, aq, Nat.reduceBEq ], by simp only [hd, aq, Nat.reduceBEq ]⟩)
theorem Oq {s : bK} (hs : s.length < 1000000) : cR B K HD [.str s] = some (BM (ta s)) := by
 have hlen : ta s = if 65536 < s.length then .bad 3 0 else (fD (s.length + 1) (s.drop (bA false s)) (bA false s)).map (· ++ [⟨0, [], 0, s.length⟩]) := rfl
 have XK := MB (s := s) (by omega)
 have Vx := D7 s false
 rw [eE (by simp [fZ])]
 generalize hL : exec (UT B K) (aE.loop ff) = L
 by_cases h6 : 65536 < s.length
 ·have hc : (65536 : Int) < (s.length : Int) := by omega
  rw [hlen, if_pos h6];simp +contextual -implicitDefEqProofs (maxSteps := 1000000) (maxDischargeDepth := 8) only [fZ, hc, BM, ax, ab, implies_true, simprocAttr]
 ·have hc : ¬ (65536 : Int) < (s.length : Int) := by omega
  rw [hlen, if_neg h6];simp +contextual -implicitDefEqProofs (maxSteps := 1000000) (maxDischargeDepth := 8) only [fZ, hc, XK, ax, ab, implies_true, simprocAttr]
  subst hL;generalize hX : exec _ (.loop ff) _ _ = X
  obtain ⟨o, rfl, h⟩ := iD hX (IW (s := s) hs (bx := nb bH.next 0) (p0 := bA false s) Vx (by simp +contextual -implicitDefEqProofs (maxSteps := 1000000) (maxDischargeDepth := 8) only [G5, G4, G3, G0, GZ, GY, ab, implies_true, simprocAttr]) (by rw [aK]; unfold nb; simp) (by simp only [aq, simprocAttr]) (by simp only [aq, simprocAttr]) (by simp only [aq, simprocAttr]) (by simp only [aq, simprocAttr]) (by simp only [aq, simprocAttr]) (k0 := s.length + 1) (by omega))
  rcases h with ⟨l, hl, fr', m', rfl, ⟨v, h4, eF, VJ⟩, hb, qn, h0, h3, hd⟩ | ⟨e, p, hl, fr', m', rfl, h2, hb, h3, hd⟩
  ·rw [hl]
   have hM : (ext m' [.cells [EV.int .i64 0, .str [], .int .i64 0, .int .i64 (s.length : Int)] 4 ao false]).get (nb m'.next 0) = .cells [EV.int .i64 0, .str [], .int .i64 0, .int .i64 (s.length : Int)] 4 ao false := by rw [aM rfl (by simp)]; rfl
   obtain ⟨ha, Ng⟩ := gj (e := ao) (eF.ext [.cells [EV.int .i64 0, .str [], .int .i64 0, .int .i64 (s.length : Int)] 4 ao false]) (by rw [aK]; unfold nb; unfold nb at qn; omega) (oK (cap := some 1) hM rfl) rfl (by decide) (by unfold room; omega)
   have Tk := eF.lt (c := nb bH.next 0) (.inr (Nat.lt_succ_self _))
   have X6 : (grow (ext m' [.cells [EV.int .i64 0, .str [], .int .i64 0, .int .i64 (s.length : Int)] 4 ao false]) v ao 4 ((jD l).flatten ++ [EV.int .i64 0, .str [], .int .i64 0, .int .i64 (s.length : Int)])).get (nb bH.next 0) = .cells [.int .i64 0, .int .i64 0] 2 aZ false := by
    rw [jq (by rw [aK]; unfold nb at qn ⊢; omega) Tk, aL qn]; exact hb
   rw [aK, eV] at ha;have jn := Ng
   have e1 : (jD l).flatten ++ [EV.int .i64 0, .str [], .int .i64 0, .int .i64 (s.length : Int)] = (jD (l ++ [⟨0, [], 0, s.length⟩])).flatten := (AA l ⟨0, [], 0, s.length⟩).symm
   generalize hG : grow _ v ao 4 _ = M2 at ha X6 jn
   rw [e1] at jn;have hfz : lY (M2.set (nb bH.next 0) (.cells [.int .i64 0, .int .i64 0] 2 aZ false)) (.slice (nb (ext m' [.cells [EV.int .i64 0, .str [], .int .i64 0, .int .i64 (s.length : Int)] 4 ao false]).next 0) 0 (l.length + 1) none) = some (.fz 0 4 (jD (l ++ [⟨0, [], 0, s.length⟩]))) := by
    refine jF.NE (jn.gz (fy _) fun c _ qm _ => az ?_) (by simp [jD]) (by omega) (IU _) (DU _)
    omega
   rw [aK, eV] at hfz;simp only [List.length_cons, List.length_nil, Nat.zero_add, Nat.add_zero] at hfz;simp +contextual -implicitDefEqProofs (maxSteps := 1000000) (maxDischargeDepth := 8) only [h0, h3, h4, hd, ha, X6, hfz, BM, Ar.map, ax, ab, implies_true, simprocAttr]
  ·rw [hl]
   simp +contextual -implicitDefEqProofs (maxSteps := 1000000) (maxDischargeDepth := 8) only [h2, h3, hd, hb, BM, Ar.map, ax, ab, implies_true, simprocAttr]
end
section
theorem IV {l : List Tok} {i : Nat} : (jD l)[i]? = (l[i]?).map Tok.cells := by unfold jD; rw [List.getElem?_map]
theorem AB {l : List Tok} : (jD l).length = l.length := by unfold jD; rw [List.length_map]
abbrev bc (tg : Nat) (l : List Tok) (st : RS) (tv hv : EV) : List EV := [.fz tg 4 (jD l), .int .i64 (st.pos : Int), .int .i64 st.deep, tv, hv, .int .i64 st.fe, .int .i64 st.fp]
theorem S1 {l : List Tok} {st : RS} (h : 0 < l.length) : l[min st.pos (l.length - 1)]? = some (st.now l) := by
 have : min st.pos (l.length - 1) < l.length := by omega
 rw [nc this];unfold RS.now;rw [List.getD_eq_getElem?_getD, nc this]; rfl
theorem DW {tg : Nat} {l : List Tok} {st : RS} {tv hv : EV} {b : Nat} {m : Mem} (hl : 0 < l.length) (Pe : l.length < 1000000000) (hp : st.pos < 1000000000) (hg : m.get b = .cells (bc tg l st tv hv) 7 ai false) (hb : b < m.next) :
  run U km [.ptr b 0] m = some (.ret (.agg (st.now l).cells) (bump m 19)) := by
 rw [lM];have Ap : ¬ ((l.length : Int) = 0) := by omega
 have hw : IntKind.i64.wrap ((l.length : Int) - 1) = ((l.length - 1 : Nat) : Int) := by rw [wrap_i64 (by omega) (by omega)]; omega
 have Pb : xx [.int .i64 (st.pos : Int), .int .i64 ((l.length - 1 : Nat) : Int)] = some (.int .i64 ((min st.pos (l.length - 1) : Nat) : Int)) := by
  simp only [xx, mT, Nat.beq_refl, cond_true]
  congr 2
  split <;> omega
 have bn : min st.pos (l.length - 1) < l.length := by omega
 have hn := S1 (st := st) hl
 obtain ⟨X, hE⟩ : ∃ X, pK bl.results (exec B0 bl.body (ab [.ptr b 0] 0 pq) m) = X := ⟨_, rfl⟩
 have hX := hE
 simp +contextual -implicitDefEqProofs (maxSteps := 1000000) (maxDischargeDepth := 8) only [bl, hg, hb, Ap, hw, Pb, bn, hn, IV, AB, b9, Tok.cells, ax, ab, implies_true, simprocAttr] at hX
 subst hX;exact y5 (by simp [bl]) hE rfl rfl (ti AO)
theorem lj {tg : Nat} {l : List Tok} {st : RS} {tv hv : EV} {b : Nat} {m : Mem} (hg : m.get b = .cells (bc tg l st tv hv) 7 ai false) (hb : b < m.next) :
  run U iZ [.ptr b 0] m = some (.ret (bo (st.fe = 0)) (bump m 0)) := by
 rw [mc];obtain ⟨X, hE⟩ : ∃ X, pK bq.results (exec B1 bq.body (ab [.ptr b 0] 0 pq) m) = X := ⟨_, rfl⟩
 have hX := hE
 simp +contextual -implicitDefEqProofs (maxSteps := 1000000) (maxDischargeDepth := 8) only [bq, hg, hb, ax, ab, implies_true, simprocAttr] at hX
 subst hX;exact y5 (by simp [bq]) hE rfl rfl Et
theorem Ta {tg : Nat} {l : List Tok} {st : RS} {tv hv : EV} {b : Nat} {m : Mem} {s : bK} (hl : 0 < l.length) (Pe : l.length < 1000000000) (hp : st.pos < 1000000000) (hg : m.get b = .cells (bc tg l st tv hv) 7 ai false) (hb : b < m.next) :
  run U mB [.ptr b 0, .str s] m = some (.ret (bo (st.is l s)) (bump m 20)) := by
 have h1 : ∀ M : Mem, M.get b = .cells (bc tg l st tv hv) 7 ai false -> b < M.next -> kC B0 bl [.ptr b 0] M = some (.ret (.agg (st.now l).cells) (bump M 19)) := fun M h1 h2 => by
  have := DW (m := M) hl Pe hp h1 h2
  rwa [lM] at this
 have h2 : ∀ M : Mem, M.get b = .cells (bc tg l st tv hv) 7 ai false -> b < M.next -> kC B1 bq [.ptr b 0] M = some (.ret (bo (st.fe = 0)) (bump M 0)) := fun M h1 h2 => by
  have := lj (m := M) h1 h2
  rwa [mc] at this
 rw [xi];have hk : ((3 : Int) <= ((st.now l).kind : Int)) = (3 <= (st.now l).kind) := propext (by omega)
 obtain ⟨X, hE⟩ : ∃ X, pK cA.results (exec B2 cA.body (ab [.ptr b 0, .str s] 0 pq) m) = X := ⟨_, rfl⟩
 have hX := hE
 simp +contextual -implicitDefEqProofs (maxSteps := 1000000) (maxDischargeDepth := 8) only [cA, rI, s9, h1, h2, hk, hg, hb, Tok.cells, ax, ab, implies_true, simprocAttr] at hX
 subst hX;exact y5 (by simp [cA]) (by rw [hE, and_assoc]; rfl) rfl rfl (ti (LF (ti Et) bI))
structure KI (b tg : Nat) (l : List Tok) (st : RS) (tv hv : EV) : Prop where
 l0 : 0 < l.length
 l1 : l.length < 1000000000
 p : st.pos < 1000000000
 d : st.deep < 1000000000 /\ -1000000000 < st.deep
section
variable {tg : Nat} {l : List Tok} {st : RS} {tv hv : EV} {b : Nat} {m : Mem}
theorem KI.token (h : KI b tg l st tv hv) : ∀ M : Mem, M.get b = .cells (bc tg l st tv hv) 7 ai false -> b < M.next -> run U km [.ptr b 0] M = some (.ret (.agg [.int .i64 ((st.now l).kind : Int), .str (st.now l).text, .int .i64 ((st.now l).n : Int), .int .i64 ((st.now l).pos : Int)]) (bump M 19)) := fun M h1 h2 => DW h.l0 h.l1 h.p h1 h2
theorem KI.acg (_h : KI b tg l st tv hv) : ∀ M : Mem, M.get b = .cells (bc tg l st tv hv) 7 ai false -> b < M.next -> run U iZ [.ptr b 0] M = some (.ret (bo (st.fe = 0)) (bump M 0)) := fun M h1 h2 => lj h1 h2
theorem KI.is (h : KI b tg l st tv hv) : ∀ (M : Mem) (s : bK), M.get b = .cells (bc tg l st tv hv) 7 ai false -> b < M.next -> run U mB [.ptr b 0, .str s] M = some (.ret (bo (st.is l s)) (bump M 20)) := fun M s h1 h2 => Ta h.l0 h.l1 h.p h1 h2
structure qQ (m m' : Mem) (b : Nat) (B : fK) : Prop where
 n : m.next <= m'.next
 g : m'.get b = B
 k : ∀ c, c < m.next -> c ≠ b -> m'.get c = m.get c
theorem qQ.same {B : fK} {k : Nat} (h : m.get b = B) : qQ m (bump m k) b B := ⟨by rw [bu]; exact bI, h, fun _ _ _ => rfl⟩
theorem qQ.set {B : fK} {m' : Mem} (hn : m.next <= m'.next) (hk : ∀ c, c < m.next -> c ≠ b -> m'.get c = m.get c) : qQ m (m'.set b B) b B := ⟨hn, bJ, fun c hc iM => by rw [az iM]; exact hk c hc iM⟩
theorem qQ.trans {m' Ul : Mem} {B B' : fK} (h : qQ m m' b B) (h' : qQ m' Ul b B') : qQ m Ul b B' := ⟨pN h.n h'.n, h'.g, fun c hc iM => (h'.k c (mn hc h.n) iM).trans (h.k c hc iM)⟩
theorem vc (hg : m.get b = .cells (bc tg l st tv hv) 7 ai false) (hb : b < m.next) (e p : Int) : ∃ m', run U dU [.ptr b 0, .int .i64 e, .int .i64 p] m = some (.ret (.tuple []) m') /\ qQ m m' b (.cells (bc tg l (st.fail e p) tv hv) 7 ai false) := by
 have hf : ∀ M : Mem, M.get b = .cells (bc tg l st tv hv) 7 ai false -> b < M.next -> run U iZ [.ptr b 0] M = some (.ret (bo (st.fe = 0)) (bump M 0)) := fun M h1 h2 => lj h1 h2
 rw [bY (by simp [dv])]
 by_cases h0 : st.fe = 0
 ·simp +contextual -implicitDefEqProofs (maxSteps := 1000000) (maxDischargeDepth := 8) only [dv, hf, hg, hb, h0, ax, ab, implies_true, simprocAttr]
  refine ⟨_, rfl, by rw [bu]; exact bI, ?_, fun c hc iM => az iM⟩
  rw [gA, bJ]; simp only [RS.fail, if_pos h0]
 ·simp +contextual -implicitDefEqProofs (maxSteps := 1000000) (maxDischargeDepth := 8) only [dv, hf, hg, hb, h0, ax, ab, implies_true, simprocAttr]
  exact ⟨_, rfl, .same (by rw [hg]; simp only [RS.fail, if_neg h0])⟩
theorem I5 (h : KI b tg l st tv hv) (hg : m.get b = .cells (bc tg l st tv hv) 7 ai false) (hb : b < m.next) (s : bK) : ∃ m', run U aU [.ptr b 0, .str s] m = some (.ret (bo (st.is l s)) m') /\ qQ m m' b (.cells (bc tg l (st.skip l s) tv hv) 7 ai false) := by
 have hi := h.is
 have hw := cQ (i := st.pos) (by have := h.p; omega)
 rw [bY (by simp [dq])]
 by_cases h0 : st.is l s
 ·simp +contextual -implicitDefEqProofs (maxSteps := 1000000) (maxDischargeDepth := 8) only [dq, hi, hg, hb, h0, hw, gL, ax, ab, implies_true, simprocAttr]
  refine ⟨_, rfl, by rw [bu]; exact bI, ?_, fun c hc iM => az iM⟩
  rw [gA, bJ]; simp only [RS.skip, RS.next, if_pos h0]
 ·simp +contextual -implicitDefEqProofs (maxSteps := 1000000) (maxDischargeDepth := 8) only [dq, hi, hg, hb, h0, fT, ax, ab, implies_true, simprocAttr]
  exact ⟨_, rfl, .same (by rw [hg]; simp only [RS.skip, if_neg h0])⟩
theorem Py (h : KI b tg l st tv hv) (hg : m.get b = .cells (bc tg l st tv hv) 7 ai false) (hb : b < m.next) : ∃ m', run U dB [.ptr b 0] m = some (.ret (.tuple []) m') /\ qQ m m' b (.cells (bc tg l st.close tv hv) 7 ai false) := by
 have hw : IntKind.i64.wrap (st.deep - 1) = st.deep - 1 := by have := h.d; exact wrap_i64 (by omega) (by omega)
 rw [bY (by simp [dK])]
 simp +contextual -implicitDefEqProofs (maxSteps := 1000000) (maxDischargeDepth := 8) only [dK, hg, hb, hw, ax, ab, implies_true, simprocAttr]
 exact ⟨_, rfl, .set (fy _) fun _ _ _ => rfl⟩
theorem KI.fail (h : KI b tg l st tv hv) (e p : Int) : KI b tg l (st.fail e p) tv hv := by
 unfold RS.fail; split
 ·exact ⟨h.l0, h.l1, h.p, h.d⟩
 ·exact h
theorem P1 (h : KI b tg l st tv hv) (hg : m.get b = .cells (bc tg l st tv hv) 7 ai false) (hb : b < m.next) (s : bK) : ∃ m', run U aP [.ptr b 0, .str s] m = some (.ret (bo (st.is l s)) m') /\ qQ m m' b (.cells (bc tg l (st.want l s) tv hv) 7 ai false) := by
 obtain ⟨m1, e1, u1⟩ := I5 h hg hb s
 rw [bY (by simp [dm])]
 by_cases h0 : st.is l s
 ·simp +contextual -implicitDefEqProofs (maxSteps := 1000000) (maxDischargeDepth := 8) only [dm, e1, h0, gL, ax, ab, implies_true, simprocAttr]
  refine ⟨_, rfl, ?_⟩
  simp only [RS.skip, RS.next, if_pos h0] at u1;simp only [RS.want, RS.next, if_pos h0]; exact u1
 ·have XK : st.skip l s = st := by unfold RS.skip; rw [if_neg h0]
  rw [XK] at u1;have AU : b < m1.next := mn hb u1.n
  have ht := h.token m1 u1.g AU
  obtain ⟨m2, e2, u2⟩ := vc (m := bump m1 19) u1.g (mn AU bI) 8 ((st.now l).pos : Int)
  have VG : ([EV.int .i64 ((st.now l).kind : Int), .str (st.now l).text, .int .i64 ((st.now l).n : Int), .int .i64 ((st.now l).pos : Int)] : List EV)[3]? = some (.int .i64 ((st.now l).pos : Int)) := rfl
  simp +contextual -implicitDefEqProofs (maxSteps := 1000000) (maxDischargeDepth := 8) only [dm, e1, h0, ht, e2, VG, fT, ax, ab, implies_true, simprocAttr]
  refine ⟨_, rfl, ?_⟩
  simp only [RS.want, if_neg h0];exact u1.trans ⟨pN bI u2.n, u2.g, fun c hc iM => u2.k c (mn hc bI) iM⟩
theorem Qy (h : KI b tg l st tv hv) (hg : m.get b = .cells (bc tg l st tv hv) 7 ai false) (hb : b < m.next) (p : Int) : ∃ m', run U eJ [.ptr b 0, .int .i64 p] m = some (.ret (bo ((st.open p).fe = 0)) m') /\ qQ m m' b (.cells (bc tg l (st.open p) tv hv) 7 ai false) := by
 have hd := h.d
 have hw : IntKind.i64.wrap (st.deep + 1) = st.deep + 1 := wrap_i64 (by omega) (by omega)
 rw [bY (by simp [dr])]
 have uw : b < (m.set b (.cells (bc tg l { st with deep := st.deep + 1 } tv hv) 7 ai false)).next := hb
 have hg0 : (m.set b (.cells (bc tg l { st with deep := st.deep + 1 } tv hv) 7 ai false)).get b = .cells (bc tg l { st with deep := st.deep + 1 } tv hv) 7 ai false := bJ
 by_cases h0 : 200 < st.deep + 1
 ·obtain ⟨m1, e1, u1⟩ := vc (st := { st with deep := st.deep + 1 }) hg0 uw 4 p
  have ho : st.open p = (({ st with deep := st.deep + 1 } : RS).fail 4 p) := by simp only [RS.open, if_pos h0]
  rw [ho];have hfn := lj u1.g (mn hb u1.n)
  generalize hfs : (({ st with deep := st.deep + 1 } : RS).fail 4 p) = fs at *
  simp +contextual -implicitDefEqProofs (maxSteps := 1000000) (maxDischargeDepth := 8) only [dr, hg, hb, hw, h0, e1, hfn, ax, ab, implies_true, simprocAttr]
  refine ⟨_, rfl, ?_, u1.g, fun c hc iM => ?_⟩
  ·rw [bu]; exact pN u1.n bI
  ·rw [gA, u1.k c hc iM, az iM]
 ·have ho : st.open p = { st with deep := st.deep + 1 } := by simp only [RS.open, if_neg h0]
  rw [ho];have hfn := lj hg0 uw
  simp +contextual -implicitDefEqProofs (maxSteps := 1000000) (maxDischargeDepth := 8) only [dr, hg, hb, hw, h0, hfn, ax, ab, implies_true, simprocAttr]
  exact ⟨_, rfl, by rw [bu]; exact bI, bJ, fun c hc iM => az iM⟩
end
end
section
def is (l : List Int) : List EV := l.map fun x => .int .i64 x
def Sp (l : List Nat) : List EV := l.map fun (x : Nat) => .int .i64 (x : Int)
theorem LH {l : List Int} : (is l).length = l.length := List.length_map ..
structure Nv where
 d : Nd
 kv : EV
def wu (d : Nd) (kv : EV) : List EV := [.int .i64 d.kind, kv, .int .i64 d.n, .str d.s, .int .i64 d.pos]
def Nv.cells (x : Nv) : List EV := wu x.d x.kv
def IL (xs : List Nv) : List EV := (xs.map Nv.cells).flatten
theorem QE {xs : List Nv} {x : Nv} : IL (xs ++ [x]) = IL xs ++ x.cells := by simp [IL]
structure UQ (b : Nat) (tv hv : EV) (c : Nat) : Prop where
 ne : c ≠ b
 t : gq tv c
 h : gq hv c
structure BB (m : Mem) (b : Nat) (tv hv : EV) (d : Nd) (kv : EV) : Prop where
 o : jF m kv (is d.kids) d.kids.length 1 0
 f : ∀ c, ¬ gq kv c -> UQ b tv hv c
 nl : d.nl = d.kids.isEmpty
 z : d.kids = [] -> kv = .ae
structure Fh (m : Mem) (b tg : Nat) (l : List Tok) (st : RS) (P : Nat -> Prop) (tv hv : EV) (xs : List Nv) : Prop where
 g : m.get b = .cells (bc tg l st tv hv) 7 ai false
 lt : b < m.next
 t : jF m tv (IL xs) xs.length 5 (b + 1)
 h : jF m hv (Sp st.high) st.high.length 1 (b + 1)
 a : ∀ c, ¬ gq tv c -> gq hv c
 x : xs.map Nv.d = st.tree
 hl : st.high.length = st.tree.length
 k : ∀ x ∈ xs, BB m b tv hv x.d x.kv
 p : ∀ c, P c -> c < m.next /\ UQ b tv hv c
 pk : ∀ c, P c -> ∀ x ∈ xs, gq x.kv c
def Rd (m : Mem) (b tg : Nat) (l : List Tok) (st : RS) (P : Nat -> Prop) : Prop := ∃ tv hv xs, Fh m b tg l st P tv hv xs
structure Kp (m m' : Mem) (P : Nat -> Prop) : Prop where
 n : m.next <= m'.next
 k : ∀ c, P c -> m'.get c = m.get c
theorem Kp.trans {m m' Ul : Mem} {P : Nat -> Prop} (h : Kp m m' P) (h' : Kp m' Ul P) : Kp m Ul P := ⟨pN h.n h'.n, fun c hc => (h'.k c hc).trans (h.k c hc)⟩
theorem Kp.bO {m m' : Mem} {P Q : Nat -> Prop} (h : Kp m m' P) (hq : ∀ c, Q c -> P c) : Kp m m' Q := ⟨h.n, fun c hc => h.k c (hq c hc)⟩
theorem jF.QH {m : Mem} {v : EV} {cs : List EV} {n esz lo : Nat} (h : jF m v cs n esz lo) {c : Nat} (hc : ¬ gq v c) : lo <= c /\ c < m.next := by
 rcases h.is with ⟨rfl, _⟩ | ⟨b, cap, t, rfl, h1, h2, _⟩
 ·exact absurd gq.nil hc
 ·by_cases q : c = b
  ·subst q; exact ⟨h1, h2⟩
  ·exact absurd (gq.of q) hc
section
variable {m : Mem} {b tg : Nat} {l : List Tok} {st : RS} {P : Nat -> Prop} {tv hv : EV} {xs : List Nv}
theorem Fh.Ol (h : Fh m b tg l st P tv hv xs) {m' : Mem} {st' : RS} (ht : st'.tree = st.tree) (hh : st'.high = st.high) (u : qQ m m' b (.cells (bc tg l st' tv hv) 7 ai false)) : Fh m' b tg l st' P tv hv xs where
 g := u.g
 lt := mn h.lt u.n
 t := h.t.gz u.n fun c hc qm _ => u.k c hc (by omega)
 h := by rw [hh]; exact h.h.gz u.n fun c hc qm _ => u.k c hc (by omega)
 a := h.a
 x := h.x.trans ht.symm
 hl := by rw [hh, ht]; exact h.hl
 k := fun x hx => ⟨(h.k x hx).o.gz u.n fun c hc _ ho => u.k c hc ((h.k x hx).f c ho).ne, (h.k x hx).f, (h.k x hx).nl, (h.k x hx).z⟩
 p := fun c hc => ⟨mn (h.p c hc).1 u.n, (h.p c hc).2⟩
 pk := h.pk
theorem Fh.kp (h : Fh m b tg l st P tv hv xs) {m' : Mem} {B : fK} (u : qQ m m' b B) : Kp m m' P := ⟨u.n, fun c hc => u.k c (h.p c hc).1 (h.p c hc).2.ne⟩
theorem qQ.bump {B : fK} {k : Nat} (h : m.get b = B) : qQ m (bump m k) b B := .same h
theorem qQ.ext {B : fK} {ys : List fK} (h : m.get b = B) (hb : b < m.next) : qQ m (Ev.ext m ys) b B := ⟨by rw [aK]; exact bI, by rw [aL hb]; exact h, fun c hc _ => aL hc⟩
theorem Fh.more (h : Fh m b tg l st P tv hv xs) {Q : Nat -> Prop} (hq : ∀ c, Q c -> P c \/ (c < m.next /\ UQ b tv hv c /\ ∀ x ∈ xs, gq x.kv c)) : Fh m b tg l st Q tv hv xs :=
 ⟨h.g, h.lt, h.t, h.h, h.a, h.x, h.hl, h.k, fun c hc => (hq c hc).elim (h.p c) fun q => ⟨q.1, q.2.1⟩, fun c hc => (hq c hc).elim (h.pk c) fun q => q.2.2⟩
theorem Fh.fresh (h : Fh m b tg l st P tv hv xs) {c : Nat} (hc : m.next <= c) : UQ b tv hv c := ⟨by have := h.lt; omega, h.t.lt (.inl hc), h.h.lt (.inl hc)⟩
theorem Fh.RL (h : Fh m b tg l st P tv hv xs) {c : Nat} (hc : m.next <= c) : ∀ x ∈ xs, gq x.kv c := fun x hx => (h.k x hx).o.lt (.inl hc)
theorem Qs {v3 : EV} {kids : List Int} {nl : EV} {lo : Nat} {fr : Fr} {m0 : Mem} (h : Fh m0 b tg l st P tv hv xs) (hH : ∀ x ∈ st.high, x <= 200) (ho : jF m0 nl (is kids) kids.length 1 lo) (KD : kids.length < 1000000000) (hhl : st.high.length < 1000000000) (hd0 : fr.get 0 = .ptr b 0) (h5 : fr.get 5 = .int .i64 1) (h9 : fr.get 9 = nl) (CO : fr.get 10 = .int .i64 (kids.length : Int)) (IQ : fr.get 11 = .int .i64 0) (h3 : fr.get 3 = v3) (hd : fr.defers = []) :
  ∃ o, exec U (.loop cd) fr m0 = some o /\ ∃ fr', o = .exit 0 fr' m0 /\ fr'.get 0 = .ptr b 0 /\ fr'.get 5 = .int .i64 (nA st.high kids : Int) /\ fr'.get 3 = v3 /\ fr'.defers = [] := by
 have Tn : ∀ (ks : List Int) (a : Nat), a <= 201 -> ks.foldl (Nj st.high) a <= 201 := by
  intro ks
  induction ks with
  | nil => intro a ha; exact ha
  | cons x ks ih =>
   intro a ha
   rw [List.foldl_cons];refine ih _ ?_
   unfold Nj
   split
   ·rename_i q
    have hx : x.toNat < st.high.length := by omega
    have := hH _ (Mv hx)
    rw [List.getD_eq_getElem?_getD, nc hx, Option.getD_some];omega
   ·exact ha
 refine iE (σ := Nat) (fun j fr m => m = m0 /\ j <= kids.length /\ fr.get 0 = .ptr b 0 /\ fr.get 5 = .int .i64 (((kids.take j).foldl (Nj st.high) 1 : Nat) : Int) /\ fr.get 9 = nl /\ fr.get 10 = .int .i64 (kids.length : Int) /\ fr.get 11 = .int .i64 (j : Int) /\ fr.get 3 = v3 /\ fr.defers = []) (fun j => kids.length - j) _ ?_ 0 fr m0
  ⟨rfl, ml _, hd0, h5, h9, CO, IQ, h3, hd⟩
 rintro j fr m ⟨rfl, hj, hd0, h5, h9, CO, IQ, h3, hd⟩
 generalize hX : exec U cd fr m = X
 by_cases bn : j < kids.length
 ·have hc : (j : Int) < (kids.length : Int) := by omega
  rcases ho.is with ⟨_, q, _⟩ | ⟨kb, cap, t, rfl, h1, h2, V9, h4⟩
  ·omega
  have HW : (kids.take (j + 1)).foldl (Nj st.high) 1 = Nj st.high ((kids.take j).foldl (Nj st.high) 1) kids[j] := by
   rw [List.take_add_one, nc bn, Option.toList_some, List.foldl_append]; rfl
  have hle := Tn (kids.take j) 1 (by omega)
  have hk : (is kids)[j]? = some (.int .i64 kids[j]) := by unfold is; rw [List.getElem?_map, nc bn]; rfl
  generalize hA : (kids.take j).foldl (Nj st.high) 1 = A at *
  generalize hx : kids[j] = x at *
  have hw : IntKind.i64.wrap ((j : Int) + 1) = ((j + 1 : Nat) : Int) := by rw [wrap_i64 (by omega) (by omega)]; omega
  have hg := h.g
  have hb := h.lt
  by_cases hr : 0 <= x /\ x < (st.high.length : Int)
  ·obtain ⟨WQ, VB⟩ := hr
   obtain ⟨n, rfl⟩ : ∃ n : Nat, x = (n : Int) := ⟨x.toNat, by omega⟩
   have hn : n < st.high.length := by omega
   rcases h.h.is with ⟨_, q, _⟩ | ⟨BQ, JQ, ht, rfl, g1, g2, g3, g4⟩
   ·omega
   have hxn := hH _ (Mv hn)
   have hh : (Sp st.high)[n]? = some (.int .i64 (st.high[n] : Int)) := by unfold Sp; rw [List.getElem?_map, nc hn]; rfl
   generalize hY : st.high[n] = y at *
   have Vv : IntKind.i64.wrap ((y : Int) + 1) = ((y + 1 : Nat) : Int) := by rw [wrap_i64 (by omega) (by omega)]; omega
   have AS : xy [.int .i64 (A : Int), .int .i64 ((y + 1 : Nat) : Int)] = some (.int .i64 ((max A (y + 1) : Nat) : Int)) := by
    simp only [xy, mU, Nat.beq_refl, cond_true]
    congr 2
    split <;> omega
   simp +contextual -implicitDefEqProofs (maxSteps := 1000000) (maxDischargeDepth := 8) only [cd, hd0, h5, h9, CO, IQ, hd, hc, hk, V9, hg, hb, hh, g3, WQ, VB, hn, bn, b9, Nat.mul_one, hw, Vv, AS, ax, ab, implies_true, simprocAttr] at hX
   subst hX;refine eR (j + 1) (by omega) ⟨rfl, by omega, by simp only [hd0, aq, Nat.reduceBEq ], ?_, by simp only [h9, aq, Nat.reduceBEq ], by simp only [CO, aq, Nat.reduceBEq ], by simp only [aq, Nat.reduceBEq ], by simp only [h3, aq, Nat.reduceBEq ], by simp only [hd, aq, Nat.reduceBEq ]⟩
   rw [HW, Nj, if_pos ⟨WQ, VB⟩, Int.toNat_natCast, List.getD_eq_getElem?_getD, nc hn, Option.getD_some, hY];simp only [aq, Nat.reduceBEq ]
  ·have uZ : ¬ (x < (st.high.length : Int)) \/ ¬ (0 <= x) := by omega
   by_cases WQ : 0 <= x
   ·have VB : ¬ (x < (st.high.length : Int)) := by omega
    rcases h.h.is with ⟨rfl, q, q2⟩ | ⟨BQ, JQ, ht, rfl, g1, g2, g3, g4⟩
    ·rw [q] at VB
     have abC : ¬ (x < 0) := by omega
     simp +contextual -implicitDefEqProofs (maxSteps := 1000000) (maxDischargeDepth := 8) only [cd, hd0, h5, h9, CO, IQ, hd, hc, hk, V9, hg, hb, WQ, abC, bn, b9, Nat.mul_one, hw, ax, ab, implies_true, simprocAttr] at hX
     subst hX;refine eR (j + 1) (by omega) ⟨rfl, by omega, by simp only [hd0, aq, Nat.reduceBEq ], ?_, by simp only [h9, aq, Nat.reduceBEq ], by simp only [CO, aq, Nat.reduceBEq ], by simp only [aq, Nat.reduceBEq ], by simp only [h3, aq, Nat.reduceBEq ], by simp only [hd, aq, Nat.reduceBEq ]⟩
     rw [HW, Nj, if_neg hr];simp only [h5, aq, Nat.reduceBEq ]
    ·simp +contextual -implicitDefEqProofs (maxSteps := 1000000) (maxDischargeDepth := 8) only [cd, hd0, h5, h9, CO, IQ, hd, hc, hk, V9, hg, hb, WQ, VB, bn, b9, Nat.mul_one, hw, ax, ab, implies_true, simprocAttr] at hX
     subst hX;refine eR (j + 1) (by omega) ⟨rfl, by omega, by simp only [hd0, aq, Nat.reduceBEq ], ?_, by simp only [h9, aq, Nat.reduceBEq ], by simp only [CO, aq, Nat.reduceBEq ], by simp only [aq, Nat.reduceBEq ], by simp only [h3, aq, Nat.reduceBEq ], by simp only [hd, aq, Nat.reduceBEq ]⟩
     rw [HW, Nj, if_neg hr];simp only [h5, aq, Nat.reduceBEq ]
   ·simp +contextual -implicitDefEqProofs (maxSteps := 1000000) (maxDischargeDepth := 8) only [cd, hd0, h5, h9, CO, IQ, hd, hc, hk, V9, hg, hb, WQ, bn, b9, Nat.mul_one, hw, ax, ab, implies_true, simprocAttr] at hX
    subst hX;refine eR (j + 1) (by omega) ⟨rfl, by omega, by simp only [hd0, aq, Nat.reduceBEq ], ?_, by simp only [h9, aq, Nat.reduceBEq ], by simp only [CO, aq, Nat.reduceBEq ], by simp only [aq, Nat.reduceBEq ], by simp only [h3, aq, Nat.reduceBEq ], by simp only [hd, aq, Nat.reduceBEq ]⟩
    rw [HW, Nj, if_neg hr];simp only [h5, aq, Nat.reduceBEq ]
 ·have hc : ¬ (j : Int) < (kids.length : Int) := by omega
  obtain rfl : j = kids.length := by omega
  simp +contextual -implicitDefEqProofs (maxSteps := 1000000) (maxDischargeDepth := 8) only [cd, CO, IQ, hc, hd, ax, ab, implies_true, simprocAttr] at hX
  subst hX;rw [List.take_length] at h5;exact eS ⟨_, rfl, by simp only [hd0, aq, Nat.reduceBEq ], by simp only [h5, nA, aq, Nat.reduceBEq ], by simp only [h3, aq, Nat.reduceBEq ], by simp only [hd, aq, Nat.reduceBEq ]⟩
end
end
section
section
variable {m : Mem} {b tg : Nat} {l : List Tok} {st : RS} {P : Nat -> Prop} {tv hv : EV} {xs : List Nv}
theorem Qr (h : Fh m b tg l st P tv hv xs) (hH : ∀ x ∈ st.high, x <= 200) (LM : st.tree.length < 1000000) {d : Nd} {kv : EV} (hk : BB m b tv hv d kv) (hpk : ∀ c, P c -> gq kv c) (KD : d.kids.length < 1000000000) : ∃ m', run U aA [.ptr b 0, .agg (wu d kv)] m = some (.ret (.int .i64 (st.fV d)) m') /\ Rd m' b tg l (st.put d) P /\ Kp m m' P := by
 rw [bY (by simp [ez])]
 generalize hL : exec (UT B K) (aE.loop cd) = L
 have hg := h.g
 have hb := h.lt
 have hlk : Es kv (ext m [.cells (wu d kv) 5 aX false]) = some (.val (.int .i64 (d.kids.length : Int)) (ext m [.cells (wu d kv) 5 aX false])) := by
  rcases hk.o.is with ⟨rfl, q, _⟩ | ⟨kb, cap, t, rfl, _⟩
  ·rw [q]; rfl
  ·rfl
 unfold wu at *
 simp +contextual -implicitDefEqProofs (maxSteps := 1000000) (maxDischargeDepth := 8) only [ez, hlk, ax, ab, implies_true, simprocAttr]
 subst hL;generalize hX : exec _ (.loop cd) _ _ = X
 have h1 := h.Ol (st' := st) rfl rfl (qQ.ext (ys := [.cells [.int .i64 d.kind, kv, .int .i64 d.n, .str d.s, .int .i64 d.pos] 5 aX false]) hg hb)
 have Ni : BB (ext m [.cells [.int .i64 d.kind, kv, .int .i64 d.n, .str d.s, .int .i64 d.pos] 5 aX false]) b tv hv d kv := ⟨hk.o.ext _, hk.f, hk.nl, hk.z⟩
 have qn : (ext m [.cells [.int .i64 d.kind, kv, .int .i64 d.n, .str d.s, .int .i64 d.pos] 5 aX false]).get (nb m.next 0) = .cells [.int .i64 d.kind, kv, .int .i64 d.n, .str d.s, .int .i64 d.pos] 5 aX false := by rw [aM rfl (by simp)]; rfl
 obtain ⟨o, rfl, fr', rfl, f0, f5, f3, fd⟩ := iD hX (Qs (v3 := .ptr (nb m.next 0) 0) h1 hH (hk.o.ext _) KD (by rw [h.hl]; omega) (by simp only [aq, Nat.reduceBEq ]) (by simp only [aq, Nat.reduceBEq ]) (by simp only [aq, Nat.reduceBEq ]) (by simp only [aq, Nat.reduceBEq ]) (by simp only [aq, Nat.reduceBEq ]) (by simp only [aq, Nat.reduceBEq ]) (by simp only [aq, Nat.reduceBEq ]))
 clear hX;have hB1 := hb
 generalize pJ : ext m [.cells [.int .i64 d.kind, kv, .int .i64 d.n, .str d.s, .int .i64 d.pos] 5 aX false] = M1 at *
 have Sw : M1.next = nb m.next 1 := by rw [<- pJ, aK]; rfl
 have kp1 : Kp m M1 P := ⟨by rw [Sw]; exact bI, fun c hc => by rw [<- pJ, aL (h.p c hc).1]⟩
 have hg1 := h1.g
 have AU := h1.lt
 have V5 : nb m.next 0 < M1.next := by rw [Sw]; unfold nb; simp
 by_cases hi : 200 < nA st.high d.kids
 ·have xw : (200 : Int) < (nA st.high d.kids : Int) := by omega
  obtain ⟨m2, e2, u2⟩ := vc h1.g h1.lt 4 d.pos
  have ji : ¬ (st.fail 4 d.pos).fe = 0 := by
   unfold RS.fail; split
   ·simp
   ·assumption
  have LO : st.nM d = st.fail 4 d.pos := if_pos hi
  have hp : st.put d = st.fail 4 d.pos := by rw [RS.put, LO, if_neg ji]
  have hr : st.fV d = -1 := by rw [RS.fV, LO, if_neg ji]
  have h2 := h1.Ol (st' := st.fail 4 d.pos) (by unfold RS.fail; split <;> rfl) (by unfold RS.fail; split <;> rfl) u2
  have hf := lj h2.g h2.lt
  have kp2 := kp1.trans (h1.kp u2)
  rw [hp, hr];generalize st.fail 4 d.pos = st2 at *
  simp +contextual -implicitDefEqProofs (maxSteps := 1000000) (maxDischargeDepth := 8) only [f0, f5, f3, fd, xw, qn, hg1, AU, V5, e2, hf, ji, fT, ax, ab, implies_true, simprocAttr]
  exact ⟨_, rfl, ⟨_, _, _, h2.Ol rfl rfl (qQ.bump h2.g)⟩, kp2.trans (h2.kp (qQ.bump h2.g))⟩
 ·have xw : ¬ (200 : Int) < (nA st.high d.kids : Int) := by omega
  have LO : st.nM d = st := if_neg hi
  have hf := lj h1.g h1.lt
  by_cases ji : st.fe = 0
  ·have hp : st.put d = { st with tree := st.tree ++ [d], high := st.high ++ [nA st.high d.kids] } := by rw [RS.put, LO, if_pos ji]
   have hr : st.fV d = (st.tree.length : Int) := by rw [RS.fV, LO, if_pos ji]
   rw [hp, hr];rw [eT ji] at hf;simp +contextual -implicitDefEqProofs (maxSteps := 1000000) (maxDischargeDepth := 8) only [f0, f5, f3, fd, xw, qn, hg1, AU, V5, hf, ax, ab, implies_true, simprocAttr]
   generalize hA : fS _ aX 5 tv _ = A
   generalize tp : Mem.mk (nb M1.next 22) _ = D1 at hA ⊢
   have tO : D1.next = nb M1.next 22 := by rw [<- tp]
   have EY : ∀ c, c < M1.next -> D1.get c = M1.get c := fun c hc => by
    rw [<- tp];exact (aL (m := Mem.mk (nb M1.next 0 + 7) (bump (bump M1 0) 22).gH) (by show c < nb M1.next 0 + 7; unfold nb; omega)).trans rfl
   have Ik : D1.get (nb (nb M1.next 0 + 7) 0) = .cells [.int .i64 d.kind, kv, .int .i64 d.n, .str d.s, .int .i64 d.pos] 5 aX false := by
    rw [<- tp];exact (aM (m := Mem.mk (nb M1.next 0 + 7) (bump (bump M1 0) 22).gH) rfl (by simp)).trans rfl
   clear tp;have Zb : jF D1 tv (IL xs) xs.length 5 (b + 1) := h1.t.gz (by rw [tO]; exact bI) fun c hc _ _ => EY c hc
   have ho2 : jF D1 hv (Sp st.high) st.high.length 1 (b + 1) := h1.h.gz (by rw [tO]; exact bI) fun c hc _ _ => EY c hc
   have Td : xs.length = st.tree.length := by rw [<- h.x, List.length_map]
   obtain ⟨a1, o1⟩ := gj (e := aX) Zb (by rw [tO]; unfold nb; omega) (oK (cap := some 1) Ik rfl) rfl (by decide) (by unfold room; omega)
   rw [a1] at hA;subst hA;have Yp : (grow D1 tv aX 5 (IL xs ++ [.int .i64 d.kind, kv, .int .i64 d.n, .str d.s, .int .i64 d.pos])).next = nb M1.next 23 := by rw [iJ, tO, eV]
   have Yo : ∀ c, c < D1.next -> gq tv c -> (grow D1 tv aX 5 (IL xs ++ [.int .i64 d.kind, kv, .int .i64 d.n, .str d.s, .int .i64 d.pos])).get c = D1.get c := fun c hc ho => jq hc ho
   generalize grow D1 tv aX 5 _ = G1 at *
   have hbt : gq tv b := Zb.lt (.inr (Nat.lt_succ_self _))
   have KG : b < D1.next := by rw [tO]; unfold nb; omega
   have VV : G1.get b = .cells (bc tg l st tv hv) 7 ai false := by rw [Yo b KG hbt, EY b AU, hg1]
   have abT : D1.get b = .cells (bc tg l st tv hv) 7 ai false := by rw [EY b AU, hg1]
   have eo : Hd (some hv) hv = true := ng (by rcases ho2.is with ⟨rfl, _⟩ | ⟨_, _, _, rfl, _⟩ <;> rfl)
   simp +contextual -implicitDefEqProofs (maxSteps := 1000000) (maxDischargeDepth := 8) only [f0, f5, f3, fd, VV, abT, tO, Yp, eV, eo, ax, ab, implies_true, simprocAttr]
   generalize hA : fS _ bC 1 hv _ = A
   generalize Tw : Mem.mk (nb M1.next 23) _ = D2 at hA ⊢
   have PW : D2.next = nb M1.next 23 := by rw [<- Tw]
   have W6 : ∀ c, c ≠ nb M1.next 0 + 14 -> D2.get c = G1.get c := fun c hc => by
    rw [<- Tw];exact ((fq (m := Mem.mk (nb M1.next 0 + 14) G1.gH)).trans (if_neg hc)).trans rfl
   have d2g : D2.get (nb (nb M1.next 0 + 14) 0) = .cells [.int .i64 (nA st.high d.kids : Int)] 1 bC false := by
    rw [<- Tw];exact ((fq (m := Mem.mk (nb M1.next 0 + 14) G1.gH)).trans (if_pos rfl)).trans rfl
   clear Tw;have WW : ∀ c, c < M1.next -> c ≠ nb M1.next 0 + 14 /\ c < D1.next := fun c hc => by rw [tO]; unfold nb; omega
   have hold : ∀ c, c < M1.next -> gq tv c -> D2.get c = M1.get c := fun c hc ho => by rw [W6 c (WW c hc).1, Yo c (WW c hc).2 ho, EY c hc]
   have ho3 : jF D2 hv (Sp st.high) st.high.length 1 (b + 1) := h1.h.gz (by rw [PW]; exact bI) fun c hc _ ho => hold c hc (Gb fun q => ho (h1.a c q))
   obtain ⟨a2, o2⟩ := gj (e := bC) ho3 (by rw [PW]; unfold nb; omega) (oK (cap := some 1) d2g rfl) rfl (by decide) (by unfold room; rw [h.hl]; omega)
   rw [a2] at hA;subst hA;have g2n : (grow D2 hv bC 1 (Sp st.high ++ [.int .i64 (nA st.high d.kids : Int)])).next = nb M1.next 24 := by rw [iJ, PW, eV]
   have g2o : ∀ c, c < D2.next -> gq hv c -> (grow D2 hv bC 1 (Sp st.high ++ [.int .i64 (nA st.high d.kids : Int)])).get c = D2.get c := fun c hc ho => jq hc ho
   generalize grow D2 hv bC 1 _ = G2 at *
   have hbh : gq hv b := h1.h.lt (.inr (Nat.lt_succ_self _))
   have hg3 : G2.get b = .cells (bc tg l st tv hv) 7 ai false := by rw [g2o b (by rw [PW]; unfold nb; omega) hbh, hold b AU hbt, hg1]
   have hw : IntKind.i64.wrap (((xs.length + 1 : Nat) : Int) - 1) = (st.tree.length : Int) := by rw [wrap_i64 (by omega) (by omega)]; omega
   have hall : ∀ c, c < M1.next -> c ≠ b -> gq tv c -> gq hv c -> ∀ B, (G2.set b B).get c = M1.get c := fun c hc iM FV Yk B => by
    rw [az iM, g2o c (by rw [PW]; unfold nb; omega) Yk, hold c hc FV]
   simp +contextual -implicitDefEqProofs (maxSteps := 1000000) (maxDischargeDepth := 8) only [f0, f5, f3, fd, hg3, g2n, PW, tO, eV, hw, ax, ab, implies_true, simprocAttr]
   generalize Zl : Mem.set _ b (.cells [.fz tg 4 (jD l), .int .i64 (st.pos : Int), .int .i64 st.deep, .slice (nb M1.next 22) 0 (xs.length + 1) none, .slice (nb M1.next 23) 0 (st.high.length + 1) none, .int .i64 st.fe, .int .i64 st.fp] 7 ai false) = M3
   have WE : M3.next = nb M1.next 24 := by rw [<- Zl, cg, cg, g2n]
   have m3b : M3.get b = .cells [.fz tg 4 (jD l), .int .i64 (st.pos : Int), .int .i64 st.deep, .slice (nb M1.next 22) 0 (xs.length + 1) none, .slice (nb M1.next 23) 0 (st.high.length + 1) none, .int .i64 st.fe, .int .i64 st.fp] 7 ai false := by rw [<- Zl, bJ]
   have m3o : ∀ c, c ≠ b -> M3.get c = G2.get c := fun c hc => by rw [<- Zl, az hc, az hc]
   clear Zl;have UF : ∀ c, c < M1.next -> UQ b tv hv c -> M3.get c = M1.get c := fun c hc hf => by
    rw [m3o c hf.ne, <- hall c hc hf.ne hf.t hf.h .dead, az hf.ne]
   have uj : ∀ c, c < M1.next -> c ≠ b -> UQ b (.slice (nb M1.next 22) 0 (xs.length + 1) none) (.slice (nb M1.next 23) 0 (st.high.length + 1) none) c := fun c hc iM => ⟨iM, gq.of (by unfold nb; omega), gq.of (by unfold nb; omega)⟩
   have Tk : ∀ (k n c : Nat), ¬ gq (.slice (nb M1.next k) 0 n none) c -> c = nb M1.next k := fun k n c q => Gb fun w => q (gq.of w)
   have X1 : ∀ (d : Nd) (kv : EV), BB M1 b tv hv d kv -> BB M3 b (.slice (nb M1.next 22) 0 (xs.length + 1) none) (.slice (nb M1.next 23) 0 (st.high.length + 1) none) d kv := fun d kv q =>
    ⟨q.o.gz (by rw [WE]; exact bI) fun c hc _ ho => UF c hc (q.f c ho), fun c ho => uj c (q.o.QH ho).2 (q.f c ho).ne, q.nl, q.z⟩
   refine ⟨M3, rfl, ⟨.slice (nb M1.next 22) 0 (xs.length + 1) none, .slice (nb M1.next 23) 0 (st.high.length + 1) none, xs ++ [⟨d, kv⟩], ?_⟩, kp1.trans ⟨by rw [WE]; exact bI, fun c hc => UF c (h1.p c hc).1 (h1.p c hc).2⟩⟩
   refine ⟨m3b, by rw [WE]; unfold nb; omega, ?_, ?_, ?_, ?_, ?_, ?_, ?_, ?_⟩
   ·rw [QE, jz]
    rw [tO, eV] at o1;refine o1.gz (by rw [Yp, WE]; unfold nb; omega) fun c hc qm ho => ?_
    rw [Tk _ _ _ ho, m3o _ (by unfold nb; omega), g2o _ (by rw [PW]; unfold nb; omega) (h1.h.lt (.inl bI)), W6 _ (by unfold nb; omega)]
   ·rw [jz]
    rw [PW, eV] at o2;have e1 : Sp (st.high ++ [nA st.high d.kids]) = Sp st.high ++ [.int .i64 (nA st.high d.kids : Int)] := by simp [Sp]
    rw [e1];exact o2.gz (by rw [g2n, WE]; exact fy _) fun c hc qm ho => m3o c (by omega)
   ·intro c q
    rw [Tk _ _ _ q];exact gq.of (by unfold nb; omega)
   ·rw [List.map_append, h.x]; rfl
   ·rw [jz, jz, h.hl]; rfl
   ·intro x hx
    rcases yb.1 hx with hx | hx
    ·exact X1 _ _ (h1.k x hx)
    ·rw [DL.1 hx]; exact X1 _ _ Ni
   ·exact fun c hc => ⟨by have := (h1.p c hc).1; rw [WE]; unfold nb; omega, uj c (h1.p c hc).1 (h1.p c hc).2.ne⟩
   ·intro c hc x hx
    rcases yb.1 hx with hx | hx
    ·exact h1.pk c hc x hx
    ·rw [DL.1 hx]; exact hpk c hc
  ·have hp : st.put d = st := by rw [RS.put, LO, if_neg ji]
   have hr : st.fV d = -1 := by rw [RS.fV, LO, if_neg ji]
   rw [hp, hr];simp +contextual -implicitDefEqProofs (maxSteps := 1000000) (maxDischargeDepth := 8) only [f0, f5, f3, fd, xw, qn, hg1, AU, V5, hf, ji, fT, ax, ab, implies_true, simprocAttr]
   exact ⟨_, rfl, ⟨_, _, _, h1.Ol rfl rfl (qQ.bump h1.g)⟩, kp1.trans (h1.kp (qQ.bump h1.g))⟩
theorem SP {Q : Nat -> Prop} (h : Rd m b tg l st Q) (hH : ∀ x ∈ st.high, x <= 200) (LM : st.tree.length < 1000000) {d : Nd} {kv : EV} (ho : jF m kv (is d.kids) d.kids.length 1 0) (hp : ∀ c, ¬ gq kv c -> Q c) (hq : ∀ c, P c -> Q c /\ gq kv c) (Tl : d.nl = d.kids.isEmpty) (hz : d.kids = [] -> kv = .ae) (KD : d.kids.length < 1000000000) : ∃ m', run U aA [.ptr b 0, .agg [.int .i64 d.kind, kv, .int .i64 d.n, .str d.s, .int .i64 d.pos]] m = some (.ret (.int .i64 (st.fV d)) m') /\ Rd m' b tg l (st.put d) P /\ Kp m m' P := by
 obtain ⟨tv, hv, xs, h⟩ := h
 exact Qr (h.more fun c hc => .inl (hq c hc).1) hH LM ⟨ho, fun c hc => (h.p c (hp c hc)).2, Tl, hz⟩ (fun c hc => (hq c hc).2) KD
end
end
section
def Pr (P : Nat -> Prop) (n n' : Nat) : Nat -> Prop := fun c => P c \/ (n <= c /\ c < n')
theorem jF.Vj {m : Mem} {v : EV} {cs : List EV} {n esz lo : Nat} (h : jF m v cs n esz lo) : jF m v cs n esz 0 := by
 refine ⟨?_, h.len⟩
 rcases h.is with h | ⟨b, cap, t, rfl, h1, h2, h3, h4⟩
 ·exact .inl h
 ·exact .inr ⟨b, cap, t, rfl, ml _, h2, h3, h4⟩
section
variable {m M : Mem} {b tg : Nat} {l : List Tok} {st : RS} {P Q : Nat -> Prop}
theorem Rd.lt (h : Rd m b tg l st P) : b < m.next := by obtain ⟨tv, hv, xs, h⟩ := h; exact h.lt
theorem Rd.bO (h : Rd m b tg l st P) (hq : ∀ c, Q c -> P c) : Rd m b tg l st Q := by
 obtain ⟨tv, hv, xs, h⟩ := h; exact ⟨tv, hv, xs, h.more fun c hc => .inl (hq c hc)⟩
theorem Rd.grown (h : Rd m b tg l st P) (hn : m.next <= M.next) (hk : ∀ c, c < m.next -> M.get c = m.get c) : Rd M b tg l st (Pr P m.next M.next) := by
 obtain ⟨tv, hv, xs, h⟩ := h
 have u : qQ m M b (.cells (bc tg l st tv hv) 7 ai false) := ⟨hn, by rw [hk b h.lt]; exact h.g, fun c hc _ => hk c hc⟩
 exact ⟨tv, hv, xs, (h.Ol rfl rfl u).more fun c hc => hc.elim .inl fun q => .inr ⟨q.2, h.fresh q.1, h.RL q.1⟩⟩
theorem Rd.same (h : Rd m b tg l st P) (hn : m.next <= M.next) (hk : ∀ c, c < m.next -> M.get c = m.get c) : Rd M b tg l st P := (h.grown hn hk).bO fun c hc => .inl hc
theorem dg {ys : List fK} (h : Rd m b tg l st P) : Rd (ext m ys) b tg l st P := h.same (by rw [aK]; exact bI) fun c hc => aL hc
theorem ak {k : Nat} (h : Rd m b tg l st P) : Rd (bump m k) b tg l st P := h.same (by rw [bu]; exact bI) fun c hc => rfl
theorem Rd.kp (h : Rd m b tg l st P) (hn : m.next <= M.next) (hk : ∀ c, c < m.next -> M.get c = m.get c) : Kp m M P := by
 obtain ⟨tv, hv, xs, h⟩ := h; exact ⟨hn, fun c hc => hk c (h.p c hc).1⟩
theorem Rd.box (h : Rd m b tg l st P) (n : Nat) (ys : List fK) : Rd (ext (bump m n) ys) b tg l st (Pr P m.next (nb m.next (n + ys.length))) := by
 have := h.grown (M := ext (bump m n) ys) (by rw [aK, bu, eV]; exact bI) fun c hc => aL (m := bump m n) (by rw [bu]; exact mn hc bI)
 rw [aK, bu, eV] at this;exact this
theorem Vn (h : Rd m b tg l st P) (n : Nat) (ys : List fK) : Kp m (ext (bump m n) ys) P := h.kp (by rw [aK, bu, eV]; exact bI) fun c hc => aL (m := bump m n) (by rw [bu]; exact mn hc bI)
theorem Rd.Ir (h : Rd m b tg l st P) (ys : List fK) : Rd (ext m ys) b tg l st (Pr P m.next (nb m.next ys.length)) := by
 have := h.grown (M := ext m ys) (by rw [aK]; exact bI) fun c hc => aL hc
 rw [aK] at this;exact this
theorem lO (h : Rd m b tg l st P) (ys : List fK) : Kp m (ext m ys) P := h.kp (by rw [aK]; exact bI) fun c hc => aL hc
theorem Cs {m : Mem} {cs : List EV} {n e : Nat} (h : cs.length = n) : jF (ext m [.cells cs 1 e false]) (.slice (nb m.next 0) 0 n (some n)) cs n 1 0 :=
 ⟨.inr ⟨nb m.next 0, some n, e, rfl, ml _, by rw [aK]; unfold nb; simp, by rw [aM rfl (by simp)]; rfl, .inr rfl⟩, by omega⟩
theorem cm {bb o n c : Nat} {cap : Option Nat} (h : ¬ gq (.slice bb o n cap) c) : c = bb := Gb fun w => h (gq.of w)
theorem Rd.mb (h : Rd m b tg l st P) {c : Nat} (hc : P c) : c < m.next := by obtain ⟨tv, hv, xs, h⟩ := h; exact (h.p c hc).1
theorem nW {n i j : Nat} (h : i < j) : Pr P n (nb n j) (nb n i) := .inr ⟨bI, by unfold nb; omega⟩
theorem aR {k : Nat} (h : Rd m b tg l st P) : Kp m (bump m k) P := h.kp (by rw [bu]; exact bI) fun _ _ => rfl
theorem LB {ys : List fK} (h : Rd m b tg l st P) : Kp m (ext m ys) P := h.kp (by rw [aK]; exact bI) fun c hc => aL hc
theorem eA.U2 (o : eA l st) (ht : bS l) {tv hv : EV} : KI b tg l st tv hv := ⟨ht.pos, by have := ht.lt; omega, by have := ht.lt; have := o.p; omega, by have := ht.lt; have := o.p; have := o.d; have := o.d0; omega⟩
section
variable (ht : bS l) (o : eA l st)
include ht o
theorem jG : ∀ M : Mem, Rd M b tg l st P -> run U km [.ptr b 0] M = some (.ret (.agg [.int .i64 ((st.now l).kind : Int), .str (st.now l).text, .int .i64 ((st.now l).n : Int), .int .i64 ((st.now l).pos : Int)]) (bump M 19)) := fun M h => by
 obtain ⟨tv, hv, xs, h⟩ := h; exact (o.U2 ht (tv := tv) (hv := hv)).token M h.g h.lt
theorem Vq : ∀ (M : Mem) (s : bK), Rd M b tg l st P -> run U mB [.ptr b 0, .str s] M = some (.ret (bo (st.is l s)) (bump M 20)) := fun M s h => by
 obtain ⟨tv, hv, xs, h⟩ := h; exact (o.U2 ht (tv := tv) (hv := hv)).is M s h.g h.lt
end
theorem JW : ∀ M : Mem, Rd M b tg l st P -> run U iZ [.ptr b 0] M = some (.ret (bo (st.fe = 0)) (bump M 0)) := fun M h => by
 obtain ⟨tv, hv, xs, h⟩ := h; exact lj h.g h.lt
variable {X : Option Fin}
theorem J0 (h : Rd m b tg l st P) {e p : Int} (hX : run U dU [.ptr b 0, .int .i64 e, .int .i64 p] m = X) : ∃ m', X = some (.ret (.tuple []) m') /\ Rd m' b tg l (st.fail e p) P /\ Kp m m' P := by
 obtain ⟨tv, hv, xs, h⟩ := h
 obtain ⟨m', e', u⟩ := vc h.g h.lt e p
 exact ⟨m', hX.symm.trans e', ⟨_, _, _, h.Ol c6.2.2.1 c6.2.2.2 u⟩, h.kp u⟩
theorem oY (ht : bS l) (o : eA l st) (h : Rd m b tg l st P) {s : bK} (hX : run U aU [.ptr b 0, .str s] m = X) : ∃ m', X = some (.ret (bo (st.is l s)) m') /\ Rd m' b tg l (st.skip l s) P /\ Kp m m' P := by
 obtain ⟨tv, hv, xs, h⟩ := h
 obtain ⟨m', e', u⟩ := I5 (o.U2 ht) h.g h.lt s
 exact ⟨m', hX.symm.trans e', ⟨_, _, _, h.Ol (by unfold RS.skip; split <;> rfl) (by unfold RS.skip; split <;> rfl) u⟩, h.kp u⟩
theorem nV (ht : bS l) (o : eA l st) (h : Rd m b tg l st P) {s : bK} (hX : run U aP [.ptr b 0, .str s] m = X) : ∃ m', X = some (.ret (bo (st.is l s)) m') /\ Rd m' b tg l (st.want l s) P /\ Kp m m' P := by
 obtain ⟨tv, hv, xs, h⟩ := h
 obtain ⟨m', e', u⟩ := P1 (o.U2 ht) h.g h.lt s
 have q : (st.want l s).tree = st.tree /\ (st.want l s).high = st.high := by
  unfold RS.want; split
  ·exact ⟨rfl, rfl⟩
  ·exact c6.2.2
 exact ⟨m', hX.symm.trans e', ⟨_, _, _, h.Ol q.1 q.2 u⟩, h.kp u⟩
theorem Jh (ht : bS l) (o : eA l st) (h : Rd m b tg l st P) {p : Int} (hX : run U eJ [.ptr b 0, .int .i64 p] m = X) : ∃ m', X = some (.ret (bo ((st.open p).fe = 0)) m') /\ Rd m' b tg l (st.open p) P /\ Kp m m' P := by
 obtain ⟨tv, hv, xs, h⟩ := h
 obtain ⟨m', e', u⟩ := Qy (o.U2 ht) h.g h.lt p
 have q : (st.open p).tree = st.tree /\ (st.open p).high = st.high := by
  unfold RS.open; split
  ·exact (c6 (st := { st with deep := st.deep + 1 })).2.2
  ·exact ⟨rfl, rfl⟩
 exact ⟨m', hX.symm.trans e', ⟨_, _, _, h.Ol q.1 q.2 u⟩, h.kp u⟩
theorem A7 (ht : bS l) (o : eA l st) (h : Rd m b tg l st P) (hX : run U dB [.ptr b 0] m = X) : ∃ m', X = some (.ret (.tuple []) m') /\ Rd m' b tg l st.close P /\ Kp m m' P := by
 obtain ⟨tv, hv, xs, h⟩ := h
 obtain ⟨m', e', u⟩ := Py (o.U2 ht) h.g h.lt
 exact ⟨m', hX.symm.trans e', ⟨_, _, _, h.Ol rfl rfl u⟩, h.kp u⟩
theorem pL (ht : bS l) (o : eA l st) (h : Rd m b tg l st Q) {kind n p : Int} {s : bK} {kids : List Int} {kv : EV} (KD : kids.length < 1000000) (ho : jF m kv (is kids) kids.length 1 0) (hp : ∀ c, ¬ gq kv c -> Q c) (hq : ∀ c, P c -> Q c /\ gq kv c) (hz : kids = [] -> kv = .ae) (hX : run U aA [.ptr b 0, .agg [.int .i64 kind, kv, .int .i64 n, .str s, .int .i64 p]] m = X) : ∃ m', X = some (.ret (.int .i64 (st.fV (nd kind kids n s p))) m') /\ Rd m' b tg l (st.put (nd kind kids n s p)) P /\ Kp m m' P := by
 obtain ⟨m', e', r, k⟩ := SP (d := nd kind kids n s p) h o.h (by have := o.t; have := o.p; have := ht.lt; omega) ho hp hq rfl hz (by show kids.length < _; omega)
 exact ⟨m', hX.symm.trans e', r, k⟩
end
def Cj : List bK := [[124, 124], [38, 38], [61, 61], [33, 61], [60], [60, 61], [62], [62, 61], [43], [45], [43, 37], [45, 37], [42], [47], [37], [42, 37]]
theorem U5 (s : bK) : cR B K Lu [.str s] = some (.agg [.int .i64 (mv s).1, .int .i64 (mv s).2]) := by
 have EG : s ∈ Cj \/ s ∉ Cj := Classical.em _
 rcases EG with h | h
 ·simp only [Cj, oU, List.not_mem_nil, or_false] at h
  rcases h with rfl | rfl | rfl | rfl | rfl | rfl | rfl | rfl | rfl | rfl | rfl | rfl | rfl | rfl | rfl | rfl
  all_goals exact Bk 20 fun _ => by kernel_rfl
 ·simp only [Cj, oU, List.not_mem_nil, or_false, not_or] at h
  obtain ⟨h0, h1, h2, h3, h4, h5, h6, h7, h8, h9, CO, IQ, KH, Ty, h14, h15⟩ := h
  rw [eE (by simp [jV])]
  have ho : mv s = (0, 0) := by simp only [mv, if_neg h0, if_neg h1, if_neg h2, if_neg h3, if_neg h4, if_neg h5, if_neg h6, if_neg h7, if_neg h8, if_neg h9, if_neg CO, if_neg IQ, if_neg KH, if_neg Ty, if_neg h14, if_neg h15]
  rw [ho];simp -implicitDefEqProofs (maxSteps := 1000000) only [jV, h0, h1, h2, h3, h4, h5, h6, h7, h8, h9, CO, IQ, KH, Ty, h14, h15, fT, ax, ab, reduceIte, reduceCtorEq, Nat.reduceEqDiff, Nat.reduceBEq, Nat.reduceAdd, Int.reduceLT, Int.reduceLE, Int.reduceEq, Int.reduceToNat, Int.reduceNeg, Nat.reduceLeDiff, Int.reducePow, implies_true, UInt8.reduceToNat, Int.reduceSub, Int.reduceAdd, Nat.reduceLT, Nat.reduceMul, Nat.reduceSub, Nat.reduceBNe]
end
section
def rc (l : List Tok) (tg f : Nat) (av : List EV) (k : Nat) (c : gP) : Prop := ∀ (st : RS) (m : Mem) (b : Nat) (P : Nat -> Prop) (s1 : RS) (r : List Int) (X : Option Fin), eA l st -> 8 * (l.length - st.pos) + c.bi < k -> gF l k c st = some (s1, r) -> Rd m b tg l st P -> run U f (.ptr b 0 :: av) m = X -> ∃ m', X = some (.ret (.int .i64 (r.headD 0)) m') /\ Rd m' b tg l s1 P /\ Kp m m' P
theorem jJ {r : List Int} (h : r.length = 1) : ∃ x, r = [x] := by
 match r, h with
 | [x], _ => exact ⟨x, rfl⟩
section
variable {l : List Tok} {tg : Nat} (ht : bS l) {k : Nat}
include ht
theorem Po (ih : rc l tg e6 [.int .i64 1] k (.ll 1)) : rc l tg aV [] (k + 1) .expr := by
 intro st m b P s1 r X o hk bM h hX
 have oP : 8 * (l.length - st.pos) + (gP.ll 1).bi < k := by simp only [gP.bi] at *; omega
 obtain ⟨s2, r2, e, g, a, _⟩ := go_ok ht k (.ll 1) st o.p oP trivial
 obtain ⟨x, rfl⟩ := jJ a
 simp only [gF, e, Option.bind_some, bf, eO] at bM;obtain ⟨rfl, rfl⟩ := bM
 rw [bY (by simp [ef])] at hX
 simp +contextual -implicitDefEqProofs (maxSteps := 1000000) (maxDischargeDepth := 8) only [ef, ax, ab, implies_true, simprocAttr] at hX
 generalize hC : run U e6 _ m = C at hX
 obtain ⟨m1, rfl, h1, k1⟩ := ih st m b P _ _ _ o oP e h hC
 have hf := JW (b := b) (tg := tg) (l := l) (st := s2) (P := P)
 by_cases ji : s2.fe = 0
 ·simp +contextual -implicitDefEqProofs (maxSteps := 1000000) (maxDischargeDepth := 8) only [hf, h1, ji, dg, ak, ax, ab, implies_true, simprocAttr] at hX
  subst hX;simp only [ji, if_true];exact ⟨_, rfl, ak h1, k1.trans (aR h1)⟩
 ·simp +contextual -implicitDefEqProofs (maxSteps := 1000000) (maxDischargeDepth := 8) only [hf, h1, ji, fT, dg, ak, ax, ab, implies_true, simprocAttr] at hX
  subst hX;simp only [ji, if_false];exact ⟨_, rfl, ak h1, k1.trans (aR h1)⟩
theorem LK {a z : bK} (ih : rc l tg aV [] k .expr) : rc l tg cx [.str a, .str z] (k + 1) (.inner a z) := by
 intro st m b P s1 r X o hk bM h hX
 rw [bY (by simp [dJ])] at hX
 have hT := jG (b := b) (tg := tg) (P := P) ht o
 simp +contextual -implicitDefEqProofs (maxSteps := 1000000) (maxDischargeDepth := 8) only [dJ, hT, h, dg, ak, ax, ab, implies_true, simprocAttr] at hX
 generalize hC : run U aP _ _ = C at hX
 obtain ⟨m1, rfl, h1, k1⟩ := nV ht o (ak h) hC
 clear hC;have k1 : Kp m m1 P := (aR h).trans k1
 by_cases ha : st.is l a
 ·have hn := is_lt ht o.p ha
  have hw : st.want l a = st.next := by unfold RS.want; rw [if_pos ha]
  rw [hw] at h1;have on : eA l st.next := (Gr.next hn).ok o
  rw [eT ha] at hX;simp +contextual -implicitDefEqProofs (maxSteps := 1000000) (maxDischargeDepth := 8) only [ax, ab, implies_true, simprocAttr] at hX
  generalize hC : run U eJ _ _ = C at hX
  obtain ⟨m2, rfl, h2, k2⟩ := Jh ht on h1 hC
  clear hC;have go := Gr.open hn (p := ((st.now l).pos : Int))
  have oo := go.ok o
  obtain ⟨o1, o2, o3⟩ := lE (st := st.next) (p := ((st.now l).pos : Int))
  simp only [gF, if_pos ha] at bM;by_cases hf : (st.next.open (st.now l).pos).fe = 0
  ·rw [if_pos hf] at bM
   rw [eT hf] at hX;have oP : 8 * (l.length - (st.next.open (st.now l).pos).pos) + gP.expr.bi < k := by rw [o1]; simp only [gP.bi, RS.next] at *; omega
   obtain ⟨s2, r2, e, g, ar, _⟩ := go_ok ht k .expr _ go.pl oP trivial
   obtain ⟨x, rfl⟩ := jJ ar
   simp only [e, Option.bind_some, bf, eO] at bM;obtain ⟨rfl, rfl⟩ := bM
   simp +contextual -implicitDefEqProofs (maxSteps := 1000000) (maxDischargeDepth := 8) only [ax, ab, implies_true, simprocAttr] at hX
   generalize hC : run U aV _ _ = C at hX
   obtain ⟨m3, rfl, h3, k3⟩ := ih _ _ _ _ _ _ _ oo oP e h2 hC
   clear hC;have Xr := g.ok oo
   simp +contextual -implicitDefEqProofs (maxSteps := 1000000) (maxDischargeDepth := 8) only [ax, ab, implies_true, simprocAttr] at hX
   generalize hC : run U aP _ _ = C at hX
   obtain ⟨m4, rfl, h4, k4⟩ := nV ht Xr h3 hC
   clear hC;have o4 := (Gr.want ht Xr.p (s := z)).ok Xr
   simp +contextual -implicitDefEqProofs (maxSteps := 1000000) (maxDischargeDepth := 8) only [ax, ab, implies_true, simprocAttr] at hX
   generalize hC : run U dB _ _ = C at hX
   obtain ⟨m5, rfl, h5, k5⟩ := A7 ht o4 h4 hC
   clear hC;have hfi := JW (b := b) (tg := tg) (l := l) (st := (s2.want l z).close) (P := P)
   have oQ : (s2.want l z).close.fe = (s2.want l z).fe := rfl
   have kk := (((k1.trans k2).trans k3).trans k4).trans k5
   have k6 := aR (k := 0) h5
   by_cases ji : (s2.want l z).fe = 0
   ·simp +contextual -implicitDefEqProofs (maxSteps := 1000000) (maxDischargeDepth := 8) only [hfi, h5, oQ, ji, gL, dg, ak, ax, ab, implies_true, simprocAttr] at hX
    subst hX;simp only [ji, if_true];exact ⟨_, rfl, ak h5, kk.trans k6⟩
   ·simp +contextual -implicitDefEqProofs (maxSteps := 1000000) (maxDischargeDepth := 8) only [hfi, h5, oQ, ji, fT, dg, ak, ax, ab, implies_true, simprocAttr] at hX
    subst hX;simp only [ji, if_false];exact ⟨_, rfl, ak h5, kk.trans k6⟩
  ·rw [if_neg hf] at bM
   rw [eU hf] at hX;simp only [bf, eO] at bM;obtain ⟨rfl, rfl⟩ := bM
   simp +contextual -implicitDefEqProofs (maxSteps := 1000000) (maxDischargeDepth := 8) only [ax, ab, implies_true, simprocAttr] at hX
   subst hX;exact ⟨_, rfl, h2, k1.trans k2⟩
 ·have hw : st.want l a = st.fail 8 (st.now l).pos := by unfold RS.want; rw [if_neg ha]
  rw [hw] at h1;simp only [gF, if_neg ha, bf, eO] at bM;obtain ⟨rfl, rfl⟩ := bM
  rw [eU ha] at hX;simp +contextual -implicitDefEqProofs (maxSteps := 1000000) (maxDischargeDepth := 8) only [ax, ab, implies_true, simprocAttr] at hX
  subst hX;exact ⟨_, rfl, h1, k1⟩
end
end
section
section
variable {l : List Tok} {tg : Nat} (ht : bS l) {k : Nat}
include ht
theorem LV (JH : rc l tg et [] k .front) (LL : rc l tg ja [] k .atom) (ih3 : ∀ left, rc l tg kl [.int .i64 left] k (.lW left)) : rc l tg et [] (k + 1) .front := by
 intro st m b P s1 r X o hk bM h hX
 rw [bY (by simp [dG])] at hX
 have hT := jG (b := b) (tg := tg) (P := P) ht o
 have bn := h.lt
 simp +contextual -implicitDefEqProofs (maxSteps := 1000000) (maxDischargeDepth := 8) only [dG, hT, h, dg, ak, ax, ab, implies_true, simprocAttr] at hX
 have h0 := h.box 19 [.cells [.int .i64 ((st.now l).kind : Int), .str (st.now l).text, .int .i64 ((st.now l).n : Int), .int .i64 ((st.now l).pos : Int)] 4 ao false]
 have k0 := Vn h 19 [.cells [.int .i64 ((st.now l).kind : Int), .str (st.now l).text, .int .i64 ((st.now l).n : Int), .int .i64 ((st.now l).pos : Int)] 4 ao false]
 have p0 : Pr P m.next (nb m.next (19 + 1)) (nb m.next 19) := nW (by decide)
 have b0 : (ext (bump m 19) [.cells [.int .i64 ((st.now l).kind : Int), .str (st.now l).text, .int .i64 ((st.now l).n : Int), .int .i64 ((st.now l).pos : Int)] 4 ao false]).get (nb m.next 19) = .cells [.int .i64 ((st.now l).kind : Int), .str (st.now l).text, .int .i64 ((st.now l).n : Int), .int .i64 ((st.now l).pos : Int)] 4 ao false := by
  rw [<- Nat.add_zero 19, <- eV];exact (aM (m := bump m 19) (i := 0) rfl (by simp)).trans rfl
 generalize hC : run U aU _ _ = C at hX
 obtain ⟨m1, rfl, h1, k1⟩ := oY ht o h0 hC
 clear hC;have b1 := (k1.k _ p0).trans b0
 have n1 : (ext (bump m 19) [fK.dead]).next <= m1.next := by have := k1.n; rw [aK] at this ⊢; exact this
 by_cases ha : st.is l [45]
 ·skip
  have hn := is_lt ht o.p ha
  have hw : st.skip l [45] = st.next := by unfold RS.skip; rw [if_pos ha]
  rw [hw] at h1;have on : eA l st.next := (Gr.next hn).ok o
  rw [eT ha] at hX;simp +contextual -implicitDefEqProofs (maxSteps := 1000000) (maxDischargeDepth := 8) only [b1, ax, ab, implies_true, simprocAttr] at hX
  generalize hC : run U eJ _ _ = C at hX
  obtain ⟨m2, rfl, h2, k2⟩ := Jh ht on h1 hC
  clear hC;have b2 := (k2.k _ p0).trans b1
  have go := Gr.open hn (p := ((st.now l).pos : Int))
  have oo := go.ok o
  obtain ⟨o1, o2, o3⟩ := lE (st := st.next) (p := ((st.now l).pos : Int))
  simp only [gF, if_pos ha] at bM;by_cases hf : (st.next.open (st.now l).pos).fe = 0
  ·rw [if_pos hf] at bM
   rw [eT hf] at hX;have oP : 8 * (l.length - (st.next.open (st.now l).pos).pos) + gP.front.bi < k := by rw [o1]; simp only [gP.bi, RS.next] at *; omega
   obtain ⟨s2, r2, e, g, ar, _⟩ := go_ok ht k .front _ go.pl oP trivial
   obtain ⟨x, rfl⟩ := jJ ar
   simp only [e, Option.bind_some, bf, eO] at bM;obtain ⟨rfl, rfl⟩ := bM
   simp +contextual -implicitDefEqProofs (maxSteps := 1000000) (maxDischargeDepth := 8) only [ax, ab, implies_true, simprocAttr] at hX
   generalize hC : run U et _ _ = C at hX
   obtain ⟨m3, rfl, h3, k3⟩ := JH _ _ _ _ _ _ _ oo oP e h2 hC
   clear hC;have b3 := (k3.k _ p0).trans b2
   have U9 := g.ok oo
   simp +contextual -implicitDefEqProofs (maxSteps := 1000000) (maxDischargeDepth := 8) only [ax, ab, implies_true, simprocAttr] at hX
   generalize hC : run U dB _ _ = C at hX
   obtain ⟨m4, rfl, h4, k4⟩ := A7 ht U9 h3 hC
   clear hC;have b4 := (k4.k _ p0).trans b3
   have o4 : eA l s2.close := ((go.trans g).close (by have := g.d0; rw [o2] at this; simp only [RS.next] at this; exact this)).ok o
   have l4 : nb m.next 19 < m4.next := mn (show nb m.next 19 < (ext (bump m 19) [fK.dead]).next by rw [aK, bu, eV]; unfold nb; simp) (pN n1 (pN k2.n (pN k3.n k4.n)))
   simp +contextual -implicitDefEqProofs (maxSteps := 1000000) (maxDischargeDepth := 8) only [b4, l4, ax, ab, implies_true, simprocAttr] at hX
   generalize hC : run U aA _ _ = C at hX
   obtain ⟨m5, rfl, h5, k5⟩ := pL ht o4 (h4.Ir _) (kids := [x]) (by simp) (Cs (by rfl)) (fun c hc => by rw [cm hc]; exact nW (by simp)) (fun c hc => ⟨.inl hc, gq.of (by have := h4.mb hc; unfold nb; omega)⟩) (by simp) hC
   clear hC;simp +contextual -implicitDefEqProofs (maxSteps := 1000000) (maxDischargeDepth := 8) only [ax, ab, implies_true, simprocAttr] at hX
   subst hX;refine ⟨_, rfl, (h5.bO fun c hc => .inl hc), ?_⟩
   exact (k0.trans (((((k1.trans k2).trans k3).trans k4).trans (lO h4 _)).bO fun c hc => .inl hc)).trans (k5.bO fun c hc => .inl hc)
  ·rw [if_neg hf] at bM
   rw [eU hf] at hX;simp only [bf, eO] at bM;obtain ⟨rfl, rfl⟩ := bM
   simp +contextual -implicitDefEqProofs (maxSteps := 1000000) (maxDischargeDepth := 8) only [ax, ab, implies_true, simprocAttr] at hX
   subst hX;exact ⟨_, rfl, h2.bO fun c hc => .inl hc, k0.trans ((k1.trans k2).bO fun c hc => .inl hc)⟩
 ·have hw : st.skip l [45] = st := by unfold RS.skip; rw [if_neg ha]
  rw [hw] at h1;rw [eU ha] at hX;simp +contextual -implicitDefEqProofs (maxSteps := 1000000) (maxDischargeDepth := 8) only [ax, ab, implies_true, simprocAttr] at hX
  have Uo := k1
  have Tm := ha
  clear ha;generalize hC : run U aU _ _ = C at hX
  obtain ⟨fU, rfl, h1, k1⟩ := oY ht o h1 hC
  clear hC;have b1 := (k1.k _ p0).trans b1
  have k1 := Uo.trans k1
  have n1 : (ext (bump m 19) [fK.dead]).next <= fU.next := by have := k1.n; rw [aK] at this ⊢; exact this
  by_cases ha : st.is l [33]
  ·skip
   have hn := is_lt ht o.p ha
   have hw : st.skip l [33] = st.next := by unfold RS.skip; rw [if_pos ha]
   rw [hw] at h1;have on : eA l st.next := (Gr.next hn).ok o
   rw [eT ha] at hX;simp +contextual -implicitDefEqProofs (maxSteps := 1000000) (maxDischargeDepth := 8) only [b1, ax, ab, implies_true, simprocAttr] at hX
   generalize hC : run U eJ _ _ = C at hX
   obtain ⟨m2, rfl, h2, k2⟩ := Jh ht on h1 hC
   clear hC;have b2 := (k2.k _ p0).trans b1
   have go := Gr.open hn (p := ((st.now l).pos : Int))
   have oo := go.ok o
   obtain ⟨o1, o2, o3⟩ := lE (st := st.next) (p := ((st.now l).pos : Int))
   simp only [gF, if_neg Tm, if_pos ha] at bM;by_cases hf : (st.next.open (st.now l).pos).fe = 0
   ·rw [if_pos hf] at bM
    rw [eT hf] at hX;have oP : 8 * (l.length - (st.next.open (st.now l).pos).pos) + gP.front.bi < k := by rw [o1]; simp only [gP.bi, RS.next] at *; omega
    obtain ⟨s2, r2, e, g, ar, _⟩ := go_ok ht k .front _ go.pl oP trivial
    obtain ⟨x, rfl⟩ := jJ ar
    simp only [e, Option.bind_some, bf, eO] at bM;obtain ⟨rfl, rfl⟩ := bM
    simp +contextual -implicitDefEqProofs (maxSteps := 1000000) (maxDischargeDepth := 8) only [ax, ab, implies_true, simprocAttr] at hX
    generalize hC : run U et _ _ = C at hX
    obtain ⟨m3, rfl, h3, k3⟩ := JH _ _ _ _ _ _ _ oo oP e h2 hC
    clear hC;have b3 := (k3.k _ p0).trans b2
    have U9 := g.ok oo
    simp +contextual -implicitDefEqProofs (maxSteps := 1000000) (maxDischargeDepth := 8) only [ax, ab, implies_true, simprocAttr] at hX
    generalize hC : run U dB _ _ = C at hX
    obtain ⟨m4, rfl, h4, k4⟩ := A7 ht U9 h3 hC
    clear hC;have b4 := (k4.k _ p0).trans b3
    have o4 : eA l s2.close := ((go.trans g).close (by have := g.d0; rw [o2] at this; simp only [RS.next] at this; exact this)).ok o
    have l4 : nb m.next 19 < m4.next := mn (show nb m.next 19 < (ext (bump m 19) [fK.dead]).next by rw [aK, bu, eV]; unfold nb; simp) (pN n1 (pN k2.n (pN k3.n k4.n)))
    simp +contextual -implicitDefEqProofs (maxSteps := 1000000) (maxDischargeDepth := 8) only [b4, l4, ax, ab, implies_true, simprocAttr] at hX
    generalize hC : run U aA _ _ = C at hX
    obtain ⟨m5, rfl, h5, k5⟩ := pL ht o4 (h4.Ir _) (kids := [x]) (by simp) (Cs (by rfl)) (fun c hc => by rw [cm hc]; exact nW (by simp)) (fun c hc => ⟨.inl hc, gq.of (by have := h4.mb hc; unfold nb; omega)⟩) (by simp) hC
    clear hC;simp +contextual -implicitDefEqProofs (maxSteps := 1000000) (maxDischargeDepth := 8) only [ax, ab, implies_true, simprocAttr] at hX
    subst hX;refine ⟨_, rfl, (h5.bO fun c hc => .inl hc), ?_⟩
    exact (k0.trans (((((k1.trans k2).trans k3).trans k4).trans (lO h4 _)).bO fun c hc => .inl hc)).trans (k5.bO fun c hc => .inl hc)
   ·rw [if_neg hf] at bM
    rw [eU hf] at hX;simp only [bf, eO] at bM;obtain ⟨rfl, rfl⟩ := bM
    simp +contextual -implicitDefEqProofs (maxSteps := 1000000) (maxDischargeDepth := 8) only [ax, ab, implies_true, simprocAttr] at hX
    subst hX;exact ⟨_, rfl, h2.bO fun c hc => .inl hc, k0.trans ((k1.trans k2).bO fun c hc => .inl hc)⟩
  ·have hw : st.skip l [33] = st := by unfold RS.skip; rw [if_neg ha]
   rw [hw] at h1;rw [eU ha] at hX;simp +contextual -implicitDefEqProofs (maxSteps := 1000000) (maxDischargeDepth := 8) only [ax, ab, implies_true, simprocAttr] at hX
   simp only [gF, if_neg Tm, if_neg ha] at bM;have oP : 8 * (l.length - st.pos) + gP.atom.bi < k := by simp only [gP.bi] at *; omega
   obtain ⟨s2, r2, e, g, ar, _⟩ := go_ok ht k .atom _ o.p oP trivial
   obtain ⟨x, rfl⟩ := jJ ar
   simp only [e, Option.bind_some, List.headD_cons] at bM;generalize hC : run U ja _ _ = C at hX
   obtain ⟨m2, rfl, h2, k2⟩ := LL _ _ _ _ _ _ _ o oP e h1 hC
   clear hC;simp +contextual -implicitDefEqProofs (maxSteps := 1000000) (maxDischargeDepth := 8) only [List.headD_cons, ax, ab, implies_true, simprocAttr] at hX
   generalize hC : run U kl _ _ = C at hX
   obtain ⟨m3, rfl, h3, k3⟩ := ih3 x _ _ _ _ _ _ _ (g.ok o) (by have := g.p; simp only [gP.bi] at *; omega) bM h2 hC
   clear hC;simp +contextual -implicitDefEqProofs (maxSteps := 1000000) (maxDischargeDepth := 8) only [ax, ab, implies_true, simprocAttr] at hX
   subst hX;exact ⟨_, rfl, h3.bO fun c hc => .inl hc, k0.trans (((k1.trans k2).trans k3).bO fun c hc => .inl hc)⟩
end
end
section
def Pv (P : Nat -> Prop) (v : EV) : Nat -> Prop := fun c => P c \/ ¬ gq v c
theorem Rd.grow {m : Mem} {b tg : Nat} {l : List Tok} {st : RS} {P : Nat -> Prop} {v : EV} {e n : Nat} {cs : List EV} (h : Rd m b tg l st (Pv P v)) (hP : ∀ c, P c -> gq v c) : Rd (grow m v e 1 cs) b tg l st (Pv P (.slice (nb m.next 0) 0 n none)) := by
 obtain ⟨tv, hv, xs, h⟩ := h
 have hn : m.next <= (Ev.grow m v e 1 cs).next := by rw [iJ]; exact bI
 have hold : ∀ c, c < m.next -> gq v c -> (Ev.grow m v e 1 cs).get c = m.get c := fun c hc ho => jq hc ho
 have hv : ∀ c, (¬ gq v c) -> UQ b tv hv c /\ ∀ x ∈ xs, gq x.kv c := fun c hc => ⟨(h.p c (.inr hc)).2, h.pk c (.inr hc)⟩
 have WS : ∀ c, (UQ b tv _ c -> (∀ x ∈ xs, gq x.kv c) -> False) -> gq v c := fun c q => Gb fun w => q (hv c w).1 (hv c w).2
 refine ⟨tv, _, xs, ?_, mn h.lt hn, ?_, ?_, h.a, h.x, h.hl, ?_, ?_, ?_⟩
 ·rw [hold b h.lt (WS b fun f _ => f.ne rfl)]; exact h.g
 ·exact h.t.gz hn fun c hc _ ho => hold c hc (WS c fun f _ => ho f.t)
 ·exact h.h.gz hn fun c hc _ ho => hold c hc (WS c fun f _ => ho f.h)
 ·exact fun x hx => ⟨(h.k x hx).o.gz hn fun c hc _ ho => hold c hc (WS c fun _ f => ho (f x hx)), (h.k x hx).f, (h.k x hx).nl, (h.k x hx).z⟩
 ·rintro c (hc | hc)
  ·exact ⟨mn (h.p c (.inl hc)).1 hn, (h.p c (.inl hc)).2⟩
  ·rw [cm hc]
   exact ⟨by rw [iJ]; unfold nb; simp, h.fresh (fy _)⟩
 ·rintro c (hc | hc)
  ·exact h.pk c (.inl hc)
  ·rw [cm hc]
   exact h.RL (fy _)
def IA (l : List Tok) (tg k : Nat) : Prop := ∀ (left : Int) (st : RS) (fr : Fr) (m : Mem) (b : Nat) (P : Nat -> Prop) (s1 : RS) (r : List Int) (X : Option Out), eA l st -> 8 * (l.length - st.pos) + (gP.lW left).bi < k -> gF l k (.lW left) st = some (s1, r) -> Rd m b tg l st P -> fr.get 0 = .ptr b 0 -> fr.get 1 = .int .i64 left -> fr.defers = [] -> exec U (.loop dl) fr m = X -> ∃ fr' m', X = some (.exit 0 fr' m') /\ fr'.get 1 = .int .i64 (r.headD 0) /\ fr'.defers = [] /\ Rd m' b tg l s1 P /\ Kp m m' P
section
variable {l : List Tok} {tg : Nat} (ht : bS l) {k : Nat}
include ht
theorem L8 (JH : rc l tg cx [.str [91], .str [93]] k (.inner [91] [93])) (LL : IA l tg k) : IA l tg (k + 1) := by
 intro left st fr m b P s1 r X o hk bM h h0 h1 hd hX
 rw [eB] at hX;generalize hL : exec U (.loop dl) = L at hX
 have hI := Vq (b := b) (tg := tg) (P := P) ht o
 by_cases ha : st.is l [91]
 ·have hT := jG (b := b) (tg := tg) (P := P) ht o
  simp +contextual -implicitDefEqProofs (maxSteps := 1000000) (maxDischargeDepth := 8) only [dl, h0, h1, hd, hI, hT, h, ha, gL, dg, ak, ax, ab, implies_true, simprocAttr] at hX
  simp only [gF, if_pos ha] at bM;have oP : 8 * (l.length - st.pos) + (gP.inner [91] [93]).bi < k := by simp only [gP.bi] at *; omega
  obtain ⟨s2, r2, e, g, ar, mo⟩ := go_ok ht k (.inner [91] [93]) st o.p oP trivial
  obtain ⟨fU, Sr⟩ := mo ha
  obtain ⟨x, rfl⟩ := jJ ar
  simp only [e, Option.bind_some] at bM;generalize hC : run U cx _ _ = C at hX
  obtain ⟨m1, rfl, r1, k1⟩ := JH _ _ _ _ _ _ _ o oP e (ak (ak h)) hC
  clear hC;have k1 := ((aR h).trans (aR (ak h))).trans k1
  have o2 := g.ok o
  have EK : eD 2 [EV.int .i64 0] = [EV.int .i64 0, EV.int .i64 0] := rfl
  simp +contextual -implicitDefEqProofs (maxSteps := 1000000) (maxDischargeDepth := 8) only [h0, h1, EK, cq, fJ, List.headD_cons, ax, ab, implies_true, simprocAttr] at hX
  generalize hC : run U aA _ _ = C at hX
  obtain ⟨m5, rfl, h5, k5⟩ := pL (P := P) (kids := [left, x]) ht o2 (r1.Ir _) (by simp) (Cs (by rfl)) (fun c hc => by rw [cm hc]; exact nW (by simp)) (fun c hc => ⟨.inl hc, gq.of (by have := r1.mb hc; unfold nb; omega)⟩) (by simp) hC
  clear hC;simp +contextual -implicitDefEqProofs (maxSteps := 1000000) (maxDischargeDepth := 8) only [ax, ab, implies_true, simprocAttr] at hX
  subst hL;have k5 := (k1.trans (lO r1 _)).trans k5
  have g1 := g.put (by omega) (d := nd 8 [left, x] 0 [] (st.now l).pos)
  obtain ⟨fr', m', rfl, f1, fd, h6, k6⟩ := LL _ _ _ _ _ _ _ _ _ (g1.ok o) (by
   have hq : (s2.put (nd 8 [left, x] 0 [] (st.now l).pos)).pos = s2.pos := (by unfold RS.put RS.nM; split <;> split <;> first | rfl | exact c6.1)
   have := o.p; have := g.pl
   simp only [gP.bi] at *; omega) bM h5 (by simp only [h0, aq, Nat.reduceBEq ]) (by simp only [aq, Nat.reduceBEq ]) (by simp only [hd, aq, Nat.reduceBEq ]) hX
  exact ⟨fr', m', rfl, f1, fd, h6, k5.trans k6⟩
 ·simp +contextual -implicitDefEqProofs (maxSteps := 1000000) (maxDischargeDepth := 8) only [dl, h0, h1, hd, hI, h, ha, fT, dg, ak, ax, ab, implies_true, simprocAttr] at hX
  simp only [gF, if_neg ha, bf, eO] at bM;obtain ⟨rfl, rfl⟩ := bM
  subst hX;exact ⟨_, _, rfl, by simp only [h1, List.headD_cons, aq, Nat.reduceBEq ], by simp only [hd, aq, Nat.reduceBEq ], ak h, aR h⟩
omit ht in
theorem L7 (h : IA l tg k) (left : Int) : rc l tg kl [.int .i64 left] k (.lW left) := by
 intro st m b P s1 r X o hk bM hr hX
 rw [bY (by simp [dI])] at hX
 generalize hL : exec (UT B K) (aE.loop dl) = L
 simp +contextual -implicitDefEqProofs (maxSteps := 1000000) (maxDischargeDepth := 8) only [dI, ax, ab, implies_true, simprocAttr] at hX
 subst hL;generalize hC : exec _ (.loop dl) _ _ = C at hX
 obtain ⟨fr', m', rfl, f1, fd, h6, k6⟩ := h _ _ _ _ _ _ _ _ _ o hk bM hr (by simp only [aq, Nat.reduceBEq ]) (by simp only [aq, Nat.reduceBEq ]) (by simp only [aq, Nat.reduceBEq ]) hC
 simp +contextual -implicitDefEqProofs (maxSteps := 1000000) (maxDischargeDepth := 8) only [f1, fd, ax, ab, implies_true, simprocAttr] at hX
 subst hX;exact ⟨_, rfl, h6, k6⟩
end
end
section
def IB (l : List Tok) (tg k : Nat) : Prop := ∀ (out : List Int) (v : EV) (st : RS) (fr : Fr) (m : Mem) (b n0 : Nat) (P : Nat -> Prop) (s1 : RS) (r : List Int) (X : Option Out), eA l st -> 8 * (l.length - st.pos) + (gP.lm out).bi < k -> out.length <= 8 -> st.fe = 0 -> gF l k (.lm out) st = some (s1, r) -> Rd m b tg l st (Pv P v) -> (∀ c, P c -> c < n0) -> n0 <= m.next -> jF m v (is out) out.length 1 n0 -> fr.get 0 = .ptr b 0 -> fr.get 4 = v -> fr.get 5 = .bool true -> fr.defers = [] -> exec U (.loop aJ) fr m = X -> ∃ fr' m' v', X = some (.exit 0 fr' m') /\ fr'.get 0 = .ptr b 0 /\ fr'.get 4 = v' /\ fr'.defers = [] /\ jF m' v' (is r) r.length 1 n0 /\ Rd m' b tg l s1 (Pv P v') /\ Kp m m' P /\ r ≠ []
theorem jF.kp {m m' : Mem} {v : EV} {cs : List EV} {n esz lo : Nat} {P : Nat -> Prop} (h : jF m v cs n esz lo) (k : Kp m m' P) (hp : ∀ c, ¬ gq v c -> P c) : jF m' v cs n esz lo := h.gz k.n fun c _ _ ho => k.k c (hp c ho)
theorem CI {r : List Int} {x : Int} : is (r ++ [x]) = is r ++ [.int .i64 x] := by simp [is]
section
variable {l : List Tok} {tg : Nat} (ht : bS l) {k : Nat}
include ht
theorem PJ (JH : rc l tg aV [] k .expr) (LL : IB l tg k) : IB l tg (k + 1) := by
 intro out v st fr m b n0 P s1 r X o hk ho8 ji bM h hP uw eF h0 h4 h5 hd hX
 rw [eB] at hX;generalize hL : exec U (.loop aJ) = L at hX
 have hF := JW (b := b) (tg := tg) (l := l) (st := st) (P := Pv P v)
 have hlen : ∀ M, Es v M = some (.val (.int .i64 (out.length : Int)) M) := fun M => by
  rcases eF.is with ⟨rfl, q, _⟩ | ⟨kb, cap, t, rfl, _⟩
  ·rw [q]; rfl
  ·rfl
 have h8 : ((out.length : Int) = 8) = (out.length = 8) := propext (by omega)
 by_cases Zn : out.length = 8
 ·have hT := jG (b := b) (tg := tg) (P := Pv P v) ht o
  simp +contextual -implicitDefEqProofs (maxSteps := 1000000) (maxDischargeDepth := 8) only [aJ, h0, h4, h5, hd, hF, hT, h, ji, hlen, h8, Zn, gL, dg, ak, ax, ab, implies_true, simprocAttr] at hX
  generalize hC : run U dU _ _ = C at hX
  obtain ⟨m9, rfl, RD, k9⟩ := J0 (ak (ak h)) hC
  clear hC;have KP := ((aR h).trans (aR (ak h))).trans k9
  have oo : eA l (st.fail 3 (st.now l).pos) := (Gr.fail o.p (by decide)).ok o
  have p0 : (st.fail 3 (st.now l).pos).pos = st.pos := c6.1
  have f0 : (st.fail 3 (st.now l).pos).fe = 0 -> out.length < 8 := fun q => absurd q (ej (by decide))
  simp only [gF, if_pos Zn] at bM;generalize st.fail 3 (st.now l).pos = S0 at *
  simp +contextual -implicitDefEqProofs (maxSteps := 1000000) (maxDischargeDepth := 8) only [h0, h4, ax, ab, implies_true, simprocAttr] at hX
  obtain ⟨s2, r2, e, g, ar, _⟩ := go_ok ht k .expr S0 oo.p (by rw [p0]; simp only [gP.bi] at *; omega) trivial
  obtain ⟨x, rfl⟩ := jJ ar
  simp only [e, Option.bind_some] at bM;generalize hC : run U aV _ _ = C at hX
  obtain ⟨m1, rfl, h1, k1⟩ := JH _ _ _ _ _ _ _ oo (by rw [p0]; simp only [gP.bi] at *; omega) e RD hC
  clear hC;have k1 := KP.trans k1
  have o2 := g.ok oo
  have ED := eF.kp k1 fun c hc => .inr hc
  obtain ⟨ha, jn⟩ := gj (e := bC) (ED.ext [.cells [.int .i64 x] 1 bC false]) (by rw [aK]; have := k1.n; unfold nb; omega) (xD rfl) rfl (by decide) (by unfold room; omega)
  have Rm := Rd.grow (e := bC) (n := out.length + 1) (cs := is out ++ [.int .i64 x]) (dg (ys := [.cells [.int .i64 x] 1 bC false]) h1) fun c hc => eF.lt (.inr (hP c hc))
  have FO : Kp (ext m1 [.cells [.int .i64 x] 1 bC false]) (grow (ext m1 [.cells [.int .i64 x] 1 bC false]) v 3 1 (is out ++ [.int .i64 x])) P := ⟨by rw [iJ]; exact bI, fun c hc => jq ((dg (ys := [.cells [.int .i64 x] 1 bC false]) h1).mb (.inl hc)) (eF.lt (.inr (hP c hc)))⟩
  have k2 := ((k1.trans (LB h1)).bO fun c hc => .inl hc).trans FO
  generalize hG : grow _ v bC 1 _ = M2 at ha jn Rm FO k2
  clear hG FO;rw [aK, eV] at ha jn Rm;simp +contextual -implicitDefEqProofs (maxSteps := 1000000) (maxDischargeDepth := 8) only [h0, ha, List.headD_cons, ax, ab, implies_true, simprocAttr] at hX
  generalize hC : run U aU _ _ = C at hX
  obtain ⟨m3, rfl, h3, k3⟩ := oY ht o2 Rm hC
  clear hC;have mf : jF m3 (.slice (nb m1.next ([fK.cells [EV.int .i64 x] 1 bC false].length + 0)) 0 (out.length + 1) none) (is (out ++ [x])) (out ++ [x]).length 1 n0 := by rw [CI, jz]; exact jn.kp k3 fun c hc => .inr hc
  have k3 := k2.trans (k3.bO fun c hc => .inl hc)
  by_cases hc : s2.is l [44]
  ·rw [if_pos hc] at bM
   have hn := is_lt ht o2.p hc
   have hw : s2.skip l [44] = s2.next := by unfold RS.skip; rw [if_pos hc]
   rw [hw] at h3;rw [eT hc] at hX;simp +contextual -implicitDefEqProofs (maxSteps := 1000000) (maxDischargeDepth := 8) only [ax, ab, implies_true, simprocAttr] at hX
   subst hL;have VH := f0 (g.f hc.1)
   obtain ⟨fr', m', v', rfl, q0, q4, qd, qo, qr, qk, qz⟩ := LL (out ++ [x]) _ _ _ _ _ n0 P _ _ _ ((Gr.next hn).ok o2) (by have := g.p; simp only [gP.bi, RS.next] at *; omega) (by rw [jz]; exact VH) hc.1 bM h3 hP (pN uw k3.n) mf (by simp only [h0, aq, Nat.reduceBEq ]) (by simp only [aq, Nat.reduceBEq ]; rfl) (by simp only [aq, Nat.reduceBEq ]) (by simp only [hd, aq, Nat.reduceBEq ]) hX
   exact ⟨fr', m', v', rfl, q0, q4, qd, qo, qr, k3.trans qk, qz⟩
  ·rw [if_neg hc] at bM
   simp only [bf, eO] at bM;obtain ⟨rfl, rfl⟩ := bM
   have hw : s2.skip l [44] = s2 := by unfold RS.skip; rw [if_neg hc]
   rw [hw] at h3;rw [eU hc] at hX;simp +contextual -implicitDefEqProofs (maxSteps := 1000000) (maxDischargeDepth := 8) only [ax, ab, implies_true, simprocAttr] at hX
   subst hL;rw [eB] at hX;generalize exec U (.loop aJ) = L at hX
   simp +contextual -implicitDefEqProofs (maxSteps := 1000000) (maxDischargeDepth := 8) only [aJ, h0, hd, ax, ab, implies_true, simprocAttr] at hX
   subst hX;exact ⟨_, _, _, rfl, by simp only [h0, aq, Nat.reduceBEq ], by simp only [aq, Nat.reduceBEq ]; rfl, by simp only [hd, aq, Nat.reduceBEq ], mf, h3, k3, by simp⟩
 ·simp +contextual -implicitDefEqProofs (maxSteps := 1000000) (maxDischargeDepth := 8) only [aJ, h0, h4, h5, hd, hF, h, ji, hlen, h8, Zn, gL, fT, dg, ak, ax, ab, implies_true, simprocAttr] at hX
  have RD := ak (k := 0) h
  have KP := aR (k := 0) h
  have oo := o
  have p0 : st.pos = st.pos := rfl
  have f0 : st.fe = 0 -> out.length < 8 := fun _ => by omega
  simp only [gF, if_neg Zn] at bM;obtain ⟨s2, r2, e, g, ar, _⟩ := go_ok ht k .expr st oo.p (by rw [p0]; simp only [gP.bi] at *; omega) trivial
  obtain ⟨x, rfl⟩ := jJ ar
  simp only [e, Option.bind_some] at bM;generalize hC : run U aV _ _ = C at hX
  obtain ⟨m1, rfl, h1, k1⟩ := JH _ _ _ _ _ _ _ oo (by rw [p0]; simp only [gP.bi] at *; omega) e RD hC
  clear hC;have k1 := KP.trans k1
  have o2 := g.ok oo
  have ED := eF.kp k1 fun c hc => .inr hc
  obtain ⟨ha, jn⟩ := gj (e := bC) (ED.ext [.cells [.int .i64 x] 1 bC false]) (by rw [aK]; have := k1.n; unfold nb; omega) (xD rfl) rfl (by decide) (by unfold room; omega)
  have Rm := Rd.grow (e := bC) (n := out.length + 1) (cs := is out ++ [.int .i64 x]) (dg (ys := [.cells [.int .i64 x] 1 bC false]) h1) fun c hc => eF.lt (.inr (hP c hc))
  have FO : Kp (ext m1 [.cells [.int .i64 x] 1 bC false]) (grow (ext m1 [.cells [.int .i64 x] 1 bC false]) v 3 1 (is out ++ [.int .i64 x])) P := ⟨by rw [iJ]; exact bI, fun c hc => jq ((dg (ys := [.cells [.int .i64 x] 1 bC false]) h1).mb (.inl hc)) (eF.lt (.inr (hP c hc)))⟩
  have k2 := ((k1.trans (LB h1)).bO fun c hc => .inl hc).trans FO
  generalize hG : grow _ v bC 1 _ = M2 at ha jn Rm FO k2
  clear hG FO;rw [aK, eV] at ha jn Rm;simp +contextual -implicitDefEqProofs (maxSteps := 1000000) (maxDischargeDepth := 8) only [h0, ha, List.headD_cons, ax, ab, implies_true, simprocAttr] at hX
  generalize hC : run U aU _ _ = C at hX
  obtain ⟨m3, rfl, h3, k3⟩ := oY ht o2 Rm hC
  clear hC;have mf : jF m3 (.slice (nb m1.next ([fK.cells [EV.int .i64 x] 1 bC false].length + 0)) 0 (out.length + 1) none) (is (out ++ [x])) (out ++ [x]).length 1 n0 := by rw [CI, jz]; exact jn.kp k3 fun c hc => .inr hc
  have k3 := k2.trans (k3.bO fun c hc => .inl hc)
  by_cases hc : s2.is l [44]
  ·rw [if_pos hc] at bM
   have hn := is_lt ht o2.p hc
   have hw : s2.skip l [44] = s2.next := by unfold RS.skip; rw [if_pos hc]
   rw [hw] at h3;rw [eT hc] at hX;simp +contextual -implicitDefEqProofs (maxSteps := 1000000) (maxDischargeDepth := 8) only [ax, ab, implies_true, simprocAttr] at hX
   subst hL;have VH := f0 (g.f hc.1)
   obtain ⟨fr', m', v', rfl, q0, q4, qd, qo, qr, qk, qz⟩ := LL (out ++ [x]) _ _ _ _ _ n0 P _ _ _ ((Gr.next hn).ok o2) (by have := g.p; simp only [gP.bi, RS.next] at *; omega) (by rw [jz]; exact VH) hc.1 bM h3 hP (pN uw k3.n) mf (by simp only [h0, aq, Nat.reduceBEq ]) (by simp only [aq, Nat.reduceBEq ]; rfl) (by simp only [aq, Nat.reduceBEq ]) (by simp only [hd, aq, Nat.reduceBEq ]) hX
   exact ⟨fr', m', v', rfl, q0, q4, qd, qo, qr, k3.trans qk, qz⟩
  ·rw [if_neg hc] at bM
   simp only [bf, eO] at bM;obtain ⟨rfl, rfl⟩ := bM
   have hw : s2.skip l [44] = s2 := by unfold RS.skip; rw [if_neg hc]
   rw [hw] at h3;rw [eU hc] at hX;simp +contextual -implicitDefEqProofs (maxSteps := 1000000) (maxDischargeDepth := 8) only [ax, ab, implies_true, simprocAttr] at hX
   subst hL;rw [eB] at hX;generalize exec U (.loop aJ) = L at hX
   simp +contextual -implicitDefEqProofs (maxSteps := 1000000) (maxDischargeDepth := 8) only [aJ, h0, hd, ax, ab, implies_true, simprocAttr] at hX
   subst hX;exact ⟨_, _, _, rfl, by simp only [h0, aq, Nat.reduceBEq ], by simp only [aq, Nat.reduceBEq ]; rfl, by simp only [hd, aq, Nat.reduceBEq ], mf, h3, k3, by simp⟩
def N8 (l : List Tok) (tg k : Nat) : Prop := ∀ (st : RS) (m : Mem) (b : Nat) (P : Nat -> Prop) (s1 : RS) (r : List Int) (X : Option Fin), eA l st -> 8 * (l.length - st.pos) + gP.args.bi < k -> gF l k .args st = some (s1, r) -> Rd m b tg l st P -> run U lg [.ptr b 0] m = X -> ∃ m' v, X = some (.ret v m') /\ jF m' v (is r) r.length 1 m.next /\ Rd m' b tg l s1 (Pv P v) /\ Kp m m' P /\ (r = [] -> v = .ae)
omit ht in
theorem Rd.pv {m : Mem} {b : Nat} {st : RS} {P : Nat -> Prop} (h : Rd m b tg l st P) : Rd m b tg l st (Pv P .ae) := h.bO fun c hc => hc.elim id fun q => absurd gq.nil q
theorem PI (ih : IB l tg k) : N8 l tg (k + 1) := by
 intro st m b P s1 r X o hk bM h hX
 rw [bY (by simp [cw])] at hX
 generalize hL : exec (UT B K) (aE.loop aJ) = L at hX
 have hT := jG (b := b) (tg := tg) (P := P) ht o
 simp +contextual -implicitDefEqProofs (maxSteps := 1000000) (maxDischargeDepth := 8) only [cw, hT, h, dg, ak, ax, ab, implies_true, simprocAttr] at hX
 generalize hC : run U aP _ _ = C at hX
 obtain ⟨m1, rfl, h1, k1⟩ := nV ht o (ak h) hC
 clear hC;have k1 : Kp m m1 P := (aR h).trans k1
 by_cases ha : st.is l [40]
 ·have hn := is_lt ht o.p ha
  have hw : st.want l [40] = st.next := by unfold RS.want; rw [if_pos ha]
  rw [hw] at h1;have on : eA l st.next := (Gr.next hn).ok o
  rw [eT ha] at hX;simp +contextual -implicitDefEqProofs (maxSteps := 1000000) (maxDischargeDepth := 8) only [ax, ab, implies_true, simprocAttr] at hX
  generalize hC : run U eJ _ _ = C at hX
  obtain ⟨m2, rfl, h2, k2⟩ := Jh ht on h1 hC
  clear hC;have k2 := k1.trans k2
  have go := Gr.open hn (p := ((st.now l).pos : Int))
  have oo := go.ok o
  obtain ⟨o1, o2, o3⟩ := lE (st := st.next) (p := ((st.now l).pos : Int))
  simp only [gF, if_pos ha] at bM;by_cases hf : (st.next.open (st.now l).pos).fe = 0
  ·rw [if_pos hf] at bM
   rw [eT hf] at hX;have oP : 8 * (l.length - (st.next.open (st.now l).pos).pos) + (gP.lm []).bi < k := by rw [o1]; simp only [gP.bi, RS.next] at *; omega
   generalize st.next.open (st.now l).pos = so at *
   have hI := Vq (b := b) (tg := tg) (P := P) ht oo
   by_cases hb : so.is l [41]
   ·rw [if_pos hb] at bM
    simp only [Option.bind_some, bf, eO] at bM;obtain ⟨rfl, rfl⟩ := bM
    simp +contextual -implicitDefEqProofs (maxSteps := 1000000) (maxDischargeDepth := 8) only [hI, h2, hb, gL, ax, ab, implies_true, simprocAttr] at hX
    subst hL;generalize hC : exec _ (.loop aJ) _ _ = C at hX
    rw [eB] at hC;generalize exec U (.loop aJ) = L at hC
    simp +contextual -implicitDefEqProofs (maxSteps := 1000000) (maxDischargeDepth := 8) only [aJ, ax, ab, implies_true, simprocAttr] at hC
    subst hC;simp +contextual -implicitDefEqProofs (maxSteps := 1000000) (maxDischargeDepth := 8) only [ax, ab, implies_true, simprocAttr] at hX
    generalize hC : run U aP _ _ = C at hX
    obtain ⟨m4, rfl, h4, k4⟩ := nV ht oo (ak h2) hC
    clear hC;have o4 := (Gr.want ht oo.p (s := [41])).ok oo
    have k4 := (k2.trans (aR h2)).trans k4
    simp +contextual -implicitDefEqProofs (maxSteps := 1000000) (maxDischargeDepth := 8) only [ax, ab, implies_true, simprocAttr] at hX
    generalize hC : run U dB _ _ = C at hX
    obtain ⟨m5, rfl, h5, k5⟩ := A7 ht o4 h4 hC
    clear hC;simp +contextual -implicitDefEqProofs (maxSteps := 1000000) (maxDischargeDepth := 8) only [ax, ab, implies_true, simprocAttr] at hX
    subst hX;exact ⟨_, _, rfl, ⟨.inl ⟨rfl, rfl, rfl⟩, rfl⟩, h5.pv, k4.trans k5, fun _ => rfl⟩
   ·rw [if_neg hb] at bM
    obtain ⟨s2, r2, e, g, a, _⟩ := go_ok ht k (.lm []) so go.pl oP (ml _)
    simp only [e, Option.bind_some, bf, eO] at bM;obtain ⟨rfl, rfl⟩ := bM
    simp +contextual -implicitDefEqProofs (maxSteps := 1000000) (maxDischargeDepth := 8) only [hI, h2, hb, fT, ax, ab, implies_true, simprocAttr] at hX
    subst hL;generalize hC : exec _ (.loop aJ) _ _ = C at hX
    obtain ⟨fr', m3, v, rfl, q0, q4, qd, qo, qr, qk, qz⟩ := ih [] .ae so _ _ b m.next P _ _ _ oo oP (ml _) hf e (ak h2).pv (fun c hc => h.mb hc) (by rw [bu]; exact pN k2.n bI) ⟨.inl ⟨rfl, rfl, rfl⟩, rfl⟩ (by simp only [aq, Nat.reduceBEq ]) (by simp only [aq, Nat.reduceBEq ]) (by simp only [aq, Nat.reduceBEq ]) (by simp only [aq, Nat.reduceBEq ]) hC
    clear hC;have k3 := (k2.trans (aR h2)).trans qk
    have U9 := g.ok oo
    simp +contextual -implicitDefEqProofs (maxSteps := 1000000) (maxDischargeDepth := 8) only [q0, q4, qd, ax, ab, implies_true, simprocAttr] at hX
    generalize hC : run U aP _ _ = C at hX
    obtain ⟨m4, rfl, h4, k4⟩ := nV ht U9 qr hC
    clear hC;have o4 := (Gr.want ht U9.p (s := [41])).ok U9
    have w4 := qo.kp k4 fun c hc => .inr hc
    have k4 := k3.trans (k4.bO fun c hc => .inl hc)
    simp +contextual -implicitDefEqProofs (maxSteps := 1000000) (maxDischargeDepth := 8) only [q0, q4, qd, ax, ab, implies_true, simprocAttr] at hX
    generalize hC : run U dB _ _ = C at hX
    obtain ⟨m5, rfl, h5, k5⟩ := A7 ht o4 h4 hC
    clear hC;have w5 := w4.kp k5 fun c hc => .inr hc
    simp +contextual -implicitDefEqProofs (maxSteps := 1000000) (maxDischargeDepth := 8) only [q0, q4, qd, ax, ab, implies_true, simprocAttr] at hX
    subst hX;exact ⟨_, _, rfl, w5, h5, k4.trans (k5.bO fun c hc => .inl hc), fun q => absurd q qz⟩
  ·rw [if_neg hf] at bM
   rw [eU hf] at hX;simp only [bf, eO] at bM;obtain ⟨rfl, rfl⟩ := bM
   simp +contextual -implicitDefEqProofs (maxSteps := 1000000) (maxDischargeDepth := 8) only [ax, ab, implies_true, simprocAttr] at hX
   subst hX;exact ⟨_, _, rfl, ⟨.inl ⟨rfl, rfl, rfl⟩, rfl⟩, h2.pv, k2, fun _ => rfl⟩
 ·have hw : st.want l [40] = st.fail 8 (st.now l).pos := by unfold RS.want; rw [if_neg ha]
  rw [hw] at h1;simp only [gF, if_neg ha, bf, eO] at bM;obtain ⟨rfl, rfl⟩ := bM
  rw [eU ha] at hX;simp +contextual -implicitDefEqProofs (maxSteps := 1000000) (maxDischargeDepth := 8) only [ax, ab, implies_true, simprocAttr] at hX
  subst hX;exact ⟨_, _, rfl, ⟨.inl ⟨rfl, rfl, rfl⟩, rfl⟩, h1.pv, k1, fun _ => rfl⟩
theorem GR (ih : N8 l tg k) {s : bK} {p : Int} {st : RS} {m : Mem} {b : Nat} {P : Nat -> Prop} {s1 : RS} {r : List Int} {X : Option Fin} (o : eA l st) (hk : 8 * (l.length - st.pos) + gP.args.bi < k) (bM : gF l k .args st = some (s1, r)) (h : Rd m b tg l st P) (hX : run U jb [.ptr b 0, .str s, .int .i64 p] m = X) : ∃ m', X = some (.ret (.int .i64 (s1.fV (nd 11 r 0 s p))) m') /\ Rd m' b tg l (s1.put (nd 11 r 0 s p)) P /\ Kp m m' P := by
 obtain ⟨s2, r2, e, g, a, _⟩ := go_ok ht k .args st o.p hk trivial
 rw [bM] at e;obtain ⟨rfl, rfl⟩ := eO _ _ _ _ ▸ pH e
 rw [bY (by simp [eg])] at hX
 simp +contextual -implicitDefEqProofs (maxSteps := 1000000) (maxDischargeDepth := 8) only [eg, ax, ab, implies_true, simprocAttr] at hX
 generalize hC : run U lg _ _ = C at hX
 obtain ⟨m1, v, rfl, qo, q1, k1, qz⟩ := ih _ _ _ _ _ _ _ o hk bM h hC
 clear hC;have WN : v.cells = some [v] := by rcases qo.is with ⟨rfl, _⟩ | ⟨_, _, _, rfl, _⟩ <;> rfl
 simp +contextual -implicitDefEqProofs (maxSteps := 1000000) (maxDischargeDepth := 8) only [WN, ax, ab, implies_true, simprocAttr] at hX
 generalize hC : run U aA _ _ = C at hX
 obtain ⟨m5, rfl, h5, k5⟩ := pL (P := P) (kids := r) ht (g.ok o) q1 (by have : r.length <= 9 := a; omega) qo.Vj (fun c hc => .inr hc) (fun c hc => ⟨.inl hc, qo.lt (.inr (h.mb hc))⟩) qz hC
 clear hC;simp +contextual -implicitDefEqProofs (maxSteps := 1000000) (maxDischargeDepth := 8) only [ax, ab, implies_true, simprocAttr] at hX
 subst hX;exact ⟨_, rfl, h5, k1.trans k5⟩
end
end
end Go.Proofs.YtdiccmapankckaaDoor.Ev
