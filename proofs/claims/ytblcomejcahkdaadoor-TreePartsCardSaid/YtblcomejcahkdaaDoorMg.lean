/- WTree2, WTree3, PUp, WTree4, WIx0, WIxs, WTr1, WTr2, WTr3, WTr3b, PTr1, WTr4, PTr2, WTr5, EvLive, EvCard, WTw, PTx. -/
import Derived.LaidMore
import Derived.Lib.LaidTab
import Derived.Lib.ItoaNum
import Derived.Lib.Join
import Derived.Test.YtblcomejcahkdaaDoorMf
set_option linter.unusedSimpArgs false
set_option linter.unusedVariables false
set_option linter.unusedSectionVars false
set_option linter.defProp false
set_option maxRecDepth 20000
set_option maxHeartbeats 8000000
namespace Go.Proofs.YtblcomejcahkdaaDoor.Ev
open Go
section
def js (l : List Nd) (k : List Int) : Prop := ∀ x ∈ k, 0 <= x /\ x < (l.length : Int)
theorem CY {l : List Nd} {k : List Int} {n t1 t2 : Nat} {nl1 nl2 : Bool} (hv : js l k) (hk : n <= k.length) (hl : k.length < 1000000000) {m0 : Mem} {fr : Fr} (h0 : fr.get 0 = row nl1 t1 5 (dX l)) (h1 : fr.get 1 = row nl2 t2 1 (ints k)) (h2 : fr.get 2 = .int .i64 (n : Int)) (h7 : fr.get 7 = .int .i64 0) (hd : fr.defers = []) :
  ∃ o, exec U (.loop dT) fr m0 = some o /\ ((¬ (∀ x ∈ k.take n, lG (kindOf l x)) /\ ∃ fr', o = .ret fr' m0 /\ fr'.get 6 = .bool false /\ fr'.defers = []) \/ ((∀ x ∈ k.take n, lG (kindOf l x)) /\ ∃ fr', o = .exit 0 fr' m0 /\ fr'.defers = [])) := by
 refine dF (σ := Nat) (fun i fr m => m = m0 /\ i <= n /\ (∀ x ∈ k.take i, lG (kindOf l x)) /\ fr.get 0 = row nl1 t1 5 (dX l) /\ fr.get 1 = row nl2 t2 1 (ints k) /\ fr.get 2 = .int .i64 (n : Int) /\ fr.get 7 = .int .i64 (i : Int) /\ fr.defers = []) (fun i => n - i) _ ?_ 0 fr m0 ⟨rfl, pF _, by simp, h0, h1, h2, h7, hd⟩
 rintro i fr m ⟨rfl, hi, hn, h0, h1, h2, h7, hd⟩
 generalize hX : exec U dT fr m = X
 by_cases aP : i < n
 ·have hc : (i : Int) < (n : Int) := by omega
  have pI : i < k.length := by omega
  have hg : k[i]? = some k[i] := ij pI
  obtain ⟨x0, x1⟩ := hv k[i] (oU pI)
  obtain ⟨d, hd1, hd2⟩ := mG x0 x1
  have iO := mL (k := .i64) x0 x1
  have ji := bL (i := i) (by omega)
  have ZV : ∀ q : Prop, (¬ q) = (¬ q) := fun _ => rfl
  simp +contextual -implicitDefEqProofs (maxSteps := 1000000) (maxDischargeDepth := 8) only [dT, h0, h1, h2, h7, hd, hc, hg, pI, ji, aA, cZ, ao, bt, aK, iO, hd1, Nd.cells, NI, aO, ag, implies_true, simprocAttr] at hX
  subst hX;refine l6 (fun he => e6 (Or.inl ⟨fun q => he ?_, _, rfl, by simp only [ai, Nat.reduceBEq ], by simp only [hd, ai, Nat.reduceBEq ]⟩)) (fun he => cB (i + 1) (by omega) ⟨rfl, aP, ?_, by simp only [h0, ai, Nat.reduceBEq ], by simp only [h1, ai, Nat.reduceBEq ], by simp only [h2, ai, Nat.reduceBEq ], by simp only [ai, Nat.reduceBEq ], by simp only [hd, ai, Nat.reduceBEq ]⟩)
  ·rw [<- hd2]; exact q _ (List.mem_take_iff_getElem.2 ⟨i, by omega, rfl⟩)
  ·intro x hx
   rw [List.take_succ_eq_append_getElem pI, nY] at hx;rcases hx with hx | hx
   ·exact hn x hx
   ·rw [xu.1 hx, hd2]; exact Classical.not_not.1 he
 ·have hc : ¬ ((i : Int) < (n : Int)) := by omega
  obtain rfl : i = n := by omega
  simp +contextual -implicitDefEqProofs (maxSteps := 1000000) (maxDischargeDepth := 8) only [dT, h0, h1, h2, h7, hd, hc, aO, ag, implies_true, simprocAttr] at hX
  subst hX;exact cN (Or.inr ⟨hn, _, rfl, by simp only [hd, ai, Nat.reduceBEq ]⟩)
theorem uD {l : List Nd} {k : List Int} {n t1 t2 : Nat} {nl1 nl2 : Bool} (hv : js l k) (hl : k.length < 1000000000) (hn : n < 1000000000) : aM B K lC [row nl1 t1 5 (dX l), row nl2 t2 1 (ints k), .int .i64 (n : Int)] = some (bo (ja l k n)) := by
 rw [bR (by simp [eA])]
 generalize hL : exec (UT B K) (au.loop dT) = L
 by_cases hk : n <= k.length
 ·have hc : ¬ ((k.length : Int) < (n : Int)) := by omega
  simp +contextual -implicitDefEqProofs (maxSteps := 1000000) (maxDischargeDepth := 8) only [eA, hc, ao, aO, ag, implies_true, simprocAttr]
  subst hL;generalize hX : exec _ (.loop dT) _ _ = X
  obtain ⟨o, rfl, h⟩ := cw hX (CY (l := l) (k := k) (n := n) (t1 := t1) (t2 := t2) (nl1 := nl1) (nl2 := nl2) hv hk hl (by simp only [ai, Nat.reduceBEq ]) (by simp only [ai, Nat.reduceBEq ]) (by simp only [ai, Nat.reduceBEq ]) (by simp only [ai, Nat.reduceBEq ]) (by simp only [ai, Nat.reduceBEq ]))
  rcases h with ⟨h, fr', rfl, h2, hd⟩ | ⟨h, fr', rfl, hd⟩
  ·simp +contextual -implicitDefEqProofs (maxSteps := 1000000) (maxDischargeDepth := 8) only [h2, hd, aO, ag, implies_true, simprocAttr]
   exact congrArg some (gS fun q => h q.2)
  ·simp +contextual -implicitDefEqProofs (maxSteps := 1000000) (maxDischargeDepth := 8) only [hd, aO, ag, implies_true, simprocAttr]
   exact congrArg some (y2 ⟨hk, h⟩)
 ·have hc : (k.length : Int) < (n : Int) := by omega
  simp +contextual -implicitDefEqProofs (maxSteps := 1000000) (maxDischargeDepth := 8) only [eA, hc, ao, aO, ag, implies_true, simprocAttr]
  exact congrArg some (gS fun q => hk q.1)
theorem KZ {l : List Nd} {k : List Int} {t1 t2 : Nat} {nl1 nl2 : Bool} {kd : Int} {v3 : EV} (hv : js l k) (hl : k.length < 1000000000) {m0 : Mem} {fr : Fr} (h0 : fr.get 0 = row nl1 t1 5 (dX l)) (h1 : fr.get 1 = row nl2 t2 1 (ints k)) (h2 : fr.get 2 = .int .i64 kd) (h3 : fr.get 3 = v3) (h9 : fr.get 9 = .int .i64 0) (hd : fr.defers = []) :
  ∃ o, exec U (.loop fF) fr m0 = some o /\ ((¬ (∀ x ∈ k, kindOf l x = kd) /\ ∃ fr', o = .ret fr' m0 /\ fr'.get 8 = .bool false /\ fr'.defers = []) \/ ((∀ x ∈ k, kindOf l x = kd) /\ ∃ fr', o = .exit 0 fr' m0 /\ fr'.get 1 = row nl2 t2 1 (ints k) /\ fr'.get 3 = v3 /\ fr'.defers = [])) := by
 refine dF (σ := Nat) (fun i fr m => m = m0 /\ i <= k.length /\ (∀ x ∈ k.take i, kindOf l x = kd) /\ fr.get 0 = row nl1 t1 5 (dX l) /\ fr.get 1 = row nl2 t2 1 (ints k) /\ fr.get 2 = .int .i64 kd /\ fr.get 3 = v3 /\ fr.get 9 = .int .i64 (i : Int) /\ fr.defers = []) (fun i => k.length - i) _ ?_ 0 fr m0 ⟨rfl, pF _, by simp, h0, h1, h2, h3, h9, hd⟩
 rintro i fr m ⟨rfl, hi, hn, h0, h1, h2, h3, h9, hd⟩
 generalize hX : exec U fF fr m = X
 by_cases pI : i < k.length
 ·have hc : (i : Int) < (k.length : Int) := by omega
  have hg : k[i]? = some k[i] := ij pI
  obtain ⟨x0, x1⟩ := hv k[i] (oU pI)
  obtain ⟨d, hd1, hd2⟩ := mG x0 x1
  have iO := mL (k := .i64) x0 x1
  have ji := bL (i := i) (by omega)
  simp +contextual -implicitDefEqProofs (maxSteps := 1000000) (maxDischargeDepth := 8) only [fF, h0, h1, h2, h3, h9, hd, hc, hg, pI, ji, aA, cZ, ao, bt, aK, iO, hd1, Nd.cells, aO, ag, implies_true, simprocAttr] at hX
  subst hX;refine l6 (fun he => e6 (Or.inl ⟨fun q => he ?_, _, rfl, by simp only [ai, Nat.reduceBEq ], by simp only [hd, ai, Nat.reduceBEq ]⟩)) (fun he => cB (i + 1) (by omega) ⟨rfl, pI, ?_, by simp only [h0, ai, Nat.reduceBEq ], by simp only [h1, ai, Nat.reduceBEq ], by simp only [h2, ai, Nat.reduceBEq ], by simp only [h3, ai, Nat.reduceBEq ], by simp only [ai, Nat.reduceBEq ], by simp only [hd, ai, Nat.reduceBEq ]⟩)
  ·rw [<- hd2]; exact q _ (oU pI)
  ·intro x hx
   rw [List.take_succ_eq_append_getElem pI, nY] at hx;rcases hx with hx | hx
   ·exact hn x hx
   ·rw [xu.1 hx, hd2]; exact Classical.not_not.1 he
 ·have hc : ¬ ((i : Int) < (k.length : Int)) := by omega
  rw [qI (by omega)] at hn;simp +contextual -implicitDefEqProofs (maxSteps := 1000000) (maxDischargeDepth := 8) only [fF, h0, h1, h2, h3, h9, hd, hc, ao, aO, ag, implies_true, simprocAttr] at hX
  subst hX;exact cN (Or.inr ⟨hn, _, rfl, by simp only [h1, ai, Nat.reduceBEq ], by simp only [h3, ai, Nat.reduceBEq ], by simp only [hd, ai, Nat.reduceBEq ]⟩)
theorem all_eq {l : List Nd} {k : List Int} {t1 t2 : Nat} {nl1 nl2 : Bool} {kd : Int} {n : Nat} (hv : js l k) (hl : k.length < 1000000000) : aM B K jz [row nl1 t1 5 (dX l), row nl2 t2 1 (ints k), .int .i64 kd, .int .i64 (n : Int)] = some (bo (oG l k kd n)) := by
 rw [bR (by simp [iD])]
 generalize hL : exec (UT B K) (au.loop fF) = L
 simp +contextual -implicitDefEqProofs (maxSteps := 1000000) (maxDischargeDepth := 8) only [iD, aO, ag, implies_true, simprocAttr]
 subst hL;generalize hX : exec _ (.loop fF) _ _ = X
 obtain ⟨o, rfl, h⟩ := cw hX (KZ (l := l) (k := k) (t1 := t1) (t2 := t2) (nl1 := nl1) (nl2 := nl2) (kd := kd) hv hl (by simp only [ai, Nat.reduceBEq ]) (by simp only [ai, Nat.reduceBEq ]) (by simp only [ai, Nat.reduceBEq ]) rfl (by simp only [ai, Nat.reduceBEq ]) (by simp only [ai, Nat.reduceBEq ]))
 rcases h with ⟨h, fr', rfl, h2, hd⟩ | ⟨h, fr', rfl, h1, h3, hd⟩
 ·simp +contextual -implicitDefEqProofs (maxSteps := 1000000) (maxDischargeDepth := 8) only [h2, hd, aO, ag, implies_true, simprocAttr]
  exact congrArg some (gS fun q => h q.1)
 ·simp only [ai, Nat.reduceBEq ] at h3
  simp +contextual -implicitDefEqProofs (maxSteps := 1000000) (maxDischargeDepth := 8) only [h1, h3, hd, ao, aO, ag, implies_true, simprocAttr]
  exact cW ⟨fun q => ⟨h, by omega⟩, fun q => by have := q.2; omega⟩
theorem Gx {l : List Nd} {k : List Int} {t1 t2 : Nat} {nl1 nl2 : Bool} (hv : js l k) (hl : k.length < 1000000000) {m0 : Mem} {fr : Fr} (h0 : fr.get 0 = row nl1 t1 5 (dX l)) (h5 : fr.get 5 = row nl2 t2 1 (ints k)) (h6 : fr.get 6 = .int .i64 0) (hd : fr.defers = []) :
  ∃ o, exec U (.loop eM) fr m0 = some o /\ ((¬ (∀ x ∈ k, pP (kindOf l x)) /\ ∃ fr', o = .ret fr' m0 /\ fr'.get 4 = .bool false /\ fr'.defers = []) \/ ((∀ x ∈ k, pP (kindOf l x)) /\ ∃ fr', o = .exit 1 fr' m0 /\ fr'.defers = [])) := by
 refine dF (σ := Nat) (fun i fr m => m = m0 /\ i <= k.length /\ (∀ x ∈ k.take i, pP (kindOf l x)) /\ fr.get 0 = row nl1 t1 5 (dX l) /\ fr.get 5 = row nl2 t2 1 (ints k) /\ fr.get 6 = .int .i64 (i : Int) /\ fr.defers = []) (fun i => k.length - i) _ ?_ 0 fr m0 ⟨rfl, pF _, by simp, h0, h5, h6, hd⟩
 rintro i fr m ⟨rfl, hi, hn, h0, h5, h6, hd⟩
 generalize hX : exec U eM fr m = X
 by_cases pI : i < k.length
 ·have hc : (i : Int) < (k.length : Int) := by omega
  have hg : k[i]? = some k[i] := ij pI
  obtain ⟨x0, x1⟩ := hv k[i] (oU pI)
  obtain ⟨d, hd1, hd2⟩ := mG x0 x1
  have iO := mL (k := .i64) x0 x1
  have ji := bL (i := i) (by omega)
  simp +contextual -implicitDefEqProofs (maxSteps := 1000000) (maxDischargeDepth := 8) only [eM, h0, h5, h6, hd, hc, hg, pI, ji, aA, cZ, ao, bt, aK, iO, hd1, Nd.cells, LO, aO, ag, implies_true, simprocAttr] at hX
  subst hX;refine l6 (fun he => e6 (Or.inl ⟨fun q => he ?_, _, rfl, by simp only [ai, Nat.reduceBEq ], by simp only [hd, ai, Nat.reduceBEq ]⟩)) (fun he => cB (i + 1) (by omega) ⟨rfl, pI, ?_, by simp only [h0, ai, Nat.reduceBEq ], by simp only [h5, ai, Nat.reduceBEq ], by simp only [ai, Nat.reduceBEq ], by simp only [hd, ai, Nat.reduceBEq ]⟩)
  ·rw [<- hd2]; exact q _ (oU pI)
  ·intro x hx
   rw [List.take_succ_eq_append_getElem pI, nY] at hx;rcases hx with hx | hx
   ·exact hn x hx
   ·rw [xu.1 hx, hd2]; exact Classical.not_not.1 he
 ·have hc : ¬ ((i : Int) < (k.length : Int)) := by omega
  rw [qI (by omega)] at hn;simp +contextual -implicitDefEqProofs (maxSteps := 1000000) (maxDischargeDepth := 8) only [eM, h0, h5, h6, hd, hc, ao, aO, ag, implies_true, simprocAttr] at hX
  subst hX;exact cN (Or.inr ⟨hn, _, rfl, by simp only [hd, ai, Nat.reduceBEq ]⟩)
theorem MC {l : List Nd} {d : Nd} {t1 : Nat} {nl1 : Bool} (hv : js l d.kids) (hl : d.kids.length < 1000000000) : aM B K tT [row nl1 t1 5 (dX l), .agg d.cells] = some (bo (bY l d)) := by
 rw [bR (by simp [aH])]
 generalize hL : exec (UT B K) (au.loop eM) = L
 obtain ⟨kind, kids, nl, n, s, pos⟩ := d
 simp only at hv hl
 have e1 : ∀ t1 t2 nl1 nl2, aM B K lC [row nl1 t1 5 (dX l), row nl2 t2 1 (ints kids), .int .i64 1] = some (bo (ja l kids 1)) := fun t1 t2 nl1 nl2 => uD (n := 1) hv hl (by omega)
 have e2 : ∀ t1 t2 nl1 nl2, aM B K lC [row nl1 t1 5 (dX l), row nl2 t2 1 (ints kids), .int .i64 2] = some (bo (ja l kids 2)) := fun t1 t2 nl1 nl2 => uD (n := 2) hv hl (by omega)
 have ek : ∀ t1 t2 nl1 nl2, aM B K lC [row nl1 t1 5 (dX l), row nl2 t2 1 (ints kids), .int .i64 (kids.length : Int)] = some (bo (ja l kids kids.length)) := fun t1 t2 nl1 nl2 => uD hv hl hl
 have JH : ∀ k : List Int, (∀ x ∈ k, x ∈ kids) -> k.length <= kids.length -> ∀ (kd : Int) (n t1 t2 : Nat) (nl1 nl2 : Bool), aM B K jz [row nl1 t1 5 (dX l), row nl2 t2 1 (ints k), .int .i64 kd, .int .i64 (n : Int)] = some (bo (oG l k kd n)) := fun k h1 h2 kd n t1 t2 nl1 nl2 => all_eq (fun x hx => hv x (h1 x hx)) (by omega)
 have a1 : ∀ t1 t2 nl1 nl2, aM B K jz [row nl1 t1 5 (dX l), row nl2 t2 1 (ints (kids.drop 1)), .int .i64 23, .int .i64 1] = some (bo (oG l (kids.drop 1) 23 1)) := JH _ (fun x hx => List.mem_of_mem_drop hx) (by rw [Lv]; omega) 23 1
 have a2 : ∀ t1 t2 nl1 nl2, aM B K jz [row nl1 t1 5 (dX l), row nl2 t2 1 (ints (kids.drop 1)), .int .i64 23, .int .i64 2] = some (bo (oG l (kids.drop 1) 23 2)) := JH _ (fun x hx => List.mem_of_mem_drop hx) (by rw [Lv]; omega) 23 2
 have a3 : ∀ t1 t2 nl1 nl2, aM B K jz [row nl1 t1 5 (dX l), row nl2 t2 1 (ints (kids.drop 2)), .int .i64 23, .int .i64 1] = some (bo (oG l (kids.drop 2) 23 1)) := JH _ (fun x hx => List.mem_of_mem_drop hx) (by rw [Lv]; omega) 23 1
 have a4 : ∀ t1 t2 nl1 nl2, aM B K jz [row nl1 t1 5 (dX l), row nl2 t2 1 (ints (kids.take (kids.length - 1))), .int .i64 24, .int .i64 8] = some (bo (oG l (kids.take (kids.length - 1)) 24 8)) := JH _ (fun x hx => List.mem_of_mem_take hx) (by rw [List.length_take]; omega) 24 8
 have a5 : ∀ t1 t2 nl1 nl2, aM B K jz [row nl1 t1 5 (dX l), row nl2 t2 1 (ints kids), .int .i64 25, .int .i64 200] = some (bo (oG l kids 25 200)) := JH _ (fun x hx => hx) (ee _) 25 200
 have c0 : ((kids.length : Int) = 0) = (kids.length = 0) := propext (by omega)
 have c1 : ((kids.length : Int) = 1) = (kids.length = 1) := propext (by omega)
 have c2 : ((kids.length : Int) = 2) = (kids.length = 2) := propext (by omega)
 have c3 : ((kids.length : Int) = 3) = (kids.length = 3) := propext (by omega)
 have c8 : ((kids.length : Int) <= 8) = (kids.length <= 8) := propext (by omega)
 have d1 : ((1 : Int) <= (kids.length : Int)) = (1 <= kids.length) := propext (by omega)
 have d2 : ((2 : Int) <= (kids.length : Int)) = (2 <= kids.length) := propext (by omega)
 by_cases k5 : kind = 5
 ·subst k5
  simp +contextual -implicitDefEqProofs (maxSteps := 1000000) (maxDischargeDepth := 8) only [aH, Nd.cells, ao, c2, e2, aO, ag, implies_true, simprocAttr]
  refine cW ?_
  simp only [bY]
  grind
 by_cases k8 : kind = 8
 ·subst k8
  simp +contextual -implicitDefEqProofs (maxSteps := 1000000) (maxDischargeDepth := 8) only [aH, Nd.cells, ao, c2, e2, aO, ag, implies_true, simprocAttr]
  refine cW ?_
  simp only [bY]
  grind
 by_cases X2 : kind = 14
 ·subst X2
  simp +contextual -implicitDefEqProofs (maxSteps := 1000000) (maxDischargeDepth := 8) only [aH, Nd.cells, ao, c2, e2, aO, ag, implies_true, simprocAttr]
  refine cW ?_
  simp only [bY]
  grind
 by_cases k6 : kind = 6
 ·subst k6
  simp +contextual -implicitDefEqProofs (maxSteps := 1000000) (maxDischargeDepth := 8) only [aH, Nd.cells, ao, c1, e1, aO, ag, implies_true, simprocAttr]
  refine cW ?_
  simp only [bY]
  grind
 by_cases k7 : kind = 7
 ·subst k7
  simp +contextual -implicitDefEqProofs (maxSteps := 1000000) (maxDischargeDepth := 8) only [aH, Nd.cells, ao, c1, e1, aO, ag, implies_true, simprocAttr]
  refine cW ?_
  simp only [bY]
  grind
 by_cases k9 : kind = 9
 ·subst k9
  simp +contextual -implicitDefEqProofs (maxSteps := 1000000) (maxDischargeDepth := 8) only [aH, Nd.cells, ao, c1, e1, aO, ag, implies_true, simprocAttr]
  refine cW ?_
  simp only [bY]
  grind
 by_cases X6 : kind = 10
 ·subst X6
  simp +contextual -implicitDefEqProofs (maxSteps := 1000000) (maxDischargeDepth := 8) only [aH, Nd.cells, ao, c1, e1, aO, ag, implies_true, simprocAttr]
  refine cW ?_
  simp only [bY]
  grind
 by_cases X4 : kind = 12
 ·subst X4
  simp +contextual -implicitDefEqProofs (maxSteps := 1000000) (maxDischargeDepth := 8) only [aH, Nd.cells, ao, c1, e1, aO, ag, implies_true, simprocAttr]
  refine cW ?_
  simp only [bY]
  grind
 by_cases X3 : kind = 13
 ·subst X3
  simp +contextual -implicitDefEqProofs (maxSteps := 1000000) (maxDischargeDepth := 8) only [aH, Nd.cells, ao, c1, e1, aO, ag, implies_true, simprocAttr]
  refine cW ?_
  simp only [bY]
  grind
 by_cases XY : kind = 20
 ·subst XY
  simp +contextual -implicitDefEqProofs (maxSteps := 1000000) (maxDischargeDepth := 8) only [aH, Nd.cells, ao, c1, e1, aO, ag, implies_true, simprocAttr]
  refine cW ?_
  simp only [bY]
  grind
 by_cases XX : kind = 21
 ·subst XX
  simp +contextual -implicitDefEqProofs (maxSteps := 1000000) (maxDischargeDepth := 8) only [aH, Nd.cells, ao, c1, e1, aO, ag, implies_true, simprocAttr]
  refine cW ?_
  simp only [bY]
  grind
 by_cases X5 : kind = 11
 ·subst X5
  simp +contextual -implicitDefEqProofs (maxSteps := 1000000) (maxDischargeDepth := 8) only [aH, Nd.cells, ao, c8, ek, aO, ag, implies_true, simprocAttr]
  refine cW ?_
  simp only [bY]
  grind
 by_cases XT : kind = 26
 ·subst XT
  simp +contextual -implicitDefEqProofs (maxSteps := 1000000) (maxDischargeDepth := 8) only [aH, Nd.cells, ao, a5, aO, ag, implies_true, simprocAttr]
  refine cW ?_
  simp only [bY]
  grind
 by_cases XV : kind = 23
 ·subst XV
  simp +contextual -implicitDefEqProofs (maxSteps := 1000000) (maxDischargeDepth := 8) only [aH, Nd.cells, ao, aO, ag, implies_true, simprocAttr]
  subst hL;generalize hX : exec _ (.loop eM) _ _ = X
  obtain ⟨o, rfl, h⟩ := cw hX (Gx (l := l) (k := kids) (t1 := t1) (t2 := 0) (nl1 := nl1) (nl2 := nl) hv hl (by simp only [ai, Nat.reduceBEq ]) (by simp only [ai, Nat.reduceBEq ]) (by simp only [ai, Nat.reduceBEq ]) (by simp only [ai, Nat.reduceBEq ]))
  rcases h with ⟨h, fr', rfl, h2, hd⟩ | ⟨h, fr', rfl, hd⟩
  ·simp +contextual -implicitDefEqProofs (maxSteps := 1000000) (maxDischargeDepth := 8) only [h2, hd, aO, ag, implies_true, simprocAttr]
   refine congrArg some (gS fun q => h ?_)
   simp only [bY] at q
   grind
  ·simp +contextual -implicitDefEqProofs (maxSteps := 1000000) (maxDischargeDepth := 8) only [hd, aO, ag, implies_true, simprocAttr]
   refine congrArg some (y2 ?_)
   simp only [bY]
   grind
 by_cases XW : kind = 22
 ·subst XW
  by_cases h1 : kids.length = 1
  ·obtain ⟨x, rfl⟩ : ∃ x, kids = [x] := List.length_eq_one_iff.1 h1
   obtain ⟨x0, x1⟩ := hv x (by simp)
   obtain ⟨d, hd1, hd2⟩ := mG x0 x1
   have iO := mL (k := .i64) x0 x1
   have hg : ([x] : List Int)[0]? = some x := rfl
   have aP : 0 < ([x] : List Int).length := Nat.zero_lt_one
   have QA : (([x] : List Int).length : Int) = 1 := rfl
   simp +contextual -implicitDefEqProofs (maxSteps := 1000000) (maxDischargeDepth := 8) only [aH, Nd.cells, ao, QA, hg, aP, JD, cZ, bt, aK, iO, hd1, aO, ag, implies_true, simprocAttr]
   refine cW ?_
   simp only [bY];rw [<- hd2]; simp
  ·simp +contextual -implicitDefEqProofs (maxSteps := 1000000) (maxDischargeDepth := 8) only [aH, Nd.cells, ao, c1, h1, aO, ag, implies_true, simprocAttr]
   refine congrArg some (gS fun q => h1 ?_)
   simp only [bY] at q
   grind
 have s1 : 1 <= kids.length -> aw (some (.int .i64 1)) 0 kids.length = some 1 := fun h => jC (i := 1) h
 have s2 : 2 <= kids.length -> aw (some (.int .i64 2)) 0 kids.length = some 2 := fun h => jC (i := 2) h
 have sn : aw none kids.length kids.length = some kids.length := rfl
 have st : (ints kids).take kids.length = ints kids := qI (by rw [ao]; omega)
 have g1 : (2 <= kids.length) -> 1 <= kids.length := by omega
 have g2 : (kids.length = 2) -> 1 <= kids.length := by omega
 have g3 : (kids.length = 3) -> 2 <= kids.length := by omega
 by_cases X1 : kind = 15
 ·subst X1
  by_cases hk : 1 <= kids.length
  ·have sb := s1 hk
   simp +contextual -implicitDefEqProofs (maxSteps := 1000000) (maxDischargeDepth := 8) only [aH, Nd.cells, ao, l7, d2, e1, a2, sb, sn, st, aO, ag, implies_true, simprocAttr]
   refine cW ?_
   simp only [bY]
   grind
  ·have iv : ¬ ja l kids 1 := fun q => hk q.1
   simp +contextual -implicitDefEqProofs (maxSteps := 1000000) (maxDischargeDepth := 8) only [aH, Nd.cells, ao, d2, e1, a2, iv, aO, ag, implies_true, simprocAttr]
   refine congrArg some (gS fun q => ?_)
   simp only [bY] at q
   grind
 by_cases X0 : kind = 16
 ·subst X0
  by_cases hk : kids.length = 2
  ·have sb : aw (some (.int .i64 1)) 0 2 = some 1 := rfl
   have sn : aw none 2 2 = some 2 := rfl
   have st : (ints kids).take 2 = ints kids := qI (by rw [ao]; omega)
   simp +contextual -implicitDefEqProofs (maxSteps := 1000000) (maxDischargeDepth := 8) only [aH, Nd.cells, ao, l7, hk, e1, a1, sb, sn, st, c2, aO, ag, implies_true, simprocAttr]
   refine cW ?_
   simp only [bY]
   grind
  ·simp +contextual -implicitDefEqProofs (maxSteps := 1000000) (maxDischargeDepth := 8) only [aH, Nd.cells, ao, e1, c2, hk, aO, ag, implies_true, simprocAttr]
   refine congrArg some (gS fun q => ?_)
   simp only [bY] at q
   grind
 by_cases XZ : kind = 17
 ·subst XZ
  by_cases hk : kids.length = 3
  ·have sb : aw (some (.int .i64 2)) 0 3 = some 2 := rfl
   have sn : aw none 3 3 = some 3 := rfl
   have st : (ints kids).take 3 = ints kids := qI (by rw [ao]; omega)
   simp +contextual -implicitDefEqProofs (maxSteps := 1000000) (maxDischargeDepth := 8) only [aH, Nd.cells, ao, l7, hk, e2, a3, sb, sn, st, c3, aO, ag, implies_true, simprocAttr]
   refine cW ?_
   simp only [bY]
   grind
  ·simp +contextual -implicitDefEqProofs (maxSteps := 1000000) (maxDischargeDepth := 8) only [aH, Nd.cells, ao, e2, c3, hk, aO, ag, implies_true, simprocAttr]
   refine congrArg some (gS fun q => ?_)
   simp only [bY] at q
   grind
 by_cases XU : kind = 25
 ·subst XU
  by_cases hk : 1 <= kids.length
  ·have aP : kids.length - 1 < kids.length := by omega
   have hg : kids[kids.length - 1]? = some kids[kids.length - 1] := ij aP
   obtain ⟨x0, x1⟩ := hv kids[kids.length - 1] (oU aP)
   obtain ⟨d, hd1, hd2⟩ := mG x0 x1
   have iO := mL (k := .i64) x0 x1
   have hw : IntKind.i64.wrap ((kids.length : Int) - 1) = ((kids.length - 1 : Nat) : Int) := by rw [wrap_i64 (by omega) (by omega)]; omega
   have sb : aw (some (.int .i64 ((kids.length - 1 : Nat) : Int))) kids.length kids.length = some (kids.length - 1) := jC (by omega)
   have s0 : ∀ n, aw none 0 n = some 0 := fun _ => rfl
   have Bq : (1 : Int) <= (kids.length : Int) := by omega
   simp +contextual -implicitDefEqProofs (maxSteps := 1000000) (maxDischargeDepth := 8) only [aH, Nd.cells, ao, q9, Bq, hw, hg, aP, sb, s0, a4, aA, cZ, bt, aK, iO, hd1, List.drop_zero, aO, ag, implies_true, simprocAttr]
   refine cW ?_
   simp only [bY];rw [<- hd2, List.getLast?_eq_getElem?, hg]; simp [hk]
  ·have Bq : ¬ (1 : Int) <= (kids.length : Int) := by omega
   simp +contextual -implicitDefEqProofs (maxSteps := 1000000) (maxDischargeDepth := 8) only [aH, Nd.cells, ao, Bq, aO, ag, implies_true, simprocAttr]
   refine congrArg some (gS fun q => ?_)
   simp only [bY] at q
   grind
 simp +contextual -implicitDefEqProofs (maxSteps := 1000000) (maxDischargeDepth := 8) only [aH, Nd.cells, ao, c0, k5, k8, X2, k6, k7, k9, X6, X4, X3, XY, XX, X5, XT, XV, XW, X1, X0, XZ, XU, aO, ag, implies_true, simprocAttr]
 refine cW ?_
 simp only [bY]
 grind
end
section
theorem CN {l : List Nd} (hk : bl l) : ∀ (f i : Nat), i < f -> jV l f i = bm l i := by
 have key : ∀ (i f g : Nat), i < f -> i < g -> jV l f i = jV l g i := by
  intro i
  induction i using Nat.strongRecOn with
  | _ i ih =>
   intro f g hf hg
   obtain ⟨f, rfl⟩ : ∃ f', f = f' + 1 := ⟨f - 1, by omega⟩
   obtain ⟨g, rfl⟩ : ∃ g', g = g' + 1 := ⟨g - 1, by omega⟩
   simp only [jV]
   cases hd : l[i]? with
   | none => rfl
   | some d =>
    simp only
    have hx := hk i d hd
    generalize d.kids = ks at hx
    have : ∀ (ks : List Int) (a : Nat), (∀ x ∈ ks, 0 <= x /\ x < (i : Int)) -> ks.foldl (fun h x => max h (1 + jV l f x.toNat)) a = ks.foldl (fun h x => max h (1 + jV l g x.toNat)) a := by
     intro ks
     induction ks with
     | nil => intro a _; rfl
     | cons x ks JB =>
      intro a h
      have := h x (by simp)
      rw [List.foldl_cons, List.foldl_cons, ih x.toNat (by omega) f g (by omega) (by omega)];exact JB _ fun y hy => h y (by simp [hy])
    exact this ks 1 hx
 intro f i h
 exact key i f (i + 1) h (by omega)
theorem jU {l : List Nd} (hk : bl l) {i : Nat} {d : Nd} (hd : l[i]? = some d) : bm l i = d.kids.foldl (fun h x => max h (1 + bm l x.toNat)) 1 := by
 unfold bm;rw [jV];simp only [hd];have hx := hk i d hd
 generalize d.kids = ks at hx
 have : ∀ (ks : List Int) (a : Nat), (∀ x ∈ ks, 0 <= x /\ x < (i : Int)) -> ks.foldl (fun h x => max h (1 + jV l i x.toNat)) a = ks.foldl (fun h x => max h (1 + jV l (x.toNat + 1) x.toNat)) a := by
  intro ks
  induction ks with
  | nil => intro a _; rfl
  | cons x ks JB =>
   intro a h
   have := h x (by simp)
   rw [List.foldl_cons, List.foldl_cons, CN hk i x.toNat (by omega)];exact JB _ fun y hy => h y (by simp [hy])
 exact this ks 1 hx
theorem um {l : List Nd} (hk : bl l) : ∀ i, bm l i <= i + 1 := by
 intro i
 induction i using Nat.strongRecOn with
 | _ i ih =>
  cases hd : l[i]? with
  | none => unfold bm jV; rw [hd]; simp
  | some d =>
   rw [jU hk hd];have hx := hk i d hd
   generalize d.kids = ks at hx
   have : ∀ (ks : List Int) (a : Nat), a <= i + 1 -> (∀ x ∈ ks, 0 <= x /\ x < (i : Int)) -> ks.foldl (fun h x => max h (1 + bm l x.toNat)) a <= i + 1 := by
    intro ks
    induction ks with
    | nil => intro a h _; exact h
    | cons x ks JB =>
     intro a ha h
     have h1 := h x (by simp)
     have h2 := ih x.toNat (by omega)
     rw [List.foldl_cons];exact JB _ (by omega) fun y hy => h y (by simp [hy])
   exact this ks 1 (by omega) hx
theorem Ah {l : List Nd} {t : Nat} {nl : Bool} {i : Nat} {d : Nd} (hk : bl l) (hl : l.length < 1000000) (hd0 : l[i]? = some d) (qf : d.kids.length < 1000000000) (ih : ∀ j : Nat, j < i -> aM B K pZ [row nl 1 5 (dX l), .int .i64 (j : Int)] = some (.int .i64 (bm l j : Int))) {m0 : Mem} {fr : Fr} (h0 : fr.get 0 = row nl t 5 (dX l)) (h1 : fr.get 1 = .int .i64 (i : Int)) (h5 : fr.get 5 = .int .i64 1) (h6 : fr.get 6 = .int .i64 0) (hd : fr.defers = []) :
  ∃ o, exec U (.loop dA) fr m0 = some o /\ ∃ fr', o = .exit 0 fr' m0 /\ fr'.get 5 = .int .i64 (bm l i : Int) /\ fr'.defers = [] := by
 have CH := hk i d hd0
 have Ey : i < l.length := (kO.1 hd0).1
 have GH : ∀ (ks : List Int) (a : Nat), (∀ x ∈ ks, 0 <= x /\ x < (i : Int)) -> a <= i + 1 -> ks.foldl (fun h x => max h (1 + bm l x.toNat)) a <= i + 1 := by
  intro ks
  induction ks with
  | nil => intro a _ h; exact h
  | cons x ks JB =>
   intro a h ha
   have h1 := h x (by simp)
   have h2 := um hk x.toNat
   rw [List.foldl_cons];exact JB _ (fun y hy => h y (by simp [hy])) (by omega)
 refine dF (σ := Nat) (fun j fr m => m = m0 /\ j <= d.kids.length /\ fr.get 0 = row nl t 5 (dX l) /\ fr.get 1 = .int .i64 (i : Int) /\ fr.get 5 = .int .i64 (((d.kids.take j).foldl (fun h x => max h (1 + bm l x.toNat)) 1 : Nat) : Int) /\ fr.get 6 = .int .i64 (j : Int) /\ fr.defers = []) (fun j => d.kids.length - j) _ ?_ 0 fr m0 ⟨rfl, pF _, h0, h1, by simpa using h5, h6, hd⟩
 rintro j fr m ⟨rfl, hj, h0, h1, h5, h6, hd⟩
 generalize hX : exec U dA fr m = X
 by_cases aP : j < d.kids.length
 ·have hc : (j : Int) < (d.kids.length : Int) := by omega
  have hg : d.kids[j]? = some d.kids[j] := ij aP
  obtain ⟨x0, x1⟩ := CH d.kids[j] (oU aP)
  have TK := ih d.kids[j].toNat (by omega)
  have Br : (d.kids.take (j + 1)).foldl (fun h x => max h (1 + bm l x.toNat)) 1 = max ((d.kids.take j).foldl (fun h x => max h (1 + bm l x.toNat)) 1) (1 + bm l d.kids[j].toNat) := by
   rw [List.take_succ_eq_append_getElem aP, List.foldl_append]; rfl
  have hle := GH (d.kids.take j) 1 (fun x hx => CH x (List.mem_of_mem_take hx)) (by omega)
  have CJ := um hk d.kids[j].toNat
  have JG : ((d.kids[j].toNat : Nat) : Int) = d.kids[j] := Int.toNat_of_nonneg x0
  rw [JG] at TK;generalize d.kids[j] = x at *
  generalize hA : (d.kids.take j).foldl (fun h x => max h (1 + bm l x.toNat)) 1 = A at *
  have ji := bL (i := j) (by omega)
  have RM : IntKind.i64.wrap (1 + (bm l x.toNat : Int)) = ((1 + bm l x.toNat : Nat) : Int) := by rw [wrap_i64 (by omega) (by omega)]; omega
  have pH : lH [.int .i64 (A : Int), .int .i64 ((1 + bm l x.toNat : Nat) : Int)] = some (.int .i64 ((max A (1 + bm l x.toNat) : Nat) : Int)) := by
   simp only [lH, gZ, Nat.beq_refl, cond_true]
   congr 2
   split <;> omega
  simp +contextual -implicitDefEqProofs (maxSteps := 1000000) (maxDischargeDepth := 8) only [dA, h0, h1, h5, h6, hd, hd0, Ey, hc, hg, aP, ji, RM, pH, aA, cZ, ao, bt, aK, Nd.cells, TK, aO, ag, implies_true, simprocAttr] at hX
  subst hX;exact cB (j + 1) (by omega) ⟨rfl, aP, by simp only [h0, ai, Nat.reduceBEq ], by simp only [h1, ai, Nat.reduceBEq ], by simp only [Br, ai, Nat.reduceBEq ], by simp only [ai, Nat.reduceBEq ], by simp only [hd, ai, Nat.reduceBEq ]⟩
 ·have hc : ¬ ((j : Int) < (d.kids.length : Int)) := by omega
  rw [qI (by omega), <- jU hk hd0] at h5;simp +contextual -implicitDefEqProofs (maxSteps := 1000000) (maxDischargeDepth := 8) only [dA, h0, h1, h5, h6, hd, hd0, Ey, hc, aA, ao, bt, aK, Nd.cells, aO, ag, implies_true, simprocAttr] at hX
  subst hX;exact cN ⟨_, rfl, by simp only [h5, ai, Nat.reduceBEq ], by simp only [hd, ai, Nat.reduceBEq ]⟩
theorem GM {l : List Nd} {nl : Bool} (hk : bl l) (hl : l.length < 1000000) (qf : ∀ d ∈ l, d.kids.length < 1000000000) : ∀ i : Nat, i < l.length -> ∀ t, aM B K pZ [row nl t 5 (dX l), .int .i64 (i : Int)] = some (.int .i64 (bm l i : Int)) := by
 intro i
 induction i using Nat.strongRecOn with
 | _ i ih =>
  intro Ey t
  have hd0 : l[i]? = some l[i] := ij Ey
  rw [bR (by simp [eB])]
  generalize hL : exec (UT B K) (au.loop dA) = L
  simp +contextual -implicitDefEqProofs (maxSteps := 1000000) (maxDischargeDepth := 8) only [eB, aO, ag, implies_true, simprocAttr]
  subst hL;generalize hX : exec _ (.loop dA) _ _ = X
  obtain ⟨o, rfl, fr', rfl, h5, hd⟩ := cw hX (Ah (l := l) (t := t) (nl := nl) (i := i) hk hl hd0 (qf _ (oU Ey)) (fun j hj => ih j hj (by omega) 1) (by simp only [ai, Nat.reduceBEq ]) (by simp only [ai, Nat.reduceBEq ]) (by simp only [ai, Nat.reduceBEq ]) (by simp only [ai, Nat.reduceBEq ]) (by simp only [ai, Nat.reduceBEq ]))
  simp +contextual -implicitDefEqProofs (maxSteps := 1000000) (maxDischargeDepth := 8) only [h5, hd, aO, ag, implies_true, simprocAttr]
end
section
theorem la {α : Type} [DecidableEq α] : ∀ {a b : List α}, a.Nodup -> (∀ x ∈ a, x ∈ b) -> a.length <= b.length
 | [], b, _, _ => pF _
 | x :: a, b, h, hs => by
  rw [List.nodup_cons] at h;have h1 := la (b := b.erase x) h.2 fun y hy => by
   have iv : y ≠ x := by rintro rfl; exact h.1 hy
   exact (List.mem_erase_of_ne iv).2 (hs y (by simp [hy]))
  have h2 := List.length_erase_of_mem (hs x (by simp))
  have h3 := List.length_pos_of_mem (hs x (by simp))
  rw [List.length_cons];omega
def upto (n : Nat) : List Int := (List.range n).map fun (j : Nat) => (j : Int)
theorem pJ {n : Nat} : (upto n).length = n := by simp [upto]
theorem gM {n : Nat} {x : Int} : x ∈ upto n ↔ 0 <= x /\ x < (n : Int) := by
 unfold upto;rw [List.mem_map]
 constructor
 ·rintro ⟨j, hj, rfl⟩; have := List.mem_range.1 hj; omega
 ·rintro ⟨h1, h2⟩; exact ⟨x.toNat, List.mem_range.2 (by omega), by omega⟩
theorem oV {n : Nat} : (upto n).Nodup := by
 unfold upto
 induction n with
 | zero => simp
 | succ n ih =>
  rw [List.range_succ, List.map_append, List.nodup_append];refine ⟨ih, by simp, fun a ha b hb => ?_⟩
  rw [List.mem_map] at ha;obtain ⟨j, hj, rfl⟩ := ha
  have := List.mem_range.1 hj
  simp at hb
  omega
theorem jt {l : List Nd} {x : Int} : x ∈ aW l ↔ ∃ (i : Nat) (d : Nd), l[i]? = some d /\ x ∈ d.kids := by
 unfold aW;rw [List.mem_flatten]
 constructor
 ·rintro ⟨k, hk, hx⟩
  obtain ⟨d, hd, rfl⟩ := List.mem_map.1 hk
  obtain ⟨i, hi⟩ := List.mem_iff_getElem?.1 hd
  exact ⟨i, d, hi, hx⟩
 ·rintro ⟨i, d, hi, hx⟩
  exact ⟨d.kids, List.mem_map.2 ⟨d, List.mem_iff_getElem?.2 ⟨i, hi⟩, rfl⟩, hx⟩
theorem nD {i : Nat} {ks : List Int} (h : ∀ x ∈ ks, 0 <= x /\ x < (i : Int)) (hn : ks.Nodup) : ks.length <= i := by
 have := la (b := upto i) hn fun x hx => gM.2 (h x hx)
 rwa [pJ] at this
theorem HM {l : List Nd} {i : Nat} (h : ∀ (j : Nat) (d : Nd), j < i -> l[j]? = some d -> ∀ x ∈ d.kids, 0 <= x /\ x < (j : Int)) : ∀ x ∈ aW (l.take i), 0 <= x /\ x < (i : Int) := by
 intro x hx
 obtain ⟨j, d, hj, Zq⟩ := jt.1 hx
 rw [List.getElem?_take] at hj
 split at hj
 ·have := h j d ‹_› hj x Zq; omega
 ·cases hj
end
section
theorem GC (l : List Int) (x : Int) : (ints (l ++ [x])).flatten = (ints l).flatten ++ [.int .i64 x] := by rw [ra, ra]; simp
theorem IB {l : List Nd} {t : Nat} {nl : Bool} {i lo : Nat} {d : Nd} {u : List Int} (hd0 : l[i]? = some d) (qf : d.kids.length <= 9223372036854775807) (Z8 : i < 100000) (ZB : ∀ x ∈ u, 0 <= x /\ x < (i : Int)) (hu : u.Nodup) {m0 : Mem} {fr : Fr} {v : EV} (h0 : fr.get 0 = row nl t 5 (dX l)) (h3 : fr.get 3 = v) (eS : jJ m0 v (ints u).flatten u.length 1 lo) (kw : lo <= m0.next) (h4 : fr.get 4 = .int .i64 (i : Int)) (h5 : fr.get 5 = .int .i64 0) (hd : fr.defers = []) :
  ∃ o, exec U (.loop dV) fr m0 = some o /\ ((((∀ x ∈ d.kids, 0 <= x /\ x < (i : Int)) /\ (u ++ d.kids).Nodup) /\ ∃ fr' m' v', o = .exit 2 fr' m' /\ fr'.get 0 = row nl t 5 (dX l) /\ fr'.get 3 = v' /\ jJ m' v' (ints (u ++ d.kids)).flatten (u ++ d.kids).length 1 lo /\ lo <= m'.next /\ fr'.get 4 = .int .i64 (i : Int) /\ fr'.defers = []) \/
   (¬ ((∀ x ∈ d.kids, 0 <= x /\ x < (i : Int)) /\ (u ++ d.kids).Nodup) /\ ∃ fr' m', o = .ret fr' m' /\ fr'.get 2 = .bool false /\ fr'.defers = [])) := by
 have Ey : i < l.length := (kO.1 hd0).1
 refine dF (σ := Nat) (fun j fr m => j <= d.kids.length /\ fr.get 0 = row nl t 5 (dX l) /\ (∃ v, fr.get 3 = v /\ jJ m v (ints (u ++ d.kids.take j)).flatten (u ++ d.kids.take j).length 1 lo) /\ lo <= m.next /\ (∀ x ∈ d.kids.take j, 0 <= x /\ x < (i : Int)) /\ (u ++ d.kids.take j).Nodup /\ fr.get 4 = .int .i64 (i : Int) /\ fr.get 5 = .int .i64 (j : Int) /\ fr.defers = []) (fun j => d.kids.length - j) _ ?_ 0 fr m0
  ⟨pF _, h0, ⟨v, h3, by simpa using eS⟩, kw, by simp, by simpa using hu, h4, h5, hd⟩
 rintro j fr m ⟨hj, h0, ⟨v, h3, eS⟩, kw, hall, hnd, h4, h5, hd⟩
 generalize hX : exec U dV fr m = X
 by_cases aP : j < d.kids.length
 ·have hc : (j : Int) < (d.kids.length : Int) := by omega
  have hg : d.kids[j]? = some d.kids[j] := ij aP
  have ov : d.kids.take (j + 1) = d.kids.take j ++ [d.kids[j]] := List.take_succ_eq_append_getElem aP
  have iZ := oU aP
  have ji := bL (i := j) (by omega)
  have Zz : (u ++ d.kids.take j).length < 600000000 := by
   have := nD (i := i) (fun x hx => (nY.1 hx).elim (ZB x) (hall x)) hnd
   omega
  obtain ⟨nl2, hfz⟩ := eS.kA (by rw [ao]) (uf _) (o9 _)
  generalize hx : d.kids[j] = x at *
  have GL := fun t2 nl2 => wT (l := u ++ d.kids.take j) (t := t2) (nl := nl2) (x := x) (by omega)
  have hM : (ext m [.cells [EV.int .i64 x] 1 oI false]).get (nb m.next 0) = .cells [EV.int .i64 x] 1 oI false := by rw [bS rfl (by simp)]; rfl
  obtain ⟨ha, Ab⟩ := iA (e := oI) (eS.ext [.cells [EV.int .i64 x] 1 oI false]) (by rw [b8]; unfold nb; omega) (n7 (cap := some 1) hM rfl) rfl (by decide) (by unfold room; omega)
  rw [b8, rN] at ha;generalize hG : grow _ v oI 1 _ = M2 at ha Ab
  have hMn : lo <= M2.next := by rw [<- hG, jB, b8]; unfold nb; omega
  simp +contextual -implicitDefEqProofs (maxSteps := 1000000) (maxDischargeDepth := 8) only [dV, h0, h3, h4, h5, hd, hd0, Ey, hc, hg, aP, ji, aA, cZ, ao, bt, aK, Nd.cells, hfz, GL, ha, aO, ag, implies_true, simprocAttr] at hX
  subst hX;refine l6 (fun hp => e6 (Or.inr ⟨fun q => ?_, _, _, rfl, by simp only [ai, Nat.reduceBEq ], by simp only [hd, ai, Nat.reduceBEq ]⟩)) (fun hp => cB (j + 1) (by omega) ⟨aP, by simp only [h0, ai, Nat.reduceBEq ], ⟨_, by simp only [ai, Nat.reduceBEq ]; rfl, ?_⟩, hMn, ?_, ?_, by simp only [h4, ai, Nat.reduceBEq ], by simp only [ai, Nat.reduceBEq ], by simp only [hd, ai, Nat.reduceBEq ]⟩)
  ·have q1 := q.1 x iZ
   rcases hp with (hp | hp) | hp
   ·omega
   ·omega
   ·have q2 : (u ++ d.kids.take j ++ [x]).Nodup := by
     rw [List.append_assoc, <- ov];exact List.Nodup.sublist (List.Sublist.append (List.Sublist.refl u) (List.take_sublist _ _)) q.2
    rw [List.nodup_append] at q2;exact q2.2.2 x hp x (by simp) rfl
  ·rw [ov, <- List.append_assoc, GC]
   simp only [kE, List.length_cons, List.length_nil, b8, rN, Nat.zero_add, Nat.add_zero] at Ab ⊢
   exact Ab
  ·intro y hy
   rw [ov, nY] at hy;rcases hy with hy | hy
   ·exact hall y hy
   ·rw [xu.1 hy]; omega
  ·rw [ov, <- List.append_assoc, List.nodup_append]
   refine ⟨hnd, by simp, fun a Wl b hb => ?_⟩
   rw [xu.1 hb]
   rintro rfl
   exact hp (.inr Wl)
 ·have hc : ¬ ((j : Int) < (d.kids.length : Int)) := by omega
  have ov : d.kids.take j = d.kids := qI (by omega)
  rw [ov] at hall hnd eS;simp +contextual -implicitDefEqProofs (maxSteps := 1000000) (maxDischargeDepth := 8) only [dV, h0, h3, h4, h5, hd, hd0, Ey, hc, aA, ao, bt, aK, Nd.cells, aO, ag, implies_true, simprocAttr] at hX
  subst hX;exact cN (Or.inl ⟨⟨hall, hnd⟩, _, _, v, rfl, by simp only [h0, ai, Nat.reduceBEq ], by simp only [h3, ai, Nat.reduceBEq ], eS, kw, by simp only [h4, ai, Nat.reduceBEq ], by simp only [hd, ai, Nat.reduceBEq ]⟩)
def pR (l : List Nd) (i : Nat) : Prop := (∀ (j : Nat) (d : Nd), j < i -> l[j]? = some d -> (∀ x ∈ d.kids, 0 <= x /\ x < (j : Int)) /\ lL d /\ bY l d) /\ (aW (l.take i)).Nodup
theorem kQ {l : List Nd} {i : Nat} {d : Nd} (h : l[i]? = some d) : aW (l.take (i + 1)) = aW (l.take i) ++ d.kids := by
 obtain ⟨h1, h2⟩ := kO.1 h
 unfold aW;rw [List.take_succ_eq_append_getElem h1, h2]; simp
theorem lV {l : List Nd} (i : Nat) : List.Sublist (aW (l.take i)) (aW l) := by
 unfold aW
 conv => rhs; rw [<- List.take_append_drop i l, List.map_append, List.flatten_append]
 exact List.sublist_append_left _ _
structure Small (l : List Nd) : Prop where
 len : l.length < 100000
 kids : ∀ d ∈ l, d.kids.length <= 9223372036854775807
 s : ∀ d ∈ l, d.s.length < 1000000
theorem ua {l : List Nd} {d : Nd} (h : d ∈ l) : List.Sublist d.kids (aW l) := by
 obtain ⟨i, hi⟩ := List.mem_iff_getElem?.1 h
 have h1 := kQ hi
 have h2 := lV (l := l) (i + 1)
 rw [h1] at h2;exact (List.sublist_append_right _ _).trans h2
theorem sW {l : List Nd} (hk : bl l) (hu : (aW l).Nodup) {d : Nd} (h : d ∈ l) : d.kids.length <= l.length := by
 obtain ⟨i, hi⟩ := List.mem_iff_getElem?.1 h
 have h1 := nD (hk i d hi) (hu.sublist (ua h))
 have := (kO.1 hi).1
 omega
theorem IA {l : List Nd} {t : Nat} {nl : Bool} (hs : Small l) {m0 : Mem} {fr : Fr} {v : EV} {lo : Nat} (h0 : fr.get 0 = row nl t 5 (dX l)) (h3 : fr.get 3 = v) (eS : jJ m0 v [] 0 1 lo) (kw : lo <= m0.next) (h4 : fr.get 4 = .int .i64 0) (hd : fr.defers = []) :
  ∃ o, exec U (.loop dU) fr m0 = some o /\ ((pR l l.length /\ ∃ fr' m' v', o = .exit 0 fr' m' /\ fr'.get 0 = row nl t 5 (dX l) /\ fr'.get 3 = v' /\ jJ m' v' (ints (aW l)).flatten (aW l).length 1 lo /\ fr'.defers = []) \/
   (¬ pR l l.length /\ ∃ fr' m', o = .ret fr' m' /\ fr'.get 2 = .bool false /\ fr'.defers = [])) := by
 have hlen := hs.len
 refine dF (σ := Nat) (fun i fr m => i <= l.length /\ pR l i /\ fr.get 0 = row nl t 5 (dX l) /\ (∃ v, fr.get 3 = v /\ jJ m v (ints (aW (l.take i))).flatten (aW (l.take i)).length 1 lo) /\ lo <= m.next /\ fr.get 4 = .int .i64 (i : Int) /\ fr.defers = []) (fun i => l.length - i) _ ?_ 0 fr m0
  ⟨pF _, ⟨fun j d hj => by omega, by simp [aW]⟩, h0, ⟨v, h3, eS⟩, kw, h4, hd⟩
 rintro i fr m ⟨hi, hr, h0, ⟨v, h3, eS⟩, kw, h4, hd⟩
 generalize hX : exec U dU fr m = X
 by_cases aP : i < l.length
 ·have hc : (i : Int) < (l.length : Int) := by omega
  have hd0 : l[i]? = some l[i] := ij aP
  have iZ := oU aP
  have ul := hs.kids _ iZ
  have mY := hs.s _ iZ
  have sA := kQ hd0
  generalize l[i] = d at *
  have ji := bL (i := i) (by omega)
  generalize hL : exec (UT B K) (au.loop dV) = L
  simp +contextual -implicitDefEqProofs (maxSteps := 1000000) (maxDischargeDepth := 8) only [dU, h0, h3, h4, hd, hc, aK, aO, ag, implies_true, simprocAttr] at hX
  subst hL;generalize hY : exec _ (.loop dV) _ _ = Y at hX
  obtain ⟨o, rfl, h⟩ := cw hY (IB (l := l) (t := t) (nl := nl) (i := i) (d := d) (u := aW (l.take i)) hd0 ul (by omega) (HM fun j d hj hd => (hr.1 j d hj hd).1) hr.2 (by simp only [h0, ai, Nat.reduceBEq ]) (by simp only [h3, ai, Nat.reduceBEq ]) eS kw (by simp only [h4, ai, Nat.reduceBEq ]) (by simp only [ai, Nat.reduceBEq ]) (by simp only [hd, ai, Nat.reduceBEq ]))
  rcases h with ⟨⟨g1, g2⟩, fr', m', v', rfl, h0, h3, eS, kw, h4, hd⟩ | ⟨g, fr', m', rfl, h2, hd⟩
  ·have hv : js l d.kids := fun x hx => by have := g1 x hx; omega
   have Bp := nD g1 (List.nodup_append.1 g2).2.1
   have ho : aM B K wB [.agg [.int .i64 d.kind, row d.nl 0 1 (ints d.kids), .int .i64 d.n, .str d.s, .int .i64 d.pos]] = some (bo (lL d)) := Px (d := d) (by omega)
   have P4 : ∀ t1 nl1, aM B K tT [row nl1 t1 5 (dX l), .agg [.int .i64 d.kind, row d.nl 0 1 (ints d.kids), .int .i64 d.n, .str d.s, .int .i64 d.pos]] = some (bo (bY l d)) := fun t1 nl1 => MC (l := l) (d := d) (t1 := t1) (nl1 := nl1) hv (by omega)
   simp +contextual -implicitDefEqProofs (maxSteps := 1000000) (maxDischargeDepth := 8) only [h0, h3, h4, hd, hd0, aP, ji, aA, bt, aK, Nd.cells, ho, P4, aO, ag, implies_true, simprocAttr] at hX
   subst hX;refine l6 (fun hp => e6 (Or.inr ⟨fun q => ?_, _, _, rfl, by simp only [ai, Nat.reduceBEq ], by simp only [hd, ai, Nat.reduceBEq ]⟩)) (fun hp => cB (i + 1) (by omega) ⟨aP, ⟨fun j e hj he => ?_, by rw [sA]; exact g2⟩, by simp only [h0, ai, Nat.reduceBEq ], ⟨v', by simp only [h3, ai, Nat.reduceBEq ], by rw [sA]; exact eS⟩, kw, by simp only [ai, Nat.reduceBEq ], by simp only [hd, ai, Nat.reduceBEq ]⟩)
   ·obtain ⟨_, q1, q2⟩ := q.1 i d aP hd0
    exact hp.elim (fun h => h q1) (fun h => h q2)
   ·by_cases yR : j < i
    ·exact hr.1 j e yR he
    ·obtain rfl : j = i := by omega
     rw [hd0] at he; cases he
     exact ⟨g1, sj fun h => hp (.inl h), sj fun h => hp (.inr h)⟩
  ·simp +contextual -implicitDefEqProofs (maxSteps := 1000000) (maxDischargeDepth := 8) only [h2, hd, aO, ag, implies_true, simprocAttr] at hX
   subst hX;refine e6 (Or.inr ⟨fun q => g ⟨(q.1 i d aP hd0).1, ?_⟩, _, _, rfl, h2, hd⟩)
   rw [<- sA];exact q.2.sublist (by rw [qI (ee _)]; exact lV _)
 ·have hc : ¬ ((i : Int) < (l.length : Int)) := by omega
  obtain rfl : i = l.length := by omega
  rw [qI (ee _)] at eS;simp +contextual -implicitDefEqProofs (maxSteps := 1000000) (maxDischargeDepth := 8) only [dU, h0, h3, h4, hd, hc, aK, aO, ag, implies_true, simprocAttr] at hX
  subst hX;exact cN (Or.inl ⟨hr, _, _, v, rfl, by simp only [h0, ai, Nat.reduceBEq ], by simp only [h3, ai, Nat.reduceBEq ], eS, by simp only [hd, ai, Nat.reduceBEq ]⟩)
theorem rI {l : List Nd} : pR l l.length ↔ bl l /\ (aW l).Nodup /\ ∀ d ∈ l, lL d /\ bY l d := by
 unfold pR;rw [qI (ee _)]
 constructor
 ·rintro ⟨h1, h2⟩
  refine ⟨fun i d hd => (h1 i d (kO.1 hd).1 hd).1, h2, fun d hd => ?_⟩
  obtain ⟨i, hi⟩ := List.mem_iff_getElem?.1 hd
  exact (h1 i d (kO.1 hi).1 hi).2
 ·rintro ⟨h1, h2, h3⟩
  exact ⟨fun j d _ hd => ⟨h1 j d hd, h3 d (List.mem_iff_getElem?.2 ⟨j, hd⟩)⟩, h2⟩
theorem IC {l : List Nd} {t : Nat} {nl : Bool} (hs : Small l) : aM B K zQ [row nl t 5 (dX l)] = some (bo (ef l)) := by
 have hlen := hs.len
 rw [bR (by simp [fo])]
 generalize hL : exec (UT B K) (au.loop dU) = L
 simp +contextual -implicitDefEqProofs (maxSteps := 1000000) (maxDischargeDepth := 8) only [fo, aO, ag, implies_true, simprocAttr]
 subst hL;generalize hX : exec _ (.loop dU) _ _ = X
 obtain ⟨o, rfl, h⟩ := cw hX (IA (l := l) (t := t) (nl := nl) hs (v := .slice (nb cu.next 0) 0 0 (some 0)) (lo := cu.next) (by simp only [ai, Nat.reduceBEq ]) (by simp only [ai, Nat.reduceBEq ]) ⟨.inr ⟨_, _, oI, rfl, ee _, by rw [b8]; unfold nb; simp, by rw [bS rfl (by simp)]; rfl, .inr rfl⟩, rfl⟩ (by rw [b8]; exact p8) (by simp only [ai, Nat.reduceBEq ]) (by simp only [ai, Nat.reduceBEq ]))
 rcases h with ⟨h, fr', m', v', rfl, h0, h3, eS, hd⟩ | ⟨h, fr', m', rfl, h2, hd⟩
 ·have hr := rI.1 h
  by_cases P3 : l.length = 0
  ·have : ¬ ef l := fun q => by have := q.2.1; omega
   rcases eS.len with _
   simp +contextual -implicitDefEqProofs (maxSteps := 1000000) (maxDischargeDepth := 8) only [h0, h3, hd, P3, aK, aO, ag, implies_true, simprocAttr]
   exact congrArg some (gS this)
  ·have hc : (0 : Int) < (l.length : Int) := by omega
   have hw : IntKind.i64.wrap ((l.length : Int) - 1) = ((l.length - 1 : Nat) : Int) := by rw [wrap_i64 (by omega) (by omega)]; omega
   have hh := fun t => GM (l := l) (nl := nl) hr.1 (by omega) (fun d hd => by have := sW hr.1 hr.2.1 hd; omega) (l.length - 1) (by omega) t
   have oA : ∀ m, xW v' m = some (.val (.int .i64 ((aW l).length : Int)) m) := by
    intro m
    rcases eS.is with ⟨rfl, q, _⟩ | ⟨b, cap, ty, rfl, _⟩
    ·rw [q]; rfl
    ·rfl
   have hq : (((aW l).length : Int) = ((l.length - 1 : Nat) : Int)) = ((aW l).length = l.length - 1) := propext (by omega)
   have RY : ((bm l (l.length - 1) : Int) <= 200) = (bm l (l.length - 1) <= 200) := propext (by omega)
   simp +contextual -implicitDefEqProofs (maxSteps := 1000000) (maxDischargeDepth := 8) only [h0, h3, hd, hc, hw, hh, oA, hq, RY, aK, aO, ag, implies_true, simprocAttr]
   refine cW ?_
   unfold ef
   grind
 ·simp +contextual -implicitDefEqProofs (maxSteps := 1000000) (maxDischargeDepth := 8) only [h2, hd, aO, ag, implies_true, simprocAttr]
  exact congrArg some (gS fun q => h (rI.2 q.1))
end
section
theorem qQ {l : List gh} {i : Nat} : (jn l)[i]? = (l[i]?).map fun s => [.str s] := by unfold jn; rw [List.getElem?_map]
theorem qP {l : List gh} : (jn l).length = l.length := by unfold jn; rw [List.length_map]
theorem Ej {l : List gh} {m : Mem} : m.load none (OV l) = some (.fz 0 1 (jn l)) := rfl
def X7 (l : List Int) : List (List EV) := l.map fun s => [.int .i64 s]
def PK {α : Type} [DecidableEq α] (x : α) : List α -> Nat
 | [] => 0
 | a :: l => if a = x then 0 else PK x l + 1
theorem Jv {α : Type} [DecidableEq α] {x : α} : ∀ {l : List α} {i : Nat}, x ∉ l.take i -> l[i]? = some x -> PK x l = i
 | [], i, _, h => by simp at h
 | a :: l, 0, _, h => by simp only [List.getElem?_cons_zero, aQ] at h; simp only [PK, if_pos h]
 | a :: l, i + 1, hn, h => by
  simp only [List.take_succ_cons, lj, not_or] at hn;simp only [PK, if_neg (Ne.symm hn.1), Jv hn.2 (by simpa using h)]
def RI {α : Type} [DecidableEq α] (x : α) (l : List α) : Int := if x ∈ l then (PK x l : Int) else -1
theorem ME {α : Type} [DecidableEq α] {x : α} {l : List α} : (0 <= RI x l) = (x ∈ l) := by
 unfold RI;by_cases h : x ∈ l
 ·rw [if_pos h]; simp [h]
 ·rw [if_neg h]; simp [h]
end
section
theorem tj {l : List gh} {x : gh} (hl : l.length < 1000000000) {tg : Nat} {m0 : Mem} {fr : Fr} (h0 : fr.get 0 = .fz tg 1 (jn l)) (h1 : fr.get 1 = .str x) (h7 : fr.get 7 = .int .i64 (l.length : Int)) (h8 : fr.get 8 = .int .i64 0) (hd : fr.defers = []) :
  ∃ o, exec U (.loop bH) fr m0 = some o /\ ((x ∈ l /\ ∃ fr', o = .ret fr' m0 /\ fr'.get 4 = .int .i64 (PK x l : Int) /\ fr'.defers = []) \/ (x ∉ l /\ ∃ fr', o = .exit 0 fr' m0 /\ fr'.defers = [])) := by
 refine dF (σ := Nat) (fun i fr m => m = m0 /\ i <= l.length /\ x ∉ l.take i /\ fr.get 0 = .fz tg 1 (jn l) /\ fr.get 1 = .str x /\ fr.get 7 = .int .i64 (l.length : Int) /\ fr.get 8 = .int .i64 (i : Int) /\ fr.defers = []) (fun i => l.length - i) _ ?_ 0 fr m0 ⟨rfl, pF _, by simp, h0, h1, h7, h8, hd⟩
 rintro i fr m ⟨rfl, hi, hn, h0, h1, h7, h8, hd⟩
 generalize hX : exec U bH fr m = X
 by_cases aP : i < l.length
 ·have hc : (i : Int) < (l.length : Int) := by omega
  have hg : l[i]? = some l[i] := ij aP
  have ji := bL (i := i) (by omega)
  simp +contextual -implicitDefEqProofs (maxSteps := 1000000) (maxDischargeDepth := 8) only [bH, h0, h1, h7, h8, hd, hc, hg, aP, ji, aA, qQ, qP, aO, ag, implies_true, simprocAttr] at hX
  subst hX;refine l6 (fun he => e6 (.inl ⟨by rw [he]; exact oU aP, _, rfl, ?_, by simp only [hd, ai, Nat.reduceBEq ]⟩)) (fun he => cB (i + 1) (by omega) ⟨rfl, aP, ?_, by simp only [h0, ai, Nat.reduceBEq ], by simp only [h1, ai, Nat.reduceBEq ], by simp only [h7, ai, Nat.reduceBEq ], by simp only [ai, Nat.reduceBEq ], by simp only [hd, ai, Nat.reduceBEq ]⟩)
  ·have : PK x l = i := Jv hn (by rw [hg, he])
   rw [this]; simp only [ai, Nat.reduceBEq ]
  ·rw [List.take_succ_eq_append_getElem aP, nY]
   rintro (q | q)
   ·exact hn q
   ·exact he (xu.1 q)
 ·have hc : ¬ ((i : Int) < (l.length : Int)) := by omega
  simp +contextual -implicitDefEqProofs (maxSteps := 1000000) (maxDischargeDepth := 8) only [bH, h0, h7, h8, hd, hc, aO, ag, implies_true, simprocAttr] at hX
  subst hX;have : l.take i = l := qI (by omega)
  rw [this] at hn;exact cN (.inr ⟨hn, _, rfl, by simp only [hd, ai, Nat.reduceBEq ]⟩)
theorem vw {l : List gh} {x : gh} (hl : l.length < 1000000000) {tg : Nat} {m : Mem} : run U nh [.fz tg 1 (jn l), .str x] m = some (.ret (.int .i64 (RI x l)) m) := by
 rw [tF (by simp [bJ])]
 generalize hL : exec (UT B K) (au.loop bH) = L
 simp +contextual -implicitDefEqProofs (maxSteps := 1000000) (maxDischargeDepth := 8) only [bJ, qP, aO, ag, implies_true, simprocAttr]
 subst hL;generalize hX : exec _ (.loop bH) _ _ = X
 obtain ⟨o, rfl, h⟩ := cw hX (tj (l := l) (x := x) hl (tg := tg) (by simp only [ai, Nat.reduceBEq ]) (by simp only [ai, Nat.reduceBEq ]) (by simp only [ai, Nat.reduceBEq ]) (by simp only [ai, Nat.reduceBEq ]) (by simp only [ai, Nat.reduceBEq ]))
 rcases h with ⟨h, fr', rfl, h4, hd⟩ | ⟨h, fr', rfl, hd⟩
 ·simp +contextual -implicitDefEqProofs (maxSteps := 1000000) (maxDischargeDepth := 8) only [h, h4, hd, RI, aO, ag, implies_true, simprocAttr]
 ·simp +contextual -implicitDefEqProofs (maxSteps := 1000000) (maxDischargeDepth := 8) only [h, hd, RI, aO, ag, implies_true, simprocAttr]
theorem vz {l : List gh} {x : gh} (hl : l.length < 1000000000) {tg : Nat} {m : Mem} : run U lO [.fz tg 1 (jn l), .str x] m = some (.ret (bo (x ∈ l)) m) := by
 rw [tF (by simp [bi])]
 have h := fun m => vw (x := x) hl (tg := tg) (m := m)
 simp +contextual -implicitDefEqProofs (maxSteps := 1000000) (maxDischargeDepth := 8) only [bi, h, ME, aO, ag, implies_true, simprocAttr]
end
section
def km (k s : Int) : Prop := if s = 0 then 1 <= k /\ k <= 11 else if s = 1 then 12 <= k /\ k <= 22 else if s = 2 then k = 23 else if s = 3 then k = 11 else if s = 4 then k = 24 else k = 25
theorem DW {k s : Int} : aM B K Ge [.int .i64 k, .int .i64 s] = some (bo (km k s)) := by
 rw [bR (by simp [dM])]
 unfold km;by_cases a : s = 0
 ·subst a; simp +contextual -implicitDefEqProofs (maxSteps := 1000000) (maxDischargeDepth := 8) only [dM, if_true, aO, ag, implies_true, simprocAttr]
 ·by_cases b : s = 1
  ·subst b; simp +contextual -implicitDefEqProofs (maxSteps := 1000000) (maxDischargeDepth := 8) only [dM, if_true, if_false, aO, ag, implies_true, simprocAttr]
  ·by_cases c : s = 2
   ·subst c; simp +contextual -implicitDefEqProofs (maxSteps := 1000000) (maxDischargeDepth := 8) only [dM, if_true, if_false, aO, ag, implies_true, simprocAttr]
   ·by_cases d : s = 3
    ·subst d; simp +contextual -implicitDefEqProofs (maxSteps := 1000000) (maxDischargeDepth := 8) only [dM, if_true, if_false, aO, ag, implies_true, simprocAttr]
    ·by_cases e : s = 4
     ·subst e; simp +contextual -implicitDefEqProofs (maxSteps := 1000000) (maxDischargeDepth := 8) only [dM, if_true, if_false, aO, ag, implies_true, simprocAttr]
     ·simp +contextual -implicitDefEqProofs (maxSteps := 1000000) (maxDischargeDepth := 8) only [dM, a, b, c, d, e, if_false, aO, ag, implies_true, simprocAttr]
theorem IU : ∀ n : _root_.Fin 256, (97 <= QX .u8 ((n.val : Nat) : Int) 32 /\ QX .u8 ((n.val : Nat) : Int) 32 <= 122) ↔ ((97 <= n.val /\ n.val <= 122) \/ (65 <= n.val /\ n.val <= 90)) := by decide +kernel
theorem Ui (c : UInt8) : ((97 <= QX .u8 (cI c) 32 /\ QX .u8 (cI c) 32 <= 122) \/ cI c = 95) ↔ ey (cI c) := by
 have h := IU ⟨c.toNat, c.toNat_lt⟩
 unfold ey;have e : cI c = ((c.toNat : Nat) : Int) := rfl
 rw [e];simp only at h
 rw [h];omega
theorem KJ {e : Nat} {m : Mem} {s : gh} : fA (.bytes e) m (.str s) = some (.slice (nb m.next 0) 0 s.length none, ext m [.cells (s.map fun b => .int .u8 (b.toNat : Int)) 1 e false]) := by
 simp only [fA, nb, Nat.add_zero];rw [I7]
theorem BB {s : gh} (hs : s.length < 1000000000) {b t : Nat} {m0 : Mem} (hb : m0.get b = .cells (s.map fun c => .int .u8 (cI c)) 1 t false) {fr : Fr} (h0 : fr.get 0 = .str s) (h7 : fr.get 7 = .slice b 0 s.length none) (h8 : fr.get 8 = .int .i64 (s.length : Int)) (h9 : fr.get 9 = .int .i64 0) (hd : fr.defers = []) :
  ∃ o, exec U (.loop dS) fr m0 = some o /\ ((¬ (∀ (i : Nat) (c : UInt8), s[i]? = some c -> ey (cI c) \/ i ≠ 0 /\ gL (cI c)) /\ ∃ fr', o = .ret fr' m0 /\ fr'.get 2 = .bool false /\ fr'.defers = []) \/
   ((∀ (i : Nat) (c : UInt8), s[i]? = some c -> ey (cI c) \/ i ≠ 0 /\ gL (cI c)) /\ ∃ fr', o = .exit 0 fr' m0 /\ fr'.get 0 = .str s /\ fr'.defers = [])) := by
 refine dF (σ := Nat) (fun i fr m => m = m0 /\ i <= s.length /\ fr.get 0 = .str s /\ fr.get 7 = .slice b 0 s.length none /\ fr.get 8 = .int .i64 (s.length : Int) /\ fr.get 9 = .int .i64 (i : Int) /\ (∀ (j : Nat) (c : UInt8), j < i -> s[j]? = some c -> ey (cI c) \/ j ≠ 0 /\ gL (cI c)) /\ fr.defers = []) (fun i => s.length - i) _ ?_ 0 fr m0 ⟨rfl, pF _, h0, h7, h8, h9, by omega, hd⟩
 rintro i fr m ⟨rfl, hi, h0, h7, h8, h9, hall, hd⟩
 generalize hX : exec U dS fr m = X
 by_cases aP : i < s.length
 ·have hc : (i : Int) < (s.length : Int) := by omega
  have hg : s[i]? = some s[i] := ij aP
  have ji := bL (i := i) (by omega)
  have V4 : ((i : Int) = 0) = (i = 0) := by simp
  generalize s[i] = c at hg
  have ZR := Ui c
  simp +contextual -implicitDefEqProofs (maxSteps := 1000000) (maxDischargeDepth := 8) only [dS, h0, h7, h8, h9, hd, hc, hb, hg, aP, Nat.mul_one, ji, V4, ZR, aA, aO, ag, implies_true, simprocAttr] at hX
  subst hX;refine l6 (fun hp => e6 (Or.inl ⟨fun q => ?_, _, rfl, by simp only [ai, Nat.reduceBEq ], by simp only [hd, ai, Nat.reduceBEq ]⟩)) (fun hp => cB (i + 1) (by omega) ⟨rfl, aP, by simp only [h0, ai, Nat.reduceBEq ], by simp only [h7, ai, Nat.reduceBEq ], by simp only [h8, ai, Nat.reduceBEq ], by simp only [ai, Nat.reduceBEq ], fun j d hj Lr => ?_, by simp only [hd, ai, Nat.reduceBEq ]⟩)
  ·rcases q i c hg with q | ⟨q1, q2⟩
   ·exact hp.1 q
   ·unfold gL at q2; omega
  ·by_cases yR : j < i
   ·exact hall j d yR Lr
   ·obtain rfl : j = i := by omega
    rw [hg] at Lr; cases Lr
    by_cases q : ey (cI c)
    ·exact .inl q
    ·refine .inr ?_
     have : ¬ ((j = 0 \/ cI c < 48) \/ 57 < cI c) := fun r => hp ⟨q, r⟩
     unfold gL; omega
 ·have hc : ¬ ((i : Int) < (s.length : Int)) := by omega
  simp +contextual -implicitDefEqProofs (maxSteps := 1000000) (maxDischargeDepth := 8) only [dS, h0, h7, h8, h9, hd, hc, aO, ag, implies_true, simprocAttr] at hX
  subst hX;exact cN (Or.inr ⟨fun j c hj => hall j c (by have := (kO.1 hj).1; omega) hj, _, rfl, by simp only [h0, ai, Nat.reduceBEq ], by simp only [hd, ai, Nat.reduceBEq ]⟩)
theorem Lw : L_tree_words = np := rfl
theorem E9 {s : gh} (hs : s.length < 1000000000) : aM B K zN [.str s] = some (bo (oM s)) := by
 rw [bR (by simp [j5])]
 generalize hL : exec (UT B K) (au.loop dS) = L
 have hl := fun m => Ej (l := np) (m := m)
 have h := fun m => vz (l := np) (x := s) (by decide) (tg := 0) (m := m)
 simp +contextual -implicitDefEqProofs (maxSteps := 1000000) (maxDischargeDepth := 8) only [j5, KJ, aO, ag, implies_true, simprocAttr]
 subst hL;generalize hX : exec _ (.loop dS) _ _ = X
 obtain ⟨o, rfl, hq⟩ := cw hX (BB (s := s) (b := nb cu.next 0) (t := LJ) hs (by rw [bS rfl (by simp)]; rfl) (by simp only [ai, Nat.reduceBEq ]) (by simp only [ai, Nat.reduceBEq ]) (by simp only [ai, Nat.reduceBEq ]) (by simp only [ai, Nat.reduceBEq ]) (by simp only [ai, Nat.reduceBEq ]))
 rcases hq with ⟨hq, fr', rfl, h2, hd⟩ | ⟨hq, fr', rfl, h0, hd⟩
 ·have : ¬ oM s := fun q => hq q.1
  simp +contextual -implicitDefEqProofs (maxSteps := 1000000) (maxDischargeDepth := 8) only [this, h2, hd, lh, aO, ag, implies_true, simprocAttr]
 ·simp +contextual -implicitDefEqProofs (maxSteps := 1000000) (maxDischargeDepth := 8) only [h0, hd, Lw, hl, h, aO, ag, implies_true, simprocAttr]
  refine congrArg some (kC ?_)
  have iv : s ≠ [] ↔ 0 < s.length := List.length_pos_iff.symm
  unfold oM
  constructor
  ·rintro ⟨⟨q1, q2⟩, q3⟩; exact ⟨hq, iv.1 q1, by omega, q3⟩
  ·rintro ⟨_, q1, q2, q3⟩; exact ⟨⟨iv.2 q1, by omega⟩, q3⟩
end
section
structure gD where
 word : gh
 name : Bool
 low : Int
 high : Int
 more : Int
 sort : Int
 kids : List Int
 maybe : Bool
def mU : gD := ⟨[], false, 0, 0, 0, 0, [], false⟩
def il : List gD := [⟨[], false, 0, 9223372036854775807, 0, 0, [], false⟩, ⟨[], false, 0, 1, 0, 0, [], false⟩, ⟨[110, 105, 108], false, 0, 0, 0, 0, [], false⟩, ⟨[], true, 0, 0, 0, 0, [], false⟩,
 ⟨[], false, 1, 16, 0, 0, [0, 0], false⟩, ⟨[110, 101, 103], false, 0, 0, 0, 0, [0], false⟩, ⟨[110, 111, 116], false, 0, 0, 0, 0, [0], false⟩, ⟨[97, 116], false, 0, 0, 0, 0, [0, 0], false⟩,
 ⟨[108, 101, 110], false, 0, 0, 0, 0, [0], false⟩, ⟨[110, 101, 119], false, 0, 0, 0, 0, [0], false⟩, ⟨[99, 97, 108, 108], true, 0, 0, 8, 0, [], false⟩, ⟨[118, 97, 114], true, 0, 0, 0, 0, [0], false⟩,
 ⟨[115, 101, 116], true, 0, 0, 0, 0, [0], false⟩, ⟨[112, 117, 116], true, 0, 0, 0, 0, [0, 0], false⟩, ⟨[105, 102], false, 0, 0, 0, 0, [0, 2, 2], true⟩, ⟨[119, 104, 105, 108, 101], false, 0, 0, 0, 0, [0, 2], false⟩,
 ⟨[102, 111, 114], true, 0, 0, 0, 0, [0, 0, 2], false⟩, ⟨[98, 114, 101, 97, 107], false, 0, 0, 0, 0, [], false⟩, ⟨[99, 111, 110, 116, 105, 110, 117, 101], false, 0, 0, 0, 0, [], false⟩, ⟨[114, 101, 116, 117, 114, 110], false, 0, 0, 0, 0, [0], false⟩,
 ⟨[112, 114, 105, 110, 116], false, 0, 0, 0, 0, [0], false⟩, ⟨[100, 111], false, 0, 0, 0, 0, [3], false⟩, ⟨[98, 108, 111, 99, 107], false, 0, 0, 4611686018427387904, 1, [], false⟩, ⟨[], true, 1, 3, 0, 0, [], false⟩,
 ⟨[102, 110], true, 1, 3, 8, 4, [2], false⟩, ⟨[112, 114, 111, 103], false, 0, 0, 200, 5, [], false⟩]
def fT (k : Int) : gD := if 1 <= k /\ k <= 26 then il.getD (k - 1).toNat mU else mU
def gD.pt (r : gD) : List EV := [.str r.word, .bool r.name, .int .i64 r.low, .int .i64 r.high, .int .i64 r.more, .int .i64 r.sort, row r.kids.isEmpty 0 1 (ints r.kids), .bool r.maybe]
noncomputable def gD.cells (r : gD) : List EV := [.str r.word, bo (r.name = true), .int .i64 r.low, .int .i64 r.high, .int .i64 r.more, .int .i64 r.sort, row r.kids.isEmpty 0 1 (ints r.kids), bo (r.maybe = true)]
theorem EP (b : Bool) : EV.bool b = bo (b = true) := by cases b <;> simp [bo]
theorem gD.AW (r : gD) : r.pt = r.cells := by unfold gD.pt gD.cells; rw [EP r.name, EP r.maybe]
theorem L4 (n : Nat) (h : n < 26) : aM B K ny [.int .i64 ((n : Int) + 1)] = some (.tuple [.agg (il.getD n mU).pt, .bool true]) := by
 have hc : n = 0 \/ n = 1 \/ n = 2 \/ n = 3 \/ n = 4 \/ n = 5 \/ n = 6 \/ n = 7 \/ n = 8 \/ n = 9 \/ n = 10 \/ n = 11 \/ n = 12 \/ n = 13 \/ n = 14 \/ n = 15 \/ n = 16 \/ n = 17 \/ n = 18 \/ n = 19 \/ n = 20 \/ n = 21 \/ n = 22 \/ n = 23 \/ n = 24 \/ n = 25 := by omega
 rcases hc with rfl | rfl | rfl | rfl | rfl | rfl | rfl | rfl | rfl | rfl | rfl | rfl | rfl | rfl | rfl | rfl | rfl | rfl | rfl | rfl | rfl | rfl | rfl | rfl | rfl | rfl
 all_goals exact jO 10 fun call => by kernel_rfl
def au.fst : au -> au
 | .seq a _ => a
 | c => c
def au.snd : au -> au
 | .seq _ b => b
 | c => c
theorem C1 {T : Nat -> Option fg} {a b c : au} {fr : Fr} {m : Mem} : exec T (.seq a (.seq b c)) fr m = ik (exec T (.seq a b) fr m) (exec T c) := by
 rw [nO, nO]
 cases exec T a fr m with
 | none => rfl
 | some o =>
  cases o with
  | norm fr m => simp only [ik]; rw [nO]; rfl
  | exit id fr m => rfl
  | ret fr m => rfl
  | dZ v fr m => rfl
def Jf (o : Option Out) : Option (EV × EV × cY × List (Nat × List EV)) := match o with
 | some (.norm fr m) => some (fr.get 0, fr.get 2, m.get 0, fr.defers)
 | _ => none
theorem Gm {o : Option Out} {a b : EV} {c : cY} {d : List (Nat × List EV)} (h : Jf o = some (a, b, c, d)) : ∃ fr m, o = some (.norm fr m) /\ fr.get 0 = a /\ fr.get 2 = b /\ m.get 0 = c /\ fr.defers = d := by
 unfold Jf at h
 split at h
 ·simp only [aQ, kj] at h
  exact ⟨_, _, rfl, h.1, h.2.1, h.2.2.1, h.2.2.2⟩
 ·cases h
theorem FG (k : Int) (call : Call) : Jf (ah call 0 (.seq cq.body.fst cq.body.snd.fst) (ag [.int .i64 k] 0 oE) cu) = some (.int .i64 k, .ptr 0 0, .cells mU.pt 8 fq false, []) := by kernel_rfl
theorem FH : cq.body = .seq cq.body.fst (.seq cq.body.snd.fst cq.body.snd.snd) := rfl
theorem Iy {k : Int} (h : ¬ (1 <= k /\ k <= 26)) : aM B K ny [.int .i64 k] = some (.tuple [.agg mU.pt, .bool false]) := by
 rw [bR (by simp [cq]), FH, C1]
 obtain ⟨fr, m, h1, g0, g2, gm, gd⟩ := Gm (FG k (aC (UT B K) 0))
 rw [bn.2 ⟨0, h1⟩];by_cases a : k < 1
 ·simp +contextual -implicitDefEqProofs (maxSteps := 1000000) (maxDischargeDepth := 8) only [cq, au.snd, g0, g2, gm, gd, mU, gD.pt, List.isEmpty_nil, a, aO, ag, implies_true, simprocAttr]
  rfl
 ·have b : 27 <= k := by omega
  simp +contextual -implicitDefEqProofs (maxSteps := 1000000) (maxDischargeDepth := 8) only [cq, au.snd, g0, g2, gm, gd, mU, gD.pt, List.isEmpty_nil, a, b, aO, ag, implies_true, simprocAttr]
  rfl
theorem vU {k : Int} : aM B K ny [.int .i64 k] = some (.tuple [.agg (fT k).cells, bo (1 <= k /\ k <= 26)]) := by
 by_cases h : 1 <= k /\ k <= 26
 ·obtain ⟨n, rfl⟩ : ∃ n : Nat, k = (n : Int) + 1 := ⟨(k - 1).toNat, by omega⟩
  rw [L4 n (by omega), gD.AW, show fT ((n : Int) + 1) = il.getD n mU by unfold fT; rw [if_pos h, show ((n : Int) + 1 - 1).toNat = n by omega], <- y2 h]
 ·rw [Iy h, gD.AW, show fT k = mU by unfold fT; rw [if_neg h], <- gS h]
end
section
def gR (r : gD) (k : List Int) : Nat := if 0 < r.more then k.length - r.kids.length else 0
def ka (l : List Nd) (ks : List Int) (ss : List Int) : Prop := ∀ (i : Nat) (x s : Int), ks[i]? = some x -> ss[i]? = some s -> km (kindOf l x) s
def J3 (l : List Nd) (d : Nd) : Prop :=
 let r := fT d.kind
 (1 <= d.kind /\ d.kind <= 26) /\ 0 <= d.pos /\ r.low <= d.n /\ d.n <= r.high /\ (r.name = true ↔ d.s ≠ []) /\ (r.name = true -> oM d.s) /\
 (∀ x ∈ d.kids.take (gR r d.kids), km (kindOf l x) r.sort) /\ (0 < r.more -> (gR r d.kids : Int) <= r.more) /\
 ((d.kids.drop (gR r d.kids)).length = r.kids.length \/ r.maybe = true /\ (d.kids.drop (gR r d.kids)).length + 1 = r.kids.length) /\
 ka l (d.kids.drop (gR r d.kids)) r.kids
def oS (m0 m : Mem) : Prop := m0.next <= m.next /\ ∀ b, m.get b = m0.get b
theorem oS.refl (m : Mem) : oS m m := ⟨ee _, fun _ => rfl⟩
theorem oS.bump {m0 m : Mem} (h : oS m0 m) (k : Nat) : oS m0 (Ev.bump m k) := ⟨by rw [oa]; have := h.1; unfold nb; omega, fun b => by rw [mc]; exact h.2 b⟩
theorem Qj {l : List Nd} {r : gD} {k : List Int} {t1 t2 b5 ty : Nat} {nl1 nl2 : Bool} {v7 v8 : EV} (hv : js l k) (hl : k.length < 1000000000) {m0 : Mem} (yT : m0.get b5 = .cells r.cells 8 ty false) {fr : Fr} (h0 : fr.get 0 = row nl1 t1 5 (dX l)) (h5 : fr.get 5 = .ptr b5 0) (h7 : fr.get 7 = v7) (h8 : fr.get 8 = v8) (SC : fr.get 72 = row nl2 t2 1 (ints k)) (SB : fr.get 73 = .int .i64 (k.length : Int)) (TR : fr.get 74 = .int .i64 0) (hd : fr.defers = []) :
  ∃ o, exec U (.loop eL) fr m0 = some o /\ ((¬ (∀ x ∈ k, km (kindOf l x) r.sort) /\ ∃ fr' m', o = .ret fr' m' /\ fr'.get 4 = .bool false /\ fr'.defers = []) \/ ((∀ x ∈ k, km (kindOf l x) r.sort) /\ ∃ fr' m', o = .exit 0 fr' m' /\ oS m0 m' /\ fr'.get 0 = row nl1 t1 5 (dX l) /\ fr'.get 5 = .ptr b5 0 /\ fr'.get 7 = v7 /\ fr'.get 8 = v8 /\ fr'.defers = [])) := by
 refine dF (σ := Nat) (fun i fr m => oS m0 m /\ i <= k.length /\ (∀ x ∈ k.take i, km (kindOf l x) r.sort) /\ fr.get 0 = row nl1 t1 5 (dX l) /\ fr.get 5 = .ptr b5 0 /\ fr.get 7 = v7 /\ fr.get 8 = v8 /\ fr.get 72 = row nl2 t2 1 (ints k) /\ fr.get 73 = .int .i64 (k.length : Int) /\ fr.get 74 = .int .i64 (i : Int) /\ fr.defers = []) (fun i => k.length - i) _ ?_ 0 fr m0 ⟨.refl _, pF _, by simp, h0, h5, h7, h8, SC, SB, TR, hd⟩
 rintro i fr m ⟨hm, hi, hn, h0, h5, h7, h8, SC, SB, TR, hd⟩
 replace yT := (hm.2 b5).trans yT
 generalize hX : exec U eL fr m = X
 by_cases pI : i < k.length
 ·have hc : (i : Int) < (k.length : Int) := by omega
  have hg : k[i]? = some k[i] := ij pI
  obtain ⟨x0, x1⟩ := hv k[i] (oU pI)
  obtain ⟨d, hd1, hd2⟩ := mG x0 x1
  have iO := mL (k := .i64) x0 x1
  have ji := bL (i := i) (by omega)
  simp +contextual -implicitDefEqProofs (maxSteps := 1000000) (maxDischargeDepth := 8) only [eL, h0, h5, h7, h8, SC, SB, TR, hd, hc, hg, pI, ji, yT, gD.cells, aA, cZ, ao, bt, aK, iO, hd1, Nd.cells, DW, aO, ag, implies_true, simprocAttr] at hX
  subst hX;refine l6 (fun he => e6 (Or.inl ⟨fun q => he ?_, _, _, rfl, by simp only [ai, Nat.reduceBEq ], by simp only [hd, ai, Nat.reduceBEq ]⟩)) (fun he => cB (i + 1) (by omega) ⟨hm.bump _, pI, ?_, by simp only [h0, ai, Nat.reduceBEq ], by simp only [h5, ai, Nat.reduceBEq ], by simp only [h7, ai, Nat.reduceBEq ], by simp only [h8, ai, Nat.reduceBEq ], by simp only [SC, ai, Nat.reduceBEq ], by simp only [SB, ai, Nat.reduceBEq ], by simp only [ai, Nat.reduceBEq ], by simp only [hd, ai, Nat.reduceBEq ]⟩)
  ·rw [<- hd2]; exact q _ (oU pI)
  ·intro x hx
   rw [List.take_succ_eq_append_getElem pI, nY] at hx;rcases hx with hx | hx
   ·exact hn x hx
   ·rw [xu.1 hx, hd2]; exact Classical.not_not.1 he
 ·have hc : ¬ ((i : Int) < (k.length : Int)) := by omega
  rw [qI (by omega)] at hn;simp +contextual -implicitDefEqProofs (maxSteps := 1000000) (maxDischargeDepth := 8) only [eL, h0, h5, h7, h8, SC, SB, TR, hd, hc, aO, ag, implies_true, simprocAttr] at hX
  subst hX;exact cN (Or.inr ⟨hn, _, _, rfl, hm, by simp only [h0, ai, Nat.reduceBEq ], by simp only [h5, ai, Nat.reduceBEq ], by simp only [h7, ai, Nat.reduceBEq ], by simp only [h8, ai, Nat.reduceBEq ], by simp only [hd, ai, Nat.reduceBEq ]⟩)
theorem Qi {l : List Nd} {r : gD} {k : List Int} {t1 t2 b5 ty : Nat} {nl1 nl2 : Bool} (hv : js l k) (qf : k.length <= r.kids.length) (hl : k.length < 1000000000) {m0 : Mem} (yT : m0.get b5 = .cells r.cells 8 ty false) {fr : Fr} (h0 : fr.get 0 = row nl1 t1 5 (dX l)) (h5 : fr.get 5 = .ptr b5 0) (J7 : fr.get 115 = row nl2 t2 1 (ints k)) (J6 : fr.get 116 = .int .i64 (k.length : Int)) (M4 : fr.get 117 = .int .i64 0) (hd : fr.defers = []) :
  ∃ o, exec U (.loop dk) fr m0 = some o /\ ((¬ ka l k r.kids /\ ∃ fr' m', o = .ret fr' m' /\ fr'.get 4 = .bool false /\ fr'.defers = []) \/ (ka l k r.kids /\ ∃ fr' m', o = .exit 2 fr' m' /\ oS m0 m' /\ fr'.defers = [])) := by
 refine dF (σ := Nat) (fun i fr m => oS m0 m /\ i <= k.length /\ ka l (k.take i) r.kids /\ fr.get 0 = row nl1 t1 5 (dX l) /\ fr.get 5 = .ptr b5 0 /\ fr.get 115 = row nl2 t2 1 (ints k) /\ fr.get 116 = .int .i64 (k.length : Int) /\ fr.get 117 = .int .i64 (i : Int) /\ fr.defers = []) (fun i => k.length - i) _ ?_ 0 fr m0 ⟨.refl _, pF _, fun i x s h => by simp at h, h0, h5, J7, J6, M4, hd⟩
 rintro i fr m ⟨hm, hi, hn, h0, h5, J7, J6, M4, hd⟩
 replace yT := (hm.2 b5).trans yT
 generalize hX : exec U dk fr m = X
 by_cases pI : i < k.length
 ·have hc : (i : Int) < (k.length : Int) := by omega
  have hg : k[i]? = some k[i] := ij pI
  have VY : i < r.kids.length := by omega
  have V5 : r.kids[i]? = some r.kids[i] := ij VY
  obtain ⟨x0, x1⟩ := hv k[i] (oU pI)
  obtain ⟨d, hd1, hd2⟩ := mG x0 x1
  have iO := mL (k := .i64) x0 x1
  have ji := bL (i := i) (by omega)
  have hr0 : ∀ y, idx r.kids.length (.int .i64 (i : Int)) = some y ↔ i = y := fun y => by rw [aA VY]; simp
  simp +contextual -implicitDefEqProofs (maxSteps := 1000000) (maxDischargeDepth := 8) only [dk, h0, h5, J7, J6, M4, hd, hc, hg, V5, pI, VY, ji, yT, gD.cells, aA, cZ, ao, bt, aK, iO, hd1, Nd.cells, DW, aO, ag, implies_true, simprocAttr] at hX
  subst hX;refine l6 (fun he => e6 (Or.inl ⟨fun q => he ?_, _, _, rfl, by simp only [ai, Nat.reduceBEq ], by simp only [hd, ai, Nat.reduceBEq ]⟩)) (fun he => cB (i + 1) (by omega) ⟨hm.bump _, pI, ?_, by simp only [h0, ai, Nat.reduceBEq ], by simp only [h5, ai, Nat.reduceBEq ], by simp only [J7, ai, Nat.reduceBEq ], by simp only [J6, ai, Nat.reduceBEq ], by simp only [ai, Nat.reduceBEq ], by simp only [hd, ai, Nat.reduceBEq ]⟩)
  ·rw [<- hd2]; exact q i _ _ hg V5
  ·intro j x s hj hs
   rw [List.getElem?_take] at hj
   split at hj
   ·rename_i yR
    by_cases Ls : j < i
    ·exact hn j x s (by rw [List.getElem?_take, if_pos Ls]; exact hj) hs
    ·obtain rfl : j = i := by omega
     rw [hg] at hj; rw [V5] at hs
     cases hj; cases hs
     rw [hd2]; exact Classical.not_not.1 he
   ·cases hj
 ·have hc : ¬ ((i : Int) < (k.length : Int)) := by omega
  rw [qI (by omega)] at hn;simp +contextual -implicitDefEqProofs (maxSteps := 1000000) (maxDischargeDepth := 8) only [dk, h0, h5, J7, J6, M4, hd, hc, aO, ag, implies_true, simprocAttr] at hX
  subst hX;exact cN (Or.inr ⟨hn, _, _, rfl, hm, by simp only [hd, ai, Nat.reduceBEq ]⟩)
end
section
theorem og {p : Prop} {a b v : Option EV} (h1 : p -> a = v) (h2 : ¬ p -> b = v) : Lk p a b = v := by
 by_cases h : p
 ·rw [xX h]; exact h1 h
 ·rw [xY h]; exact h2 h
theorem Ca (k : Int) : (fT k).kids.length <= 3 := by
 unfold fT
 split
 ·have : ∀ n : Nat, n < 26 -> ((il.getD n mU).kids.length <= 3) := by decide
  exact this _ (by omega)
 ·decide
theorem Vq {n : Nat} {m : Nat} (h : n < 1000000000) (h2 : m <= 3) : lH [.int .i64 0, .int .i64 (IntKind.i64.wrap ((n : Int) - (m : Int)))] = some (.int .i64 ((n - m : Nat) : Int)) := by
 rw [wrap_i64 (by omega) (by omega)];simp only [lH, gZ, Nat.beq_refl, cond_true]
 congr 2
 split <;> omega
theorem J1 {l : List Nd} {kind n pos : Int} {kids : List Int} {nl : Bool} {s : gh} {r : gD} {n0 : Nat} (hr : fT kind = r) (hn : gR r kids = n0) : J3 l ⟨kind, kids, nl, n, s, pos⟩ ↔ ((1 <= kind /\ kind <= 26) /\ 0 <= pos /\ r.low <= n /\ n <= r.high /\ (r.name = true ↔ s ≠ []) /\ (r.name = true -> oM s) /\
 (∀ x ∈ kids.take n0, km (kindOf l x) r.sort) /\ (0 < r.more -> (n0 : Int) <= r.more) /\ ((kids.drop n0).length = r.kids.length \/ r.maybe = true /\ (kids.drop n0).length + 1 = r.kids.length) /\ ka l (kids.drop n0) r.kids) := by
 subst hr hn; exact Iff.rfl
theorem HT {l : List Nd} {d : Nd} {t1 : Nat} {nl1 : Bool} (hv : js l d.kids) (hl : d.kids.length < 1000000000) (hs : d.s.length < 1000000000) : aM B K tP [row nl1 t1 5 (dX l), .agg d.cells] = some (bo (J3 l d)) := by
 rw [bR (by simp [fD])]
 generalize Sx : exec (UT B K) (au.loop eL) = L0
 generalize Rc : exec (UT B K) (au.loop dk) = L1
 have jj := vU (k := d.kind)
 have sB := E9 hs
 have Ym := Ca d.kind
 obtain ⟨kind, kids, nl, n, s, pos⟩ := d
 simp only at hv hl hs jj sB Ym
 generalize hr : fT kind = r at *
 generalize JR : gR r kids = n0 at *
 have hP := J1 (l := l) (kind := kind) (n := n) (pos := pos) (kids := kids) (nl := nl) (s := s) hr JR
 have pH := Vq hl Ym
 have Zw : js l (kids.take n0) := fun x hx => hv x (List.mem_of_mem_take hx)
 have Zx : js l (kids.drop n0) := fun x hx => hv x (List.mem_of_mem_drop hx)
 have Yf : IntKind.i64.wrap ((r.kids.length : Int) - 1) = (r.kids.length : Int) - 1 := wrap_i64 (by omega) (by omega)
 have e1 : (((kids.drop n0).length : Int) = (r.kids.length : Int)) = ((kids.drop n0).length = r.kids.length) := propext (by omega)
 have e2 : (((kids.drop n0).length : Int) = (r.kids.length : Int) - 1) = ((kids.drop n0).length + 1 = r.kids.length) := propext (by omega)
 have e3 : ((kids.length : Int) = (r.kids.length : Int)) = (kids.length = r.kids.length) := propext (by omega)
 have e4 : ((kids.length : Int) = (r.kids.length : Int) - 1) = (kids.length + 1 = r.kids.length) := propext (by omega)
 have fin : ∀ {fr : Fr} {m : Mem} {b5 : Nat} {nl2 : Bool} {t2 ty : Nat}, m.get b5 = .cells r.cells 8 ty false -> fr.get 0 = row nl1 t1 5 (dX l) -> fr.get 5 = .ptr b5 0 -> fr.get 115 = row nl2 t2 1 (ints (kids.drop n0)) -> fr.get 116 = .int .i64 ((kids.drop n0).length : Int) -> fr.get 117 = .int .i64 0 -> fr.defers = [] -> (kids.drop n0).length <= r.kids.length ->
   ∃ o, exec U (.loop dk) fr m = some o /\ ((¬ ka l (kids.drop n0) r.kids /\ ∃ fr' m', o = .ret fr' m' /\ fr'.get 4 = .bool false /\ fr'.defers = []) \/ (ka l (kids.drop n0) r.kids /\ ∃ fr' m', o = .exit 2 fr' m' /\ oS m m' /\ fr'.defers = [])) :=
  fun g0 g1 g2 g3 g4 g5 g6 g7 => Qi Zx g7 (by rw [Lv]; omega) g0 g1 g2 g3 g4 g5 g6
 by_cases hm : 0 < r.more
 ·have JT : n0 = kids.length - r.kids.length := by rw [<- JR]; exact if_pos hm
  have hle : n0 <= kids.length := by omega
  have aP : (kids.take n0).length = n0 := by rw [List.length_take]; omega
  rw [<- JT] at pH
  cases hb : r.name
  all_goals
   simp +contextual -implicitDefEqProofs (maxSteps := 1000000) (maxDischargeDepth := 8) only [fD, Nd.cells, gD.cells, jj, sB, hm, hb, lm, ao, pH, hle, jC, gb, q9, l7, aO, ag, implies_true, simprocAttr]
   refine og (fun hc => congrArg some (gS fun q => ?_)) (fun hc => ?_)
   ·rw [hP] at q
    grind
   subst Sx;generalize hX : exec _ (.loop eL) _ _ = X
   have yT : (cY.cells [EV.str r.word, bo (r.name = true), EV.int IntKind.i64 r.low, EV.int IntKind.i64 r.high, EV.int IntKind.i64 r.more, EV.int IntKind.i64 r.sort, row r.kids.isEmpty 0 1 (ints r.kids), bo (r.maybe = true)] 8 fq false) = .cells r.cells 8 fq false := rfl
   simp only [hb, lm, nc, lh] at yT;obtain ⟨o, rfl, h⟩ := cw hX (Qj (l := l) (r := r) (k := kids.take n0) (b5 := nb cu.next 2) (ty := fq) (t1 := t1) (nl1 := nl1) (nl2 := nl && (ints kids).isEmpty) (t2 := 0) (v7 := row nl 0 1 (ints kids)) (v8 := .int .i64 (n0 : Int)) Zw (by omega) (by simp +contextual -implicitDefEqProofs (maxSteps := 1000000) (maxDischargeDepth := 8) only [yT, aO, ag, implies_true, simprocAttr]) (by simp only [ai, simprocAttr]) (by simp only [ai, simprocAttr]) (by simp only [ai, simprocAttr]) (by simp only [ai, simprocAttr]) (by simp only [ai, simprocAttr]) (by simp only [aP, ai, simprocAttr]) (by simp only [ai, simprocAttr]) (by simp only [ai, simprocAttr]))
   rcases h with ⟨h, fr', m', rfl, g4, gd⟩ | ⟨h, fr', m', rfl, ZH, g0, g5, g7, g8, gd⟩
   ·simp +contextual -implicitDefEqProofs (maxSteps := 1000000) (maxDischargeDepth := 8) only [g4, gd, aO, ag, implies_true, simprocAttr]
    exact congrArg some (gS fun q => h (hP.1 q).2.2.2.2.2.2.1)
   have TO : m'.get (nb cu.next 2) = .cells r.cells 8 fq false := (ZH.2 _).trans (by simp +contextual -implicitDefEqProofs (maxSteps := 1000000) (maxDischargeDepth := 8) only [yT, aO, ag, implies_true, simprocAttr])
   have hb7 := TO
   simp only [gD.cells] at TO;by_cases OL : r.more < (n0 : Int)
   ·simp +contextual -implicitDefEqProofs (maxSteps := 1000000) (maxDischargeDepth := 8) only [g0, g5, g7, g8, gd, TO, OL, aO, ag, implies_true, simprocAttr]
    exact congrArg some (gS fun q => by have := (hP.1 q).2.2.2.2.2.2.2.1 hm; omega)
   simp +contextual -implicitDefEqProofs (maxSteps := 1000000) (maxDischargeDepth := 8) only [g0, g5, g7, g8, gd, TO, OL, hle, jC, gb, List.take_length, q9, l7, ao, Yf, e1, e2, aO, ag, implies_true, simprocAttr]
   refine og (fun hc => congrArg some (gS fun q => ?_)) (fun hc2 => ?_)
   ·have := (hP.1 q).2.2.2.2.2.2.2.2.1
    grind
   subst Rc;generalize hY : exec _ (.loop dk) _ _ = Y
   obtain ⟨o, rfl, h2⟩ := cw hY (fin (b5 := nb cu.next 2) (ty := fq) (nl2 := nl && (ints kids).isEmpty) (t2 := 0) (by simp +contextual -implicitDefEqProofs (maxSteps := 1000000) (maxDischargeDepth := 8) only [hb7, aO, ag, implies_true, simprocAttr]) (by simp only [g0, ai, simprocAttr]) (by simp only [g5, ai, simprocAttr]) (by simp only [ai, simprocAttr]) (by simp only [ai, simprocAttr]) (by simp only [ai, simprocAttr]) (by simp only [gd, ai, simprocAttr]) (by grind))
   rcases h2 with ⟨h2, NF, m2, rfl, k4, kd⟩ | ⟨h2, NF, m2, rfl, VI, kd⟩
   ·simp +contextual -implicitDefEqProofs (maxSteps := 1000000) (maxDischargeDepth := 8) only [k4, kd, aO, ag, implies_true, simprocAttr]
    exact congrArg some (gS fun q => h2 (hP.1 q).2.2.2.2.2.2.2.2.2)
   ·simp +contextual -implicitDefEqProofs (maxSteps := 1000000) (maxDischargeDepth := 8) only [kd, aO, ag, implies_true, simprocAttr]
    refine congrArg some (y2 (hP.2 ?_))
    grind
 ·have JT : n0 = 0 := by rw [<- JR]; exact if_neg hm
  subst JT;rw [List.drop_zero] at *
  cases hb : r.name
  all_goals
   simp +contextual -implicitDefEqProofs (maxSteps := 1000000) (maxDischargeDepth := 8) only [fD, Nd.cells, gD.cells, jj, sB, hm, hb, lm, ao, Yf, e3, e4, aO, ag, implies_true, simprocAttr]
   refine og (fun hc => congrArg some (gS fun q => ?_)) (fun hc => ?_)
   ·rw [hP] at q
    grind
   refine og (fun hc => congrArg some (gS fun q => ?_)) (fun hc2 => ?_)
   ·have := (hP.1 q).2.2.2.2.2.2.2.2.1
    grind
   subst Rc;have yT : (cY.cells [EV.str r.word, bo (r.name = true), EV.int IntKind.i64 r.low, EV.int IntKind.i64 r.high, EV.int IntKind.i64 r.more, EV.int IntKind.i64 r.sort, row r.kids.isEmpty 0 1 (ints r.kids), bo (r.maybe = true)] 8 fq false) = .cells r.cells 8 fq false := rfl
   simp only [hb, lm, nc, lh] at yT;generalize hY : exec _ (.loop dk) _ _ = Y
   obtain ⟨o, rfl, h2⟩ := cw hY (fin (b5 := nb cu.next 2) (ty := fq) (nl2 := nl) (t2 := 0) (by simp +contextual -implicitDefEqProofs (maxSteps := 1000000) (maxDischargeDepth := 8) only [yT, aO, ag, implies_true, simprocAttr]) (by simp only [ai, simprocAttr]) (by simp only [ai, simprocAttr]) (by simp only [ai, simprocAttr]) (by simp only [ai, simprocAttr]) (by simp only [ai, simprocAttr]) (by simp only [ai, simprocAttr]) (by grind))
   rcases h2 with ⟨h2, NF, m2, rfl, k4, kd⟩ | ⟨h2, NF, m2, rfl, VI, kd⟩
   ·simp +contextual -implicitDefEqProofs (maxSteps := 1000000) (maxDischargeDepth := 8) only [k4, kd, aO, ag, implies_true, simprocAttr]
    exact congrArg some (gS fun q => h2 (hP.1 q).2.2.2.2.2.2.2.2.2)
   ·simp +contextual -implicitDefEqProofs (maxSteps := 1000000) (maxDischargeDepth := 8) only [kd, aO, ag, implies_true, simprocAttr]
    refine congrArg some (y2 (hP.2 ?_))
    have : ∀ x ∈ List.take 0 kids, km (kindOf l x) r.sort := by simp
    grind
end
section
theorem lY {l : List Nd} {ss : List Int} : ka l [] ss ↔ True := ⟨fun _ => trivial, fun _ i x s h => by simp at h⟩
theorem B1 {l : List Nd} {ks : List Int} : ka l ks [] ↔ True := ⟨fun _ => trivial, fun _ i x s _ h => by simp at h⟩
theorem tq {l : List Nd} {k s : Int} {ks ss : List Int} : ka l (k :: ks) (s :: ss) ↔ km (kindOf l k) s /\ ka l ks ss := by
 constructor
 ·intro h
  exact ⟨h 0 k s rfl rfl, fun i x t hx ht => h (i + 1) x t (by simpa using hx) (by simpa using ht)⟩
 ·rintro ⟨h1, h2⟩ i x t hx ht
  cases i with
  | zero => simp at hx ht; subst hx; subst ht; exact h1
  | succ i => exact h2 i x t (by simpa using hx) (by simpa using ht)
theorem Mf {k : Int} {d : Nd} (hd : d.kind = k) {name : Bool} {low high : Int} (hn : (k ∈ lN) ↔ name = true) (hr : 1 <= k /\ k <= 26) (hi : (if k = 1 then 0 <= d.n else if k = 2 then d.n = 0 \/ d.n = 1 else if k = 5 then 1 <= d.n /\ d.n <= 16 else if k = 24 \/ k = 25 then 1 <= d.n /\ d.n <= 3 else d.n = 0) ↔ (low <= d.n /\ d.n <= high)) :
  lL d ↔ (0 <= d.pos /\ low <= d.n /\ d.n <= high /\ (name = true ↔ d.s ≠ []) /\ (name = true -> oM d.s)) := by
 unfold lL;rw [hd, hi, hn]
 constructor
 ·rintro ⟨h1, h2, h3⟩
  simp only [not_or, Classical.not_not] at h1;refine ⟨by omega, h3.1, h3.2, h1.2, fun h => ?_⟩
  have := h1.2.1 h
  exact sj fun q => h2 ⟨this, q⟩
 ·rintro ⟨h1, h2, h3, h4, h5⟩
  refine ⟨?_, fun q => q.2 (h5 (h4.2 q.1)), h2, h3⟩
  simp only [not_or, Classical.not_not];exact ⟨⟨⟨by omega, by omega⟩, by omega⟩, h4⟩
theorem J2 {l : List Nd} {d : Nd} (hn : d.n <= 9223372036854775807) (hk : d.kids.length < 1000000000) : J3 l d ↔ lL d /\ bY l d := by
 by_cases h : 1 <= d.kind /\ d.kind <= 26
 ·have hc : d.kind = 1 \/ d.kind = 2 \/ d.kind = 3 \/ d.kind = 4 \/ d.kind = 5 \/ d.kind = 6 \/ d.kind = 7 \/ d.kind = 8 \/ d.kind = 9 \/ d.kind = 10 \/ d.kind = 11 \/ d.kind = 12 \/ d.kind = 13 \/ d.kind = 14 \/ d.kind = 15 \/ d.kind = 16 \/ d.kind = 17 \/ d.kind = 18 \/ d.kind = 19 \/ d.kind = 20 \/ d.kind = 21 \/ d.kind = 22 \/ d.kind = 23 \/ d.kind = 24 \/ d.kind = 25 \/ d.kind = 26 := by omega
  have key : ∀ r : gD, fT d.kind = r -> (((d.kind ∈ lN) ↔ r.name = true) /\ ((if d.kind = 1 then 0 <= d.n else if d.kind = 2 then d.n = 0 \/ d.n = 1 else if d.kind = 5 then 1 <= d.n /\ d.n <= 16 else if d.kind = 24 \/ d.kind = 25 then 1 <= d.n /\ d.n <= 3 else d.n = 0) ↔ (r.low <= d.n /\ d.n <= r.high)) /\
    (bY l d ↔ (∀ x ∈ d.kids.take (gR r d.kids), km (kindOf l x) r.sort) /\ (0 < r.more -> (gR r d.kids : Int) <= r.more) /\ ((d.kids.drop (gR r d.kids)).length = r.kids.length \/ r.maybe = true /\ (d.kids.drop (gR r d.kids)).length + 1 = r.kids.length) /\ ka l (d.kids.drop (gR r d.kids)) r.kids)) ->
    (J3 l d ↔ lL d /\ bY l d) := by
   rintro r hr ⟨h1, h2, h3⟩
   rw [Mf (k := d.kind) rfl h1 h h2, h3];unfold J3;rw [hr];simp only
   constructor
   ·rintro ⟨_, a1, a2, a3, a4, a5, a6, a7, a8, a9⟩; exact ⟨⟨a1, a2, a3, a4, a5⟩, a6, a7, a8, a9⟩
   ·rintro ⟨⟨a1, a2, a3, a4, a5⟩, a6, a7, a8, a9⟩; exact ⟨h, a1, a2, a3, a4, a5, a6, a7, a8, a9⟩
  obtain ⟨kind, kids, nl, n, s, pos⟩ := d
  simp only at *
  have l0 : ∀ {p q r : Prop}, True := trivial
  rcases hc with rfl | rfl | rfl | rfl | rfl | rfl | rfl | rfl | rfl | rfl | rfl | rfl | rfl | rfl | rfl | rfl | rfl | rfl | rfl | rfl | rfl | rfl | rfl | rfl | rfl | rfl
  all_goals refine key _ rfl ⟨by simp [lN, fT, il], by simp [fT, il] <;> omega, ?_⟩
  case inr.inr.inr.inr.inr.inr.inr.inr.inr.inr.inl =>
   have e : gR (fT 11) kids = kids.length := by simp [gR, fT, il]
   rw [e, List.take_length, List.drop_length];simp [bY, lY, km, ja, lG, fT, il]
   exact ⟨fun q => ⟨q.2, by omega⟩, fun q => ⟨by omega, q.1⟩⟩
  case inr.inr.inr.inr.inr.inr.inr.inr.inr.inr.inr.inr.inr.inr.inr.inr.inr.inr.inr.inr.inr.inr.inl =>
   have e : gR (fT 23) kids = kids.length := by simp [gR, fT, il]
   rw [e, List.take_length, List.drop_length];simp [bY, lY, km, pP, fT, il]
   intros
   omega
  case inr.inr.inr.inr.inr.inr.inr.inr.inr.inr.inr.inr.inr.inr.inr.inr.inr.inr.inr.inr.inr.inr.inr.inr.inl =>
   have e : gR (fT 25) kids = kids.length - 1 := by simp [gR, fT, il]
   rw [e];rcases List.eq_nil_or_concat kids with rfl | ⟨ks, x, rfl⟩
   ·simp [bY, fT, il]
   ·simp [bY, lY, tq, km, oG, fT, il]
    grind
  case inr.inr.inr.inr.inr.inr.inr.inr.inr.inr.inr.inr.inr.inr.inr.inr.inr.inr.inr.inr.inr.inr.inr.inr.inr =>
   have e : gR (fT 26) kids = kids.length := by simp [gR, fT, il]
   rw [e, List.take_length, List.drop_length];simp [bY, lY, km, oG, fT, il]
   grind
  all_goals
   rcases kids with _ | ⟨a, _ | ⟨b, _ | ⟨c, _ | ⟨e, ks⟩⟩⟩⟩ <;> simp [bY, gR, lY, B1, tq, km, ja, oG, lG, pP, fT, il] <;> grind
 ·constructor
  ·intro q; exact absurd q.1 h
  ·rintro ⟨q, _⟩
   unfold lL at q;refine absurd ?_ h
   have := q.1
   simp only [not_or] at this;omega
end
section
theorem max2 {k : IntKind} {a b : Int} : lH [.int k a, .int k b] = some (.int k (max a b)) := by
 simp only [lH, gZ, Nat.beq_refl, cond_true]
 congr 2
 split <;> omega
def outs (l : List Nd) (i : Nat) (h : Int) : List EV := (List.range l.length).map fun j => .int .i64 (if j < i then (bm l j : Int) else if j = i then h else 0)
noncomputable def gH (n : Nat) (u : List Int) : List EV := (List.range n).map fun (j : Nat) => bo ((j : Int) ∈ u)
theorem pS {l : List Nd} {i : Nat} {h : Int} : (outs l i h).length = l.length := by simp [outs]
theorem qL {n : Nat} {u : List Int} : (gH n u).length = n := by simp [gH]
theorem D9 {l : List Nd} {i : Nat} {h : Int} (hi : i < l.length) : (outs l i h)[i]? = some (.int .i64 h) := by
 unfold outs; rw [List.getElem?_map, List.getElem?_range hi]; simp
theorem Mh {l : List Nd} {i j : Nat} {h : Int} (hi : i <= l.length) (hj : j < i) : (outs l i h)[j]? = some (.int .i64 (bm l j : Int)) := by
 unfold outs; rw [List.getElem?_map, List.getElem?_range (by omega)]; simp [hj]
theorem zC {l : List Nd} {i : Nat} {h h2 : Int} (hi : i < l.length) : (outs l i h).take i ++ [.int .i64 h2] ++ (outs l i h).drop (i + 1) = outs l i h2 := by
 apply List.ext_getElem?
 intro j
 have hl := pS (l := l) (i := i) (h := h)
 have e : ∀ h, (outs l i h)[j]? = if j < l.length then some (.int .i64 (if j < i then (bm l j : Int) else if j = i then h else 0)) else none := by
  intro h
  unfold outs;rw [List.getElem?_map];by_cases q : j < l.length
  ·rw [List.getElem?_range q, if_pos q]; rfl
  ·rw [List.getElem?_eq_none (by simp; omega), if_neg q]; rfl
 rw [e];by_cases h1 : j < i
 ·rw [List.append_assoc, rB (by rw [List.length_take]; omega), List.getElem?_take, if_pos h1, e]
  simp [h1]
 ·by_cases yR : j = i
  ·subst yR
   rw [List.append_assoc, qJ (by rw [List.length_take]; omega), List.length_take, hl, show j - min j l.length = 0 by omega]
   simp [hi]
  ·rw [qJ (by simp; omega), List.getElem?_drop]
   rw [show i + 1 + (j - ((outs l i h).take i ++ [EV.int .i64 h2]).length) = j by simp [pS]; omega, e]
   simp [h1, yR]
theorem FZ {l : List Nd} {i : Nat} : outs l i (bm l i : Int) = outs l (i + 1) 0 := by
 unfold outs;refine List.map_congr_left fun j _ => ?_
 by_cases h1 : j < i
 ·rw [if_pos h1, if_pos (by omega)]
 ·by_cases h2 : j = i
  ·subst h2; rw [if_neg (by omega), if_pos rfl, if_pos (by omega)]
  ·rw [if_neg h1, if_neg h2, if_neg (by omega)]; split <;> rfl
theorem Py {l : List Nd} : cH l.length [.int .i64 0] = outs l 0 0 := by
 unfold cH outs
 apply List.ext_getElem?
 intro j
 have : (List.replicate l.length [EV.int .i64 0]).flatten = List.replicate l.length (EV.int .i64 0) := by
  generalize l.length = n
  induction n with
  | zero => rfl
  | succ n ih => rw [List.replicate_succ, List.flatten_cons, ih]; rfl
 rw [this, List.getElem?_replicate, List.getElem?_map];by_cases q : j < l.length
 ·rw [if_pos q, List.getElem?_range q]
  simp
 ·rw [if_neg q, List.getElem?_eq_none (by simp; omega)]; rfl
theorem IT {l : List Nd} : outs l l.length 0 = (ints ((List.range l.length).map fun j => (bm l j : Int))).flatten := by
 unfold outs;rw [ra, List.map_map];refine List.map_congr_left fun j hj => ?_
 rw [if_pos (List.mem_range.1 hj)]; rfl
theorem yY {n j : Nat} {u : List Int} (h : j < n) : (gH n u)[j]? = some (bo ((j : Int) ∈ u)) := by
 unfold gH; rw [List.getElem?_map, List.getElem?_range h]; rfl
theorem E3 {n x : Nat} {u : List Int} (hx : x < n) : (gH n u).take x ++ [.bool true] ++ (gH n u).drop (x + 1) = gH n (u ++ [(x : Int)]) := by
 apply List.ext_getElem?
 intro j
 have hl := qL (n := n) (u := u)
 have e : ∀ u, (gH n u)[j]? = if j < n then some (bo ((j : Int) ∈ u)) else none := by
  intro u
  unfold gH;rw [List.getElem?_map];by_cases q : j < n
  ·rw [List.getElem?_range q, if_pos q]; rfl
  ·rw [List.getElem?_eq_none (by simp; omega), if_neg q]; rfl
 rw [e (u ++ [(x : Int)])]
 by_cases h1 : j < x
 ·rw [List.append_assoc, rB (by rw [List.length_take]; omega), List.getElem?_take, if_pos h1, e, if_pos (by omega), if_pos (by omega)]
  refine congrArg some (kC ?_)
  simp; omega
 ·by_cases h2 : j = x
  ·subst h2
   rw [List.append_assoc, qJ (by rw [List.length_take]; omega), List.length_take, hl, show j - min j n = 0 by omega, if_pos hx]
   simp [bo]
  ·rw [qJ (by simp; omega), List.getElem?_drop, show x + 1 + (j - ((gH n u).take x ++ [EV.bool true]).length) = j by simp [qL]; omega, e]
   by_cases q : j < n
   ·rw [if_pos q, if_pos q]
    refine congrArg some (kC ?_)
    simp; omega
   ·rw [if_neg q, if_neg q]
theorem Lz {n : Nat} : cH n [.bool false] = gH n [] := by
 unfold cH gH
 apply List.ext_getElem?
 intro j
 have : (List.replicate n [EV.bool false]).flatten = List.replicate n (EV.bool false) := by
  clear j
  induction n with
  | zero => rfl
  | succ n ih => rw [List.replicate_succ, List.flatten_cons, ih]; rfl
 rw [this, List.getElem?_replicate, List.getElem?_map];by_cases q : j < n
 ·rw [if_pos q, List.getElem?_range q]
  simp [bo]
 ·rw [if_neg q, List.getElem?_eq_none (by simp; omega)]; rfl
def nN (l : List Nd) (ks : List Int) : Nat := ks.foldl (fun h x => max h (1 + bm l x.toNat)) 1
theorem CV {l : List Nd} {ks : List Int} {x : Int} : nN l (ks ++ [x]) = max (nN l ks) (1 + bm l x.toNat) := by unfold nN; rw [List.foldl_append]; rfl
theorem uo {l : List Nd} {i : Nat} (hk : bl (l.take i)) : ∀ (f y : Nat), y < i -> jV (l.take i) f y = jV l f y
 | 0, y, _ => rfl
 | f + 1, y, hy => by
  simp only [jV];rw [List.getElem?_take, if_pos hy]
  cases hd : l[y]? with
  | none => rfl
  | some d =>
   simp only
   have hx := hk y d (by rw [List.getElem?_take, if_pos hy, hd])
   generalize d.kids = ks at hx
   have : ∀ (ks : List Int) (a : Nat), (∀ x ∈ ks, 0 <= x /\ x < (y : Int)) -> ks.foldl (fun h x => max h (1 + jV (l.take i) f x.toNat)) a = ks.foldl (fun h x => max h (1 + jV l f x.toNat)) a := by
    intro ks
    induction ks with
    | nil => intro a _; rfl
    | cons x ks JB =>
     intro a h
     have := h x (by simp)
     rw [List.foldl_cons, List.foldl_cons, uo hk f x.toNat (by omega)];exact JB _ fun z hz => h z (by simp [hz])
   exact this ks 1 hx
theorem mM {l : List Nd} {i y : Nat} (hy : y < i) (hk : bl (l.take i)) : bm (l.take i) y = bm l y := uo hk _ _ hy
theorem CQ {l : List Nd} {i bo_ bu to tu : Nat} {d : Nd} {u : List Int} {v0 v6 : EV} {nl : Bool} {t : Nat} {w15 w16 w17 : EV} (hk : bl (l.take i)) (hs : Small l) (hd0 : l[i]? = some d) (hu : u.Nodup) {m0 : Mem} {fr : Fr} (iv : bo_ ≠ bu)
  (Lt : m0.get bo_ = .cells (outs l i 1) 1 to false) (HH : m0.get bu = .cells (gH l.length u) 1 tu false) (h0 : fr.get 0 = v0) (h6 : fr.get 6 = v6)
  (h3 : fr.get 3 = .slice bo_ 0 l.length (some l.length)) (h4 : fr.get 4 = .slice bu 0 l.length (some l.length)) (h5 : fr.get 5 = .int .i64 (i : Int))
  (GQ : fr.get 15 = w15) (GP : fr.get 16 = w16) (HJ : fr.get 17 = w17)
  (OU : fr.get 26 = row nl t 1 (ints d.kids)) (OT : fr.get 27 = .int .i64 (d.kids.length : Int)) (Qo : fr.get 28 = .int .i64 0) (hd : fr.defers = []) :
  ∃ o, exec U (.loop bP) fr m0 = some o /\ ((((∀ x ∈ d.kids, 0 <= x /\ x < (i : Int)) /\ (u ++ d.kids).Nodup) /\ ∃ fr' m', o = .exit 2 fr' m' /\ m'.get bo_ = .cells (outs l i (nN l d.kids : Int)) 1 to false /\ m'.get bu = .cells (gH l.length (u ++ d.kids)) 1 tu false /\
    m0.next <= m'.next /\ (∀ b, b ≠ bo_ -> b ≠ bu -> m'.get b = m0.get b) /\ fr'.get 0 = v0 /\ fr'.get 6 = v6 /\ fr'.get 3 = .slice bo_ 0 l.length (some l.length) /\ fr'.get 4 = .slice bu 0 l.length (some l.length) /\ fr'.get 5 = .int .i64 (i : Int) /\ fr'.get 15 = w15 /\ fr'.get 16 = w16 /\ fr'.get 17 = w17 /\ fr'.defers = []) \/
   (¬ ((∀ x ∈ d.kids, 0 <= x /\ x < (i : Int)) /\ (u ++ d.kids).Nodup) /\ ∃ fr' m', o = .ret fr' m' /\ fr'.get 2 = .aa /\ fr'.defers = [])) := by
 have Ey : i < l.length := (kO.1 hd0).1
 have hlen := hs.len
 have qf := hs.kids d (List.mem_of_getElem? hd0)
 refine dF (σ := Nat) (fun j fr m => j <= d.kids.length /\ (∀ x ∈ d.kids.take j, 0 <= x /\ x < (i : Int)) /\ (u ++ d.kids.take j).Nodup /\ m.get bo_ = .cells (outs l i (nN l (d.kids.take j) : Int)) 1 to false /\ m.get bu = .cells (gH l.length (u ++ d.kids.take j)) 1 tu false /\
   m0.next <= m.next /\ (∀ b, b ≠ bo_ -> b ≠ bu -> m.get b = m0.get b) /\ fr.get 0 = v0 /\ fr.get 6 = v6 /\ fr.get 3 = .slice bo_ 0 l.length (some l.length) /\ fr.get 4 = .slice bu 0 l.length (some l.length) /\ fr.get 5 = .int .i64 (i : Int) /\ fr.get 15 = w15 /\ fr.get 16 = w16 /\ fr.get 17 = w17 /\
   fr.get 26 = row nl t 1 (ints d.kids) /\ fr.get 27 = .int .i64 (d.kids.length : Int) /\ fr.get 28 = .int .i64 (j : Int) /\ fr.defers = []) (fun j => d.kids.length - j) _ ?_ 0 fr m0
  ⟨pF _, by simp, by simpa using hu, Lt, by simpa using HH, ee _, fun _ _ _ => rfl, h0, h6, h3, h4, h5, GQ, GP, HJ, OU, OT, Qo, hd⟩
 rintro j fr m ⟨hj, hall, hnd, Lt, HH, wQ, Ex, h0, h6, h3, h4, h5, GQ, GP, HJ, OU, OT, Qo, hd⟩
 generalize hX : exec U bP fr m = X
 by_cases aP : j < d.kids.length
 ·have hc : (j : Int) < (d.kids.length : Int) := by omega
  have hg : d.kids[j]? = some d.kids[j] := ij aP
  have ov : d.kids.take (j + 1) = d.kids.take j ++ [d.kids[j]] := List.take_succ_eq_append_getElem aP
  have iZ := oU aP
  have ji := bL (i := j) (by omega)
  generalize d.kids[j] = x at *
  by_cases x0 : x < 0
  ·simp +contextual -implicitDefEqProofs (maxSteps := 1000000) (maxDischargeDepth := 8) only [bP, h3, h4, h5, OU, OT, Qo, hd, hc, hg, aP, aA, cZ, ao, x0, aO, ag, implies_true, simprocAttr] at hX
   subst hX;exact e6 (Or.inr ⟨fun q => by have := q.1 x iZ; omega, _, _, rfl, by simp only [ai, Nat.reduceBEq ], by simp only [hd, ai, Nat.reduceBEq ]⟩)
  ·by_cases x1 : (i : Int) <= x
   ·simp +contextual -implicitDefEqProofs (maxSteps := 1000000) (maxDischargeDepth := 8) only [bP, h3, h4, h5, OU, OT, Qo, hd, hc, hg, aP, aA, cZ, ao, x0, x1, aO, ag, implies_true, simprocAttr] at hX
    subst hX;exact e6 (Or.inr ⟨fun q => by have := q.1 x iZ; omega, _, _, rfl, by simp only [ai, Nat.reduceBEq ], by simp only [hd, ai, Nat.reduceBEq ]⟩)
   ·obtain ⟨y, rfl⟩ := Int.eq_ofNat_of_zero_le (show 0 <= x by omega)
    have Ya : y < i := by omega
    have Q1 : y < l.length := by omega
    have iO : idx l.length (.int .i64 (y : Int)) = some y := aA Q1
    have TJ : idx l.length (.int .i64 (i : Int)) = some i := aA Ey
    have Yg := yY (u := u ++ d.kids.take j) Q1
    by_cases Es : (y : Int) ∈ u ++ d.kids.take j
    ·simp +contextual -implicitDefEqProofs (maxSteps := 1000000) (maxDischargeDepth := 8) only [bP, h3, h4, h5, OU, OT, Qo, hd, hc, hg, aP, aA, cZ, ao, x0, x1, iO, Yg, HH, Es, nc, Nat.mul_one, aO, ag, implies_true, simprocAttr] at hX
     subst hX;refine e6 (Or.inr ⟨fun q => ?_, _, _, rfl, by simp only [ai, Nat.reduceBEq ], by simp only [hd, ai, Nat.reduceBEq ]⟩)
     have q2 : (u ++ d.kids.take j ++ [(y : Int)]).Nodup := by
      rw [List.append_assoc, <- ov];exact List.Nodup.sublist (List.Sublist.append (List.Sublist.refl u) (List.take_sublist _ _)) q.2
     rw [List.nodup_append] at q2;exact q2.2.2 _ Es _ (by simp) rfl
    ·have VL := D9 (l := l) (h := (nN l (d.kids.take j) : Int)) Ey
     have ZQ := Mh (l := l) (h := (nN l (d.kids.take j) : Int)) (Nat.le_of_lt Ey) Ya
     have ZA := qL (n := l.length) (u := u ++ d.kids.take j)
     have Lp := pS (l := l) (i := i) (h := (nN l (d.kids.take j) : Int))
     have Zy := E3 (u := u ++ d.kids.take j) Q1
     have VM := fun h2 => zC (l := l) (h := (nN l (d.kids.take j) : Int)) (h2 := h2) Ey
     have hhy : bm l y <= y + 1 := by
      have := um hk y
      rw [mM Ya hk] at this;exact this
     have RM : IntKind.i64.wrap ((bm l y : Int) + 1) = ((bm l y + 1 : Nat) : Int) := by rw [wrap_i64 (by omega) (by omega)]; omega
     have z1 : y + 1 <= l.length := Q1
     have z2 : i + 1 <= l.length := Ey
     simp +contextual -implicitDefEqProofs (maxSteps := 1000000) (maxDischargeDepth := 8) only [bP, h3, h4, h5, OU, OT, Qo, hd, hc, hg, aP, ji, aA, cZ, ao, x0, x1, iO, TJ, Yg, HH, Lt, iv, iv.symm, Es, VL, ZQ, ZA, Lp, Zy, VM, RM, z1, z2, max2, lh, Nat.mul_one, aO, ag, implies_true, simprocAttr] at hX
     subst hX;refine cB (j + 1) (by omega) ⟨aP, ?_, ?_, ?_, ?_, ?_, ?_, by simp only [h0, ai, Nat.reduceBEq ], by simp only [h6, ai, Nat.reduceBEq ], by simp only [h3, ai, Nat.reduceBEq ], by simp only [h4, ai, Nat.reduceBEq ], by simp only [h5, ai, Nat.reduceBEq ], by simp only [GQ, ai, Nat.reduceBEq ], by simp only [GP, ai, Nat.reduceBEq ], by simp only [HJ, ai, Nat.reduceBEq ], by simp only [OU, ai, Nat.reduceBEq ], by simp only [OT, ai, Nat.reduceBEq ], by simp only [ai, Nat.reduceBEq ], by simp only [hd, ai, Nat.reduceBEq ]⟩
     ·intro z hz
      rw [ov, nY] at hz;rcases hz with hz | hz
      ·exact hall z hz
      ·rw [xu.1 hz]; omega
     ·rw [ov, <- List.append_assoc, List.nodup_append]
      refine ⟨hnd, by simp, fun a Wl b hb => ?_⟩
      rw [xu.1 hb]
      rintro rfl
      exact Es Wl
     ·rw [mc, fy, ov, CV]
      congr 3
      show max _ _ = ((max _ (1 + bm l (y : Int).toNat) : Nat) : Int)
      rw [show ((y : Nat) : Int).toNat = y by omega];omega
     ·rw [mc, bz iv.symm, fy, ov, List.append_assoc]
     ·rw [oa, cG, cG]; unfold nb; omega
     ·intro b Ss Aj
      rw [mc, bz Ss, bz Aj]; exact Ex b Ss Aj
 ·have hc : ¬ ((j : Int) < (d.kids.length : Int)) := by omega
  have ov : d.kids.take j = d.kids := qI (by omega)
  rw [ov] at hall hnd Lt HH;simp +contextual -implicitDefEqProofs (maxSteps := 1000000) (maxDischargeDepth := 8) only [bP, h3, h4, h5, OU, OT, Qo, hd, hc, aO, ag, implies_true, simprocAttr] at hX
  subst hX;exact cN (Or.inl ⟨⟨hall, hnd⟩, _, _, rfl, Lt, HH, wQ, Ex, by simp only [h0, ai, Nat.reduceBEq ], by simp only [h6, ai, Nat.reduceBEq ], by simp only [h3, ai, Nat.reduceBEq ], by simp only [h4, ai, Nat.reduceBEq ], by simp only [h5, ai, Nat.reduceBEq ], by simp only [GQ, ai, Nat.reduceBEq ], by simp only [GP, ai, Nat.reduceBEq ], by simp only [HJ, ai, Nat.reduceBEq ], by simp only [hd, ai, Nat.reduceBEq ]⟩)
end
section
theorem y0 {l : List Nd} (hk : bl l) : ∀ x ∈ aW l, x ∈ upto (l.length - 1) := by
 intro x hx
 obtain ⟨i, d, hi, hx⟩ := jt.1 hx
 have h1 := hk i d hi x hx
 have h2 := (kO.1 hi).1
 exact gM.2 ⟨h1.1, by omega⟩
theorem qm {f : Int -> Nat} : ∀ (ks : List Int) (a : Nat), a <= ks.foldl (fun h x => max h (f x)) a
 | [], a => ee _
 | x :: ks, a => by rw [List.foldl_cons]; exact vn (Nat.le_max_left _ _) (qm ks _)
theorem oQ {f : Int -> Nat} {x : Int} : ∀ (ks : List Int) (a : Nat), x ∈ ks -> f x <= ks.foldl (fun h x => max h (f x)) a
 | y :: ks, a, h => by
  rw [List.foldl_cons];rcases lj.1 h with rfl | h
  ·exact vn (Nat.le_max_right _ _) (qm ks _)
  ·exact oQ ks _ h
theorem JW {l : List Nd} (hk : bl l) {i : Nat} {d : Nd} (hd : l[i]? = some d) {x : Int} (hx : x ∈ d.kids) : bm l x.toNat + 1 <= bm l i := by
 rw [jU hk hd, Nat.add_comm];exact oQ (f := fun x => 1 + bm l x.toNat) _ _ hx
theorem Ac {l : List Nd} (hk : bl l) (hu : ∀ x ∈ upto (l.length - 1), x ∈ aW l) : ∀ (n j : Nat), l.length - j <= n -> j < l.length -> bm l j <= bm l (l.length - 1)
 | 0, j, h, hj => by omega
 | n + 1, j, h, hj => by
  by_cases e : j = l.length - 1
  ·rw [e]; exact ee _
  ·obtain ⟨i, d, hi, hx⟩ := jt.1 (hu (j : Int) (gM.2 ⟨by omega, by omega⟩))
   have h1 := hk i d hi _ hx
   have h2 := (kO.1 hi).1
   have h3 := JW hk hi hx
   rw [show ((j : Int)).toNat = j by omega] at h3;have := Ac hk hu n i (by omega) h2
   omega
def ma (l : List Nd) (i : Nat) : Prop := (∀ (j : Nat) (d : Nd), j < i -> l[j]? = some d -> (∀ x ∈ d.kids, 0 <= x /\ x < (j : Int)) /\ (lL d /\ bY l d) /\ bm l j <= 200) /\ (aW (l.take i)).Nodup
theorem jH {l : List Nd} : ef l ↔ ma l l.length /\ 0 < l.length /\ ∀ x ∈ upto (l.length - 1), x ∈ aW l := by
 unfold ma;rw [qI (ee _)]
 constructor
 ·rintro ⟨⟨h1, h2, h3⟩, h4, h5, h6⟩
  have hall : ∀ x ∈ upto (l.length - 1), x ∈ aW l := by
   intro x hx
   refine sj fun hn => ?_
   have : (x :: aW l).length <= (upto (l.length - 1)).length := la (List.nodup_cons.2 ⟨hn, h2⟩) fun y hy => by
    rcases lj.1 hy with rfl | hy
    ·exact hx
    ·exact y0 h1 y hy
   rw [pJ, List.length_cons] at this;omega
  refine ⟨⟨fun j d hj hd => ⟨h1 j d hd, h3 d (List.mem_of_getElem? hd), vn (Ac h1 hall _ j (ee _) hj) h6⟩, h2⟩, h4, hall⟩
 ·rintro ⟨⟨h1, h2⟩, h3, h4⟩
  have hk : bl l := fun i d hd => (h1 i d (kO.1 hd).1 hd).1
  refine ⟨⟨hk, h2, fun d hd => ?_⟩, h3, ?_, ?_⟩
  ·obtain ⟨i, hi⟩ := List.mem_iff_getElem?.1 hd
   exact (h1 i d (kO.1 hi).1 hi).2.1
  ·have a := la h2 (y0 hk)
   have b := la oV h4
   rw [pJ] at a b;omega
  ·obtain ⟨d, hd⟩ : ∃ d, l[l.length - 1]? = some d := ⟨_, ij (by omega)⟩
   exact (h1 _ d (by omega) hd).2.2
theorem GK {l : List Nd} {i : Nat} {d : Nd} (hk : bl (l.take i)) (hd : l[i]? = some d) (hx : ∀ x ∈ d.kids, 0 <= x /\ x < (i : Int)) : bm l i = nN l d.kids := by
 have mY : bl (l.take (i + 1)) := by
  intro j e he
  rw [List.getElem?_take] at he
  split at he
  ·by_cases hj : j < i
   ·exact hk j e (by rw [List.getElem?_take, if_pos hj]; exact he)
   ·obtain rfl : j = i := by omega
    rw [hd] at he; cases he; exact hx
  ·cases he
 have hd2 : (l.take (i + 1))[i]? = some d := by rw [List.getElem?_take, if_pos (by omega), hd]
 have h := jU mY hd2
 rw [mM (by omega) mY] at h;rw [h];unfold nN;generalize d.kids = ks at hx
 have : ∀ (ks : List Int) (a : Nat), (∀ x ∈ ks, 0 <= x /\ x < (i : Int)) -> ks.foldl (fun h x => max h (1 + bm (l.take (i + 1)) x.toNat)) a = ks.foldl (fun h x => max h (1 + bm l x.toNat)) a := by
  intro ks
  induction ks with
  | nil => intro a _; rfl
  | cons x ks JB =>
   intro a h
   have := h x (by simp)
   rw [List.foldl_cons, List.foldl_cons, mM (by omega) mY];exact JB _ fun z hz => h z (by simp [hz])
 exact this ks 1 hx
end
section
theorem Hs {n k b ty : Nat} {u : List Int} {cap : Option Nat} (hn : n < 1000000000) (hk : k <= n) {m0 : Mem} (hb : m0.get b = .cells (gH n u) 1 ty false) {fr : Fr} (h0 : fr.get 0 = .slice b 0 k cap) (h1 : fr.get 1 = .bool false) (h7 : fr.get 7 = .int .i64 (k : Int)) (h8 : fr.get 8 = .int .i64 0) (hd : fr.defers = []) :
  ∃ o, exec U (.loop bD) fr m0 = some o /\ (((∃ x ∈ upto k, x ∉ u) /\ ∃ fr' r, o = .ret fr' m0 /\ fr'.get 4 = .int .i64 r /\ 0 <= r /\ fr'.defers = []) \/ ((¬ ∃ x ∈ upto k, x ∉ u) /\ ∃ fr', o = .exit 0 fr' m0 /\ fr'.defers = [])) := by
 refine dF (σ := Nat) (fun i fr m => m = m0 /\ i <= k /\ (∀ j : Nat, j < i -> (j : Int) ∈ u) /\ fr.get 0 = .slice b 0 k cap /\ fr.get 1 = .bool false /\ fr.get 7 = .int .i64 (k : Int) /\ fr.get 8 = .int .i64 (i : Int) /\ fr.defers = []) (fun i => k - i) _ ?_ 0 fr m0 ⟨rfl, pF _, by omega, h0, h1, h7, h8, hd⟩
 rintro i fr m ⟨rfl, hi, hall, h0, h1, h7, h8, hd⟩
 generalize hX : exec U bD fr m = X
 by_cases aP : i < k
 ·have hc : (i : Int) < (k : Int) := by omega
  have hg := yY (u := u) (show i < n by omega)
  have iO : idx k (.int .i64 (i : Int)) = some i := aA aP
  have ji := bL (i := i) (by omega)
  by_cases he : (i : Int) ∈ u
  ·simp +contextual -implicitDefEqProofs (maxSteps := 1000000) (maxDischargeDepth := 8) only [bD, h0, h1, h7, h8, hd, hc, hb, hg, iO, he, ji, nc, Nat.mul_one, aO, ag, implies_true, simprocAttr] at hX
   subst hX;refine cB (i + 1) (by omega) ⟨rfl, aP, fun j hj => ?_, by simp only [h0, ai, Nat.reduceBEq ], by simp only [h1, ai, Nat.reduceBEq ], by simp only [h7, ai, Nat.reduceBEq ], by simp only [ai, Nat.reduceBEq ], by simp only [hd, ai, Nat.reduceBEq ]⟩
   by_cases yR : j < i
   ·exact hall j yR
   ·obtain rfl : j = i := by omega
    exact he
  ·simp +contextual -implicitDefEqProofs (maxSteps := 1000000) (maxDischargeDepth := 8) only [bD, h0, h1, h7, h8, hd, hc, hb, hg, iO, he, ji, lh, Nat.mul_one, aO, ag, implies_true, simprocAttr] at hX
   subst hX;exact e6 (.inl ⟨⟨(i : Int), gM.2 ⟨by omega, hc⟩, he⟩, _, (i : Int), rfl, by simp only [ai, Nat.reduceBEq ], by omega, by simp only [hd, ai, Nat.reduceBEq ]⟩)
 ·have hc : ¬ ((i : Int) < (k : Int)) := by omega
  simp +contextual -implicitDefEqProofs (maxSteps := 1000000) (maxDischargeDepth := 8) only [bD, h0, h1, h7, h8, hd, hc, aO, ag, implies_true, simprocAttr] at hX
  subst hX;refine cN (.inr ⟨?_, _, rfl, by simp only [hd, ai, Nat.reduceBEq ]⟩)
  rintro ⟨x, hx, Vy⟩
  have := gM.1 hx
  have h := hall x.toNat (by omega)
  rw [show ((x.toNat : Nat) : Int) = x by omega] at h;exact Vy h
theorem KW {n k b ty : Nat} {u : List Int} {cap : Option Nat} (hn : n < 1000000000) (hk : k <= n) {m : Mem} (hb : m.get b = .cells (gH n u) 1 ty false) : ∃ r, run U ot [.slice b 0 k cap, .bool false] m = some (.ret (.int .i64 r) m) /\ (0 <= r ↔ ∃ x ∈ upto k, x ∉ u) := by
 rw [tF (by simp [bZ])]
 generalize hL : exec (UT B K) (au.loop bD) = L
 simp +contextual -implicitDefEqProofs (maxSteps := 1000000) (maxDischargeDepth := 8) only [bZ, aO, ag, implies_true, simprocAttr]
 subst hL;generalize hX : exec _ (.loop bD) _ _ = X
 obtain ⟨o, rfl, h⟩ := cw hX (Hs (n := n) (k := k) (b := b) (ty := ty) (u := u) (cap := cap) hn hk hb (by simp only [ai, Nat.reduceBEq ]) (by simp only [ai, Nat.reduceBEq ]) (by simp only [ai, Nat.reduceBEq ]) (by simp only [ai, Nat.reduceBEq ]) (by simp only [ai, Nat.reduceBEq ]))
 rcases h with ⟨h, fr', r, rfl, h4, hr, hd⟩ | ⟨h, fr', rfl, hd⟩
 ·refine ⟨r, ?_, ⟨fun _ => h, fun _ => hr⟩⟩
  simp +contextual -implicitDefEqProofs (maxSteps := 1000000) (maxDischargeDepth := 8) only [h4, hd, aO, ag, implies_true, simprocAttr]
 ·refine ⟨-1, ?_, ⟨fun q => by omega, fun q => absurd q h⟩⟩
  simp +contextual -implicitDefEqProofs (maxSteps := 1000000) (maxDischargeDepth := 8) only [hd, aO, ag, implies_true, simprocAttr]
theorem KX {n k b ty : Nat} {u : List Int} {cap : Option Nat} (hn : n < 1000000000) (hk : k <= n) {m : Mem} (hb : m.get b = .cells (gH n u) 1 ty false) : run U mH [.slice b 0 k cap, .bool false] m = some (.ret (bo (∃ x ∈ upto k, x ∉ u)) m) := by
 rw [tF (by simp [bE])]
 obtain ⟨r, h, hr⟩ := KW (cap := cap) hn hk hb
 simp +contextual -implicitDefEqProofs (maxSteps := 1000000) (maxDischargeDepth := 8) only [bE, h, hr, aO, ag, implies_true, simprocAttr]
theorem CP {l : List Nd} {t bo_ bu to tu : Nat} {nl : Bool} (hs : Small l) (hn : ∀ d ∈ l, d.n <= 9223372036854775807) {m0 : Mem} {fr : Fr} (iv : bo_ ≠ bu) (kw : bo_ < m0.next) (TG : bu < m0.next)
  (Lt : m0.get bo_ = .cells (outs l 0 0) 1 to false) (HH : m0.get bu = .cells (gH l.length []) 1 tu false) (h0 : fr.get 0 = row nl t 5 (dX l))
  (h3 : fr.get 3 = .slice bo_ 0 l.length (some l.length)) (h4 : fr.get 4 = .slice bu 0 l.length (some l.length)) (GQ : fr.get 15 = row nl t 5 (dX l)) (GP : fr.get 16 = .int .i64 (l.length : Int)) (HJ : fr.get 17 = .int .i64 0) (hd : fr.defers = []) :
  ∃ o, exec U (.loop cP) fr m0 = some o /\ ((ma l l.length /\ ∃ fr' m', o = .exit 0 fr' m' /\ m'.get bo_ = .cells (outs l l.length 0) 1 to false /\ m'.get bu = .cells (gH l.length (aW l)) 1 tu false /\ bo_ < m'.next /\ bu < m'.next /\ fr'.get 0 = row nl t 5 (dX l) /\ fr'.get 3 = .slice bo_ 0 l.length (some l.length) /\ fr'.get 4 = .slice bu 0 l.length (some l.length) /\ fr'.defers = []) \/
   (¬ ma l l.length /\ ∃ fr' m', o = .ret fr' m' /\ fr'.get 2 = .aa /\ fr'.defers = [])) := by
 have hlen := hs.len
 refine dF (σ := Nat) (fun i fr m => i <= l.length /\ ma l i /\ m.get bo_ = .cells (outs l i 0) 1 to false /\ m.get bu = .cells (gH l.length (aW (l.take i))) 1 tu false /\ bo_ < m.next /\ bu < m.next /\ fr.get 0 = row nl t 5 (dX l) /\ fr.get 3 = .slice bo_ 0 l.length (some l.length) /\ fr.get 4 = .slice bu 0 l.length (some l.length) /\
   fr.get 15 = row nl t 5 (dX l) /\ fr.get 16 = .int .i64 (l.length : Int) /\ fr.get 17 = .int .i64 (i : Int) /\ fr.defers = []) (fun i => l.length - i) _ ?_ 0 fr m0
  ⟨pF _, ⟨fun j d hj => by omega, by simp [aW]⟩, Lt, by simpa [aW] using HH, kw, TG, h0, h3, h4, GQ, GP, HJ, hd⟩
 rintro i fr m ⟨hi, hr, Lt, HH, kw, TG, h0, h3, h4, GQ, GP, HJ, hd⟩
 generalize hX : exec U cP fr m = X
 by_cases aP : i < l.length
 ·have hc : (i : Int) < (l.length : Int) := by omega
  have hd0 : l[i]? = some l[i] := ij aP
  have iZ := oU aP
  have ul := hs.kids _ iZ
  have mY := hs.s _ iZ
  have CI := hn _ iZ
  have sA := kQ hd0
  generalize l[i] = d at *
  have sC : bl (l.take i) := by
   intro j e he
   rw [List.getElem?_take] at he
   split at he
   ·exact (hr.1 j e ‹_› he).1
   ·cases he
  have ji := bL (i := i) (by omega)
  have TJ : idx l.length (.int .i64 (i : Int)) = some i := aA aP
  have Lp := pS (l := l) (i := i) (h := 0)
  have VM := zC (l := l) (h := 0) (h2 := 1) aP
  have z2 : i + 1 <= l.length := aP
  generalize hL : exec (UT B K) (au.loop bP) = L
  simp +contextual -implicitDefEqProofs (maxSteps := 1000000) (maxDischargeDepth := 8) only [cP, h0, h3, h4, GQ, GP, HJ, hd, hc, hd0, TJ, Lt, kw, Lp, VM, z2, Nat.mul_one, bt, aK, Nd.cells, aO, ag, implies_true, simprocAttr] at hX
  subst hL;generalize hY : exec _ (.loop bP) _ _ = Y at hX
  have b1 : (ext (m.set bo_ (cY.cells (outs l i 1) 1 to false)) [cY.cells [EV.int IntKind.i64 d.kind, row d.nl 0 1 (ints d.kids), EV.int IntKind.i64 d.n, EV.str d.s, EV.int IntKind.i64 d.pos] 5 aL false]).get bo_ = .cells (outs l i 1) 1 to false := by rw [cC (by rw [cG]; exact kw), fy]
  have b2 : (ext (m.set bo_ (cY.cells (outs l i 1) 1 to false)) [cY.cells [EV.int IntKind.i64 d.kind, row d.nl 0 1 (ints d.kids), EV.int IntKind.i64 d.n, EV.str d.s, EV.int IntKind.i64 d.pos] 5 aL false]).get bu = .cells (gH l.length (aW (l.take i))) 1 tu false := by rw [cC (by rw [cG]; exact TG), bz iv.symm, HH]
  have b3 : (ext (m.set bo_ (cY.cells (outs l i 1) 1 to false)) [cY.cells [EV.int IntKind.i64 d.kind, row d.nl 0 1 (ints d.kids), EV.int IntKind.i64 d.n, EV.str d.s, EV.int IntKind.i64 d.pos] 5 aL false]).get (nb m.next 0) = cY.cells [EV.int IntKind.i64 d.kind, row d.nl 0 1 (ints d.kids), EV.int IntKind.i64 d.n, EV.str d.s, EV.int IntKind.i64 d.pos] 5 aL false := by rw [bS (by rw [cG]) (by simp)]; rfl
  have b4 : (ext (m.set bo_ (cY.cells (outs l i 1) 1 to false)) [cY.cells [EV.int IntKind.i64 d.kind, row d.nl 0 1 (ints d.kids), EV.int IntKind.i64 d.n, EV.str d.s, EV.int IntKind.i64 d.pos] 5 aL false]).next = nb m.next 1 := by rw [b8, cG]; rfl
  generalize (ext (m.set bo_ (cY.cells (outs l i 1) 1 to false)) _) = M1 at b1 b2 b3 b4 hY
  obtain ⟨o, rfl, h⟩ := cw hY (CQ (l := l) (i := i) (bo_ := bo_) (bu := bu) (to := to) (tu := tu) (d := d) (u := aW (l.take i)) (v0 := row nl t 5 (dX l)) (v6 := .ptr (nb m.next 0) 0) (nl := d.nl) (t := 0) (w15 := row nl t 5 (dX l)) (w16 := .int .i64 (l.length : Int)) (w17 := .int .i64 (i : Int)) sC hs hd0 hr.2 iv b1 b2
   (by simp only [h0, ai, Nat.reduceBEq ]) (by simp only [ai, Nat.reduceBEq ]) (by simp only [h3, ai, Nat.reduceBEq ]) (by simp only [h4, ai, Nat.reduceBEq ]) (by simp only [ai, Nat.reduceBEq ]) (by simp only [GQ, ai, Nat.reduceBEq ]) (by simp only [GP, ai, Nat.reduceBEq ]) (by simp only [HJ, ai, Nat.reduceBEq ]) (by simp only [ai, Nat.reduceBEq ]) (by simp only [ao, ai, Nat.reduceBEq ]) (by simp only [ai, Nat.reduceBEq ]) (by simp only [hd, ai, Nat.reduceBEq ]))
  rcases h with ⟨⟨g1, g2⟩, fr', m', rfl, c1, c2, c3, c4, h0, h6, h3, h4, h5, GQ, GP, HJ, hd⟩ | ⟨g, fr', m', rfl, h2, hd⟩
  ·have hv : js l d.kids := fun x hx => by have := g1 x hx; omega
   have Bp := nD g1 (List.nodup_append.1 g2).2.1
   have hh := GK sC hd0 g1
   rw [<- hh] at c1;have GL : ∀ t1 nl1, aM B K tP [row nl1 t1 5 (dX l), .agg [.int .i64 d.kind, row d.nl 0 1 (ints d.kids), .int .i64 d.n, .str d.s, .int .i64 d.pos]] = some (bo (lL d /\ bY l d)) := fun t1 nl1 => by
    have := HT (l := l) (d := d) (t1 := t1) (nl1 := nl1) hv (by omega) (by omega)
    rw [kC (J2 CI (by omega))] at this;exact this
   have JR : nb m.next 0 = m.next := rfl
   have b5 : m'.get (nb m.next 0) = cY.cells [EV.int IntKind.i64 d.kind, row d.nl 0 1 (ints d.kids), EV.int IntKind.i64 d.n, EV.str d.s, EV.int IntKind.i64 d.pos] 5 aL false := (c4 _ (by rw [JR]; omega) (by rw [JR]; omega)).trans b3
   have VL := D9 (l := l) (h := (bm l i : Int)) aP
   have RY : ((200 : Int) < (bm l i : Int)) = (200 < bm l i) := propext (by omega)
   have nx : nb m.next 1 = m.next + 1 := rfl
   simp +contextual -implicitDefEqProofs (maxSteps := 1000000) (maxDischargeDepth := 8) only [h0, h3, h4, h5, h6, GQ, GP, HJ, hd, GL, b5, c1, VL, TJ, RY, ji, Nat.mul_one, aO, ag, implies_true, simprocAttr] at hX
   subst hX;refine l6 (fun hp => e6 (Or.inr ⟨fun q => ?_, _, _, rfl, by simp only [ai, Nat.reduceBEq ], by simp only [hd, ai, Nat.reduceBEq ]⟩)) (fun hp => cB (i + 1) (by omega) ⟨aP, ⟨fun j e hj he => ?_, by rw [sA]; exact g2⟩, by rw [<- FZ]; exact c1, by rw [sA]; exact c2, by omega, by omega, by simp only [h0, ai, Nat.reduceBEq ], by simp only [h3, ai, Nat.reduceBEq ], by simp only [h4, ai, Nat.reduceBEq ], by simp only [GQ, ai, Nat.reduceBEq ], by simp only [GP, ai, Nat.reduceBEq ], by simp only [ai, Nat.reduceBEq ], by simp only [hd, ai, Nat.reduceBEq ]⟩)
   ·obtain ⟨_, q1, q2⟩ := q.1 i d aP hd0
    exact hp.elim (fun h => h q1) (fun h => by omega)
   ·by_cases yR : j < i
    ·exact hr.1 j e yR he
    ·obtain rfl : j = i := by omega
     rw [hd0] at he; cases he
     exact ⟨g1, sj fun h => hp (.inl h), sj fun h => hp (.inr (by omega))⟩
  ·simp +contextual -implicitDefEqProofs (maxSteps := 1000000) (maxDischargeDepth := 8) only [h2, hd, aO, ag, implies_true, simprocAttr] at hX
   subst hX;refine e6 (Or.inr ⟨fun q => g ⟨(q.1 i d aP hd0).1, ?_⟩, _, _, rfl, h2, hd⟩)
   rw [<- sA];exact q.2.sublist (by rw [qI (ee _)]; exact lV _)
 ·have hc : ¬ ((i : Int) < (l.length : Int)) := by omega
  obtain rfl : i = l.length := by omega
  rw [qI (ee _)] at HH;simp +contextual -implicitDefEqProofs (maxSteps := 1000000) (maxDischargeDepth := 8) only [cP, h0, h3, h4, GQ, GP, HJ, hd, hc, aO, ag, implies_true, simprocAttr] at hX
  subst hX;exact cN (Or.inl ⟨hr, _, _, rfl, Lt, HH, kw, TG, by simp only [h0, ai, Nat.reduceBEq ], by simp only [h3, ai, Nat.reduceBEq ], by simp only [h4, ai, Nat.reduceBEq ], by simp only [hd, ai, Nat.reduceBEq ]⟩)
def er (l : List Nd) : List Int := (List.range l.length).map fun j => (bm l j : Int)
open Classical in
noncomputable def nH (l : List Nd) : EV := if ef l then .fz 0 1 (ints (er l)) else .aa
theorem NK {e b off len c h : Nat} {k : IntKind} (hh : h <= c) : b9 e b off len (some c) none (some (.int k (h : Int))) none = some (.slice b off h (some c)) := by
 have h1 : aw (some (.int k (h : Int))) len c = some h := jC hh
 unfold b9;simp only [gb, h1, Nat.zero_mul, Nat.add_zero, Nat.sub_zero]
 cases c.beq 0 <;> rfl
theorem pM {l : List Nd} {t : Nat} {nl : Bool} (hs : Small l) (hn : ∀ d ∈ l, d.n <= 9223372036854775807) : aM B K iW [row nl t 5 (dX l)] = some (nH l) := by
 have hlen := hs.len
 rw [bR (by simp [dn])]
 generalize hL : exec (UT B K) (au.loop cP) = L
 have OR : ((l.length : Nat) : Int) = Int.ofNat l.length := rfl
 have k1 : l.length.ble l.length = true := lJ (ee _)
 have k2 : l.length.ble room = true := lJ (by unfold room; omega)
 simp +contextual -implicitDefEqProofs (maxSteps := 1000000) (maxDischargeDepth := 8) only [dn, aK, OR, k1, k2, Py, Lz, aO, ag, implies_true, simprocAttr]
 subst hL;generalize hX : exec _ (.loop cP) _ _ = X
 have CI : nb cu.next 0 = cu.next := rfl
 obtain ⟨o, rfl, h⟩ := cw hX (CP (l := l) (t := t) (nl := nl) (bo_ := cu.next) (bu := nb cu.next 1) (to := oI) (tu := Pe) hs hn (by unfold nb; omega) (by rw [b8]; unfold nb; simp) (by rw [b8]; unfold nb; simp) (by rw [<- CI, bS rfl (by simp)]; rfl) (by rw [bS rfl (by simp)]; rfl)
  (by simp only [ai, Nat.reduceBEq ]) (by simp only [ai, Nat.reduceBEq ]) (by simp only [ai, Nat.reduceBEq ]) (by simp only [ai, Nat.reduceBEq ]) (by simp only [OR, ai, Nat.reduceBEq ]) (by simp only [ai, Nat.reduceBEq ]) (by simp only [ai, Nat.reduceBEq ]))
 rcases h with ⟨h, fr', m', rfl, c1, c2, c3, c4, h0, h3, h4, hd⟩ | ⟨h, fr', m', rfl, h2, hd⟩
 ·by_cases P3 : l.length = 0
  ·have hv : nH l = .aa := if_neg fun q => by have := q.2.1; omega
   rw [hv];simp +contextual -implicitDefEqProofs (maxSteps := 1000000) (maxDischargeDepth := 8) only [h0, hd, P3, aK, aO, ag, implies_true, simprocAttr]
  ·have hc : ¬ ((l.length : Int) = 0) := by omega
   have hw : IntKind.i64.wrap ((l.length : Int) - 1) = ((l.length - 1 : Nat) : Int) := by rw [wrap_i64 (by omega) (by omega)]; omega
   have RR := fun b => NK (e := 1) (b := b) (off := 0) (len := l.length) (c := l.length) (h := l.length - 1) (k := .i64) (by omega)
   have GL := fun cap => KX (n := l.length) (k := l.length - 1) (cap := cap) (by omega) (by omega) c2
   have hfz : jY m' (.slice cu.next 0 l.length (some l.length)) = some (.fz 0 1 (ints (er l))) := by
    have e : (ints (er l)).length = l.length := by rw [ao]; simp [er]
    have := pg (m := m') (els := ints (er l)) (e := 1) (b := cu.next) (cap := some l.length) (ty := oI) (ro := false) (by rw [c1, IT]; rfl) (uf _) (o9 _) (by rw [e]; simp [qx])
    rw [e] at this; exact this
   by_cases hex : ∃ x ∈ upto (l.length - 1), x ∉ aW l
   ·have hv : nH l = .aa := if_neg fun q => by
     obtain ⟨x, hx, Vy⟩ := hex
     exact Vy ((jH.1 q).2.2 x hx)
    rw [hv];simp +contextual -implicitDefEqProofs (maxSteps := 1000000) (maxDischargeDepth := 8) only [h0, h3, h4, hd, hc, hw, RR, GL, hex, nc, aK, aO, ag, implies_true, simprocAttr]
   ·have hv : nH l = .fz 0 1 (ints (er l)) := if_pos (jH.2 ⟨h, by omega, fun x hx => sj fun q => hex ⟨x, hx, q⟩⟩)
    rw [hv];simp +contextual -implicitDefEqProofs (maxSteps := 1000000) (maxDischargeDepth := 8) only [h0, h3, h4, hd, hc, hw, RR, GL, hex, lh, aK, hfz, aO, ag, implies_true, simprocAttr]
 ·have hv : nH l = .aa := if_neg fun q => h (jH.1 q).1
  rw [hv];simp +contextual -implicitDefEqProofs (maxSteps := 1000000) (maxDischargeDepth := 8) only [h2, hd, aO, ag, implies_true, simprocAttr]
theorem nG {l : List Nd} {t : Nat} {nl : Bool} (hs : Small l) (hn : ∀ d ∈ l, d.n <= 9223372036854775807) (h : ef l) : aM B K iW [row nl t 5 (dX l)] = some (.fz 0 1 (ints (er l))) := by
 rw [pM hs hn]; exact congrArg some (if_pos h)
theorem CO {l : List Nd} {t : Nat} {nl : Bool} (hs : Small l) (hn : ∀ d ∈ l, d.n <= 9223372036854775807) (h : ¬ ef l) : aM B K iW [row nl t 5 (dX l)] = some .aa := by
 rw [pM hs hn]; exact congrArg some (if_neg h)
theorem qh {l : List Nd} : (er l).length = l.length := by simp [er]
theorem te {l : List Nd} {t : Nat} {nl : Bool} (hs : Small l) (hn : ∀ d ∈ l, d.n <= 9223372036854775807) : aM B K pY [row nl t 5 (dX l)] = some (bo (ef l)) := by
 rw [bR (by simp [dH])]
 by_cases h : ef l
 ·have e := fun t nl => nG (t := t) (nl := nl) hs hn h
  have hc : (0 : Int) < (l.length : Int) := by have := h.2.1; omega
  simp +contextual -implicitDefEqProofs (maxSteps := 1000000) (maxDischargeDepth := 8) only [dH, e, h, qh, ao, hc, nc, aO, ag, implies_true, simprocAttr]
 ·have e := fun t nl => CO (t := t) (nl := nl) hs hn h
  simp +contextual -implicitDefEqProofs (maxSteps := 1000000) (maxDischargeDepth := 8) only [dH, e, h, lh, aO, ag, implies_true, simprocAttr]
def T8 (l : List Nd) : Prop := ef l /\ kindOf l ((l.length - 1 : Nat) : Int) = 26
end
section
def K3 (m : Mem) : Prop := ∀ b cs e t ro, m.get b = .cells cs e t ro -> b < m.next
theorem in_live {n0 : Nat} {bs : List ng} (hl : (∀ p ∈ globs, p.1 < n0) /\ ∀ g l, tabl g = some l -> g < n0) : K3 (eb n0 bs) := by
 intro b cs e t ro h
 refine sj fun q => ?_
 have : (eb n0 bs).next = n0 + bs.length := rfl
 rw [ug hl (by omega)] at h
 cases h
end
section
open Go Go.Deep
def GFact (w : World) (g : Nat) (l : List (List UInt8)) : Prop :=
 ∃ (arr : Array Value) (e : TypeId) (fz : Nat × Nat) (bT off cap : Nat) (uX : Array Value) (e2 : TypeId) (SW : Nat × Nat),
  w.heap[g]? = some (.cells arr e fz) /\ arr.toList = [.slice (some ⟨bT, off, none⟩) l.length cap] /\ l.length <= cap /\
  w.heap[bT]? = some (.cells uX e2 SW) /\ off + l.length <= uX.size /\ ∀ (j : Nat) (s : List UInt8), l[j]? = some s -> ∃ b, uX[off + j]? = some (.string b) /\ b.data.toList = s
theorem gfact_of {H : Type} {enc : TypeId × Value -> H} {P : Program} {w : World} {base : Nat} {sp : Nat -> Bool} {held : Bool} {g : Nat} {t e : TypeId} {name : String} {l : List (List UInt8)} {fuel : Nat} {p : List MemPlace} {cs : Array Value} {D : DataW H} (iv : l ≠ []) (hD : D = .slice (l.map fun s => .lit (.string s)) [])
  (hg : P.globalNamed name = some g) (ht : P.underlying t = some (.slice e)) (hc : P.cellsOf e = 1) (he : P.underlying e = some .string) (hv : w.var? P name = some cs)
  (hd : DataW.trod enc P w base sp held fuel t cs.toList = some (D, p)) : GFact w g l := by
 subst hD;obtain ⟨a, cap, h1, h2, h3⟩ := open_row ht hc hd
 rw [List.length_map] at h1 h2;have qj : ∀ i s, l[i]? = some s -> ∃ b, w.cell? (a.add i) = some (.string b) /\ b.data.toList = s := by
  intro i s hs
  obtain ⟨v, n, q, hv1, hv2⟩ := h3 i (.lit (.string s)) (by rw [List.getElem?_map, hs]; rfl)
  obtain ⟨b, hb, hx, _⟩ := DataW.trod_string he hv2
  simp only [List.cons.injEq, and_true] at hb;subst hb;refine ⟨b, hv1, ?_⟩
  simp only [kj, DataW.lit.injEq, Lit.string.injEq] at hx;exact hx.1.symm
 have vD : 0 < l.length := List.length_pos_iff.2 iv
 obtain ⟨bT, off, uX, e2, SW, rfl, lq⟩ : ∃ bT off arr ty fz, a = ⟨bT, off, none⟩ /\ w.heap[bT]? = some (.cells arr ty fz) := by
  obtain ⟨b, hv, _⟩ := qj 0 l[0] (ij vD)
  have hv : w.cell? a = some (.string b) := hv
  obtain ⟨bT, off, spot⟩ := a
  unfold World.cell? at hv
  split at hv
  ·rename_i c t z hh
   cases spot with
   | none => exact ⟨bT, off, c, t, z, rfl, hh⟩
   | some x => simp at hv
  ·cases hv
 have HI : ∀ n, w.cell? ⟨bT, off + n, none⟩ = uX[off + n]? := fun n => by unfold World.cell?; simp [lq]
 have jW : ∀ (j : Nat) (s : List UInt8), l[j]? = some s -> ∃ b, uX[off + j]? = some (.string b) /\ b.data.toList = s := by
  intro j s hs
  obtain ⟨b, hb, hbs⟩ := qj j s hs
  rw [sV, HI] at hb;exact ⟨b, hb, hbs⟩
 have hle : off + l.length <= uX.size := by
  obtain ⟨b, hb, _⟩ := jW (l.length - 1) _ (ij (by omega))
  have := (Array.getElem?_eq_some_iff.1 hb).1
  omega
 unfold World.var? at hv
 rw [hg] at hv;simp only [Option.bind_some] at hv
 split at hv
 ·rename_i c t' z hh
  cases hv
  exact ⟨_, _, _, bT, off, cap, uX, e2, SW, hh, h1, h2, lq, hle, jW⟩
 ·cases hv
def XC (w : World) (g : Nat) (l : List (List UInt8)) (B : ng) : Prop := B.cs = l.map .str /\ B.esz = 1 /\
 (∃ (arr : Array Value) (e : TypeId) (fz : Nat × Nat) (cap : Nat), w.heap[g]? = some (.cells arr e fz) /\ arr.toList = [.slice (some ⟨B.bT, B.off, none⟩) l.length cap] /\ l.length <= cap) /\
 ∃ (arr : Array Value) (e : TypeId) (fz : Nat × Nat), w.heap[B.bT]? = some (.cells arr e fz) /\ arr.size = B.total /\ B.off + l.length <= B.total /\ ∀ (j : Nat) (s : List UInt8), l[j]? = some s -> ∃ b, arr[B.off + j]? = some (.string b) /\ b.data.toList = s
theorem O5 {w : World} : ∀ gs : List (Nat × List (List UInt8)), (∀ p ∈ gs, GFact w p.1 p.2) -> ∃ bk : List ng, bk.length = gs.length /\ ∀ (j g : Nat) (l : List (List UInt8)), gs[j]? = some (g, l) -> ∃ B, bk[j]? = some B /\ XC w g l B
 | [], _ => ⟨[], rfl, fun j g l h => by simp at h⟩
 | (g, l) :: gs, h => by
  obtain ⟨bk, h1, h2⟩ := O5 gs fun p hp => h p (by simp [hp])
  obtain ⟨arr, e, fz, bT, off, cap, uX, e2, SW, a1, a2, a3, a4, a5, a6⟩ := h (g, l) (by simp)
  refine ⟨⟨bT, off, uX.size, 1, l.map .str⟩ :: bk, by simp [h1], fun j g' l' hj => ?_⟩
  cases j with
  | zero =>
   simp only [List.getElem?_cons_zero, aQ, kj] at hj;obtain ⟨rfl, rfl⟩ := hj
   exact ⟨_, rfl, rfl, rfl, ⟨arr, e, fz, cap, a1, a2, a3⟩, uX, e2, SW, a4, rfl, a5, a6⟩
  | succ j => exact h2 j g' l' (by simpa using hj)
theorem tfact_of {H : Type} {enc : TypeId × Value -> H} {P : Program} {w : World} {base : Nat} {sp : Nat -> Bool} {held : Bool} {g : Nat} {t e : TypeId} {n : Nat} {name : String} {l : List Int} {fuel : Nat} {p : List MemPlace} {cs : Array Value} {D : DataW H} (Qa : uw g = none) (hD : D = Go.Lib.tabData .u64 l)
  (hg : P.globalNamed name = some g) (ht : P.underlying t = some (.array n e)) (he : P.underlying e = some (.int .u64)) (TM : P.cellsOf e = 1) (hct : P.cellsOf t = n) (hv : w.var? P name = some cs)
  (hd : DataW.trod enc P w base sp held fuel t cs.toList = some (D, p)) : TFact w g l := by
 subst hD;have h := Go.Lib.cells_of_tab ht he TM hct hd
 unfold World.var? at hv
 rw [hg] at hv;simp only [Option.bind_some] at hv
 split at hv
 ·rename_i c t' z hh
  cases hv
  exact ⟨Qa, _, _, _, hh, h⟩
 ·cases hv
theorem args_card {w : World} {n0 : Nat} {gI : List Sh} {vs : List Value} (hg : (∀ p ∈ globs, GFact w p.1 p.2) /\ ∀ g l, tabl g = some l -> TFact w g l) (hl : (∀ p ∈ globs, p.1 < n0) /\ ∀ g l, tabl g = some l -> g < n0) (h : DecVs w n0 gI vs) :
  ∃ (bs : List ng) (es : List EV) (ds : List Dt), QI w n0 bs /\ yN w n0 bs /\ cS (gJ n0 bs) es vs /\ mr (eb n0 bs) gI es ds := by
 obtain ⟨bk, Ss, Aj⟩ := O5 globs hg.1
 obtain ⟨k, ds, h⟩ := h
 obtain ⟨es, bs, h1, h2⟩ := h bk.length
 obtain ⟨c1, c2, c3⟩ := h2 (bk ++ bs) (fun i _ => by rw [qJ (by omega)]; congr 1; omega)
 refine ⟨bk ++ bs, es, ds, fun i B hB => ?_, ⟨hl, hg.2, fun j g l hj => ?_⟩, c1, c3⟩
 ·by_cases hi : i < bk.length
  ·rw [rB hi] at hB
   obtain ⟨⟨g, l⟩, JY⟩ : ∃ p, globs[i]? = some p := ⟨_, ij (by omega)⟩
   obtain ⟨B', M3, q1, q2, q3, arr, e, fz, q4, q5, q6, q7⟩ := Aj i g l JY
   rw [hB] at M3; cases M3
   refine ⟨arr, e, fz, q4, q5, by rw [q1, List.length_map]; exact q6, fun j v hj => ?_⟩
   rw [q1, List.getElem?_map] at hj;obtain ⟨s, hs, rfl⟩ := fG.1 hj
   obtain ⟨b, hb, rfl⟩ := q7 j s hs
   exact ⟨_, hb, .str _, rfl⟩
  ·rw [qJ (by omega)] at hB
   exact c2 _ B hB
 ·obtain ⟨B, hB, q1, q2, ⟨arr, e, fz, cap, q3, q4, q5⟩, _⟩ := Aj j g l hj
  have aP := (kO.1 hB).1
  have M3 : (bk ++ bs)[j]? = some B := by rw [rB aP]; exact hB
  have lU : arr.size = 1 := by rw [<- Array.length_toList, q4]; rfl
  exact ⟨⟨arr, e, fz, _, q3, lU, by rw [<- Array.getElem?_toList, q4]; rfl, zZ M3 rfl rfl q5 fun _ => rfl, rfl⟩, B, M3, q1, q2⟩
theorem BK (l : List (List UInt8)) : (jn l).flatten = l.map .str := by
 induction l with
 | nil => rfl
 | cons s l ih => show (([EV.str s] :: jn l).flatten) = _; rw [List.flatten_cons, ih]; rfl
theorem glob_still {w : World} {n0 : Nat} {bs : List ng} (h : yN w n0 bs) : jD (still (eb n0 bs)) := by
 refine ⟨fun g l hg => ?_, fun g l hg => ?_⟩
 case refine_2 =>
  have aP := h.1.2 g l hg
  have hn : (eb n0 bs).next = n0 + bs.length := rfl
  show (if g < (eb n0 bs).next then some ((eb n0 bs).get g) else none) = _
  rw [if_pos (by rw [hn]; omega), rb aP]
  have hf := mP (b := g) globs 0
  have Qa := (h.2.1 g l hg).1
  unfold uw at Qa;rw [Qa] at hf;rw [Option.map_eq_none_iff.1 hf, hg]
  rfl
 have hf := mP (b := g) globs 0
 unfold uw at hg;rw [hg] at hf;obtain ⟨⟨p, l'⟩, hp, qe⟩ := fG.1 hf
 simp only at qe
 subst qe
 have h2 := (qk _ _ hp).2
 rw [Nat.sub_zero] at h2;have aP := h.1.1 _ (List.mem_of_getElem? h2)
 obtain ⟨_, B, hB, q1, q2⟩ := h.2.2 p g l' h2
 have m1 : (eb n0 bs).get g = .cells [.slice (n0 + p) 0 l'.length none] 1 0 true := by rw [rb aP, hp]; rfl
 have m2 : (eb n0 bs).get (n0 + p) = .cells (l'.map .str) 1 0 true := by rw [uh hB, q1, q2]
 have Bo := (kO.1 hB).1
 have hn : (eb n0 bs).next = n0 + bs.length := rfl
 have s1 : (still (eb n0 bs)).eF g = some (.cells [.slice (n0 + p) 0 l'.length none] 1 0 true) := by
  show (if g < (eb n0 bs).next then some ((eb n0 bs).get g) else none) = _
  rw [if_pos (by rw [hn]; omega), m1]
 have s2 : (still (eb n0 bs)).eF (n0 + p) = some (.cells (l'.map .str) 1 0 true) := by
  show (if n0 + p < (eb n0 bs).next then some ((eb n0 bs).get (n0 + p)) else none) = _
  rw [if_pos (by rw [hn]; omega), m2]
 have self : ∀ (θ : bF) (x : List (List UInt8)), cj θ (x.map .str) (x.map .str) := fun θ x => by
  induction x with
  | nil => exact .nil
  | cons s x ih => exact .cons (.str s) ih
 have hlen : (jn l').length = l'.length := by simp [jn]
 refine .dl (.mk (off := 0) s1 (by simp) (by simp) (.cons ?_ .nil)) (by simp) (by simp)
 have := SV.fz (θ := (still (eb n0 bs)).low) (t := 0) (esz := 1) (els := jn l') (b := n0 + p) (off := 0) (cap := none) (.mk s2 (by simp [jn]) (by simp [hlen]) (by
  rw [BK, List.drop_zero, hlen, Nat.mul_one, qI (by simp)]; exact self _ l')) (.inl rfl) (fun c hc => by cases hc)
 rw [hlen] at this;exact this
end
section
def opsL : List gh := [[124, 124], [38, 38], [61, 61], [33, 61], [60], [60, 61], [62], [62, 61], [43], [45], [43, 37], [45, 37], [42], [47], [37], [42, 37]]
theorem FJ : aM B K zP [] = some (.fz 0 1 (jn opsL)) := jO 10 fun call => by kernel_rfl
theorem tx : L_tree_signs = [] :: opsL := rfl
def oJ (op : Int) : gh := if 1 <= op /\ op <= 16 then opsL.getD (op - 1).toNat [] else []
theorem E8 {op : Int} (h1 : -9223372036854775808 <= op) (h2 : op < 9223372036854775808) : aM B K rP [.int .i64 op] = some (.str (oJ op)) := by
 rw [bR (by simp [gi])]
 have hl := fun m => Ej (l := [] :: opsL) (m := m)
 have hlen : (jn ([] :: opsL)).length = 17 := rfl
 by_cases a : op < 0
 ·have e : oJ op = [] := if_neg (by omega)
  rw [e];simp +contextual -implicitDefEqProofs (maxSteps := 1000000) (maxDischargeDepth := 8) only [gi, a, aO, ag, implies_true, simprocAttr]
 ·by_cases b : 17 <= op
  ·have e : oJ op = [] := if_neg (by omega)
   rw [e];simp +contextual -implicitDefEqProofs (maxSteps := 1000000) (maxDischargeDepth := 8) only [gi, a, tx, hl, hlen, b, aO, ag, implies_true, simprocAttr]
  ·obtain ⟨n, rfl⟩ : ∃ n : Nat, op = (n : Int) := ⟨op.toNat, by omega⟩
   have hn : n < 17 := by omega
   have hi : idx 17 (.int .i64 (n : Int)) = some n := aA hn
   have hg : ([] :: opsL)[n]? = some (oJ (n : Int)) := by
    have : ∀ n : Nat, n < 17 -> ([] :: opsL)[n]? = some (oJ (n : Int)) := by decide
    exact this n hn
   simp +contextual -implicitDefEqProofs (maxSteps := 1000000) (maxDischargeDepth := 8) only [gi, a, tx, hl, hlen, b, hi, qQ, hg, aO, ag, implies_true, simprocAttr]
def dI (k : Int) : gh := if k = 1 then [105, 110, 116] else if k = 2 then [98, 111, 111, 108] else if k = 3 then [97, 114, 114] else []
theorem Fa {k : Int} : aM B K rQ [.int .i64 k] = some (.str (dI k)) := by
 rw [bR (by simp [dm])]
 unfold dI;by_cases a : k = 1
 ·subst a; simp +contextual -implicitDefEqProofs (maxSteps := 1000000) (maxDischargeDepth := 8) only [dm, aO, ag, implies_true, simprocAttr]
 ·by_cases b : k = 2
  ·subst b; simp +contextual -implicitDefEqProofs (maxSteps := 1000000) (maxDischargeDepth := 8) only [dm, aO, ag, implies_true, simprocAttr]
  ·by_cases c : k = 3
   ·subst c; simp +contextual -implicitDefEqProofs (maxSteps := 1000000) (maxDischargeDepth := 8) only [dm, aO, ag, implies_true, simprocAttr]
   ·simp +contextual -implicitDefEqProofs (maxSteps := 1000000) (maxDischargeDepth := 8) only [dm, a, b, c, if_false, aO, ag, implies_true, simprocAttr]
theorem nT {fr : Fr} {M : Mem} : ap fr.eval (.aU fV 1 3 [.str []] [(0, .const (.str [105, 110, 116])), (1, .const (.str [98, 111, 111, 108])), (2, .const (.str [97, 114, 114]))]) M = some (.val (.slice (nb M.next 0) 0 3 (some 3)) (Ev.ext M [.cells [.str [105, 110, 116], .str [98, 111, 111, 108], .str [97, 114, 114]] 1 fV false])) := by
 rw [di]
 rfl
theorem II {k : Int} (h1 : -9223372036854775808 <= k) (h2 : k < 9223372036854775808) : aM B K tU [.int .i64 k] = some (.str (dI k)) := by
 rw [bR (by simp [dz])]
 by_cases a : k < 1
 ·have e : dI k = [] := by unfold dI; rw [if_neg (by omega), if_neg (by omega), if_neg (by omega)]
  rw [e];simp +contextual -implicitDefEqProofs (maxSteps := 1000000) (maxDischargeDepth := 8) only [dz, nT, a, aO, ag, implies_true, simprocAttr]
 ·by_cases b : 3 < k
  ·have e : dI k = [] := by unfold dI; rw [if_neg (by omega), if_neg (by omega), if_neg (by omega)]
   rw [e];simp +contextual -implicitDefEqProofs (maxSteps := 1000000) (maxDischargeDepth := 8) only [dz, nT, a, b, aO, ag, implies_true, simprocAttr]
  ·have hk : k = 1 \/ k = 2 \/ k = 3 := by omega
   have i0 : idx 3 (.int .i64 0) = some 0 := aA (i := 0) (by decide)
   have i1 : idx 3 (.int .i64 1) = some 1 := aA (i := 1) (by decide)
   have i2 : idx 3 (.int .i64 2) = some 2 := aA (i := 2) (by decide)
   have w0 : IntKind.i64.wrap 0 = 0 := by decide
   have w1 : IntKind.i64.wrap 1 = 1 := by decide
   have w2 : IntKind.i64.wrap 2 = 2 := by decide
   rcases hk with rfl | rfl | rfl
   ·have e : dI 1 = [105, 110, 116] := rfl
    rw [e];simp +contextual -implicitDefEqProofs (maxSteps := 1000000) (maxDischargeDepth := 8) only [dz, nT, i0, w0, Nat.mul_one, aO, ag, implies_true, simprocAttr]
   ·have e : dI 2 = [98, 111, 111, 108] := rfl
    rw [e];simp +contextual -implicitDefEqProofs (maxSteps := 1000000) (maxDischargeDepth := 8) only [dz, nT, i1, w1, Nat.mul_one, aO, ag, implies_true, simprocAttr]
   ·have e : dI 3 = [97, 114, 114] := rfl
    rw [e];simp +contextual -implicitDefEqProofs (maxSteps := 1000000) (maxDischargeDepth := 8) only [dz, nT, i2, w2, Nat.mul_one, aO, ag, implies_true, simprocAttr]
end
section
def aJ (d : Nd) : gh := if d.kind = 5 then oJ d.n else (fT d.kind).word
def fP (d : Nd) : List gh := (if aJ d ≠ [] then [aJ d] else []) ++ (if d.s ≠ [] then [d.s] else []) ++ (if d.kind = 25 \/ d.kind = 24 then [dI d.n] else [])
def td : gh := [116, 114, 117, 101]
def pj : gh := [102, 97, 108, 115, 101]
def RC : gh := [110, 105, 108]
def fN (d : Nd) (ks : List gh) : gh :=
 if d.kind = 1 then Go.Lib.itoa d.n else if d.kind = 2 then (if d.n = 1 then td else pj) else if d.kind = 3 then RC else if d.kind = 4 then d.s
 else 40 :: (Go.Lib.join (fP d ++ ks) [32] ++ [41])
def vV (l : List Nd) : Nat -> Nat -> gh
 | 0, _ => []
 | f + 1, i => match l[i]? with
  | none => []
  | some d => fN d (d.kids.map fun x => vV l f x.toNat)
def br (l : List Nd) (i : Nat) : gh := vV l (i + 1) i
theorem BH {l : List Nd} (hk : bl l) : ∀ (i f g : Nat), i < f -> i < g -> vV l f i = vV l g i := by
 intro i
 induction i using Nat.strongRecOn with
 | _ i ih =>
  intro f g hf hg
  obtain ⟨f, rfl⟩ : ∃ f', f = f' + 1 := ⟨f - 1, by omega⟩
  obtain ⟨g, rfl⟩ : ∃ g', g = g' + 1 := ⟨g - 1, by omega⟩
  simp only [vV]
  cases hd : l[i]? with
  | none => rfl
  | some d =>
   simp only
   congr 1
   refine List.map_congr_left fun x hx => ?_
   have := hk i d hd x hx
   exact ih x.toNat (by omega) f g (by omega) (by omega)
theorem iS {l : List Nd} (hk : bl l) {i : Nat} {d : Nd} (hd : l[i]? = some d) : br l i = fN d (d.kids.map fun x => br l x.toNat) := by
 unfold br;rw [vV];simp only [hd]
 congr 1
 refine List.map_congr_left fun x hx => ?_
 have := hk i d hd x hx
 exact BH hk _ _ _ (by omega) (by omega)
def cF : List Nat -> Nat
 | [] => 0
 | a :: l => a + cF l
theorem gN : ∀ (a b : List Nat), cF (a ++ b) = cF a + cF b
 | [], b => by simp [cF]
 | x :: a, b => by simp only [List.cons_append, cF, gN a b]; omega
def ow (d : Nd) : Nat := 100 + d.s.length
def E2 (l : List Nd) : Nat -> Nat -> Nat
 | 0, _ => 0
 | f + 1, i => match l[i]? with
  | none => 0
  | some d => ow d + cF (d.kids.map fun x => E2 l f x.toNat)
def s8 (l : List Nd) (i : Nat) : Nat := E2 l (i + 1) i
theorem E1 {l : List Nd} (hk : bl l) : ∀ (i f g : Nat), i < f -> i < g -> E2 l f i = E2 l g i := by
 intro i
 induction i using Nat.strongRecOn with
 | _ i ih =>
  intro f g hf hg
  obtain ⟨f, rfl⟩ : ∃ f', f = f' + 1 := ⟨f - 1, by omega⟩
  obtain ⟨g, rfl⟩ : ∃ g', g = g' + 1 := ⟨g - 1, by omega⟩
  simp only [E2]
  cases hd : l[i]? with
  | none => rfl
  | some d =>
   simp only
   congr 2
   refine List.map_congr_left fun x hx => ?_
   have := hk i d hd x hx
   exact ih x.toNat (by omega) f g (by omega) (by omega)
theorem DU {l : List Nd} (hk : bl l) {i : Nat} {d : Nd} (hd : l[i]? = some d) : s8 l i = ow d + cF (d.kids.map fun x => s8 l x.toNat) := by
 unfold s8;rw [E2];simp only [hd]
 congr 2
 refine List.map_congr_left fun x hx => ?_
 have := hk i d hd x hx
 exact E1 hk _ _ _ (by omega) (by omega)
theorem vX {α : Type} [DecidableEq α] {w : α -> Nat} {x : α} : ∀ {b : List α}, x ∈ b -> cF ((b.erase x).map w) + w x = cF (b.map w)
 | y :: b, h => by
  rw [List.erase_cons];by_cases e : y == x
  ·rw [if_pos e]
   have := eq_of_beq e
   subst this;simp only [List.map_cons, cF]; omega
  ·rw [if_neg e]
   have hx : x ∈ b := by
    rcases lj.1 h with rfl | h
    ·simp at e
    ·exact h
   have := vX (w := w) hx
   simp only [List.map_cons, cF]; omega
theorem kR {α : Type} [DecidableEq α] {w : α -> Nat} : ∀ {a b : List α}, a.Nodup -> (∀ x ∈ a, x ∈ b) -> cF (a.map w) <= cF (b.map w)
 | [], b, _, _ => pF _
 | x :: a, b, h, hs => by
  rw [List.nodup_cons] at h;have h1 := kR (w := w) (b := b.erase x) h.2 fun y hy => by
   have iv : y ≠ x := by rintro rfl; exact h.1 hy
   exact (List.mem_erase_of_ne iv).2 (hs y (by simp [hy]))
  have h2 := vX (w := w) (hs x (by simp))
  simp only [List.map_cons, cF];omega
theorem ti {α : Type} {w : α -> Nat} (p : α -> Bool) : ∀ b : List α, cF ((b.filter p).map w) + cF ((b.filter fun x => !p x).map w) = cF (b.map w)
 | [] => rfl
 | x :: b => by
  have := ti (w := w) p b
  cases h : p x <;> simp [List.filter_cons, h, cF] <;> omega
def roots (l : List Nd) (i : Nat) : List Int := (upto i).filter fun x => !(aW (l.take i)).contains x
theorem wo {l : List Nd} (hk : bl l) (hu : (aW l).Nodup) : ∀ i, i <= l.length -> cF ((roots l i).map fun x => s8 l x.toNat) <= cF ((l.take i).map ow)
 | 0, _ => by simp [roots, upto, cF]
 | i + 1, hi => by
  have ih := wo hk hu i (by omega)
  have hd : l[i]? = some l[i] := ij (by omega)
  have sA := kQ hd
  have ov : l.take (i + 1) = l.take i ++ [l[i]] := List.take_succ_eq_append_getElem (by omega)
  have hx := hk i _ hd
  have hnd : (aW (l.take i) ++ l[i].kids).Nodup := by rw [<- sA]; exact hu.sublist (lV _)
  generalize l[i] = d at *
  have VD : upto (i + 1) = upto i ++ [(i : Int)] := by unfold upto; rw [List.range_succ, List.map_append]; rfl
  have hU : ∀ x ∈ aW (l.take i), x < (i : Int) := by
   intro x hx
   obtain ⟨j, e, he, GD⟩ := jt.1 hx
   rw [List.getElem?_take] at he
   split at he
   ·have := hk j e he x GD; omega
   ·cases he
  rw [List.nodup_append] at hnd;have e1 : roots l (i + 1) = (roots l i).filter (fun x => !d.kids.contains x) ++ [(i : Int)] := by
   unfold roots;rw [sA, VD, List.filter_append, List.filter_filter]
   congr 1
   ·refine List.filter_congr fun x hx => ?_
    rw [List.contains_eq_any_beq, List.contains_eq_any_beq, List.contains_eq_any_beq, List.any_append]
    cases (aW (l.take i)).any (x == ·) <;> cases d.kids.any (x == ·) <;> rfl
   ·rw [List.filter_cons, if_pos]
    ·rfl
    ·have : ¬ ((i : Int) ∈ aW (l.take i) ++ d.kids) := by
      rw [nY]
      rintro (q | q)
      ·have := hU _ q; omega
      ·have := hx _ q; omega
     simpa using this
  have h2 : cF (d.kids.map fun x => s8 l x.toNat) <= cF (((roots l i).filter fun x => d.kids.contains x).map fun x => s8 l x.toNat) := by
   refine kR hnd.2.1 fun x rc => ?_
   rw [List.mem_filter];refine ⟨?_, by simpa using rc⟩
   unfold roots;rw [List.mem_filter];refine ⟨gM.2 ⟨(hx x rc).1, (hx x rc).2⟩, ?_⟩
   have : ¬ x ∈ aW (l.take i) := fun q => hnd.2.2 x q x rc rfl
   simpa using this
  have h3 := ti (w := fun x : Int => s8 l x.toNat) (fun x => d.kids.contains x) (roots l i)
  have h4 := DU hk hd
  rw [e1, ov, List.map_append, List.map_append, gN, gN];simp only [List.map_cons, List.map_nil, cF];rw [show ((i : Int)).toNat = i by omega, h4];omega
theorem Pb {l : List Nd} (hk : bl l) (hu : (aW l).Nodup) {c : Nat} (hc : ∀ d ∈ l, d.s.length <= c) {i : Nat} (hi : i < l.length) : s8 l i <= l.length * (100 + c) := by
 have h := wo hk hu (i + 1) hi
 have hm : (i : Int) ∈ roots l (i + 1) := by
  unfold roots;rw [List.mem_filter];refine ⟨gM.2 ⟨by omega, by omega⟩, ?_⟩
  have : ¬ (i : Int) ∈ aW (l.take (i + 1)) := by
   intro hx
   obtain ⟨j, e, he, GD⟩ := jt.1 hx
   rw [List.getElem?_take] at he
   split at he
   ·have := hk j e he _ GD; omega
   ·cases he
  simpa using this
 have h1 := kR (w := fun x : Int => s8 l x.toNat) (a := [(i : Int)]) (b := roots l (i + 1)) (by simp) fun x hx => by rw [xu.1 hx]; exact hm
 have h2 : ∀ k : List Nd, (∀ d ∈ k, d.s.length <= c) -> cF (k.map ow) <= k.length * (100 + c) := by
  intro k
  induction k with
  | nil => intro _; simp [cF]
  | cons d k ih =>
   intro h
   have a := ih fun e he => h e (by simp [he])
   have b := h d (by simp)
   simp only [List.map_cons, cF, List.length_cons, Nat.add_mul, ow] at a ⊢
   omega
 have h3 := h2 (l.take (i + 1)) fun d hd => hc d (List.mem_of_mem_take hd)
 have h4 : (l.take (i + 1)).length * (100 + c) <= l.length * (100 + c) := Nat.mul_le_mul_right _ (by rw [List.length_take]; omega)
 simp only [List.map_cons, List.map_nil, cF] at h1;rw [show ((i : Int)).toNat = i by omega] at h1;omega
theorem s4 : ∀ (k u : Nat), u < 10 ^ (k + 1) -> (Go.Lib.decDigits u).length <= k + 1
 | 0, u, h => by
  unfold Go.Lib.decDigits;rw [dif_pos (by simpa using h)]; simp
 | k + 1, u, h => by
  unfold Go.Lib.decDigits
  split
  ·simp
  ·have := s4 k (u / 10) (by rw [Nat.pow_succ] at h; omega)
   rw [kE]; simp; omega
theorem Jx {n : Int} (h1 : -9223372036854775808 <= n) (h2 : n <= 9223372036854775807) : (Go.Lib.itoa n).length <= 20 := by
 unfold Go.Lib.itoa;have h := fun u (h : u < 10 ^ 19) => s4 18 u h
 split
 ·have := h n.natAbs (by omega)
  simp; omega
 ·have := h n.toNat (by omega)
  omega
end
end Go.Proofs.YtblcomejcahkdaaDoor.Ev
