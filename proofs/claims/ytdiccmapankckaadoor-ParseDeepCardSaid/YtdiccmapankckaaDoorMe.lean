/- EvDrw, EvFz, EvSub, EvFzOp, EvFzOps, EvFzRun, EvPure. -/
import Derived.Test.YtdiccmapankckaaDoorMd
set_option linter.unusedSimpArgs false
set_option linter.unusedVariables false
set_option linter.unusedSectionVars false
set_option linter.defProp false
set_option maxRecDepth 20000
set_option maxHeartbeats 8000000
namespace Go.Proofs.YtdiccmapankckaaDoor.Ev
open Go
section
theorem BX (x : aV) : cS (.ab x) = 0 := rfl
theorem vP (elem : Nat) (zero : List EV) : cS (.alloc elem zero) = 1 := rfl
theorem B9 (elem : Nat) (x : aV) : cS (.box elem x) = 1 := rfl
theorem vO (zero : List EV) (parts : List (Nat × Nat × aV)) : cS (.build zero parts) = 0 := rfl
theorem sK (elem esz len : Nat) (zero : List EV) (parts : List (Nat × aV)) : cS (.bD elem esz len zero parts) = 1 := rfl
theorem vG (size : Nat) (a x : aV) : cS (.store size a x) = 3 := rfl
theorem vJ (x : aV) : cS (.cw x) = 0 := rfl
theorem Ca (op : BinOp) (x y : aV) : cS (.bin op x y) = 0 := rfl
theorem GZ (neg : Bool) (t : sd) (x y : aV) : cS (.eq neg t x y) = 0 := rfl
theorem GY (op : UnOp) (x : aV) : cS (.un op x) = 0 := rfl
theorem vL (t : Nat) (x : aV) : cS (.iface t x) = 0 := rfl
theorem yx (f : Nat) (a c : List aV) : cS (.BD f a c) = 0 := rfl
theorem vK  : cS (.uP ) = 1 := rfl
theorem pS (elem esz : Nat) (zero : List EV) (len cap : aV) : cS (.lE elem esz zero len cap) = 1 := rfl
theorem vH (x : aV) (lo hi : Option aV) : cS (.jF x lo hi) = 0 := rfl
theorem yv (esz : Nat) (x : aV) (lo hi max : Option aV) : cS (.uG esz x lo hi max) = 3 := rfl
theorem vI (n esz : Nat) (x : aV) (lo hi max : Option aV) : cS (.xk n esz x lo hi max) = 0 := rfl
theorem vN (off : Nat) (x : aV) : cS (.aj off x) = 0 := rfl
theorem B7 (agg : Option Nat) (off : Nat) (x : aV) : cS (.AS agg off x) = 0 := rfl
theorem vM (esz : Nat) (x i : aV) : cS (.eu esz x i) = 0 := rfl
theorem od (n esz : Nat) (x i : aV) : cS (.nt n esz x i) = 0 := rfl
theorem sG (x i : aV) : cS (.gp x i) = 0 := rfl
theorem sH (n esz : Nat) (agg : Option Nat) (x i : aV) : cS (.uV n esz agg x i) = 0 := rfl
theorem sC (kt : Nat) (zero : EV) (ok : Bool) (mp k : aV) : cS (.lookup kt zero ok mp k) = 3 := rfl
theorem sB (kt : Nat) (mp k x : aV) : cS (.pd kt mp k x) = 3 := rfl
theorem sI (kt : Nat) (mp k : aV) : cS (.delete kt mp k) = 3 := rfl
theorem sE (mp : aV) : cS (.qV mp) = 3 := rfl
theorem pR (t : Nat) (x : aV) : cS (.pP t x) = 0 := rfl
theorem pT (x : aV) (i : Nat) : cS (.extract x i) = 0 := rfl
theorem B6 (x : aV) : cS (.len x) = 0 := rfl
theorem sD (x : aV) : cS (.eG x) = 0 := rfl
theorem sF (n : Nat) : cS (.uT n) = 0 := rfl
theorem B8 (x : aV) : cS (.cap x) = 0 := rfl
theorem BZ (args : List aV) : cS (.max args) = 0 := rfl
theorem BY (args : List aV) : cS (.min args) = 0 := rfl
theorem sL (elem esz bytes : Nat) (s x : aV) : cS (.append elem esz bytes s x) = 3 := rfl
theorem yy (esz : Nat) (d s : aV) : cS (.copy esz d s) = 3 := rfl
theorem yw {x y z : aV} : cS (.pick x y z) = 0 := rfl
theorem sJ {k : IntKind} {x : aV} : cS (.conv (.int k) x) = 0 := rfl
theorem pV {x : aV} : cS (.conv .same x) = 0 := rfl
theorem og {e : Nat} {x : aV} : cS (.conv (.bytes e) x) = 1 := rfl
theorem pU {x : aV} : cS (.conv .text x) = 3 := rfl
def bump (m : Mem) (k : Nat) : Mem := ⟨m.next + k, m.gB⟩
theorem gP {m : Mem} {k b : Nat} : (bump m k).get b = m.get b := rfl
theorem bz {m : Mem} {k : Nat} : (bump m k).next = nb m.next k := rfl
theorem yB {m : Mem} {k b : Nat} {x : fQ} : (bump m k).set b x = bump (m.set b x) k := rfl
theorem wq {m : Mem} {k : Nat} {agg : Option Nat} {a : EV} : (bump m k).load agg a = m.load agg a := rfl
theorem MC {n i j : Nat} : nb n i < nb n j ↔ i < j := by unfold nb; omega
theorem Hk {n i j : Nat} : nb n i = nb n j ↔ i = j := by unfold nb; omega
theorem ME {b n i : Nat} (h : b < n) : b < nb n i := by unfold nb; omega
theorem ql {m : Mem} {xs : List fQ} {n i j : Nat} (hn : m.next = nb n j) (h : j <= i) (h2 : i - j < xs.length) : (ext m xs).get (nb n i) = xs[i - j]?.getD .dead := by
 have := aK (m := m) (xs := xs) (n := nb n j) (i := i - j) hn h2
 rw [e6, show j + (i - j) = i by omega] at this; exact this
theorem pW {m : Mem} {xs : List fQ} {n i j : Nat} {x : fQ} (hn : m.next = nb n j) (h : j <= i) (h2 : i - j < xs.length) : (ext m xs).set (nb n i) x = ext m (xs.set (i - j) x) := by
 have := oW (m := m) (xs := xs) (n := nb n j) (i := i - j) (x := x) hn h2
 rw [e6, show j + (i - j) = i by omega] at this; exact this
theorem td {m m' : Mem} {k : Nat} (h : Aj m m') : Aj m (bump m' k) := h
theorem Lp {m m' : Mem} {xs : List fQ} (h : Aj m m') (hn : m.next <= m'.next) : Aj m (ext m' xs) := fun c hc => by rw [aL (by omega)]; exact h c hc
theorem bE {n i : Nat} : n <= nb n i := by unfold nb; omega
mutual
def Told : EV -> Bool
 | .fz t _ els => !(t.beq 0) && A5 els
 | .fF _ _ _ _ => false
 | .func _ x y => kD x && kD y
 | .iface _ v => Told v
 | .agg x | .tuple x => kD x
 | _ => true
def kD : List EV -> Bool
 | [] => true
 | v :: x => Told v && kD x
def A5 : List (List EV) -> Bool
 | [] => true
 | v :: x => kD v && A5 x
end
mutual
theorem rq : ∀ v : EV, Told v = true -> EV.same v v = true
 | .undef, _ | .bL, _ | .ae, _ | .bB, _ | .aN, _ | .aC, _ => rfl
 | .bool b, _ => by cases b <;> rfl
 | .int k n, _ => by
  have h1 : (bY k).beq (bY k) = true := Nat.beq_refl _
  have h2 : sQ n n = true := by cases n <;> exact Nat.beq_refl _
  simp only [EV.same, h1, cond_true, h2]
 | .str s, _ => by simp only [EV.same, fB, decide_true]
 | .ptr a i, _ => by simp only [EV.same, Nat.beq_refl, cond_true]
 | .slice a i n c, _ => by
  have h : yC c c = true := by cases c <;> simp [yC]
  simp only [EV.same, Nat.beq_refl, cond_true, h]
 | .map a, _ => by simp only [EV.same, Nat.beq_refl]
 | .func f x y, h => by
  simp only [Told, pC] at h;simp only [EV.same, Nat.beq_refl, cond_true, mu x h.1, mu y h.2]
 | .iface t v, h => by simp only [EV.same, Nat.beq_refl, cond_true, rq v (by simpa only [Told] using h)]
 | .agg x, h => by simp only [EV.same, mu x (by simpa only [Told] using h)]
 | .tuple x, h => by simp only [EV.same, mu x (by simpa only [Told] using h)]
 | .fz t e els, h => by
  simp only [Told, pC, Bool.not_eq_true'] at h;simp only [EV.same, h.1, cond_false, Nat.beq_refl, cond_true, Bd els h.2]
 | .fF _ _ _ _, h => by simp [Told] at h
theorem mu : ∀ x : List EV, kD x = true -> EV.ma x x = true
 | [], _ => rfl
 | v :: x, h => by
  simp only [kD, pC] at h;simp only [EV.ma, rq v h.1, cond_true, mu x h.2]
theorem Bd : ∀ x : List (List EV), A5 x = true -> EV.qQ x x = true
 | [], _ => rfl
 | v :: x, h => by
  simp only [A5, pC] at h;simp only [EV.qQ, mu v h.1, cond_true, Bd x h.2]
end
section
variable {T : Nat -> Option iz} {chk : List (Nat × Nat)} {B0 i : Nat} {l : List aY} {fr : Fr} {m : Mem} {sn : List (Nat × Mem)} {se : List Seen} {d : Option Nat}
theorem tu : exec T (.draw l chk) fr m = kU T chk m.next l 0 fr (bump m l.length) [] [] := rfl
theorem zQ : kU T chk B0 [] i fr m sn se = some (.norm fr m) := fU.2 ⟨0, rfl⟩
def ub (o : Option EV) (k : EV -> Option Out) : Option Out := match o with
 | some v => k v
 | none => none
@[congr] theorem T7 {o o' : Option EV} {k : EV -> Option Out} (h : o = o') : ub o k = ub o' k := by rw [h]
theorem sv {v : EV} {k : EV -> Option Out} : ub (some v) k = k v := rfl
def CE (b : Bool) (o : Option Out) : Option Out := bif b then o else none
@[congr] theorem Wq {b b' : Bool} {o : Option Out} (h : b = b') : CE b o = CE b' o := by rw [h]
theorem jM {o : Option Out} : CE true o = o := rfl
theorem AW {op : ls} (h : cS op = 0) : kU T chk B0 (⟨d, .val op, none⟩ :: l) i fr m sn se = gA (aA fr.eval op m) fun v _ => kU T chk B0 l (i + 1) (fr.put d v) m sn se := by
 refine db fun r => ?_
 rw [fU];simp only [dG, bf, h]
 cases aA fr.eval op m with
 | none => simp [gA]
 | some q => obtain ⟨v, m1⟩ := q; simp only [gA]; exact fU.symm
theorem AV {op : ls} (h : cS op = 1) : kU T chk B0 (⟨d, .val op, none⟩ :: l) i fr m sn se = gA (aA fr.eval op ⟨B0 + i, m.gB⟩) fun v m1 => kU T chk B0 l (i + 1) (fr.put d v) ⟨m.next, m1.gB⟩ sn se := by
 refine db fun r => ?_
 rw [fU];simp only [dG, bf, h]
 cases aA fr.eval op ⟨B0 + i, m.gB⟩ with
 | none => simp [gA]
 | some q => obtain ⟨v, m1⟩ := q; simp only [gA]; exact fU.symm
theorem HS {op : ls} (h : cS op = 3) : kU T chk B0 (⟨d, .val op, none⟩ :: l) i fr m sn se = gA (aA fr.eval op m) fun v m' => CE (aX chk i m' se) (kU T chk B0 l (i + 1) (fr.put d v) m' ((i, m) :: sn) se) := by
 refine db fun r => ?_
 rw [fU];simp only [dG, bf, h]
 cases aA fr.eval op m with
 | none => simp [gA]
 | some q =>
  obtain ⟨v, m1⟩ := q
  simp only [gA]
  cases aX chk i m1 se
  ·simp [CE]
  ·simp only [CE, cond_true]; exact fU.symm
def Ss (a : EV) (x y : Option Out) : Option Out := bif Gk a then x else y
@[congr] theorem Wp {a a' : EV} {x y : Option Out} (h : a = a') : Ss a x y = Ss a' x y := by rw [h]
theorem CD {b o : Nat} {x y : Option Out} : Ss (.ptr b o) x y = y := rfl
theorem zd {e i k : Nat} {els : List (List EV)} {x y : Option Out} : Ss (.fF e els i k) x y = x := rfl
theorem zR {agg : Option Nat} {a : aV} : kU T chk B0 (⟨d, .val (.load agg a), none⟩ :: l) i fr m sn se = ub (m.load agg (fr.eval a)) fun v => Ss (fr.eval a) (CE (dL chk i m.next sn) (kU T chk B0 l (i + 1) (fr.put d v) m sn se)) (CE (bG chk i agg (fr.eval a) v sn) (kU T chk B0 l (i + 1) (fr.put d v) m sn (⟨i, agg, fr.eval a, v⟩ :: se))) := by
 refine db fun r => ?_
 rw [fU];simp only [dG, bf, cS]
 cases m.load agg (fr.eval a) with
 | none => simp [ub]
 | some v =>
  simp only [ub, Ss]
  cases Gk (fr.eval a)
  ·simp only [cond_false]
   cases bG chk i agg (fr.eval a) v sn
   ·simp [CE]
   ·simp only [CE, cond_true]; exact fU.symm
  ·simp only [cond_true]
   cases dL chk i m.next sn
   ·simp [CE]
   ·simp only [CE, cond_true]; exact fU.symm
def ri (o : Option Fin) (k : EV -> Mem -> Option Out) : Option Out := match o with
 | some (.ret v m) => k v m
 | _ => none
@[congr] theorem Ub {o o' : Option Fin} {k : EV -> Mem -> Option Out} (h : o = o') : ri o k = ri o' k := by rw [h]
theorem vB {v : EV} {m : Mem} {k : EV -> Mem -> Option Out} : ri (some (.ret v m)) k = k v m := rfl
theorem zW {x : aV} {args : List aV} : kU T chk B0 (⟨d, .call x args, none⟩ :: l) i fr m sn se = ri (AB T (fr.eval x) (args.map fr.eval) m) fun v m' => CE (aX chk i m' se) (kU T chk B0 l (i + 1) (fr.put d v) m' ((i, m) :: sn) se) := by
 refine db fun r => ?_
 rw [fU];simp only [dG, bf]
 cases hx : fr.eval x
 case func g a c =>
  simp only [fM, AB]
  constructor
  ·rintro ⟨k, h⟩
   cases hc : aS T k g (a ++ args.map fr.eval ++ c) m with
   | none => rw [hc] at h; cases h
   | some q =>
    rw [mQ.2 ⟨k, hc⟩];simp only [hc] at h
    cases q with
    | ret v m1 =>
     simp only [ri]
     cases hk : aX chk i m1 se
     ·simp [hk] at h
     ·simp only [hk, cond_true] at h
      simp only [CE, cond_true]; exact fU.2 ⟨k, h⟩
    | gD v m1 => simp at h
  ·intro h
   cases hc : run T g (a ++ args.map fr.eval ++ c) m with
   | none => rw [hc] at h; cases h
   | some q =>
    obtain ⟨k1, h1⟩ := mQ.1 hc
    rw [hc] at h
    cases q with
    | ret v m1 =>
     simp only [ri] at h
     cases hk : aX chk i m1 se
     ·simp [hk, CE] at h
     ·simp only [hk, CE, cond_true] at h
      obtain ⟨k2, h2⟩ := fU.1 h
      refine ⟨max k1 k2, ?_⟩
      have e1 := Ee _ _ _ (Nat.le_max_left k1 k2) h1
      have e2 := I9 _ _ _ (Nat.le_max_right k1 k2) h2
      simp only at e1 e2
      simp only [e1, hk, cond_true]; exact e2
    | gD v m1 => cases h
 all_goals simp [fM, AB, ri]
def Qz (i : Nat) (chk : List (Nat × Nat)) : Bool := chk.all fun p => p.1 != i
def MB (j : Nat) (chk : List (Nat × Nat)) : Bool := chk.all fun p => p.2 != j
theorem Cs : Qz i [] = true := rfl
theorem uM {a b : Nat} : Qz i ((a, b) :: chk) = (a != i && Qz i chk) := rfl
theorem Ct : MB i [] = true := rfl
theorem uN {a b : Nat} : MB i ((a, b) :: chk) = (b != i && MB i chk) := rfl
theorem yV {j : Nat} : ∀ {chk : List (Nat × Nat)}, Qz i chk = true -> bV i j chk = false
 | [], _ => rfl
 | (a, b) :: chk, h => by
  simp only [uM, pC, bne_iff_ne, ne_eq] at h;simp only [bV, jP h.1, cond_false];exact yV h.2
theorem yW {j : Nat} : ∀ {chk : List (Nat × Nat)}, MB j chk = true -> bV i j chk = false
 | [], _ => rfl
 | (a, b) :: chk, h => by
  simp only [uN, pC, bne_iff_ne, ne_eq] at h;simp only [bV, jP h.1, cond_false];rw [yW h.2]; cases a.beq i <;> rfl
theorem IC {agg : Option Nat} {a v : EV} (h : Qz i chk = true) : ∀ sn, bG chk i agg a v sn = true
 | [] => rfl
 | (j, m1) :: sn => by simp only [bG, yV h, cond_false]; exact IC h sn
theorem Mx {n : Nat} (h : Qz i chk = true) : ∀ sn, dL chk i n sn = true
 | [] => rfl
 | (j, m1) :: sn => by simp only [dL, yV h, cond_false]; exact Mx h sn
theorem D3 {m : Mem} (h : MB i chk = true) : ∀ se, aX chk i m se = true
 | [] => rfl
 | x :: se => by simp only [aX, yW h, cond_false]; exact D3 h se
def Kg (chk : List (Nat × Nat)) (se se' : List Seen) : Prop := ∀ j m, aX chk j m se = aX chk j m se'
def Kf (chk : List (Nat × Nat)) (sn DU : List (Nat × Mem)) : Prop := (∀ i agg a v, bG chk i agg a v sn = bG chk i agg a v DU) /\ ∀ i n, dL chk i n sn = dL chk i n DU
theorem Kg.cons {se se' : List Seen} (h : Kg chk se se') (x : Seen) : Kg chk (x :: se) (x :: se') := fun j m => by simp only [aX, h j m]
theorem Kf.cons {sn DU : List (Nat × Mem)} (h : Kf chk sn DU) (x : Nat × Mem) : Kf chk (x :: sn) (x :: DU) := ⟨fun i agg a v => by obtain ⟨j, m⟩ := x; simp only [bG, h.1 i agg a v], fun i n => by obtain ⟨j, m⟩ := x; simp only [dL, h.2 i n]⟩
theorem Bp {call : Call} : ∀ (l : List aY) (i : Nat) (fr : Fr) (m : Mem) (sn DU : List (Nat × Mem)) (se se' : List Seen), Kf chk sn DU -> Kg chk se se' -> dG call chk B0 l i fr m sn se = dG call chk B0 l i fr m DU se'
 | [], i, fr, m, sn, DU, se, se', _, _ => rfl
 | o :: r, i, fr, m, sn, DU, se, se', h2, h1 => by
  have ih := fun i fr m sn DU se se' h2 h1 => Bp (call := call) r i fr m sn DU se se' h2 h1
  simp only [dG]
  cases bf fr o.guard with
  | none => rfl
  | some b =>
  cases b with
  | false => exact ih _ _ _ _ _ _ _ h2 h1
  | true =>
   simp only
   cases o.op with
   | val op =>
    simp only
    split
    ·cases aA fr.eval op m with
     | none => rfl
     | some q => obtain ⟨v, m1⟩ := q; exact ih _ _ _ _ _ _ _ h2 h1
    ·cases aA fr.eval op ⟨B0 + i, m.gB⟩ with
     | none => rfl
     | some q => obtain ⟨v, m1⟩ := q; exact ih _ _ _ _ _ _ _ h2 h1
    ·split
     ·rename_i agg x _
      cases m.load agg (fr.eval x) with
      | none => rfl
      | some v =>
       simp only [h2.1 i agg (fr.eval x) v, h2.2 i m.next]
       cases Gk (fr.eval x)
       ·simp only [cond_false]
        cases bG chk i agg (fr.eval x) v DU
        ·rfl
        ·simp only [cond_true]; exact ih _ _ _ _ _ _ _ h2 (h1.cons _)
       ·simp only [cond_true]
        cases dL chk i m.next DU
        ·rfl
        ·simp only [cond_true]; exact ih _ _ _ _ _ _ _ h2 h1
     ·rfl
    ·cases aA fr.eval op m with
     | none => rfl
     | some q =>
      obtain ⟨v, m1⟩ := q
      simp only [h1 i m1]
      cases aX chk i m1 se'
      ·rfl
      ·simp only [cond_true]; exact ih _ _ _ _ _ _ _ (h2.cons _) h1
   | call f args =>
    simp only
    cases fM call (fr.eval f) (args.map fr.eval) m with
    | none => rfl
    | some q =>
     cases q with
     | ret v m1 =>
      simp only [h1 i m1]
      cases aX chk i m1 se'
      ·rfl
      ·simp only [cond_true]; exact ih _ _ _ _ _ _ _ (h2.cons _) h1
     | gD v m1 => rfl
   | panic x => rfl
   | defer f x => rfl
theorem JS {DU : List (Nat × Mem)} {se' : List Seen} (h2 : Kf chk sn DU) (h1 : Kg chk se se') : kU T chk B0 l i fr m sn se = kU T chk B0 l i fr m DU se' := by
 unfold kU; congr 1; funext k; exact Bp l i fr m sn DU se se' h2 h1
theorem RR {j : Nat} {agg : Option Nat} {a v : EV} (h : Qz j chk = true) : kU T chk B0 l i fr m sn (⟨j, agg, a, v⟩ :: se) = kU T chk B0 l i fr m sn se :=
 JS ⟨fun _ _ _ _ => rfl, fun _ _ => rfl⟩ fun k m => by simp only [aX, yV h, cond_false]
theorem JR {j : Nat} {m1 : Mem} (h : MB j chk = true) : kU T chk B0 l i fr m ((j, m1) :: sn) se = kU T chk B0 l i fr m sn se :=
 JS ⟨fun i agg a v => by simp only [bG, yW h, cond_false], fun i n => by simp only [dL, yW h, cond_false]⟩ fun _ _ => rfl
theorem rV {agg : Option Nat} {a : aV} (h : Qz i chk = true) : kU T chk B0 (⟨d, .val (.load agg a), none⟩ :: l) i fr m sn se = ub (m.load agg (fr.eval a)) fun v => kU T chk B0 l (i + 1) (fr.put d v) m sn se := by
 rw [zR]; cases m.load agg (fr.eval a) with
 | none => rfl
 | some v => simp only [ub, IC h, Mx h, jM, RR h, Ss]; cases Gk (fr.eval a) <;> rfl
theorem wL {agg : Option Nat} {a : aV} (_h : Qz i chk = false) : kU T chk B0 (⟨d, .val (.load agg a), none⟩ :: l) i fr m sn se = ub (m.load agg (fr.eval a)) fun v => Ss (fr.eval a) (CE (dL chk i m.next sn) (kU T chk B0 l (i + 1) (fr.put d v) m sn se)) (CE (bG chk i agg (fr.eval a) v sn) (kU T chk B0 l (i + 1) (fr.put d v) m sn (⟨i, agg, fr.eval a, v⟩ :: se))) := zR
theorem zP {op : ls} (h : cS op = 3) (h0 : MB i chk = true) : kU T chk B0 (⟨d, .val op, none⟩ :: l) i fr m sn se = gA (aA fr.eval op m) fun v m' => kU T chk B0 l (i + 1) (fr.put d v) m' sn se := by
 rw [HS h]; cases aA fr.eval op m with
 | none => rfl
 | some q => obtain ⟨v, m1⟩ := q; simp only [gA, D3 h0, jM, JR h0]
theorem Di {op : ls} (h : cS op = 3) (_h0 : MB i chk = false) : kU T chk B0 (⟨d, .val op, none⟩ :: l) i fr m sn se = gA (aA fr.eval op m) fun v m' => CE (aX chk i m' se) (kU T chk B0 l (i + 1) (fr.put d v) m' ((i, m) :: sn) se) := HS h
theorem rW {x : aV} {args : List aV} (h0 : MB i chk = true) : kU T chk B0 (⟨d, .call x args, none⟩ :: l) i fr m sn se = ri (AB T (fr.eval x) (args.map fr.eval) m) fun v m' => kU T chk B0 l (i + 1) (fr.put d v) m' sn se := by
 rw [zW]; cases AB T (fr.eval x) (args.map fr.eval) m with
 | none => rfl
 | some q => cases q with
  | ret v m1 => simp only [ri, D3 h0, jM, JR h0]
  | gD v m1 => rfl
theorem wM {x : aV} {args : List aV} (_h0 : MB i chk = false) : kU T chk B0 (⟨d, .call x args, none⟩ :: l) i fr m sn se = ri (AB T (fr.eval x) (args.map fr.eval) m) fun v m' => CE (aX chk i m' se) (kU T chk B0 l (i + 1) (fr.put d v) m' ((i, m) :: sn) se) := zW
theorem j4 {op : Aq} {t : Nat} {w : Bool} : kU T chk B0 (⟨d, op, some (t, w)⟩ :: l) i fr m sn se = gE (fr.get t) w (kU T chk B0 (⟨d, op, none⟩ :: l) i fr m sn se) (kU T chk B0 l (i + 1) (fr.put d .undef) m sn se) := by
 cases h : fr.get t
 case bool b =>
  refine db fun r => ?_
  rw [fU];simp only [dG, bf, h, gE]
  cases hb : b == w
  ·simp only [cond_false]; exact fU.symm
  ·simp only [cond_true]
   rw [fU];simp only [dG, bf]
 case undef =>
  refine db fun r => ?_
  rw [fU];simp only [dG, bf, h, gE];exact fU.symm
 all_goals
  refine db fun r => ?_
  rw [fU];simp only [dG, bf, h, reduceCtorEq, exists_const, gE]
def U0 (o : Option Fin) : Option R1 := match o with
 | some (.ret v m) => some (.val v m)
 | _ => none
theorem yE {v : EV} {m : Mem} : U0 (some (.ret v m)) = some (.val v m) := rfl
theorem PZ {o : Option Fin} {k : EV -> Mem -> Option Out} : ri o k = gA (U0 o) k := by cases o with | none => rfl | some q => cases q <;> rfl
theorem Dk {op : ls} {t : Nat} {w : Bool} (h : cS op = 0) : kU T chk B0 (⟨d, .val op, some (t, w)⟩ :: l) i fr m sn se = gV (fr.get t) w m (aA fr.eval op m) fun v _ => kU T chk B0 l (i + 1) (fr.put d v) m sn se := by rw [j4, AW h]; rfl
theorem Dj {op : ls} {t : Nat} {w : Bool} (h : cS op = 1) : kU T chk B0 (⟨d, .val op, some (t, w)⟩ :: l) i fr m sn se = gE (fr.get t) w (gA (aA fr.eval op ⟨B0 + i, m.gB⟩) fun v m1 => kU T chk B0 l (i + 1) (fr.put d v) ⟨m.next, m1.gB⟩ sn se) (kU T chk B0 l (i + 1) (fr.put d .undef) m sn se) := by rw [j4, AV h]
theorem zV {agg : Option Nat} {a : aV} {t : Nat} {w : Bool} (h : Qz i chk = true) : kU T chk B0 (⟨d, .val (.load agg a), some (t, w)⟩ :: l) i fr m sn se = gV (fr.get t) w m (gl m (m.load agg (fr.eval a))) fun v _ => kU T chk B0 l (i + 1) (fr.put d v) m sn se := by
 rw [j4, rV h]; unfold gV
 cases m.load agg (fr.eval a) <;> rfl
theorem zU {agg : Option Nat} {a : aV} {t : Nat} {w : Bool} (_h : Qz i chk = false) : kU T chk B0 (⟨d, .val (.load agg a), some (t, w)⟩ :: l) i fr m sn se = gE (fr.get t) w (ub (m.load agg (fr.eval a)) fun v => Ss (fr.eval a) (CE (dL chk i m.next sn) (kU T chk B0 l (i + 1) (fr.put d v) m sn se)) (CE (bG chk i agg (fr.eval a) v sn) (kU T chk B0 l (i + 1) (fr.put d v) m sn (⟨i, agg, fr.eval a, v⟩ :: se)))) (kU T chk B0 l (i + 1) (fr.put d .undef) m sn se) := by rw [j4, zR]
theorem zT {op : ls} {t : Nat} {w : Bool} (h : cS op = 3) (h0 : MB i chk = true) : kU T chk B0 (⟨d, .val op, some (t, w)⟩ :: l) i fr m sn se = gV (fr.get t) w m (aA fr.eval op m) fun v m' => kU T chk B0 l (i + 1) (fr.put d v) m' sn se := by rw [j4, zP h h0]; rfl
theorem zS {op : ls} {t : Nat} {w : Bool} (h : cS op = 3) (_h0 : MB i chk = false) : kU T chk B0 (⟨d, .val op, some (t, w)⟩ :: l) i fr m sn se = gE (fr.get t) w (gA (aA fr.eval op m) fun v m' => CE (aX chk i m' se) (kU T chk B0 l (i + 1) (fr.put d v) m' ((i, m) :: sn) se)) (kU T chk B0 l (i + 1) (fr.put d .undef) m sn se) := by rw [j4, HS h]
theorem tJ {x : aV} {args : List aV} {t : Nat} {w : Bool} (h0 : MB i chk = true) : kU T chk B0 (⟨d, .call x args, some (t, w)⟩ :: l) i fr m sn se = gV (fr.get t) w m (U0 (AB T (fr.eval x) (args.map fr.eval) m)) fun v m' => kU T chk B0 l (i + 1) (fr.put d v) m' sn se := by rw [j4, rW h0, PZ]; rfl
theorem tI {x : aV} {args : List aV} {t : Nat} {w : Bool} (_h0 : MB i chk = false) : kU T chk B0 (⟨d, .call x args, some (t, w)⟩ :: l) i fr m sn se = gE (fr.get t) w (ri (AB T (fr.eval x) (args.map fr.eval) m) fun v m' => CE (aX chk i m' se) (kU T chk B0 l (i + 1) (fr.put d v) m' ((i, m) :: sn) se)) (kU T chk B0 l (i + 1) (fr.put d .undef) m sn se) := by rw [j4, zW]
section
variable {p q : Prop} {x y : Option Out}
theorem CW : gE (bo p) true x y = iF p x y := by by_cases h : p <;> simp [gE, bo, iF, h]
theorem CX : gE (bo p) false x y = iF p y x := by by_cases h : p <;> simp [gE, bo, iF, h]
theorem M4 : gE (.bool true) true x y = x := rfl
theorem M5 : gE (.bool true) false x y = y := rfl
theorem M6 : gE (.bool false) true x y = y := rfl
theorem M7 : gE (.bool false) false x y = x := rfl
theorem zt {w : Bool} : gE .undef w x y = y := rfl
theorem CQ : gE (gv p (bo q)) true x y = iF (p /\ q) x y := by by_cases h : p <;> by_cases h' : q <;> simp [gE, bo, gv, iF, h, h']
theorem CR : gE (gv p (bo q)) false x y = iF (p /\ ¬ q) x y := by by_cases h : p <;> by_cases h' : q <;> simp [gE, bo, gv, iF, h, h']
theorem CS : gE (gv p (.bool true)) true x y = iF p x y := by by_cases h : p <;> simp [gE, gv, iF, h]
theorem CT : gE (gv p (.bool true)) false x y = y := by by_cases h : p <;> simp [gE, gv, h]
theorem CU : gE (gv p (.bool false)) true x y = y := by by_cases h : p <;> simp [gE, gv, h]
theorem CV : gE (gv p (.bool false)) false x y = iF p x y := by by_cases h : p <;> simp [gE, gv, iF, h]
end
theorem Dl {j : Nat} : aX chk j m [] = true := rfl
theorem z7 {j : Nat} {s : Seen} : aX chk j m (s :: se) = ((!bV s.i j chk || m.eD s.agg s.a s.v) && aX chk j m se) := by
 simp only [aX]; cases bV s.i j chk <;> simp
theorem yz {agg : Option Nat} {a v : EV} : bG chk i agg a v [] = true := rfl
theorem vR {agg : Option Nat} {a v : EV} {j : Nat} {m1 : Mem} : bG chk i agg a v ((j, m1) :: sn) = ((!bV i j chk || m1.eD agg a v) && bG chk i agg a v sn) := by
 simp only [bG]; cases bV i j chk <;> simp
theorem Cr {n : Nat} : dL chk i n [] = true := rfl
theorem yR {n j : Nat} {m1 : Mem} : dL chk i n ((j, m1) :: sn) = ((!bV i j chk || m1.next.beq n) && dL chk i n sn) := by
 simp only [dL]; cases bV i j chk <;> cases m1.next.beq n <;> simp
theorem yM {j : Nat} : bV i j [] = false := rfl
theorem v9 {j a b : Nat} : bV i j ((a, b) :: chk) = ((a == i && b == j) || bV i j chk) := by
 simp only [bV];have e : ∀ x y : Nat, x.beq y = (x == y) := fun x y => by
  by_cases h : x = y
  ·subst h; simp
  ·rw [jP h]; simp [h]
 rw [e, e]
 cases a == i <;> cases b == j <;> simp
def GX (o : Option EV) (v : EV) : Bool := match o with
 | some x => EV.same x v
 | none => false
theorem vF {agg : Option Nat} {a v : EV} : m.eD agg a v = GX (m.load agg a) v := by simp only [Mem.eD, GX]; cases m.load agg a <;> rfl
theorem na {v : EV} (h : Told v = true) : GX (some v) v = true := rq v h
theorem vv {b : Bool} : Told (.bool b) = true := rfl
theorem BT {p : Prop} : Told (bo p) = true := rfl
theorem yj {k : IntKind} {n : Int} : Told (.int k n) = true := rfl
theorem yg {s : List UInt8} : Told (.str s) = true := rfl
theorem pM : Told .bL = true := rfl
theorem yh {b o : Nat} : Told (.ptr b o) = true := rfl
theorem mN : Told .ae = true := rfl
theorem sl {b o l : Nat} {c : Option Nat} : Told (.slice b o l c) = true := rfl
theorem pN : Told .bB = true := rfl
theorem yi {b : Nat} : Told (.map b) = true := rfl
theorem oa : Told .aN = true := rfl
theorem mO : Told .aC = true := rfl
theorem sj : Told .undef = true := rfl
theorem yk {x : List EV} : Told (.agg x) = kD x := by simp only [Told]
theorem sk {x : List EV} : Told (.tuple x) = kD x := by simp only [Told]
theorem ss {t : Nat} {v : EV} : Told (.iface t v) = Told v := by simp only [Told]
theorem vu {f : Nat} {x y : List EV} : Told (.func f x y) = (kD x && kD y) := by simp only [Told]
theorem vt : kD [] = true := rfl
theorem si {v : EV} {x : List EV} : kD (v :: x) = (Told v && kD x) := by simp only [kD]
end
theorem HO {fs : List (Option Nat × Nat × sd)} {a b : List EV} : eH (.agg fs) (.agg a) (.agg b) = pq fs a b := rfl
def E3 (o r : Option Bool) : Option Bool := match o with
 | some true => r
 | o => o
def VX (t : sd) (x y : Option EV) (r : Option Bool) : Option Bool := match x, y with
 | some x, some y => E3 (eH t x y) r
 | _, _ => none
theorem Dc {a b : List EV} : pq [] a b = some true := rfl
theorem zO {g : Option Nat} {off : Nat} {t : sd} {r : List (Option Nat × Nat × sd)} {a b : List EV} : pq ((g, off, t) :: r) a b = VX t (partOf g a off) (partOf g b off) (pq r a b) := by
 simp only [pq, VX, E3]
 cases partOf g a off <;> cases partOf g b off <;> rfl
theorem wJ {t : sd} {x y : EV} {r : Option Bool} : VX t (some x) (some y) r = E3 (eH t x y) r := rfl
theorem wY {r : Option Bool} : E3 (some true) r = r := rfl
theorem tX {r : Option Bool} : E3 (some false) r = some false := rfl
theorem H9 {p : Prop} [Decidable p] : E3 (some (decide p)) (some true) = some (decide p) := by by_cases h : p <;> simp [E3, h]
theorem Ia {p : Prop} [Decidable p] : E3 (some (decide p)) (some false) = some false := by by_cases h : p <;> simp [E3, h]
theorem Ah {p q : Prop} [Decidable p] [Decidable q] : E3 (some (decide p)) (some (decide q)) = some (decide (p /\ q)) := by by_cases h : p <;> by_cases h' : q <;> simp [E3, h, h']
def Zh (o : Option EV) (r : Option (List EV)) : Option (List EV) := match o with
 | some v => r.map (v :: ·)
 | none => none
theorem yF {fr : Fr} {m : Mem} {t : Nat} {agg : Option Nat} {rs : List lV} : bN fr m (.cell t agg :: rs) = Zh (m.load agg (fr.get t)) (bN fr m rs) := by
 simp only [bN, zH, Zh]; cases m.load agg (fr.get t) <;> rfl
theorem yI {v : EV} {r : Option (List EV)} : Zh (some v) r = r.map (v :: ·) := rfl
theorem Nq {b o : Nat} : eH (.aJ 3) (.ptr b o) .bL = some false := rfl
theorem Ns {b o : Nat} : eH (.aJ 3) .bL (.ptr b o) = some false := rfl
theorem Nt : eH (.aJ 3) .bL .bL = some true := rfl
theorem Nn {b o l : Nat} {c : Option Nat} : eH (.aJ 4) (.slice b o l c) .ae = some false := rfl
theorem Nr {b o l : Nat} {c : Option Nat} : eH (.aJ 4) .ae (.slice b o l c) = some false := rfl
theorem De : eH (.aJ 4) .ae .ae = some true := rfl
def aem (m : Mem) (o : Option Fin) (v : EV) : Prop := ∃ m', o = some (.ret v m') /\ Aj m m'
theorem Af {p q : Prop} (h : p ↔ q) : bo p = bo q := by rw [propext h]
theorem T4 {p : Prop} (h : p) : EV.bool true = bo p := (eB h).symm
theorem rR {p : Prop} (h : ¬ p) : EV.bool false = bo p := (eR h).symm
def bsE (e esz : Nat) (m : Mem) (vs : Option (List EV)) : Option R1 := match vs with
 | some vs => bif vs.length.beq esz then some (.val (.slice (nb m.next 0) 0 1 (some 1)) (Ev.ext m [.cells vs esz e false])) else none
 | none => none
theorem vi {e esz : Nat} {m : Mem} {vs : List EV} (h : vs.length = esz) : bsE e esz m (some vs) = some (.val (.slice (nb m.next 0) 0 1 (some 1)) (Ev.ext m [.cells vs esz e false])) := by
 show (bif vs.length.beq esz then _ else _) = _
 rw [h, dM]; rfl
theorem oA {ρ : aV -> EV} {m : Mem} {e esz : Nat} {zero : List EV} {x : aV} (hz : zero.length = esz) : aA ρ (.bD e esz 1 zero [(0, x)]) m = bsE e esz m (ρ x).cells := by
 simp only [aA, List.map_cons, List.map_nil, rQ, Nat.zero_mul];have hc : eA 1 zero = zero := by simp [eA]
 rw [hc]
 cases hx : (ρ x).cells with
 | none => rfl
 | some vs =>
  by_cases hl : vs.length = esz
  ·rw [vi hl, pi hl (by omega)]
   simp only [rP, List.take_zero, List.nil_append, Nat.zero_add];rw [List.drop_eq_nil_of_le (by omega), List.append_nil]; rfl
  ·simp only [bsE, Nj, jP hl, cond_false]
theorem oB {ρ : aV -> EV} {m : Mem} {e esz : Nat} {zero : List EV} : aA ρ (.bD e esz 0 zero []) m = some (.val (.slice (nb m.next 0) 0 0 (some 0)) (Ev.ext m [.cells [] esz e false])) := by
 simp only [aA, List.map_nil, rP, eA, List.replicate_zero, List.flatten_nil]; rfl
end
section
structure cD where
 hU : Nat -> Option Nat
 tag : Nat -> Option (Nat × Nat × Option Nat)
 gN : Nat -> Option fQ
def cD.low (θ : cD) : cD := ⟨fun _ => none, fun _ => none, θ.gN⟩
mutual
inductive SV : cD -> EV -> EV -> Prop
 | undef {θ : cD} : SV θ .undef .undef
 | bool {θ : cD} (b : Bool) : SV θ (.bool b) (.bool b)
 | int {θ : cD} (k : IntKind) (n : Int) : SV θ (.int k n) (.int k n)
 | str {θ : cD} (s : List UInt8) : SV θ (.str s) (.str s)
 | bL {θ : cD} : SV θ .bL .bL
 | ptr {θ : cD} {b c off : Nat} (h : θ.hU b = some c) : SV θ (.ptr b off) (.ptr c off)
 | ae {θ : cD} : SV θ .ae .ae
 | slice {θ : cD} {b c off len : Nat} {cap : Option Nat} (h : θ.hU b = some c) : SV θ (.slice b off len cap) (.slice c off len cap)
 | bB {θ : cD} : SV θ .bB .bB
 | map {θ : cD} {b c : Nat} (h : θ.hU b = some c) : SV θ (.map b) (.map c)
 | aN {θ : cD} : SV θ .aN .aN
 | func {θ : cD} {f : Nat} {x y x' y' : List EV} (hx : dP θ x x') (hy : dP θ y y') : SV θ (.func f x y) (.func f x' y')
 | aC {θ : cD} : SV θ .aC .aC
 | iface {θ : cD} {t : Nat} {v v' : EV} (h : SV θ v v') : SV θ (.iface t v) (.iface t v')
 | agg {θ : cD} {x x' : List EV} (h : dP θ x x') : SV θ (.agg x) (.agg x')
 | tuple {θ : cD} {x x' : List EV} (h : dP θ x x') : SV θ (.tuple x) (.tuple x')
 | fz {θ : cD} {t esz : Nat} {els : List (List EV)} {b off : Nat} {cap : Option Nat} (h : SR θ esz els b off) (ht : t = 0 \/ θ.tag t = some (b, off, cap)) (hc : ∀ c, cap = some c -> els.length <= c) : SV θ (.fz t esz els) (.slice b off els.length cap)
 | BK {θ : cD} {t esz b off : Nat} (ht : t = 0 \/ θ.tag t = some (b, off, some 0)) : SV θ (.fz t esz []) (.slice b off 0 (some 0))
 | fF {θ : cD} {esz : Nat} {els : List (List EV)} {b off i k o : Nat} (h : SR θ esz els b off) (hi : i < els.length) (ho : o = off + i * esz + k) : SV θ (.fF esz els i k) (.ptr b o)
inductive dP : cD -> List EV -> List EV -> Prop
 | nil {θ : cD} : dP θ [] []
 | cons {θ : cD} {v v' : EV} {x x' : List EV} (h : SV θ v v') (hs : dP θ x x') : dP θ (v :: x) (v' :: x')
inductive SR : cD -> Nat -> List (List EV) -> Nat -> Nat -> Prop
 | mk {θ : cD} {esz : Nat} {els : List (List EV)} {b off k : Nat} {cs : List EV} {ro : Bool} (hs : θ.gN b = some (.cells cs esz k ro)) (hl : ∀ el ∈ els, el.length = esz) (hn : off + els.length * esz <= cs.length)
   (hx : dP θ.low els.flatten ((cs.drop off).take (els.length * esz))) : SR θ esz els b off
end
structure cD.Ext (θ θ' : cD) : Prop where
 hU : ∀ b c, θ.hU b = some c -> θ'.hU b = some c
 tag : ∀ t x, θ.tag t = some x -> θ'.tag t = some x
 gN : ∀ b B, θ.gN b = some B -> θ'.gN b = some B
theorem cD.Ext.refl (θ : cD) : cD.Ext θ θ := ⟨fun _ _ h => h, fun _ _ h => h, fun _ _ h => h⟩
theorem cD.Ext.trans {θ θ' θ'' : cD} (h : cD.Ext θ θ') (k : cD.Ext θ' θ'') : cD.Ext θ θ'' := ⟨fun b c e => k.hU b c (h.hU b c e), fun t x e => k.tag t x (h.tag t x e), fun b B e => k.gN b B (h.gN b B e)⟩
theorem cD.Ext.low {θ θ' : cD} (e : cD.Ext θ θ') : cD.Ext θ.low θ'.low := ⟨fun _ _ h => h, fun _ _ h => h, e.gN⟩
theorem cD.MF (θ : cD) : cD.Ext θ.low θ := ⟨fun _ _ h => (by simp [cD.low] at h), fun _ _ h => (by simp [cD.low] at h), fun _ _ h => h⟩
mutual
theorem SV.ext : ∀ {θ θ' : cD}, cD.Ext θ θ' -> ∀ {v v' : EV}, SV θ v v' -> SV θ' v v'
 | _, _, _, _, _, .undef => .undef
 | _, _, _, _, _, .bool b => .bool b
 | _, _, _, _, _, .int k n => .int k n
 | _, _, _, _, _, .str s => .str s
 | _, _, _, _, _, .bL => .bL
 | _, _, e, _, _, .ptr h => .ptr (e.hU _ _ h)
 | _, _, _, _, _, .ae => .ae
 | _, _, e, _, _, .slice h => .slice (e.hU _ _ h)
 | _, _, _, _, _, .bB => .bB
 | _, _, e, _, _, .map h => .map (e.hU _ _ h)
 | _, _, _, _, _, .aN => .aN
 | _, _, e, _, _, .func hx hy => .func (dP.ext e hx) (dP.ext e hy)
 | _, _, _, _, _, .aC => .aC
 | _, _, e, _, _, .iface h => .iface (SV.ext e h)
 | _, _, e, _, _, .agg h => .agg (dP.ext e h)
 | _, _, e, _, _, .tuple h => .tuple (dP.ext e h)
 | _, _, e, _, _, .fz h ht hc => .fz (SR.ext e h) (ht.imp id (e.tag _ _)) hc
 | _, _, e, _, _, .BK ht => .BK (ht.imp id (e.tag _ _))
 | _, _, e, _, _, .fF h hi ho => .fF (SR.ext e h) hi ho
theorem dP.ext : ∀ {θ θ' : cD}, cD.Ext θ θ' -> ∀ {v v' : List EV}, dP θ v v' -> dP θ' v v'
 | _, _, _, _, _, .nil => .nil
 | _, _, e, _, _, .cons h hs => .cons (SV.ext e h) (dP.ext e hs)
theorem SR.ext : ∀ {θ θ' : cD}, cD.Ext θ θ' -> ∀ {esz : Nat} {els : List (List EV)} {b off : Nat}, SR θ esz els b off -> SR θ' esz els b off
 | _, _, e, _, _, _, _, .mk hs hl hn hx => .mk (e.gN _ _ hs) hl hn (dP.ext e.low hx)
end
section
variable {θ : cD}
theorem dP.length : ∀ {x x' : List EV}, dP θ x x' -> x.length = x'.length
 | _, _, .nil => rfl
 | _, _, .cons _ hs => by simp [dP.length hs]
theorem dP.get : ∀ {x x' : List EV}, dP θ x x' -> ∀ {i : Nat} {v : EV}, x[i]? = some v -> ∃ v', x'[i]? = some v' /\ SV θ v v'
 | _, _, .nil, i, v, h => by simp at h
 | _, _, .cons (v' := a') h0 hs, i, v, h => by
  cases i with
  | zero => simp at h; subst h; exact ⟨a', rfl, h0⟩
  | succ i => simp at h; obtain ⟨v', hv, hr⟩ := dP.get hs h; exact ⟨v', by simpa using hv, hr⟩
theorem dP.qR : ∀ {x x' : List EV}, x.length = x'.length -> (∀ (i : Nat) (v v' : EV), x[i]? = some v -> x'[i]? = some v' -> SV θ v v') -> dP θ x x'
 | [], [], _, _ => .nil
 | [], _ :: _, h, _ => by simp at h
 | _ :: _, [], h, _ => by simp at h
 | a :: x, a' :: x', h, hg => .cons (hg 0 a a' rfl rfl) (dP.qR (by simpa using h) fun i v v' hv rJ => hg (i + 1) v v' (by simpa using hv) (by simpa using rJ))
theorem dP.append : ∀ {x y x' y' : List EV}, dP θ x x' -> dP θ y y' -> dP θ (x ++ y) (x' ++ y')
 | _, _, _, _, .nil, h => h
 | _, _, _, _, .cons h hs, k => .cons h (dP.append hs k)
theorem dP.take {x x' : List EV} (h : dP θ x x') (n : Nat) : dP θ (x.take n) (x'.take n) := by
 refine dP.qR (by simp [h.length]) fun i v v' hv rJ => ?_
 rw [List.getElem?_take] at hv rJ
 split at hv
 ·rename_i bt
  obtain ⟨u, hu, hr⟩ := h.get hv
  rw [if_pos bt, hu] at rJ; cases rJ; exact hr
 ·cases hv
theorem dP.drop {x x' : List EV} (h : dP θ x x') (n : Nat) : dP θ (x.drop n) (x'.drop n) := by
 refine dP.qR (by simp [h.length]) fun i v v' hv rJ => ?_
 rw [List.getElem?_drop] at hv rJ
 obtain ⟨u, hu, hr⟩ := h.get hv
 rw [hu] at rJ; cases rJ; exact hr
theorem dP.map {α : Type} (f g : α -> EV) : ∀ {l : List α}, (∀ a ∈ l, SV θ (f a) (g a)) -> dP θ (l.map f) (l.map g)
 | [], _ => .nil
 | a :: l, h => .cons (h a (by simp)) (dP.map f g fun b hb => h b (by simp [hb]))
theorem dP.replicate {v v' : EV} (h : SV θ v v') : ∀ n : Nat, dP θ (List.replicate n v) (List.replicate n v')
 | 0 => .nil
 | n + 1 => .cons h (dP.replicate h n)
mutual
theorem SV.of_flat : ∀ {v : EV}, Flat v = true -> SV θ v v
 | .undef, _ => .undef
 | .bool b, _ => .bool b
 | .int k n, _ => .int k n
 | .str s, _ => .str s
 | .bL, _ => .bL
 | .ptr _ _, h => by simp [Flat] at h
 | .ae, _ => .ae
 | .slice _ _ _ _, h => by simp [Flat] at h
 | .bB, _ => .bB
 | .map _, h => by simp [Flat] at h
 | .aN, _ => .aN
 | .func f x y, h => by simp only [Flat, pC] at h; exact .func (dP.of_flat h.1) (dP.of_flat h.2)
 | .aC, _ => .aC
 | .iface t v, h => .iface (SV.of_flat (by simpa only [Flat] using h))
 | .agg x, h => .agg (dP.of_flat (by simpa only [Flat] using h))
 | .tuple x, h => .tuple (dP.of_flat (by simpa only [Flat] using h))
 | .fz _ _ _, h => by simp [Flat] at h
 | .fF _ _ _ _, h => by simp [Flat] at h
theorem dP.of_flat : ∀ {x : List EV}, fq x = true -> dP θ x x
 | [], _ => .nil
 | v :: x, h => by simp only [fq, pC] at h; exact .cons (SV.of_flat h.1) (dP.of_flat h.2)
end
mutual
theorem SV.flat : ∀ {v v' : EV}, SV θ v v' -> Flat v = true -> v' = v
 | _, _, .undef, _ | _, _, .bool _, _ | _, _, .int _ _, _ | _, _, .str _, _ | _, _, .bL, _ | _, _, .ae, _ | _, _, .bB, _ | _, _, .aN, _ | _, _, .aC, _ => rfl
 | _, _, .ptr _, h => by simp [Flat] at h
 | _, _, .slice _, h => by simp [Flat] at h
 | _, _, .map _, h => by simp [Flat] at h
 | _, _, .func hx hy, h => by simp only [Flat, pC] at h; rw [dP.flat hx h.1, dP.flat hy h.2]
 | _, _, .iface hv, h => by rw [SV.flat hv (by simpa only [Flat] using h)]
 | _, _, .agg hx, h => by rw [dP.flat hx (by simpa only [Flat] using h)]
 | _, _, .tuple hx, h => by rw [dP.flat hx (by simpa only [Flat] using h)]
 | _, _, .fz _ _ _, h => by simp [Flat] at h
 | _, _, .BK _, h => by simp [Flat] at h
 | _, _, .fF _ _ _, h => by simp [Flat] at h
theorem dP.flat : ∀ {x x' : List EV}, dP θ x x' -> fq x = true -> x' = x
 | _, _, .nil, _ => rfl
 | _, _, .cons h hs, k => by simp only [fq, pC] at k; rw [SV.flat h k.1, dP.flat hs k.2]
end
mutual
theorem SV.fn : ∀ {a b c : EV}, SV θ a b -> SV θ a c -> Told a = true -> b = c
 | _, _, _, .undef, h, _ => by cases h; rfl
 | _, _, _, .bool _, h, _ => by cases h; rfl
 | _, _, _, .int _ _, h, _ => by cases h; rfl
 | _, _, _, .str _, h, _ => by cases h; rfl
 | _, _, _, .bL, h, _ => by cases h; rfl
 | _, _, _, .ptr h, k, _ => by cases k with | ptr k => rw [h] at k; cases k; rfl
 | _, _, _, .ae, h, _ => by cases h; rfl
 | _, _, _, .slice h, k, _ => by cases k with | slice k => rw [h] at k; cases k; rfl
 | _, _, _, .bB, h, _ => by cases h; rfl
 | _, _, _, .map h, k, _ => by cases k with | map k => rw [h] at k; cases k; rfl
 | _, _, _, .aN, h, _ => by cases h; rfl
 | _, _, _, .func hx hy, k, t => by
  simp only [Told, pC] at t
  cases k with | func kx ky => rw [dP.fn hx kx t.1, dP.fn hy ky t.2]
 | _, _, _, .aC, h, _ => by cases h; rfl
 | _, _, _, .iface h, k, t => by cases k with | iface k => rw [SV.fn h k (by simpa only [Told] using t)]
 | _, _, _, .agg h, k, t => by cases k with | agg k => rw [dP.fn h k (by simpa only [Told] using t)]
 | _, _, _, .tuple h, k, t => by cases k with | tuple k => rw [dP.fn h k (by simpa only [Told] using t)]
 | _, _, _, .fz _ ht _, k, t => by
  simp only [Told, pC, Bool.not_eq_true'] at t;have iQ := jY t.1
  cases k with
  | fz _ kt _ =>
   rcases ht with ht | ht
   ·exact absurd ht iQ
   ·rcases kt with kt | kt
    ·exact absurd kt iQ
    ·rw [ht] at kt; cases kt; rfl
  | BK kt =>
   rcases ht with ht | ht
   ·exact absurd ht iQ
   ·rcases kt with kt | kt
    ·exact absurd kt iQ
    ·rw [ht] at kt; cases kt; rfl
 | _, _, _, .BK ht, k, t => by
  simp only [Told, pC, Bool.not_eq_true'] at t;have iQ := jY t.1
  generalize hn : ([] : List (List EV)) = els at k
  cases k with
  | fz _ kt _ =>
   subst hn;rcases ht with ht | ht
   ·exact absurd ht iQ
   ·rcases kt with kt | kt
    ·exact absurd kt iQ
    ·rw [ht] at kt; cases kt; rfl
  | BK kt =>
   rcases ht with ht | ht
   ·exact absurd ht iQ
   ·rcases kt with kt | kt
    ·exact absurd kt iQ
    ·rw [ht] at kt; cases kt; rfl
 | _, _, _, .fF _ _ _, _, t => by simp [Told] at t
theorem dP.fn : ∀ {a b c : List EV}, dP θ a b -> dP θ a c -> kD a = true -> b = c
 | _, _, _, .nil, h, _ => by cases h; rfl
 | _, _, _, .cons h hs, k, t => by
  simp only [kD, pC] at t
  cases k with | cons k ks => rw [SV.fn h k t.1, dP.fn hs ks t.2]
end
mutual
theorem SV.told : ∀ {a b : EV}, SV θ a b -> Told b = true
 | _, _, .undef | _, _, .bool _ | _, _, .int _ _ | _, _, .str _ | _, _, .bL | _, _, .ptr _ | _, _, .ae | _, _, .slice _ | _, _, .bB | _, _, .map _ | _, _, .aN | _, _, .aC | _, _, .fz _ _ _ | _, _, .BK _ | _, _, .fF _ _ _ => rfl
 | _, _, .func hx hy => by simp only [Told, dP.told hx, dP.told hy, Bool.and_self]
 | _, _, .iface h => by simp only [Told]; exact SV.told h
 | _, _, .agg h => by simp only [Told]; exact dP.told h
 | _, _, .tuple h => by simp only [Told]; exact dP.told h
theorem dP.told : ∀ {a b : List EV}, dP θ a b -> kD b = true
 | _, _, .nil => rfl
 | _, _, .cons h hs => by simp only [kD, SV.told h, dP.told hs, Bool.and_self]
end
mutual
theorem sr : ∀ {a : EV}, EV.same a a = true -> Told a = true
 | .undef, _ | .bool _, _ | .int _ _, _ | .str _, _ | .bL, _ | .ptr _ _, _ | .ae, _ | .slice _ _ _ _, _ | .bB, _ | .map _, _ | .aN, _ | .aC, _ => rfl
 | .func f x y, h => by
  simp only [EV.same, Nat.beq_refl, cond_true] at h
  cases hx : EV.ma x x <;> simp only [hx, cond_true, cond_false, re] at h
  simp only [Told, iD hx, iD h, Bool.and_self]
 | .iface t v, h => by simp only [EV.same, Nat.beq_refl, cond_true] at h; simp only [Told]; exact sr h
 | .agg x, h => by simp only [EV.same] at h; simp only [Told]; exact iD h
 | .tuple x, h => by simp only [EV.same] at h; simp only [Told]; exact iD h
 | .fz t e els, h => by
  simp only [EV.same, Nat.beq_refl, cond_true] at h
  cases ht : t.beq 0 <;> simp only [ht, cond_true, cond_false, re] at h
  simp only [Told, ht, Bool.not_false, Bool.true_and];exact rh h
 | .fF _ _ _ _, h => by simp [EV.same] at h
theorem iD : ∀ {a : List EV}, EV.ma a a = true -> kD a = true
 | [], _ => rfl
 | v :: x, h => by
  simp only [EV.ma] at h
  cases hx : EV.same v v <;> simp only [hx, cond_true, cond_false, re] at h
  simp only [kD, sr hx, iD h, Bool.and_self]
theorem rh : ∀ {a : List (List EV)}, EV.qQ a a = true -> A5 a = true
 | [], _ => rfl
 | v :: x, h => by
  simp only [EV.qQ] at h
  cases hx : EV.ma v v <;> simp only [hx, cond_true, cond_false, re] at h
  simp only [A5, iD hx, rh h, Bool.and_self]
end
theorem SV.same {a b a' b' : EV} (ha : SV θ a a') (hb : SV θ b b') (h : EV.same a b = true) : EV.same a' b' = true := by
 have e := Cf h
 subst e;rw [SV.fn ha hb (sr h)];exact rq _ hb.told
theorem SV.cells {v v' : EV} {cs : List EV} (h : SV θ v v') (hc : v.cells = some cs) : ∃ lQ, v'.cells = some lQ /\ dP θ cs lQ := by
 cases h <;> simp only [EV.cells, reduceCtorEq, bc] at hc <;> subst hc
 case agg h => exact ⟨_, rfl, h⟩
 case BK h => exact ⟨_, rfl, .cons (.BK h) .nil⟩
 all_goals exact ⟨_, rfl, .cons (by constructor <;> assumption) .nil⟩
theorem dP.part {x x' : List EV} (h : dP θ x x') {g : Option Nat} {off : Nat} {v : EV} (hp : partOf g x off = some v) : ∃ v', partOf g x' off = some v' /\ SV θ v v' := by
 cases g with
 | none => exact h.get hp
 | some n =>
  simp only [partOf] at hp ⊢
  rw [<- h.length]
  cases hb : (off + n).ble x.length <;> simp only [hb, cond_true, cond_false, reduceCtorEq, bc] at hp ⊢
  subst hp;exact ⟨_, rfl, .agg ((h.drop off).take n)⟩
theorem dP.jb {x x' vs uz r : List EV} (h : dP θ x x') (hv : dP θ vs uz) {off : Nat} (hp : Ev.jb x off vs = some r) : ∃ r', Ev.jb x' off uz = some r' /\ dP θ r r' := by
 unfold Ev.jb at hp ⊢
 rw [<- h.length, <- hv.length]
 cases hb : (off + vs.length).ble x.length <;> simp only [hb, cond_true, cond_false, reduceCtorEq, bc] at hp ⊢
 subst hp;exact ⟨_, rfl, ((h.take off).append hv).append (h.drop _)⟩
end
inductive nF (θ : cD) : List (EV × EV) -> List (EV × EV) -> Prop
 | nil : nF θ [] []
 | cons {k v k' v' : EV} {x x' : List (EV × EV)} (hk : SV θ k k') (hv : SV θ v v') (h : nF θ x x') : nF θ ((k, v) :: x) ((k', v') :: x')
theorem nF.ext {θ θ' : cD} (e : cD.Ext θ θ') : ∀ {x x' : List (EV × EV)}, nF θ x x' -> nF θ' x x'
 | _, _, .nil => .nil
 | _, _, .cons hk hv h => .cons (hk.ext e) (hv.ext e) (nF.ext e h)
def Mh (θ : cD) : fQ -> fQ -> Prop
 | .dead, _ => True
 | .cells cs e k ro, B => ∃ lQ, B = .cells lQ e k ro /\ dP θ cs lQ
 | .map es, B => ∃ qZ, B = .map qZ /\ nF θ es qZ
theorem Mh.ext {θ θ' : cD} (e : cD.Ext θ θ') {B B' : fQ} (h : Mh θ B B') : Mh θ' B B' := by
 cases B with
 | dead => trivial
 | cells cs k t ro => obtain ⟨lQ, h1, h2⟩ := h; exact ⟨lQ, h1, h2.ext e⟩
 | map es => obtain ⟨qZ, h1, h2⟩ := h; exact ⟨qZ, h1, h2.ext e⟩
structure MemB (θ : cD) (m m' : Mem) : Prop where
 c9 : ∀ b c, θ.hU b = some c -> Mh θ (m.get b) (m'.get c)
 cl : ∀ b, θ.hU b = none -> m.get b = .dead
structure MemS (θ : cD) (m m' : Mem) : Prop extends MemB θ m m' where
 gN : ∀ b B, θ.gN b = some B -> m'.get b = B
structure qO (θ : cD) (n n' : Nat) : Prop where
 hU : ∀ b c, θ.hU b = some c -> b < n /\ c < n'
 inj : ∀ a b c, θ.hU a = some c -> θ.hU b = some c -> a = b
 off : ∀ b c, θ.hU b = some c -> θ.gN c = none
 gN : ∀ b B, θ.gN b = some B -> b < n'
theorem MemB.ext {θ θ' : cD} {m m' : Mem} (h : MemB θ m m') (e : cD.Ext θ θ') (hd : ∀ b c, θ.hU b = none -> θ'.hU b = some c -> m.get b = .dead) : MemB θ' m m' := by
 refine ⟨fun b c hb => ?_, fun b hb => ?_⟩
 ·cases hr : θ.hU b with
  | none => rw [h.cl b hr]; trivial
  | some d =>
   have := e.hU b d hr
   rw [hb] at this; cases this
   exact (h.c9 b c hr).ext e
 ·cases hr : θ.hU b with
  | none => exact h.cl b hr
  | some d => rw [e.hU b d hr] at hb; cases hb
def cD.more (θ : cD) (b c : Nat) : cD := ⟨fun x => if x = b then some c else θ.hU x, θ.tag, θ.gN⟩
structure Ak (θ : cD) (b c : Nat) : Prop where
 l : θ.hU b = none
 r : ∀ a, θ.hU a ≠ some c
 s : θ.gN c = none
theorem qO.fresh {θ : cD} {n n' : Nat} (h : qO θ n n') {b c : Nat} (hb : n <= b) (hc : n' <= c) : Ak θ b c := by
 refine ⟨?_, fun a ha => ?_, ?_⟩
 ·cases e : θ.hU b with
  | none => rfl
  | some d => have := (h.hU b d e).1; omega
 ·have := (h.hU a c ha).2; omega
 ·cases e : θ.gN c with
  | none => rfl
  | some d => have := h.gN c d e; omega
theorem Ak.ext {θ : cD} {b c : Nat} (h : Ak θ b c) : cD.Ext θ (θ.more b c) := by
 refine ⟨fun x y e => ?_, fun _ _ e => e, fun _ _ e => e⟩
 show (if x = b then some c else θ.hU x) = some y
 by_cases hx : x = b
 ·subst hx; rw [h.l] at e; cases e
 ·rw [if_neg hx]; exact e
theorem oq {θ : cD} {b c : Nat} : (θ.more b c).hU b = some c := if_pos rfl
theorem qO.more {θ : cD} {n n' b c : Nat} (h : qO θ n n') (f : Ak θ b c) {k k' : Nat} (hb : b < k) (hc : c < k') (hk : n <= k) (nH : n' <= k') : qO (θ.more b c) k k' := by
 have hU : ∀ x y, (θ.more b c).hU x = some y -> (x = b /\ y = c) \/ θ.hU x = some y := by
  intro x y e
  have e' : (if x = b then some c else θ.hU x) = some y := e
  by_cases hx : x = b
  ·rw [if_pos hx] at e'; cases e'; exact .inl ⟨hx, rfl⟩
  ·rw [if_neg hx] at e'; exact .inr e'
 refine ⟨fun x y e => ?_, fun x y z e1 e2 => ?_, fun x y e => ?_, fun x B e => ?_⟩
 ·rcases hU x y e with ⟨rfl, rfl⟩ | e
  ·exact ⟨hb, hc⟩
  ·have := h.hU x y e; omega
 ·rcases hU x z e1 with ⟨rfl, rfl⟩ | e1 <;> rcases hU y _ e2 with ⟨h1, h2⟩ | e2
  ·exact h1.symm
  ·exact absurd e2 (f.r y)
  ·exact absurd e1 (h2 ▸ f.r x)
  ·exact h.inj x y z e1 e2
 ·rcases hU x y e with ⟨rfl, rfl⟩ | e
  ·exact f.s
  ·exact h.off x y e
 ·have := h.gN x B e; omega
theorem MemS.more {θ : cD} {m m' : Mem} {b c : Nat} (h : MemS θ m m') (f : Ak θ b c) {B B' : fQ} (hB : Mh (θ.more b c) B B') : MemS (θ.more b c) (Mem.new ⟨b, m.gB⟩ B) (Mem.new ⟨c, m'.gB⟩ B') := by
 have g1 : ∀ x, (Mem.new ⟨b, m.gB⟩ B).get x = if x = b then B else m.get x := fun x => fm
 have g2 : ∀ x, (Mem.new ⟨c, m'.gB⟩ B').get x = if x = c then B' else m'.get x := fun x => fm
 refine ⟨⟨fun x y e => ?_, fun x e => ?_⟩, fun x C e => ?_⟩
 ·have e' : (if x = b then some c else θ.hU x) = some y := e
  by_cases hx : x = b
  ·rw [if_pos hx] at e'; cases e'
   rw [g1, g2, if_pos hx, if_pos rfl]; exact hB
  ·rw [if_neg hx] at e'
   have hy : y ≠ c := fun q => f.r x (q ▸ e')
   rw [g1, g2, if_neg hx, if_neg hy]; exact (h.c9 x y e').ext f.ext
 ·have e' : (if x = b then some c else θ.hU x) = none := e
  by_cases hx : x = b
  ·rw [if_pos hx] at e'; cases e'
  ·rw [if_neg hx] at e'; rw [g1, if_neg hx]; exact h.cl x e'
 ·have hx : x ≠ c := fun q => by
   have e' : θ.gN x = some C := e
   subst q; rw [f.s] at e'; cases e'
  rw [g2, if_neg hx]; exact h.gN x C e
theorem MemS.set {θ : cD} {m m' : Mem} {n n' b c : Nat} (h : MemS θ m m') (k : qO θ n n') (hb : θ.hU b = some c) {B B' : fQ} (hB : Mh θ B B') : MemS θ (m.set b B) (m'.set c B') := by
 refine ⟨⟨fun x y e => ?_, fun x e => ?_⟩, fun x C e => ?_⟩
 ·by_cases hx : x = b
  ·subst hx; rw [hb] at e; cases e
   rw [bK, bK]; exact hB
  ·have hy : y ≠ c := fun q => hx (k.inj x b c (q ▸ e) hb)
   rw [az hx, az hy]; exact h.c9 x y e
 ·have hx : x ≠ b := fun q => by subst q; rw [hb] at e; cases e
  rw [az hx]; exact h.cl x e
 ·have hx : x ≠ c := fun q => by subst q; rw [k.off b x hb] at e; cases e
  rw [az hx]; exact h.gN x C e
end
section
def kZ (l : List (List UInt8)) : List (List EV) := l.map fun s => [.str s]
def VV (l : List (List UInt8)) : EV := .fF 1 [[.fz 0 1 (kZ l)]] 0 0
def SJ : EV -> EV
 | .ptr g 0 => match FI g with
  | some l => VV l
  | none => .ptr g 0
 | v => v
def Q1 : EV -> Bool
 | .ptr g 0 => (FI g).isSome
 | _ => false
def jC : aV -> aV
 | .tmp t => .tmp t
 | .const v => .const (SJ v)
def Zc (l : List Int) : fQ := .cells (l.map (.int .u64)) 1 0 true
def mJ (θ : cD) : Prop := (∀ g l, FI g = some l -> SV θ (VV l) (.ptr g 0)) /\ ∀ g l, tabl g = some l -> θ.gN g = some (Zc l)
theorem mJ.ext {θ θ' : cD} (h : mJ θ) (e : cD.Ext θ θ') : mJ θ' := ⟨fun g l hg => (h.1 g l hg).ext e, fun g l hg => e.gN _ _ (h.2 g l hg)⟩
theorem SR.aaJ {θ : cD} {esz : Nat} {els : List (List EV)} {b off : Nat} (h : SR θ esz els b off) : SR θ.low esz els b off := by
 cases h with | mk hs hl hn hx => exact .mk hs hl hn hx
theorem mJ.down {θ θ' : cD} (h : mJ θ) (e : cD.Ext θ.low θ') : mJ θ' := by
 refine ⟨fun g l hg => ?_, fun g l hg => e.gN _ _ (h.2 g l hg)⟩
 have := h.1 g l hg
 unfold VV at this ⊢
 cases this with | fF hr hi ho => exact .fF (hr.aaJ.ext e) hi ho
structure gI (θ : cD) (m m' : Mem) : Prop extends MemS θ m m' where
 ok : qO θ m.next m'.next
 Fl : mJ θ
theorem FZ {v : EV} (h : Flat v = true) : SJ v = v := by
 cases v <;> first | rfl | (simp [Flat] at h)
theorem SI {θ : cD} (hg : mJ θ) {v : EV} (h : (Flat v || Q1 v) = true) : SV θ (SJ v) v := by
 cases hf : Flat v with
 | true => rw [FZ hf]; exact SV.of_flat hf
 | false =>
  rw [hf, Bool.false_or] at h
  cases v with
  | ptr g off =>
   cases off with
   | zero =>
    simp only [Q1] at h
    cases Rq : FI g with
    | none => rw [Rq] at h; cases h
    | some l => simp only [SJ, Rq]; exact hg.1 g l Rq
   | succ n => simp [Q1] at h
  | _ => simp [Q1] at h
def ls.xc (f : aV -> aV) : ls -> ls
 | .ab x => .ab (f x)
 | .pick c a b => .pick (f c) (f a) (f b)
 | .alloc e z => .alloc e z
 | .box e x => .box e (f x)
 | .build z ps => .build z (ps.map fun p => (p.1, p.2.1, f p.2.2))
 | .bD e z n zr ps => .bD e z n zr (ps.map fun p => (p.1, f p.2))
 | .load a x => .load a (f x)
 | .store n a x => .store n (f a) (f x)
 | .cw x => .cw (f x)
 | .bin o x y => .bin o (f x) (f y)
 | .eq n t x y => .eq n t (f x) (f y)
 | .un o x => .un o (f x)
 | .conv c x => .conv c (f x)
 | .iface t x => .iface t (f x)
 | .BD g a c => .BD g (a.map f) (c.map f)
 | .uP => .uP
 | .lE e z zr l c => .lE e z zr (f l) (f c)
 | .jF x l h => .jF (f x) (l.map f) (h.map f)
 | .uG e x l h m => .uG e (f x) (l.map f) (h.map f) (m.map f)
 | .xk n e x l h m => .xk n e (f x) (l.map f) (h.map f) (m.map f)
 | .aj o x => .aj o (f x)
 | .AS a o x => .AS a o (f x)
 | .eu e x i => .eu e (f x) (f i)
 | .nt n e x i => .nt n e (f x) (f i)
 | .gp x i => .gp (f x) (f i)
 | .uV n e a x i => .uV n e a (f x) (f i)
 | .lookup k z o m x => .lookup k z o (f m) (f x)
 | .pd k m x y => .pd k (f m) (f x) (f y)
 | .delete k m x => .delete k (f m) (f x)
 | .qV m => .qV (f m)
 | .pP t x => .pP t (f x)
 | .extract x i => .extract (f x) i
 | .len x => .len (f x)
 | .eG x => .eG (f x)
 | .uT n => .uT n
 | .cap x => .cap (f x)
 | .max l => .max (l.map f)
 | .min l => .min (l.map f)
 | .append e z b s x => .append e z b (f s) (f x)
 | .copy e d s => .copy e (f d) (f s)
theorem P5 {f : aV -> aV} {op : ls} : cS (op.xc f) = cS op := by
 cases op with
 | conv c x => cases c <;> rfl
 | _ => rfl
theorem GB {ρ : aV -> EV} {f : aV -> aV} {op : ls} {m : Mem} : aA ρ (op.xc f) m = aA (fun x => ρ (f x)) op m := by
 cases op with
 | uG e x l h mx =>
  simp only [ls.xc, aA, Option.map_map, Function.comp_def]
  cases mx <;> rfl
 | _ => first | rfl | (simp only [ls.xc, aA, List.map_map, Option.map_map, Function.comp_def])
theorem ku {α : Type} {f : α -> α} : ∀ {l : List α}, (∀ x ∈ l, f x = x) -> l.map f = l
 | [], _ => rfl
 | a :: l, h => by rw [List.map_cons, h a (by simp), ku fun x hx => h x (by simp [hx])]
theorem ni {f : aV -> aV} {o : Option aV} (h : ∀ x ∈ D8 o, f x = x) : o.map f = o := by
 cases o with
 | none => rfl
 | some x => rw [Option.map_some, h x (by simp [D8])]
theorem OA {f : aV -> aV} {op : ls} (h : ∀ x ∈ iI op, f x = x) : op.xc f = op := by
 cases op with
 | build z ps =>
  simp only [ls.xc];rw [ku fun p hp => by rw [h p.2.2 (by simp only [iI, List.mem_map]; exact ⟨p, hp, rfl⟩)]]
 | bD e z n zr ps =>
  simp only [ls.xc];rw [ku fun p hp => by rw [h p.2 (by simp only [iI, List.mem_map]; exact ⟨p, hp, rfl⟩)]]
 | BD g a c =>
  simp only [ls.xc];rw [ku fun x hx => h x (by simp only [iI, uy]; exact .inl hx), ku fun x hx => h x (by simp only [iI, uy]; exact .inr hx)]
 | jF x l hh =>
  simp only [ls.xc];rw [h x (by simp [iI]), ni fun y hy => h y (by simp only [iI, oQ, uy]; exact .inr (.inl hy)), ni fun y hy => h y (by simp only [iI, oQ, uy]; exact .inr (.inr hy))]
 | uG e x l hh mm =>
  simp only [ls.xc];rw [h x (by simp [iI]), ni fun y hy => h y (by simp only [iI, oQ, uy]; exact .inr (.inl hy)), ni fun y hy => h y (by simp only [iI, oQ, uy]; exact .inr (.inr (.inl hy))), ni fun y hy => h y (by simp only [iI, oQ, uy]; exact .inr (.inr (.inr hy)))]
 | xk n e x l hh mm =>
  simp only [ls.xc];rw [h x (by simp [iI]), ni fun y hy => h y (by simp only [iI, oQ, uy]; exact .inr (.inl hy)), ni fun y hy => h y (by simp only [iI, oQ, uy]; exact .inr (.inr (.inl hy))), ni fun y hy => h y (by simp only [iI, oQ, uy]; exact .inr (.inr (.inr hy)))]
 | max l => simp only [ls.xc]; rw [ku fun x hx => h x (by simp only [iI]; exact hx)]
 | min l => simp only [ls.xc]; rw [ku fun x hx => h x (by simp only [iI]; exact hx)]
 | _ => simp only [iI, oQ, List.not_mem_nil, or_false, forall_eq_or_imp, forall_eq] at h <;> simp only [ls.xc, h]
def Aq.sub : Aq -> Aq
 | .val op => .val (op.xc jC)
 | .call f xs => .call (jC f) (xs.map jC)
 | .panic x => .panic (jC x)
 | .defer f xs => .defer (jC f) (xs.map jC)
def aY.sub (o : aY) : aY := ⟨o.dst, o.op.sub, o.guard⟩
def aH.sub : aH -> aH
 | .skip => .skip
 | .region ops => .region (ops.map aY.sub)
 | .draw ops chk => .draw (ops.map aY.sub) chk
 | .seq a b => .seq a.sub b.sub
 | .cond c a b => .cond (jC c) a.sub b.sub
 | .block id a => .block id a.sub
 | .loop a => .loop a.sub
 | .exit id => .exit id
 | .ret => .ret
def ax.sub (F : ax) : ax := ⟨F.ntmps, F.body.sub, F.results⟩
def U8 : aV -> Bool
 | .tmp _ => true
 | .const v => Flat v
def QA (x : Aq) : Bool := (oR x).all U8
def rC : aH -> Bool
 | .region ops | .draw ops _ => ops.all fun o => QA o.op
 | .seq a b => rC a && rC b
 | .cond c a b => U8 c && rC a && rC b
 | .block _ a | .loop a => rC a
 | _ => true
theorem IY {x : aV} (h : U8 x = true) : jC x = x := by
 cases x with
 | tmp t => rfl
 | const v => simp only [jC, FZ (show Flat v = true from h)]
theorem Oo {x : Aq} (h : QA x = true) : x.sub = x := by
 have hx : ∀ y ∈ oR x, jC y = y := fun y hy => IY (List.all_eq_true.1 h y hy)
 cases x with
 | val op => simp only [Aq.sub]; rw [OA hx]
 | call f xs =>
  simp only [Aq.sub];rw [hx f (by simp [oR]), ku fun y hy => hx y (by simp [oR, hy])]
 | panic y => simp only [Aq.sub]; rw [hx y (by simp [oR])]
 | defer f xs =>
  simp only [Aq.sub];rw [hx f (by simp [oR]), ku fun y hy => hx y (by simp [oR, hy])]
theorem Gc {ops : List aY} (h : ops.all (fun o => QA o.op) = true) : ops.map aY.sub = ops :=
 ku fun o ho => by unfold aY.sub; rw [Oo (List.all_eq_true.1 h o ho)]
theorem mz : ∀ {c : aH}, rC c = true -> c.sub = c
 | .skip, _ => rfl
 | .region ops, h => by simp only [aH.sub]; rw [Gc (by simpa only [rC] using h)]
 | .draw ops chk, h => by simp only [aH.sub]; rw [Gc (by simpa only [rC] using h)]
 | .seq a b, h => by simp only [rC, pC] at h; simp only [aH.sub]; rw [mz h.1, mz h.2]
 | .cond c a b, h => by simp only [rC, pC] at h; simp only [aH.sub]; rw [IY h.1.1, mz h.1.2, mz h.2]
 | .block id a, h => by simp only [rC] at h; simp only [aH.sub]; rw [mz h]
 | .loop a, h => by simp only [rC] at h; simp only [aH.sub]; rw [mz h]
 | .exit id, _ => rfl
 | .ret, _ => rfl
end
section
def Bi : aV -> Bool
 | .tmp _ => true
 | .const v => Flat v || Q1 v
def K2 : ls -> Bool
 | .alloc _ z | .build z _ | .bD _ _ _ z _ | .lE _ _ z _ _ => fq z
 | .lookup _ z _ _ _ => Flat z
 | _ => true
def Qt (op : ls) : Bool := (iI op).all Bi && K2 op
def x5 (θ : cD) (ρ ρ' : aV -> EV) : Prop := ∀ x, Bi x = true -> SV θ (ρ x) (ρ' x)
def Ie (θ : cD) (m m' : Mem) (v : EV) (m1 : Mem) (o : Option R1) : Prop :=
 ∃ v' fR, o = some (.val v' fR) /\
  ((SV θ v v' /\ MemS θ m1 fR /\ m1.next = m.next /\ fR.next = m'.next) \/
   (SV (θ.more m.next m'.next) v v' /\ MemS (θ.more m.next m'.next) m1 fR /\ m1.next = m.next + 1 /\ fR.next = m'.next + 1)) /\
  (∀ c, c ≠ m'.next -> (∀ b, θ.hU b ≠ some c) -> fR.get c = m'.get c)
section
variable {θ : cD} {m m' m1 : Mem} {v : EV} {o : Option R1} {n n' : Nat} {ρ ρ' : aV -> EV}
theorem Ie.here (hm : MemS θ m m') (h1 : m1 = m) {v' : EV} (hv : SV θ v v') : Ie θ m m' v m1 (some (.val v' m')) := by
 subst h1; exact ⟨v', m', rfl, .inl ⟨hv, hm, rfl, rfl⟩, fun _ _ _ => rfl⟩
theorem Ie.new (hm : MemS θ m m') (f : Ak θ m.next m'.next) {B B' : fQ} {v' : EV} (hB : Mh (θ.more m.next m'.next) B B') (hv : SV (θ.more m.next m'.next) v v') : Ie θ m m' v (m.new B) (some (.val v' (m'.new B'))) :=
 ⟨v', _, rfl, .inr ⟨hv, hm.more f hB, rfl, rfl⟩, fun c hc _ => by rw [fm, if_neg hc]⟩
theorem TV {b : Bool} {v' : EV} (h : SV θ (.bool b) v') : v' = .bool b := by cases h; rfl
theorem Q2 {k : IntKind} {i : Int} {v' : EV} (h : SV θ (.int k i) v') : v' = .int k i := by cases h; rfl
theorem ze {N i : Nat} {x x' : EV} (hx : SV θ x x') (h : idx N x = some i) : idx N x' = some i := by
 cases hx <;> first | exact h | simp [idx] at h
theorem fx {lo : Option aV} (hl : ∀ x, lo = some x -> SV θ (ρ x) (ρ' x)) {d N i : Nat} (h : au (lo.map ρ) d N = some i) : au (lo.map ρ') d N = some i := by
 cases lo with
 | none => exact h
 | some x =>
  have hx := hl x rfl
  simp only [Option.map_some] at h ⊢
  generalize ρ x = a at hx h
  generalize ρ' x = a' at hx
  cases hx <;> first | exact h | simp [au] at h
theorem EF : ∀ (ps : List (Nat × Nat × EV)) (WZ : List (Nat × Nat × EV)) (cs lQ r : List EV), ps.map (fun p => (p.1, p.2.1)) = WZ.map (fun p => (p.1, p.2.1)) -> dP θ (ps.map (·.2.2)) (WZ.map (·.2.2)) -> dP θ cs lQ -> fw cs ps = some r -> ∃ r', fw lQ WZ = some r' /\ dP θ r r'
 | [], [], cs, lQ, r, _, _, mg, h => by simp only [fw, bc] at h ⊢; subst h; exact ⟨_, rfl, mg⟩
 | [], _ :: _, _, _, _, he, _, _, _ => by simp at he
 | _ :: _, [], _, _, _, he, _, _, _ => by simp at he
 | (off, size, v) :: ps, (aeJ, adx, v') :: WZ, cs, lQ, r, he, hv, mg, h => by
  simp only [List.map_cons, List.cons.injEq, eM] at he;obtain ⟨⟨rfl, rfl⟩, he⟩ := he
  cases hv with
  | cons hv x8 =>
  simp only [fw] at h ⊢
  cases hc : v.cells with
  | none => simp [hc] at h
  | some vs =>
   obtain ⟨uz, XS, hs⟩ := hv.cells hc
   simp only [hc, XS, <- hs.length] at h ⊢
   cases hb : vs.length.beq size <;> simp only [hb, cond_true, cond_false, reduceCtorEq] at h ⊢
   cases hp : jb cs off vs with
   | none => simp [hp] at h
   | some q =>
    obtain ⟨q', hp', hq⟩ := mg.jb hs hp
    simp only [hp, hp'] at h ⊢
    exact EF ps WZ _ _ _ he x8 hq h
theorem zE {z : List EV} (hz : fq z = true) : ∀ n : Nat, fq (eA n z) = true := by
 have app : ∀ a b : List EV, fq a = true -> fq b = true -> fq (a ++ b) = true := by
  intro a b ha hb
  induction a with
  | nil => exact hb
  | cons x a ih => simp only [fq, pC] at ha; simp only [List.cons_append, fq, ha.1, ih ha.2, Bool.and_self]
 intro n
 induction n with
 | zero => rfl
 | succ n ih => unfold eA at ih ⊢; rw [List.replicate_succ, List.flatten_cons]; exact app _ _ hz ih
theorem QP {esz i k : Nat} {els : List (List EV)} {a' : EV} (ha : SV θ (.fF esz els i k) a') {g : Option Nat} (h : m.load g (.fF esz els i k) = some v) : ∃ v', SV θ v v' /\ ∀ q : Mem, (∀ c B, θ.gN c = some B -> q.get c = B) -> q.load g a' = some v' := by
 cases ha with
 | @fF _ _ _ b off _ _ o hr hi ho =>
  simp only [Mem.load] at h
  cases hr with
  | @mk _ _ _ _ _ kk cs ro OP hl hn Tl =>
  have hx := Tl.ext θ.MF
  rw [mZ hi] at h;simp only at h
  have Ey : els[i].length = esz := hl _ (Fm hi)
  -- the WM cells, in the row
  have key : ∀ (L : List (List EV)) (i : Nat) (hi : i < L.length), (∀ el ∈ L, el.length = esz) -> (L.flatten.drop (i * esz)).take esz = L[i] := by
   intro L
   induction L with
   | nil => intro i hi; simp at hi
   | cons e L ih =>
    intro i hi hl
    have he : e.length = esz := hl e (by simp)
    cases i with
    | zero => simp [he]
    | succ i =>
     have := ih i (by simpa using hi) (fun el h => hl el (by simp [h]))
     rw [List.flatten_cons, Nat.succ_mul, Nat.add_comm, <- List.drop_drop, show (e ++ L.flatten).drop esz = L.flatten by rw [<- he]; simp]
     simpa using this
  have Tn : dP θ els[i] ((cs.drop (off + i * esz)).take esz) := by
   have h1 := ((hx.drop (i * esz)).take esz)
   rw [key els i hi hl] at h1;have h2 : (((cs.drop off).take (els.length * esz)).drop (i * esz)).take esz = (cs.drop (off + i * esz)).take esz := by
    have : i * esz + esz <= els.length * esz := by rw [<- Nat.succ_mul]; exact Nat.mul_le_mul_right _ hi
    rw [List.drop_take, List.drop_drop, List.take_take, Nat.min_eq_left (by omega)]
   rw [h2] at h1; exact h1
  obtain ⟨v', hp, hv⟩ := Tn.part h
  refine ⟨v', hv, fun Q hQ => ?_⟩
  have xh := hQ _ _ OP
  simp only [Mem.load, xh];subst ho;have hlen : off + i * esz + esz <= cs.length := by
   have : i * esz + esz <= els.length * esz := by rw [<- Nat.succ_mul]; exact Nat.mul_le_mul_right _ hi
   omega
  cases g with
  | none =>
   simp only [partOf] at hp ⊢
   rw [List.getElem?_take] at hp
   split at hp
   ·rw [List.getElem?_drop] at hp; exact hp
   ·cases hp
  | some q =>
   simp only [partOf] at hp ⊢
   have Sw : ((cs.drop (off + i * esz)).take esz).length = esz := by rw [List.length_take, x9]; omega
   rw [Sw] at hp
   cases hb : (k + q).ble esz <;> simp only [hb, cond_true, cond_false, reduceCtorEq, bc] at hp
   have := qP hb
   rw [A8 (show off + i * esz + k + q <= cs.length by omega)];simp only [cond_true, bc];rw [<- hp, List.drop_take, List.drop_drop, List.take_take, Nat.min_eq_left (by omega)]
theorem Hr (hm : MemB θ m m') {a a' : EV} (ha : SV θ a a') (hf : Gk a = false) {g : Option Nat} (h : m.load g a = some v) : ∃ v', m'.load g a' = some v' /\ SV θ v v' := by
 cases ha <;> simp only [Mem.load, reduceCtorEq] at h
 case fF => simp [Gk] at hf
 case ptr b c off hb =>
  have hB := hm.c9 b c hb
  cases hg : m.get b with
  | dead => simp [hg] at h
  | map es => simp [hg] at h
  | cells cs e k ro =>
   rw [hg] at hB h;obtain ⟨lQ, xh, hs⟩ := hB
   simp only [Mem.load, xh];exact hs.part h
theorem Jb (hm : MemS θ m m') {a a' : EV} (ha : SV θ a a') {g : Option Nat} (h : m.load g a = some v) : ∃ v', m'.load g a' = some v' /\ SV θ v v' := by
 cases hf : Gk a with
 | false => exact Hr hm.toMemB ha hf h
 | true =>
  cases a <;> simp only [Gk, re] at hf
  obtain ⟨v', h1, h2⟩ := QP ha h
  exact ⟨v', h2 m' hm.gN, h1⟩
theorem G8 (hm : MemS θ m m') {b c : Nat} (hb : θ.hU b = some c) {off N : Nat} {xs : List EV} (h : m.row b off N = some xs) : ∃ Fo, m'.row c off N = some Fo /\ dP θ xs Fo := by
 by_cases h0 : N = 0
 ·subst h0; rw [Mem.ng] at h; cases h; exact ⟨_, Mem.ng, .nil⟩
 ·rw [Mem.pX h0] at h ⊢
  have hB := hm.c9 b c hb
  unfold Mem.G9 at h ⊢
  cases hg : m.get b with
  | dead => simp [hg] at h
  | map es => simp [hg] at h
  | cells cs e k ro =>
   rw [hg] at hB;obtain ⟨lQ, xh, hs⟩ := hB
   simp only [hg, xh, <- hs.length] at h ⊢
   cases hbb : (off + N).ble cs.length <;> simp only [hbb, cond_true, cond_false, reduceCtorEq, bc] at h ⊢
   subst h;exact ⟨_, rfl, (hs.drop off).take N⟩
theorem xz (hm : MemS θ m m') {x x' : EV} (hx : SV θ x x') {esz N : Nat} {xs : List EV} (h : m.source esz x = some (N, xs)) : ∃ Fo, m'.source esz x' = some (N, Fo) /\ dP θ xs Fo := by
 cases hx <;> simp only [Mem.source, reduceCtorEq] at h
 case str s =>
  refine ⟨xs, h, ?_⟩
  cases hb : esz.beq 1 <;> simp only [hb, cond_true, cond_false, reduceCtorEq, bc, eM] at h
  rw [<- h.2];exact dP.map _ _ fun a _ => .int _ _
 case ae => simp only [bc, eM] at h; obtain ⟨rfl, rfl⟩ := h; exact ⟨[], rfl, .nil⟩
 case slice b c off len cap hb =>
  obtain ⟨r, hr, he⟩ := j6.1 h
  obtain ⟨r', FA, hs⟩ := G8 hm hb hr
  simp only [eM] at he;obtain ⟨rfl, rfl⟩ := he
  exact ⟨r', by simp only [Mem.source, FA, Option.map_some], hs⟩
 case BK t e b off ht =>
  cases hb : e.beq esz <;> simp only [hb, cond_true, cond_false, reduceCtorEq, bc, eM] at h
  obtain ⟨rfl, rfl⟩ := h
  refine ⟨[], ?_, .nil⟩
  simp only [Mem.source, Nat.zero_mul, Mem.ng, Option.map_some, List.length_nil]
 case fz t e els b off cap hc hr ht =>
  cases hb : e.beq esz <;> simp only [hb, cond_true, cond_false, reduceCtorEq, bc, eM] at h
  obtain ⟨rfl, rfl⟩ := h
  obtain rfl := aR hb
  cases hr with
  | mk OP hl hn Tl =>
  have hx := Tl.ext θ.MF
  rename_i cs ro
  refine ⟨(cs.drop off).take (els.length * e), ?_, hx⟩
  simp only [Mem.source];by_cases h0 : els.length * e = 0
  ·rw [h0, Mem.ng, List.take_zero]; rfl
  ·rw [Mem.pX h0, Mem.G9, hm.gN _ _ OP]
   simp only [A8 hn, cond_true, Option.map_some]
theorem Au (hm : MemS θ m m') (k : qO θ n n') {b c : Nat} (hb : θ.hU b = some c) {off : Nat} {vs uz : List EV} (hv : dP θ vs uz) (h : m.write b off vs = some m1) : ∃ fR, m'.write c off uz = some fR /\ MemS θ m1 fR /\ m1.next = m.next /\ fR.next = m'.next /\ ∀ d, d ≠ c -> fR.get d = m'.get d := by
 have hB := hm.c9 b c hb
 unfold Mem.write at h ⊢
 cases hg : m.get b with
 | dead => simp [hg] at h
 | map es => simp [hg] at h
 | cells cs e t ro =>
  rw [hg] at hB;obtain ⟨lQ, xh, hs⟩ := hB
  simp only [hg, xh] at h ⊢
  cases ro <;> simp only [cond_true, cond_false, reduceCtorEq] at h ⊢
  obtain ⟨r, hr, rfl⟩ := j6.1 h
  obtain ⟨r', FA, hq⟩ := hs.jb hv hr
  exact ⟨_, by rw [FA]; rfl, hm.set k hb ⟨r', rfl, hq⟩, rfl, rfl, fun d hd => az hd⟩
theorem N7 (hm : MemS θ m m') (k : qO θ n n') {size : Nat} {a a' x x' : EV} (ha : SV θ a a') (hx : SV θ x x') (h : m.store size a x = some m1) : ∃ fR, m'.store size a' x' = some fR /\ MemS θ m1 fR /\ m1.next = m.next /\ fR.next = m'.next /\ ∀ d, (∀ b, θ.hU b ≠ some d) -> fR.get d = m'.get d := by
 unfold Mem.store at h
 cases hc : x.cells with
 | none => rw [hc] at h; cases a <;> simp at h
 | some vs =>
  obtain ⟨uz, XS, hs⟩ := hx.cells hc
  rw [hc] at h
  cases ha <;> simp only [reduceCtorEq] at h
  case ptr b c off hb =>
   cases hl : vs.length.beq size <;> simp only [hl, cond_true, cond_false, reduceCtorEq] at h
   obtain ⟨fR, h1, h2, h3, h4, h5⟩ := Au hm k hb hs h
   refine ⟨fR, ?_, h2, h3, h4, fun d hd => h5 d fun e => hd b (e ▸ hb)⟩
   simp only [Mem.store, XS, <- hs.length, hl, cond_true]; exact h1
theorem R4 {op : BinOp} {x y : EV} (h : ef op x y = some v) : Flat x = true /\ Flat y = true /\ Flat v = true := by
 cases x <;> cases y <;> simp only [ef, reduceCtorEq] at h
 case int.int k a l b =>
  refine ⟨rfl, rfl, ?_⟩
  have sh : ∀ op, tz op k a b = some v -> Flat v = true := by
   intro op h
   unfold tz at h
   split at h
   ·cases h
   ·cases op <;> simp at h <;> subst h <;> rfl
  have it : ∀ op, (bif (bY k).beq (bY l) then nB op k a b else none) = some v -> Flat v = true := by
   intro op h
   cases hk : (bY k).beq (bY l) <;> simp only [hk, cond_true, cond_false, reduceCtorEq] at h
   cases op <;> simp only [nB, qY, Option.map_some, bc, reduceCtorEq] at h <;> first | (subst h; rfl) | (split at h <;> simp at h; subst h; rfl)
  cases op <;> first | exact sh _ h | exact it _ h
 case str.str a b =>
  refine ⟨rfl, rfl, ?_⟩
  cases op <;> simp only [reduceCtorEq, bc] at h <;> first | (subst h; rfl) | skip
  cases hb : (a.length + b.length).ble 4294967296 <;> simp only [hb, cond_true, cond_false, reduceCtorEq, bc] at h
  subst h; rfl
theorem SE {op : UnOp} {x : EV} (h : EI op x = some v) : Flat x = true /\ Flat v = true := by
 cases op <;> cases x <;> simp only [EI, reduceCtorEq, bc, qY, Option.map_some] at h <;> subst h <;> exact ⟨rfl, rfl⟩
theorem LL {t : Nat} {x y x' y' : EV} (hx : SV θ x x') (hy : SV θ y y') {b : Bool} (h : dK t x y = some b) : dK t x' y' = some b := by
 cases hx <;> cases hy <;> first | exact h | (simp only [dK, reduceCtorEq] at h ⊢ <;> done) | (simp only [dK] at h ⊢; exact h)
theorem LK {fs : List (Option Nat × Nat × sd)} {x y : EV} {b : Bool} (h : eH (.agg fs) x y = some b) : ∃ a c, x = .agg a /\ y = .agg c /\ pq fs a c = some b := by
 rw [eH.eq_def] at h
 cases x <;> cases y <;> first | exact ⟨_, _, rfl, rfl, h⟩ | cases h
theorem NJ {a : List EV} {x' : EV} (h : SV θ (.agg a) x') : ∃ a', x' = .agg a' /\ dP θ a a' := by
 cases h with | agg h => exact ⟨_, rfl, h⟩
mutual
theorem RQ : ∀ (t : sd) {x y x' y' : EV}, SV θ x x' -> SV θ y y' -> ∀ {b : Bool}, eH t x y = some b -> eH t x' y' = some b
 | .aJ t, _, _, _, _, hx, hy, b, h => by simp only [eH] at h ⊢; exact LL hx hy h
 | .agg fs, _, _, _, _, hx, hy, b, h => by
  obtain ⟨a, c, rfl, rfl, h⟩ := LK h
  obtain ⟨a', rfl, ha⟩ := NJ hx
  obtain ⟨c', rfl, hc⟩ := NJ hy
  simp only [eH];exact Nk fs ha hc h
theorem Nk : ∀ (fs : List (Option Nat × Nat × sd)) {x y x' y' : List EV}, dP θ x x' -> dP θ y y' -> ∀ {b : Bool}, pq fs x y = some b -> pq fs x' y' = some b
 | [], _, _, _, _, _, _, _, h => by simp only [pq] at h ⊢; exact h
 | (g, off, t) :: r, x, y, x', y', hx, hy, b, h => by
  simp only [pq] at h ⊢
  cases hp : partOf g x off with
  | none => simp [hp] at h
  | some p =>
   cases hq : partOf g y off with
   | none => simp [hp, hq] at h
   | some q =>
    obtain ⟨p', hp', sp⟩ := hx.part hp
    obtain ⟨q', Gp, sq⟩ := hy.part hq
    simp only [hp, hq, hp', Gp] at h ⊢
    cases he : eH t p q with
    | none => simp [he] at h
    | some c =>
     rw [RQ t sp sq he]
     cases c
     ·simpa [he] using h
     ·simp only [he] at h ⊢; exact Nk r hx hy h
end
theorem EU : ∀ {xs : List EV} {s : List UInt8}, bytesOf xs = some s -> fq xs = true
 | [], _, _ => rfl
 | v :: xs, s, h => by
  unfold bytesOf at h
  split at h
  ·rename_i hh; cases hh
  ·rename_i hh; cases hh
   obtain ⟨r, hr, _⟩ := j6.1 h
   simp only [fq, Flat, EU hr, Bool.and_self]
  ·cases h
theorem QK : ∀ {l : List EV}, ui l = some v -> fq l = true /\ Flat v = true := by
 have go : ∀ (k : IntKind) (l : List EV) (x : Int), lF k x l = some v -> fq l = true /\ Flat v = true := by
  intro k l
  induction l with
  | nil => intro x h; simp only [lF, bc] at h; subst h; exact ⟨rfl, rfl⟩
  | cons a l ih =>
   intro x h
   cases a <;> simp only [lF, reduceCtorEq] at h
   rename_i k' y
   cases hk : (bY k).beq (bY k') <;> simp only [hk, cond_true, cond_false, reduceCtorEq] at h
   obtain ⟨h1, h2⟩ := ih _ h
   exact ⟨by simp only [fq, Flat, h1, Bool.and_self], h2⟩
 intro l h
 cases l with
 | nil => simp [ui] at h
 | cons a l =>
  cases a <;> simp only [ui, reduceCtorEq] at h
  obtain ⟨h1, h2⟩ := go _ _ _ h
  exact ⟨by simp only [fq, Flat, h1, Bool.and_self], h2⟩
theorem QH : ∀ {l : List EV}, xv l = some v -> fq l = true /\ Flat v = true := by
 have go : ∀ (k : IntKind) (l : List EV) (x : Int), mR k x l = some v -> fq l = true /\ Flat v = true := by
  intro k l
  induction l with
  | nil => intro x h; simp only [mR, bc] at h; subst h; exact ⟨rfl, rfl⟩
  | cons a l ih =>
   intro x h
   cases a <;> simp only [mR, reduceCtorEq] at h
   rename_i k' y
   cases hk : (bY k).beq (bY k') <;> simp only [hk, cond_true, cond_false, reduceCtorEq] at h
   obtain ⟨h1, h2⟩ := ih _ h
   exact ⟨by simp only [fq, Flat, h1, Bool.and_self], h2⟩
 intro l h
 cases l with
 | nil => simp [xv] at h
 | cons a l =>
  cases a <;> simp only [xv, reduceCtorEq] at h
  obtain ⟨h1, h2⟩ := go _ _ _ h
  exact ⟨by simp only [fq, Flat, h1, Bool.and_self], h2⟩
theorem x5.list (hρ : x5 θ ρ ρ') : ∀ {l : List aV}, l.all Bi = true -> dP θ (l.map ρ) (l.map ρ')
 | [], _ => .nil
 | x :: l, h => by simp only [List.all_cons, pC] at h; exact .cons (hρ x h.1) (x5.list hρ h.2)
theorem oJ {k : EV} (h : kH k ≠ 99) : Flat k = true := by cases k <;> first | rfl | exact absurd rfl h
theorem np {kt : Nat} {k : EV} (h : lK kt k = true) : kH k ≠ 99 := by
 cases k <;> simp only [lK, re] at h <;> simp [kH]
 rename_i kk n; cases kk <;> simp [bY]
theorem vQ {k : EV} (hk : kH k ≠ 99) : ∀ {es qZ : List (EV × EV)}, nF θ es qZ -> oh k es = true -> qZ.map (·.1) = es.map (·.1) /\ oh k qZ = true
 | _, _, .nil, _ => ⟨rfl, rfl⟩
 | _, _, .cons (k := a) ha hv hs, h => by
  simp only [oh] at h
  cases hb : (kH a).beq (kH k) <;> simp only [hb, cond_true, cond_false, re] at h
  have hf : Flat a = true := oJ (by rw [aR hb]; exact hk)
  have := ha.flat hf
  subst this;obtain ⟨h1, h2⟩ := vQ hk hs h
  exact ⟨by simp [h1], by simp only [oh, hb, cond_true, h2]⟩
theorem JI {k : EV} : ∀ {es qZ : List (EV × EV)}, nF θ es qZ -> qZ.map (·.1) = es.map (·.1) -> (∀ v, find k es = some v -> ∃ v', find k qZ = some v' /\ SV θ v v') /\ (find k es = none -> find k qZ = none)
 | _, _, .nil, _ => ⟨fun v h => by simp [find] at h, fun _ => rfl⟩
 | _, _, .cons (k' := a) (v := w) (v' := w') ha hv hs, h => by
  simp only [List.map_cons, List.cons.injEq] at h;obtain ⟨rfl, h⟩ := h
  obtain ⟨h1, h2⟩ := JI (k := k) hs h
  simp only [find]
  cases EV.same k a <;> simp only [cond_true, cond_false]
  ·exact ⟨h1, h2⟩
  ·exact ⟨fun v hh => by cases hh; exact ⟨w', rfl, hv⟩, fun hh => by cases hh⟩
theorem DK {k k' x x' : EV} (hk : SV θ k k') (hx : SV θ x x') (he : k' = k) : ∀ {es qZ : List (EV × EV)}, nF θ es qZ -> qZ.map (·.1) = es.map (·.1) -> nF θ (update k x es) (update k' x' qZ)
 | _, _, .nil, _ => .cons hk hx .nil
 | _, _, .cons (k' := a) ha hv hs, h => by
  simp only [List.map_cons, List.cons.injEq] at h;obtain ⟨rfl, h⟩ := h
  have ih := DK hk hx he hs h
  subst he;simp only [update]
  cases EV.same k' a <;> simp only [cond_true, cond_false]
  ·exact .cons ha hv ih
  ·exact .cons hk hx hs
theorem GC {k : EV} : ∀ {es qZ : List (EV × EV)}, nF θ es qZ -> qZ.map (·.1) = es.map (·.1) -> nF θ (erase k es) (erase k qZ)
 | _, _, .nil, _ => .nil
 | _, _, .cons (k' := a) ha hv hs, h => by
  simp only [List.map_cons, List.cons.injEq] at h;obtain ⟨rfl, h⟩ := h
  have ih := GC (k := k) hs h
  simp only [erase]
  cases EV.same k a <;> simp only [cond_true, cond_false]
  ·exact .cons ha hv ih
  ·exact hs
theorem nF.len : ∀ {es qZ : List (EV × EV)}, nF θ es qZ -> es.length = qZ.length
 | _, _, .nil => rfl
 | _, _, .cons _ _ h => by simp [nF.len h]
end
end
section
section
variable {θ : cD} {m m' m1 : Mem} {v : EV} {n n' : Nat} {ρ ρ' : aV -> EV}
theorem iJ {x : Option EV} (h : gl m x = some (.val v m1)) : x = some v /\ m1 = m := by
 unfold gl at h;obtain ⟨y, hy, he⟩ := j6.1 h
 cases he; exact ⟨hy, rfl⟩
theorem S3 {x : Option Mem} (h : ofM x = some (.val v m1)) : x = some m1 /\ v = .undef := by
 unfold ofM at h;obtain ⟨y, hy, he⟩ := j6.1 h
 cases he; exact ⟨hy, rfl⟩
theorem cT {a : EV} {q : Mem} (h : some (R1.val a q) = some (R1.val v m1)) : a = v /\ q = m1 := by cases h; exact ⟨rfl, rfl⟩
theorem nE {lo : Option aV} (h : (D8 lo).all Bi = true) (hρ : x5 θ ρ ρ') : ∀ x, lo = some x -> SV θ (ρ x) (ρ' x) := by
 intro x e; subst e
 simp only [D8, List.all_cons, List.all_nil, Bool.and_true] at h;exact hρ x h
theorem vb {θ' : cD} {esz b c off len : Nat} {cap : Option Nat} {lo hi max : Option aV} (hb : θ.hU b = some c) (nv : ∀ x, lo = some x -> SV θ (ρ x) (ρ' x)) (xg : ∀ x, hi = some x -> SV θ (ρ x) (ρ' x)) (OT : ∀ x, max = some x -> SV θ (ρ x) (ρ' x))
  (h : eh esz b off len cap (lo.map ρ) (hi.map ρ) (max.map ρ) = some v) : ∃ v', eh esz c off len cap (lo.map ρ') (hi.map ρ') (max.map ρ') = some v' /\ SV θ v v' := by
 cases cap with
 | some cp =>
  simp only [eh] at h ⊢
  cases h1 : au (max.map ρ) cp cp with
  | none => simp [h1] at h
  | some t =>
   rw [fx OT h1]; simp only [h1] at h ⊢
   cases h2 : au (hi.map ρ) len t with
   | none => simp [h2] at h
   | some q =>
    rw [fx xg h2]; simp only [h2] at h ⊢
    cases h3 : au (lo.map ρ) 0 q with
    | none => simp [h3] at h
    | some l =>
     rw [fx nv h3]; simp only [h3, bc] at h ⊢
     subst h; exact ⟨_, rfl, .slice hb⟩
 | none =>
  cases max with
  | some mx =>
   simp only [eh, Option.map_some] at h ⊢
   cases h1 : au (some (ρ mx)) len len with
   | none => simp [h1] at h
   | some t =>
    have HG : au (some (ρ' mx)) len len = some t := fx (lo := some mx) OT h1
    simp only [h1, HG] at h ⊢
    cases h2 : au (hi.map ρ) len t with
    | none => simp [h2] at h
    | some q =>
     rw [fx xg h2]; simp only [h2] at h ⊢
     cases h3 : au (lo.map ρ) 0 q with
     | none => simp [h3] at h
     | some l =>
      rw [fx nv h3]; simp only [h3, bc] at h ⊢
      subst h; exact ⟨_, rfl, .slice hb⟩
  | none =>
   simp only [eh, Option.map_none] at h ⊢
   cases h2 : au (hi.map ρ) len len with
   | none => simp [h2] at h
   | some q =>
    rw [fx xg h2]; simp only [h2] at h ⊢
    cases h3 : au (lo.map ρ) 0 q with
    | none => simp [h3] at h
    | some l =>
     rw [fx nv h3]; simp only [h3, bc] at h ⊢
     subst h; exact ⟨_, rfl, .slice hb⟩
theorem JF {esz : Nat} : ∀ (L : List (List EV)) (l h : Nat), l <= h -> h <= L.length -> (∀ el ∈ L, el.length = esz) -> ((L.take h).drop l).flatten = (L.flatten.drop (l * esz)).take ((h - l) * esz) := by
 have tk : ∀ (L : List (List EV)) (h : Nat), (∀ el ∈ L, el.length = esz) -> (L.take h).flatten = L.flatten.take (h * esz) := by
  intro L
  induction L with
  | nil => intro h _; simp
  | cons e L ih =>
   intro h hl
   have he := hl e (by simp)
   cases h with
   | zero => simp
   | succ h => rw [List.take_succ_cons, List.flatten_cons, ih h (fun el q => hl el (by simp [q])), List.flatten_cons, Nat.succ_mul, Nat.add_comm, List.take_append, he, Ij (l := e) (by rw [he]; omega)]; simp
 have dp : ∀ (L : List (List EV)) (h : Nat), (∀ el ∈ L, el.length = esz) -> (L.drop h).flatten = L.flatten.drop (h * esz) := by
  intro L
  induction L with
  | nil => intro h _; simp
  | cons e L ih =>
   intro h hl
   have he := hl e (by simp)
   cases h with
   | zero => simp
   | succ h => rw [List.drop_succ_cons, ih h (fun el q => hl el (by simp [q])), List.flatten_cons, Nat.succ_mul, Nat.add_comm, <- List.drop_drop, show (e ++ L.flatten).drop esz = L.flatten by rw [<- he]; simp]
 intro L l h hlh hh hl
 rw [dp _ _ (fun el q => hl el (List.mem_of_mem_take q)), tk _ _ hl, List.drop_take, <- Nat.sub_mul]
theorem TD {esz t b off : Nat} {els : List (List EV)} {cap : Option Nat} (hx : SV θ (.fz t esz els) (.slice b off els.length cap)) (hm : MemS θ m m') {lo hi : Option aV} (nv : ∀ x, lo = some x -> SV θ (ρ x) (ρ' x)) (xg : ∀ x, hi = some x -> SV θ (ρ x) (ρ' x)) {h l : Nat}
  (h1 : au (hi.map ρ) els.length els.length = some h) (h2 : au (lo.map ρ) 0 h = some l) (hh : h <= els.length) (hl : l <= h) :
  ∃ v' , (match cap with
   | some c => gl m' (eh esz b off els.length (some c) (lo.map ρ') (hi.map ρ') none)
   | none => match m'.get b with
    | .cells _ e _ _ => bif e.beq esz then gl m' (eh esz b off els.length none (lo.map ρ') (hi.map ρ') none) else none
    | _ => none) = some (.val v' m') /\ SV θ (.fz 0 esz ((els.take h).drop l)) v' := by
 have HG := fx xg h1
 have XY := fx nv h2
 have hlen : ((els.take h).drop l).length = h - l := by rw [x9, List.length_take]; omega
 generalize rL : EV.slice b off els.length cap = y at hx
 cases hx with
 | BK ht =>
  cases rL
  simp only [List.length_nil] at h1 HG hh
  obtain rfl : h = 0 := by omega
  obtain rfl : l = 0 := by omega
  simp only [List.length_nil, eh, py, HG, XY, gl, Option.map_some];refine ⟨_, rfl, ?_⟩
  simp only [Nat.beq_refl, cond_true, Nat.sub_self, List.take_nil, List.drop_nil];exact .BK (.inl rfl)
 | fz hr ht hc =>
  cases rL
  cases hr with
  | @mk _ _ _ _ _ k cs ro hs hle hn Lw =>
  have PA : dP θ.low ((els.take h).drop l).flatten ((cs.drop (off + l * esz)).take (((els.take h).drop l).length * esz)) := by
   rw [hlen, JF els l h hl hh hle];have q := (Lw.drop (l * esz)).take ((h - l) * esz)
   have : l * esz + (h - l) * esz <= els.length * esz := by rw [<- Nat.add_mul]; exact Nat.mul_le_mul_right _ (by omega)
   rw [List.drop_take, List.drop_drop, List.take_take, Nat.min_eq_left (by omega)] at q;exact q
  have hn' : off + l * esz + ((els.take h).drop l).length * esz <= cs.length := by
   have : l * esz + (h - l) * esz <= els.length * esz := by rw [<- Nat.add_mul]; exact Nat.mul_le_mul_right _ (by omega)
   rw [hlen]; omega
  have hr : SR θ esz ((els.take h).drop l) b (off + l * esz) := .mk hs (fun el q => hle el (List.mem_of_mem_take (List.mem_of_mem_drop q))) hn' PA
  cases cap with
  | some c =>
   have oN := hc c rfl
   have g1 : au (hi.map ρ') els.length c = some h := by
    cases hi with
    | none => simp only [Option.map_none, au, bc] at HG ⊢; exact HG
    | some x =>
     simp only [Option.map_some] at HG ⊢
     generalize ρ' x = w at HG
     unfold au at HG ⊢
     split at HG
     ·rename_i e; cases e
     ·rename_i e; cases e
      rename_i i
      cases hb : i.ble els.length <;> simp only [hb, cond_true, cond_false, reduceCtorEq, bc] at HG
      have := qP hb
      subst HG
      simp only [A8 (show i <= c by omega), cond_true]
     ·cases HG
   simp only [eh, py, g1, XY, gl, Option.map_some];refine ⟨_, rfl, ?_⟩
   by_cases Rs : c = l
   ·subst Rs
    obtain rfl : h = c := by omega
    simp only [Nat.beq_refl, cond_true, Nat.sub_self];have : (els.take h).drop h = [] := List.eq_nil_of_length_eq_zero (by rw [hlen]; omega)
    rw [this]; exact .BK (.inl rfl)
   ·simp only [jP Rs, cond_false]
    have := SV.fz (t := 0) (cap := some (c - l)) hr (.inl rfl) (fun q e => by cases e; rw [hlen]; omega)
    rw [hlen] at this; exact this
  | none =>
   simp only [hm.gN _ _ hs, Nat.beq_refl, cond_true, eh, py, HG, XY, gl, Option.map_some];refine ⟨_, rfl, ?_⟩
   have := SV.fz (t := 0) (cap := none) hr (.inl rfl) (fun q e => by cases e)
   rw [hlen] at this; exact this
theorem EX {x : Option EV} {d nO i : Nat} (h : au x d nO = some i) (hd : d <= nO) : i <= nO := by
 unfold au at h
 split at h
 ·cases h; exact hd
 ·rename_i kk i'
  cases hb : i'.ble nO <;> simp only [hb, cond_true, cond_false, reduceCtorEq, bc] at h
  rw [<- h]; exact qP hb
 ·cases h
theorem L9 (hm : MemS θ m m') (k : qO θ n n') (f : Ak θ m.next m'.next) {elem esz : Nat} {s s' x x' : EV} (hs : SV θ s s') (hx : SV θ x x') (h : fP m elem esz s x = some (v, m1)) : Ie θ m m' v m1 (w8 (fP m' elem esz s' x')) := by
 unfold fP at h ⊢
 cases jy : m.source esz x with
 | none => simp [jy] at h
 | some q =>
  obtain ⟨N, xs⟩ := q
  obtain ⟨Fo, Jr, Lw⟩ := xz hm hx jy
  simp only [jy, Jr] at h ⊢
  cases h0 : N.beq 0 <;> simp only [h0, cond_true, cond_false] at h ⊢
  ·cases hs <;> simp only [reduceCtorEq] at h
   case ae =>
    cases hr : N.ble room <;> simp only [hr, cond_true, cond_false, reduceCtorEq, bc, eM] at h
    obtain ⟨rfl, rfl⟩ := h
    exact Ie.new hm f ⟨Fo, rfl, Lw.ext f.ext⟩ (.slice oq)
   case slice b c off len cap hb =>
    cases hr : (len + N).ble room <;> simp only [hr, cond_true, cond_false, reduceCtorEq] at h ⊢
    cases Fy : m.row b off (len * esz) with
    | none => simp [Fy] at h
    | some old =>
     obtain ⟨old', Xt, hold⟩ := G8 hm hb Fy
     simp only [Fy, Xt] at h ⊢
     cases cap with
     | some cp =>
      simp only at h ⊢
      cases hc : (len + N).ble cp <;> simp only [hc, cond_true, cond_false] at h ⊢
      ·simp only [bc, eM] at h
       obtain ⟨rfl, rfl⟩ := h
       exact Ie.new hm f ⟨_, rfl, (hold.append Lw).ext f.ext⟩ (.slice oq)
      ·obtain ⟨m2, hw, he⟩ := j6.1 h
       simp only [eM] at he;obtain ⟨rfl, rfl⟩ := he
       obtain ⟨Sp, Xn, h2, h3, h4, h5⟩ := Au hm k hb Lw hw
       refine ⟨_, Sp, by simp only [Xn, Option.map_some, w8], .inl ⟨.slice hb, h2, h3, h4⟩, fun d _ hd => h5 d fun e => hd b (e ▸ hb)⟩
     | none =>
      simp only at h ⊢
      have hB := hm.c9 b c hb
      cases hg : m.get b with
      | dead => simp [hg] at h
      | map es => simp [hg] at h
      | cells cs e t ro =>
       rw [hg] at hB;obtain ⟨lQ, xh, _⟩ := hB
       cases ro with
       | true => simp [hg] at h
       | false =>
       simp only [hg, xh] at h ⊢
       cases he : e.beq esz <;> simp only [he, cond_true, cond_false, reduceCtorEq, bc, eM] at h ⊢
       obtain ⟨rfl, rfl⟩ := h
       have hmo := hm.more f (B := .cells (old ++ xs) esz elem false) (B' := .cells (old' ++ Fo) esz elem false) ⟨_, rfl, (hold.append Lw).ext f.ext⟩
       have k2 := k.more f (k := max n (m.next + 1)) (k' := max n' (m'.next + 1)) (by omega) (by omega) (by omega) (by omega)
       refine ⟨_, _, rfl, .inr ⟨.slice oq, hmo.set k2 (f.ext.hU b c hb) (B := .dead) (B' := .dead) trivial, rfl, rfl⟩, fun d hd FG => ?_⟩
       have YS : d ≠ c := fun q => FG b (q ▸ hb)
       rw [az YS, fm, if_neg hd]
  ·cases hs <;> simp only [reduceCtorEq, bc, eM] at h
   case ae => obtain ⟨rfl, rfl⟩ := h; exact Ie.here hm rfl .ae
   case slice hb => obtain ⟨rfl, rfl⟩ := h; exact Ie.here hm rfl (.slice hb)
   case fz c a b => obtain ⟨rfl, rfl⟩ := h; exact Ie.here hm rfl (.fz a b c)
   case BK ht => obtain ⟨rfl, rfl⟩ := h; exact Ie.here hm rfl (.BK ht)
theorem RW (hm : MemS θ m m') (k : qO θ n n') {esz : Nat} {s s' x x' : EV} (hs : SV θ s s') (hx : SV θ x x') (h : xR m esz s x = some (v, m1)) : Ie θ m m' v m1 (w8 (xR m' esz s' x')) := by
 unfold xR at h ⊢
 cases hs <;> simp only [reduceCtorEq] at h
 case ae =>
  obtain ⟨q, hq, he⟩ := j6.1 h
  obtain ⟨Fo, Jr, _⟩ := xz hm hx hq
  simp only [eM] at he;obtain ⟨rfl, rfl⟩ := he
  simp only [Jr, Option.map_some];exact Ie.here hm rfl (.int _ _)
 case slice b c off len cap hb =>
  cases jy : m.source esz x with
  | none => simp [jy] at h
  | some q =>
   obtain ⟨N, xs⟩ := q
   obtain ⟨Fo, Jr, Lw⟩ := xz hm hx jy
   simp only [jy, Jr] at h ⊢
   obtain ⟨m2, hw, he⟩ := j6.1 h
   simp only [eM] at he;obtain ⟨rfl, rfl⟩ := he
   obtain ⟨Sp, Xn, h2, h3, h4, h5⟩ := Au hm k hb (Lw.take _) hw
   exact ⟨_, Sp, by simp only [Xn, Option.map_some, w8], .inl ⟨.int _ _, h2, h3, h4⟩, fun d _ hd => h5 d fun e => hd b (e ▸ hb)⟩
theorem He (hρ : x5 θ ρ ρ') (hm : MemS θ m m') (k : qO θ n n') (f : Ak θ m.next m'.next) {op : ls} (ee : Qt op = true) (h : aA ρ op m = some (.val v m1)) : Ie θ m m' v m1 (aA ρ' op m') := by
 cases op <;> simp only [Qt, iI, K2, List.all_cons, List.all_nil, List.all_append, Bool.and_true, Bool.true_and, pC] at ee <;> simp only [aA] at h ⊢
 case ab x => obtain ⟨rfl, rfl⟩ := cT h; exact .here hm rfl (hρ x ee)
 case pick c a b =>
  have hc := hρ c ee.1
  generalize ρ c = y at hc h; generalize ρ' c = y' at hc
  cases hc <;> simp only [reduceCtorEq] at h ⊢
  rename_i t
  obtain ⟨rfl, rfl⟩ := cT h
  cases t
  ·exact .here hm rfl (hρ b ee.2.2)
  ·exact .here hm rfl (hρ a ee.2.1)
 case alloc e z =>
  obtain ⟨rfl, rfl⟩ := cT h
  exact .new hm f ⟨z, rfl, dP.of_flat ee⟩ (.ptr oq)
 case box e x =>
  have hx := hρ x ee
  cases hc : (ρ x).cells with
  | none => simp [hc] at h
  | some cs =>
   obtain ⟨lQ, XS, hs⟩ := hx.cells hc
   simp only [hc, XS] at h ⊢
   obtain ⟨rfl, rfl⟩ := cT h
   rw [<- hs.length];exact .new hm f ⟨lQ, rfl, hs.ext f.ext⟩ (.ptr oq)
 case build z ps =>
  obtain ⟨h1, rfl⟩ := iJ h
  obtain ⟨r, hr, rfl⟩ := j6.1 h1
  have hp : dP θ ((ps.map fun p => (p.1, p.2.1, ρ p.2.2)).map (·.2.2)) ((ps.map fun p => (p.1, p.2.1, ρ' p.2.2)).map (·.2.2)) := by
   have := x5.list hρ ee.1
   rw [List.map_map, List.map_map] at this;rw [List.map_map, List.map_map]; exact this
  obtain ⟨r', FA, hs⟩ := EF _ (ps.map fun p => (p.1, p.2.1, ρ' p.2.2)) _ _ _ (by simp [Function.comp_def]) hp (dP.of_flat ee.2) hr
  simp only [FA, Option.map_some, gl];exact .here hm rfl (.agg hs)
 case bD e esz len z ps =>
  cases hr : fw (eA len z) (ps.map fun p => (p.1 * esz, esz, ρ p.2)) with
  | none => simp [hr] at h
  | some r =>
   have hp : dP θ ((ps.map fun p => (p.1 * esz, esz, ρ p.2)).map (·.2.2)) ((ps.map fun p => (p.1 * esz, esz, ρ' p.2)).map (·.2.2)) := by
    have := x5.list hρ ee.1
    rw [List.map_map, List.map_map] at this;rw [List.map_map, List.map_map]; exact this
   obtain ⟨r', FA, hs⟩ := EF _ (ps.map fun p => (p.1 * esz, esz, ρ' p.2)) _ _ _ (by simp [Function.comp_def]) hp (dP.of_flat (zE ee.2 len)) hr
   simp only [hr, FA] at h ⊢
   obtain ⟨rfl, rfl⟩ := cT h
   exact .new hm f ⟨r', rfl, hs.ext f.ext⟩ (.slice oq)
 case load g a =>
  obtain ⟨h1, rfl⟩ := iJ h
  obtain ⟨v', hl, hv⟩ := Jb hm (hρ a ee) h1
  simp only [hl, gl, Option.map_some];exact .here hm rfl hv
 case store size a x =>
  obtain ⟨h1, rfl⟩ := S3 h
  obtain ⟨fR, hs, h2, h3, h4, h5⟩ := N7 hm k (hρ a ee.1) (hρ x ee.2) h1
  exact ⟨_, fR, by simp only [hs, ofM, Option.map_some], .inl ⟨.undef, h2, h3, h4⟩, fun c _ hc => h5 c hc⟩
 case cw x =>
  have hx := hρ x ee
  generalize ρ x = y at hx h; generalize ρ' x = y' at hx
  cases hx <;> simp only [reduceCtorEq] at h ⊢ <;> obtain ⟨rfl, rfl⟩ := cT h
  case ptr hb => exact .here hm rfl (.ptr hb)
  case func h1 h2 => exact .here hm rfl (.func h1 h2)
  case iface h1 => exact .here hm rfl (.iface h1)
  case fF h2 h3 h1 => exact .here hm rfl (.fF h1 h2 h3)
 case bin op x y =>
  obtain ⟨h1, rfl⟩ := iJ h
  obtain ⟨f1, f2, f3⟩ := R4 h1
  rw [(hρ x ee.1).flat f1, (hρ y ee.2).flat f2, h1];exact .here hm rfl (SV.of_flat f3)
 case eq neg t x y =>
  obtain ⟨h1, rfl⟩ := iJ h
  obtain ⟨b, hb, rfl⟩ := j6.1 h1
  rw [RQ t (hρ x ee.1) (hρ y ee.2) hb];exact .here hm rfl (.bool _)
 case un op x =>
  obtain ⟨h1, rfl⟩ := iJ h
  obtain ⟨f1, f2⟩ := SE h1
  rw [(hρ x ee).flat f1, h1];exact .here hm rfl (SV.of_flat f2)
 case conv c x =>
  have hx := hρ x ee
  unfold w8 at h;obtain ⟨q, hq, he⟩ := j6.1 h
  obtain ⟨q1, q2⟩ := q
  cases he
  generalize ρ x = y at hx hq; generalize ρ' x = y' at hx
  cases c with
  | int kk =>
   cases hx <;> simp only [kT, reduceCtorEq, bc, eM] at hq ⊢
   obtain ⟨rfl, rfl⟩ := hq
   exact .here hm rfl (.int _ _)
  | same =>
   cases hx <;> simp only [kT, reduceCtorEq, bc, eM] at hq ⊢
   obtain ⟨rfl, rfl⟩ := hq
   exact .here hm rfl (.str _)
  | bytes e =>
   cases hx <;> simp only [kT, reduceCtorEq, bc, eM] at hq ⊢
   obtain ⟨rfl, rfl⟩ := hq
   exact .new hm f ⟨_, rfl, dP.map _ _ fun a _ => .int _ _⟩ (.slice oq)
  | text =>
   cases hx <;> simp only [kT, reduceCtorEq, bc, eM] at hq ⊢
   case ae => obtain ⟨rfl, rfl⟩ := hq; exact .here hm rfl (.str _)
   case slice b c off len cap hb =>
    cases hr : m.row b off len with
    | none => simp [hr] at hq
    | some cs =>
     obtain ⟨lQ, FA, hs⟩ := G8 hm hb hr
     simp only [hr, FA] at hq ⊢
     obtain ⟨s, rK, he⟩ := j6.1 hq
     cases he
     rw [hs.flat (EU rK), rK];exact .here hm rfl (.str _)
 case iface t x => obtain ⟨rfl, rfl⟩ := cT h; exact .here hm rfl (.iface (hρ x ee))
 case BD g a c =>
  obtain ⟨rfl, rfl⟩ := cT h
  exact .here hm rfl (.func (x5.list hρ ee.1) (x5.list hρ ee.2))
 case uP =>
  obtain ⟨rfl, rfl⟩ := cT h
  exact .new hm f ⟨[], rfl, .nil⟩ (.map oq)
 case lE e esz z len cap =>
  have hl := hρ len ee.1.1
  have hc := hρ cap ee.1.2
  generalize ρ len = a at hl h; generalize ρ' len = a' at hl
  generalize ρ cap = b at hc h; generalize ρ' cap = b' at hc
  split at h
  ·rename_i l c
   have := Q2 hl; have := Q2 hc; subst_vars
   simp only
   cases hb : (bif l.ble c then c.ble room else false) <;> simp only [hb, cond_true, cond_false, reduceCtorEq] at h ⊢
   obtain ⟨rfl, rfl⟩ := cT h
   exact .new hm f ⟨_, rfl, dP.of_flat (zE ee.2 c)⟩ (.slice oq)
  ·cases h
 case jF x lo hi =>
  have hx := hρ x ee.1
  have nv := nE ee.2.1 hρ
  have xg := nE ee.2.2 hρ
  generalize ρ x = y at hx h; generalize ρ' x = y' at hx
  cases hx <;> simp only [reduceCtorEq] at h ⊢
  rename_i s
  cases h1 : au (hi.map ρ) s.length s.length with
  | none => simp [h1] at h
  | some q =>
   rw [fx xg h1]; simp only [h1] at h ⊢
   cases h2 : au (lo.map ρ) 0 q with
   | none => simp [h2] at h
   | some l =>
    rw [fx nv h2]; simp only [h2] at h ⊢
    obtain ⟨rfl, rfl⟩ := cT h
    exact .here hm rfl (.str _)
 case uG esz x lo hi mx =>
  have hx := hρ x ee.1
  have nv := nE ee.2.1 hρ
  have xg := nE ee.2.2.1 hρ
  have zj := nE ee.2.2.2 hρ
  generalize hy : ρ x = y at hx h; generalize YH : ρ' x = y' at hx
  have fzc : ∀ (t e : Nat) (els : List (List EV)) (b off : Nat) (cap : Option Nat), SV θ (.fz t e els) (.slice b off els.length cap) -> (match mx with
   | none => bif e.beq esz then match au (hi.map ρ) els.length els.length with
     | some h => match au (lo.map ρ) 0 h with
      | some l => some (R1.val (.fz 0 e ((els.take h).drop l)) m)
      | none => none
     | none => none
    else none
   | some _ => none) = some (.val v m1) -> Ie θ m m' v m1 (match cap with
   | some c => gl m' (eh esz b off els.length (some c) (lo.map ρ') (hi.map ρ') (mx.map ρ'))
   | none => match m'.get b with
    | .cells _ e _ _ => bif e.beq esz then gl m' (eh esz b off els.length none (lo.map ρ') (hi.map ρ') (mx.map ρ')) else none
    | _ => none) := by
   intro t e els b off cap hsv hh
   cases mx with
   | some x => cases hh
   | none =>
    simp only at hh
    cases he : e.beq esz <;> simp only [he, cond_true, cond_false, reduceCtorEq] at hh
    obtain rfl := aR he
    cases h1 : au (hi.map ρ) els.length els.length with
    | none => simp [h1] at hh
    | some q =>
     simp only [h1] at hh
     cases h2 : au (lo.map ρ) 0 q with
     | none => simp [h2] at hh
     | some l =>
      simp only [h2] at hh;obtain ⟨rfl, rfl⟩ := cT hh
      obtain ⟨v', e1, e2⟩ := TD hsv hm nv xg h1 h2 (EX h1 (fh _)) (EX h2 (lu _))
      rw [show (Option.map ρ' none : Option EV) = none from rfl, e1];exact .here hm rfl e2
  cases hx <;> (try simp only [reduceCtorEq] at h ⊢)
  case ae =>
   cases h1 : au (mx.map ρ) 0 0 with
   | none => simp [h1] at h
   | some a =>
    cases h2 : au (hi.map ρ) 0 0 with
    | none => simp [h1, h2] at h
    | some b =>
     cases h3 : au (lo.map ρ) 0 0 with
     | none => simp [h1, h2, h3] at h
     | some c =>
      rw [fx zj h1, fx xg h2, fx nv h3];simp only [h1, h2, h3] at h ⊢
      obtain ⟨rfl, rfl⟩ := cT h
      exact .here hm rfl .ae
  case slice b c off len cap hb =>
   cases cap with
   | some cp =>
    simp only at h ⊢
    obtain ⟨h1, rfl⟩ := iJ h
    obtain ⟨v', e1, e2⟩ := vb (θ' := θ) hb nv xg zj h1
    rw [e1];exact .here hm rfl e2
   | none =>
    simp only at h ⊢
    have hB := hm.c9 b c hb
    cases hg : m.get b with
    | dead => simp [hg] at h
    | map es => simp [hg] at h
    | cells cs e t ro =>
     rw [hg] at hB;obtain ⟨lQ, xh, _⟩ := hB
     simp only [hg, xh] at h ⊢
     cases he : e.beq esz <;> simp only [he, cond_true, cond_false, reduceCtorEq] at h ⊢
     obtain ⟨h1, rfl⟩ := iJ h
     obtain ⟨v', e1, e2⟩ := vb (θ' := θ) hb nv xg zj h1
     rw [e1];exact .here hm rfl e2
  case fz t e els b off cap h3 h1 h2 =>
   have := fzc t e els b off cap (.fz h1 h2 h3) h
   cases cap <;> exact this
  case BK t e b off ht =>
   exact fzc t e [] b off (some 0) (.BK ht) h
 case xk N esz x lo hi mx =>
  have hx := hρ x ee.1
  have nv := nE ee.2.1 hρ
  have xg := nE ee.2.2.1 hρ
  have zj := nE ee.2.2.2 hρ
  generalize ρ x = y at hx h; generalize ρ' x = y' at hx
  cases hx <;> simp only [reduceCtorEq] at h ⊢
  rename_i hb
  obtain ⟨h1, rfl⟩ := iJ h
  obtain ⟨v', e1, e2⟩ := vb (θ' := θ) hb nv xg zj h1
  rw [e1];exact .here hm rfl e2
 case aj off x =>
  have hx := hρ x ee
  generalize ρ x = y at hx h; generalize ρ' x = y' at hx
  cases hx <;> simp only [reduceCtorEq] at h ⊢ <;> obtain ⟨rfl, rfl⟩ := cT h
  case ptr hb => exact .here hm rfl (.ptr hb)
  case fF h2 h3 h1 => exact .here hm rfl (.fF h1 h2 (by omega))
 case AS g off x =>
  have hx := hρ x ee
  generalize ρ x = y at hx h; generalize ρ' x = y' at hx
  cases hx <;> simp only [reduceCtorEq] at h ⊢
  rename_i hs
  obtain ⟨h1, rfl⟩ := iJ h
  obtain ⟨v', e1, e2⟩ := hs.part h1
  rw [e1];exact .here hm rfl e2
 case eu esz x i =>
  have hx := hρ x ee.1
  have hi := hρ i ee.2
  generalize ρ x = y at hx h; generalize ρ' x = y' at hx
  cases hx <;> simp only [reduceCtorEq] at h ⊢
  case slice b c off len cap hb =>
   cases hj : idx len (ρ i) with
   | none => simp [hj] at h
   | some j =>
    rw [ze hi hj]; simp only [hj] at h ⊢
    obtain ⟨rfl, rfl⟩ := cT h
    exact .here hm rfl (.ptr hb)
  case fz t e els b off cap hc hr ht =>
   cases he : e.beq esz <;> simp only [he, cond_true, cond_false, reduceCtorEq] at h
   obtain rfl := aR he
   cases hj : idx els.length (ρ i) with
   | none => simp [hj] at h
   | some j =>
    rw [ze hi hj]; simp only [hj] at h ⊢
    obtain ⟨rfl, rfl⟩ := cT h
    refine .here hm rfl (.fF hr ?_ rfl)
    unfold idx at hj
    split at hj
    ·rename_i j' _
     cases hb : (j' + 1).ble els.length <;> simp only [hb, cond_true, cond_false, reduceCtorEq, bc] at hj
     subst hj; exact qP hb
    ·cases hj
  case BK t e b off ht =>
   cases he : e.beq esz <;> simp only [he, cond_true, cond_false, reduceCtorEq] at h
   cases hj : idx 0 (ρ i) with
   | none => simp [hj] at h
   | some j =>
    unfold idx at hj
    split at hj
    ·exact absurd (show (none : Option Nat) = some j from hj) (by simp)
    ·cases hj
 case nt N esz x i =>
  have hx := hρ x ee.1
  have hi := hρ i ee.2
  generalize ρ x = y at hx h; generalize ρ' x = y' at hx
  cases hx <;> simp only [reduceCtorEq] at h ⊢
  rename_i hb
  cases hj : idx N (ρ i) with
  | none => simp [hj] at h
  | some j =>
   rw [ze hi hj]; simp only [hj] at h ⊢
   obtain ⟨rfl, rfl⟩ := cT h
   exact .here hm rfl (.ptr hb)
 case gp x i =>
  have hx := hρ x ee.1
  have hi := hρ i ee.2
  generalize ρ x = y at hx h; generalize ρ' x = y' at hx
  cases hx <;> simp only [reduceCtorEq] at h ⊢
  rename_i s
  cases hj : idx s.length (ρ i) with
  | none => simp [hj] at h
  | some j =>
   rw [ze hi hj]; simp only [hj] at h ⊢
   cases hs : s[j]? with
   | none => simp [hs] at h
   | some c =>
    simp only [hs] at h ⊢
    obtain ⟨rfl, rfl⟩ := cT h
    exact .here hm rfl (.int _ _)
 case uV N esz g x i =>
  have hx := hρ x ee.1
  have hi := hρ i ee.2
  generalize ρ x = y at hx h; generalize ρ' x = y' at hx
  cases hx <;> simp only [reduceCtorEq] at h ⊢
  rename_i hs
  cases hj : idx N (ρ i) with
  | none => simp [hj] at h
  | some j =>
   rw [ze hi hj]; simp only [hj] at h ⊢
   obtain ⟨h1, rfl⟩ := iJ h
   obtain ⟨v', e1, e2⟩ := hs.part h1
   rw [e1];exact .here hm rfl e2
 case lookup kt z ok mp key =>
  have hx := hρ mp ee.1.1
  have hk := hρ key ee.1.2
  have hz : SV θ z z := SV.of_flat ee.2
  have hzk : SV θ (bif ok then .tuple [z, .bool false] else z) (bif ok then .tuple [z, .bool false] else z) := by
   cases ok
   ·exact hz
   ·exact .tuple (.cons hz (.cons (.bool _) .nil))
  generalize ρ mp = y at hx h; generalize ρ' mp = y' at hx
  cases hx <;> simp only [reduceCtorEq] at h ⊢
  case bB =>
   cases th : lK kt (ρ key) <;> simp only [th, cond_true, cond_false, reduceCtorEq] at h
   rw [hk.flat (oJ (np th)), th];obtain ⟨rfl, rfl⟩ := cT h
   exact .here hm rfl hzk
  case map b c hb =>
   have hB := hm.c9 b c hb
   cases hg : m.get b with
   | dead => simp [hg] at h
   | cells cs e t ro => simp [hg] at h
   | map es =>
    rw [hg] at hB;obtain ⟨qZ, xh, uw⟩ := hB
    simp only [hg, xh] at h ⊢
    cases MU : iK kt (ρ key) es <;> simp only [MU, cond_true, cond_false, reduceCtorEq] at h
    unfold iK at MU
    cases th : lK kt (ρ key) <;> simp only [th, cond_true, cond_false, re] at MU
    obtain ⟨g1, g2⟩ := vQ (np th) uw MU
    obtain ⟨f1, f2⟩ := JI (k := ρ key) uw g1
    rw [hk.flat (oJ (np th))];simp only [iK, th, g2, cond_true]
    cases hf : find (ρ key) es with
    | none =>
     rw [f2 hf]; simp only [hf] at h ⊢
     obtain ⟨rfl, rfl⟩ := cT h
     exact .here hm rfl hzk
    | some w =>
     obtain ⟨w', e1, e2⟩ := f1 w hf
     rw [e1]; simp only [hf] at h ⊢
     obtain ⟨rfl, rfl⟩ := cT h
     refine .here hm rfl ?_
     cases ok
     ·exact e2
     ·exact .tuple (.cons e2 (.cons (.bool _) .nil))
 case pd kt mp key x =>
  have hx := hρ mp ee.1
  have hk := hρ key ee.2.1
  have hv := hρ x ee.2.2
  generalize ρ mp = y at hx h; generalize ρ' mp = y' at hx
  cases hx <;> simp only [reduceCtorEq] at h ⊢
  case map b c hb =>
   have hB := hm.c9 b c hb
   cases hg : m.get b with
   | dead => simp [hg] at h
   | cells cs e t ro => simp [hg] at h
   | map es =>
    rw [hg] at hB;obtain ⟨qZ, xh, uw⟩ := hB
    simp only [hg, xh] at h ⊢
    cases MU : iK kt (ρ key) es <;> simp only [MU, cond_true, cond_false, reduceCtorEq] at h
    unfold iK at MU
    cases th : lK kt (ρ key) <;> simp only [th, cond_true, cond_false, re] at MU
    obtain ⟨g1, g2⟩ := vQ (np th) uw MU
    have Rm := hk.flat (oJ (np th))
    have hu := DK hk hv Rm uw g1
    rw [Rm] at hu ⊢
    simp only [iK, th, g2, cond_true];obtain ⟨rfl, rfl⟩ := cT h
    exact ⟨_, _, rfl, .inl ⟨.undef, hm.set k hb ⟨_, rfl, hu⟩, rfl, rfl⟩, fun d _ hd => az fun e => hd b (e ▸ hb)⟩
 case delete kt mp key =>
  have hx := hρ mp ee.1
  have hk := hρ key ee.2
  generalize ρ mp = y at hx h; generalize ρ' mp = y' at hx
  cases hx <;> simp only [reduceCtorEq] at h ⊢
  case bB =>
   cases th : lK kt (ρ key) <;> simp only [th, cond_true, cond_false, reduceCtorEq] at h
   rw [hk.flat (oJ (np th)), th];obtain ⟨rfl, rfl⟩ := cT h
   exact .here hm rfl (.tuple .nil)
  case map b c hb =>
   have hB := hm.c9 b c hb
   cases hg : m.get b with
   | dead => simp [hg] at h
   | cells cs e t ro => simp [hg] at h
   | map es =>
    rw [hg] at hB;obtain ⟨qZ, xh, uw⟩ := hB
    simp only [hg, xh] at h ⊢
    cases MU : iK kt (ρ key) es <;> simp only [MU, cond_true, cond_false, reduceCtorEq] at h
    unfold iK at MU
    cases th : lK kt (ρ key) <;> simp only [th, cond_true, cond_false, re] at MU
    obtain ⟨g1, g2⟩ := vQ (np th) uw MU
    have Rm := hk.flat (oJ (np th))
    rw [Rm];simp only [iK, th, g2, cond_true];obtain ⟨rfl, rfl⟩ := cT h
    exact ⟨_, _, rfl, .inl ⟨.tuple .nil, hm.set k hb ⟨_, rfl, GC uw g1⟩, rfl, rfl⟩, fun d _ hd => az fun e => hd b (e ▸ hb)⟩
 case qV mp =>
  have hx := hρ mp ee
  generalize ρ mp = y at hx h; generalize ρ' mp = y' at hx
  cases hx <;> simp only [reduceCtorEq] at h ⊢
  case bB => obtain ⟨rfl, rfl⟩ := cT h; exact .here hm rfl (.int _ _)
  case map b c hb =>
   have hB := hm.c9 b c hb
   cases hg : m.get b with
   | dead => simp [hg] at h
   | cells cs e t ro => simp [hg] at h
   | map es =>
    rw [hg] at hB;obtain ⟨qZ, xh, uw⟩ := hB
    simp only [hg, xh, uw.len] at h ⊢
    obtain ⟨rfl, rfl⟩ := cT h
    exact .here hm rfl (.int _ _)
 case pP t x =>
  have hx := hρ x ee
  generalize ρ x = y at hx h; generalize ρ' x = y' at hx
  cases hx <;> simp only [reduceCtorEq] at h ⊢
  rename_i u _ _ hs
  cases hb : t.beq u <;> simp only [hb, cond_true, cond_false, reduceCtorEq] at h ⊢
  obtain ⟨rfl, rfl⟩ := cT h
  exact .here hm rfl hs
 case extract x i =>
  have hx := hρ x ee
  generalize ρ x = y at hx h; generalize ρ' x = y' at hx
  cases hx <;> simp only [reduceCtorEq] at h ⊢
  rename_i hs
  obtain ⟨h1, rfl⟩ := iJ h
  obtain ⟨v', e1, e2⟩ := hs.get h1
  rw [e1];exact .here hm rfl e2
 case len x =>
  have hx := hρ x ee
  generalize ρ x = y at hx h; generalize ρ' x = y' at hx
  cases hx <;> simp only [reduceCtorEq] at h ⊢ <;> obtain ⟨rfl, rfl⟩ := cT h <;> exact .here hm rfl (.int _ _)
 case eG x =>
  have hx := hρ x ee
  generalize ρ x = y at hx h; generalize ρ' x = y' at hx
  cases hx <;> simp only [reduceCtorEq] at h ⊢
  obtain ⟨rfl, rfl⟩ := cT h; exact .here hm rfl (.int _ _)
 case uT N => obtain ⟨rfl, rfl⟩ := cT h; exact .here hm rfl (.int _ _)
 case cap x =>
  have hx := hρ x ee
  generalize ρ x = y at hx h; generalize ρ' x = y' at hx
  cases hx <;> (try simp only [reduceCtorEq] at h ⊢)
  case ae => obtain ⟨rfl, rfl⟩ := cT h; exact .here hm rfl (.int _ _)
  case slice cap hb =>
   cases cap <;> simp only [reduceCtorEq] at h ⊢
   obtain ⟨rfl, rfl⟩ := cT h; exact .here hm rfl (.int _ _)
 case max args =>
  obtain ⟨h1, rfl⟩ := iJ h
  obtain ⟨f1, f2⟩ := QK h1
  rw [(x5.list hρ ee).flat f1, h1];exact .here hm rfl (SV.of_flat f2)
 case min args =>
  obtain ⟨h1, rfl⟩ := iJ h
  obtain ⟨f1, f2⟩ := QH h1
  rw [(x5.list hρ ee).flat f1, h1];exact .here hm rfl (SV.of_flat f2)
 case append e esz by_ s x =>
  unfold w8 at h;obtain ⟨q, hq, he⟩ := j6.1 h
  obtain ⟨q1, q2⟩ := q
  cases he
  exact L9 hm k f (hρ s ee.1) (hρ x ee.2) hq
 case copy esz d s =>
  unfold w8 at h;obtain ⟨q, hq, he⟩ := j6.1 h
  obtain ⟨q1, q2⟩ := q
  cases he
  exact RW hm k (hρ d ee.1) (hρ s ee.2) hq
end
end
section
def My : Aq -> Bool
 | .val op => Qt op
 | .call f args | .defer f args => Bi f && args.all Bi
 | .panic x => Bi x
def AF (o : aY) : Bool := My o.op
def kK : aH -> Bool
 | .region ops | .draw ops _ => ops.all AF
 | .seq a b => kK a && kK b
 | .cond c a b => Bi c && kK a && kK b
 | .block _ a | .loop a => kK a
 | _ => true
inductive Fg (θ : cD) : List (Nat × List EV) -> List (Nat × List EV) -> Prop
 | nil : Fg θ [] []
 | cons {g : Nat} {x x' : List EV} {l l' : List (Nat × List EV)} (hx : dP θ x x') (h : Fg θ l l') : Fg θ ((g, x) :: l) ((g, x') :: l')
theorem Fg.ext {θ θ' : cD} (e : cD.Ext θ θ') : ∀ {l l' : List (Nat × List EV)}, Fg θ l l' -> Fg θ' l l'
 | _, _, .nil => .nil
 | _, _, .cons hx h => .cons (hx.ext e) (Fg.ext e h)
theorem Fg.none {θ : cD} {l l' : List (Nat × List EV)} (h : Fg θ l l') (e : l = []) : l' = [] := by cases h with | nil => rfl | cons _ _ => cases e
structure BM (θ : cD) (fr fr' : Fr) : Prop where
 tmp : ∀ t, SV θ (fr.get t) (fr'.get t)
 NB : Fg θ fr.defers fr'.defers
theorem BM.ext {θ θ' : cD} (e : cD.Ext θ θ') {fr fr' : Fr} (h : BM θ fr fr') : BM θ' fr fr' := ⟨fun t => (h.tmp t).ext e, h.NB.ext e⟩
theorem BM.put {θ : cD} {fr fr' : Fr} (h : BM θ fr fr') {v v' : EV} (hv : SV θ v v') (d : Option Nat) : BM θ (fr.put d v) (fr'.put d v') := by
 cases d with
 | none => exact h
 | some d =>
  refine ⟨fun t => ?_, h.NB⟩
  show SV θ ((fr.set d v).get t) ((fr'.set d v').get t)
  rw [Fr.bW, Fr.bW]
  split
  ·exact hv
  ·exact h.tmp t
theorem BM.ops {θ : cD} {fr fr' : Fr} (h : BM θ fr fr') (g : mJ θ) : x5 θ (fun x => fr.eval (jC x)) fr'.eval := by
 intro x hx
 cases x with
 | tmp t => exact h.tmp t
 | const v => exact SI g hx
structure nZ (θ : cD) (m m' : Mem) (θ' : cD) (m1 fR : Mem) : Prop where
 ext : cD.Ext θ θ'
 hU : ∀ b c, θ'.hU b = some c -> θ.hU b = some c \/ (m.next <= b /\ m'.next <= c)
 gN : ∀ c B, θ'.gN c = some B -> θ.gN c = some B \/ (m'.next <= c /\ m.next < m1.next)
 n1 : m.next <= m1.next
 n2 : m'.next <= fR.next
 rG : ∀ c, c < m'.next -> (∀ b, θ.hU b ≠ some c) -> fR.get c = m'.get c
theorem nZ.refl (θ : cD) (m m' : Mem) : nZ θ m m' θ m m' := ⟨.refl θ, fun _ _ h => .inl h, fun _ _ h => .inl h, fh _, fh _, fun _ _ _ => rfl⟩
theorem nZ.trans {θ θ1 θ2 : cD} {m m' m1 fR m2 Sp : Mem} (h : nZ θ m m' θ1 m1 fR) (k : nZ θ1 m1 fR θ2 m2 Sp) : nZ θ m m' θ2 m2 Sp := by
 have a1 := h.n1; have a2 := h.n2; have b1 := k.n1; have b2 := k.n2
 refine ⟨h.ext.trans k.ext, fun b c e => ?_, fun c B e => ?_, by omega, by omega, fun c hc hr => ?_⟩
 ·rcases k.hU b c e with e | ⟨e1, e2⟩
  ·exact h.hU b c e
  ·exact .inr ⟨by omega, by omega⟩
 ·rcases k.gN c B e with e | ⟨e1, e2⟩
  ·rcases h.gN c B e with e | ⟨e1, e2⟩
   ·exact .inl e
   ·exact .inr ⟨e1, by omega⟩
  ·exact .inr ⟨by omega, by omega⟩
 ·rw [k.rG c (by omega) fun b e => ?_, h.rG c hc hr]
  rcases h.hU b c e with e | ⟨e1, e2⟩
  ·exact hr b e
  ·omega
def Fin.mem : Fin -> Mem
 | .ret _ m | .gD _ m => m
def Out.mem : Out -> Mem
 | .norm _ m | .exit _ _ m | .ret _ m | .gD _ _ m => m
inductive V7 (θ : cD) : Fin -> Fin -> Prop
 | ret {v v' : EV} {m m' : Mem} (hv : SV θ v v') (hg : gI θ m m') : V7 θ (.ret v m) (.ret v' m')
 | gD {v v' : EV} {m m' : Mem} (hv : SV θ v v') (hg : gI θ m m') : V7 θ (.gD v m) (.gD v' m')
inductive Kh (θ : cD) : Out -> Out -> Prop
 | norm {fr fr' : Fr} {m m' : Mem} (hf : BM θ fr fr') (hg : gI θ m m') : Kh θ (.norm fr m) (.norm fr' m')
 | exit {id : Nat} {fr fr' : Fr} {m m' : Mem} (hf : BM θ fr fr') (hg : gI θ m m') : Kh θ (.exit id fr m) (.exit id fr' m')
 | ret {fr fr' : Fr} {m m' : Mem} (hf : BM θ fr fr') (hg : gI θ m m') : Kh θ (.ret fr m) (.ret fr' m')
 | gD {v v' : EV} {fr fr' : Fr} {m m' : Mem} (hv : SV θ v v') (hf : BM θ fr fr') (hg : gI θ m m') : Kh θ (.gD v fr m) (.gD v' fr' m')
def vn (θ : cD) (m m' : Mem) (fin : Fin) (o : Option Fin) : Prop := ∃ θ' JJ, o = some JJ /\ V7 θ' fin JJ /\ nZ θ m m' θ' fin.mem JJ.mem
def sc (θ : cD) (m m' : Mem) (out : Out) (o : Option Out) : Prop := ∃ θ' BB, o = some BB /\ Kh θ' out BB /\ nZ θ m m' θ' out.mem BB.mem
def Ao (T : Nat -> Option iz) (call : Call) : Prop := ∀ f args m fin, call f args m = some fin -> ∀ θ m' aw, gI θ m m' -> dP θ args aw -> vn θ m m' fin (run T f aw m')
theorem sc.after {θ θ1 : cD} {m m' m1 fR : Mem} {out : Out} {o : Option Out} (h : nZ θ m m' θ1 m1 fR) (k : sc θ1 m1 fR out o) : sc θ m m' out o := by
 obtain ⟨θ2, BB, e, ho, hs⟩ := k
 exact ⟨θ2, BB, e, ho, h.trans hs⟩
section
variable {T : Nat -> Option iz} {call : Call}
theorem Ie.uv {θ : cD} {m m' m1 : Mem} {v : EV} {o : Option R1} (hg : gI θ m m') (h : Ie θ m m' v m1 o) : ∃ θ' v' fR, o = some (.val v' fR) /\ SV θ' v v' /\ gI θ' m1 fR /\ nZ θ m m' θ' m1 fR := by
 obtain ⟨v', fR, e, hc, hk⟩ := h
 rcases hc with ⟨h1, h2, h3, h4⟩ | ⟨h1, h2, h3, h4⟩
 ·exact ⟨θ, v', fR, e, h1, ⟨h2, by rw [h3, h4]; exact hg.ok, hg.Fl⟩, ⟨.refl θ, fun _ _ h => .inl h, fun _ _ h => .inl h, by omega, by omega, fun c hc hr => hk c (by omega) hr⟩⟩
 ·have f := hg.ok.fresh (fh m.next) (fh m'.next)
  refine ⟨_, v', fR, e, h1, ⟨h2, by rw [h3, h4]; exact hg.ok.more f (by omega) (by omega) (by omega) (by omega), hg.Fl.ext f.ext⟩, ⟨f.ext, fun b c hb => ?_, fun _ _ h => .inl h, by omega, by omega, fun c hc hr => hk c (by omega) hr⟩⟩
  have BJ : (if b = m.next then some m'.next else θ.hU b) = some c := hb
  by_cases hx : b = m.next
  ·rw [if_pos hx] at BJ; cases BJ; exact .inr ⟨by omega, fh _⟩
  ·rw [if_neg hx] at BJ; exact .inl BJ
theorem DG {θ : cD} {fr fr' : Fr} (h : BM θ fr fr') {g : Option (Nat × Bool)} {b : Bool} (hw : bf fr g = some b) : bf fr' g = some b := by
 cases g with
 | none => exact hw
 | some p =>
  obtain ⟨t, w⟩ := p
  simp only [bf] at hw ⊢
  have := h.tmp t
  generalize fr.get t = x at this hw; generalize fr'.get t = x' at this
  cases this <;> first | exact hw | simp at hw
theorem IS {d : Option Nat} {op : Aq} {g : Option (Nat × Bool)} {l : List aY} {fr : Fr} {m : Mem} {b : Bool} (h : bf fr g = some b) : oj T (⟨d, op, g⟩ :: l) fr m = bif b then oj T (⟨d, op, none⟩ :: l) fr m else oj T l (fr.put d .undef) m := by
 cases g with
 | none => simp only [bf, bc] at h; subst h; rfl
 | some p =>
  obtain ⟨t, w⟩ := p
  rw [uL];simp only [bf] at h
  cases hx : fr.get t <;> simp only [hx, reduceCtorEq, bc] at h
  ·subst h; rfl
  ·subst h; rfl
theorem LM {chk : List (Nat × Nat)} {B0 i : Nat} {sn : List (Nat × Mem)} {se : List Seen} {d : Option Nat} {op : Aq} {g : Option (Nat × Bool)} {l : List aY} {fr : Fr} {m : Mem} {b : Bool} (h : bf fr g = some b) :
  kU T chk B0 (⟨d, op, g⟩ :: l) i fr m sn se = bif b then kU T chk B0 (⟨d, op, none⟩ :: l) i fr m sn se else kU T chk B0 l (i + 1) (fr.put d .undef) m sn se := by
 cases g with
 | none => simp only [bf, bc] at h; subst h; rfl
 | some p =>
  obtain ⟨t, w⟩ := p
  rw [j4];simp only [bf] at h
  cases hx : fr.get t <;> simp only [hx, reduceCtorEq, bc] at h
  ·subst h; rfl
  ·subst h; rfl
theorem KZ {d : Option Nat} {f : aV} {args : List aV} {l : List aY} {fr : Fr} {m : Mem} {g : Nat} {x y : List EV} (h : fr.eval f = .func g x y) : oj T (⟨d, .defer f args, none⟩ :: l) fr m = oj T l (Fr.put ⟨fr.tmps, (g, x ++ args.map fr.eval ++ y) :: fr.defers⟩ d .undef) m := by
 refine db fun r => ?_
 rw [gj];simp only [gQ, bf, h];exact gj.symm
theorem SV.EC {θ : cD} {g : Nat} {x y : List EV} {v' : EV} (h : SV θ (.func g x y) v') : ∃ x' y', v' = .func g x' y' /\ dP θ x x' /\ dP θ y y' := by
 cases h with | func h1 h2 => exact ⟨_, _, rfl, h1, h2⟩
theorem JZ {fv : EV} {eQ : List EV} {m : Mem} {fin : Fin} (h : fM call fv eQ m = some fin) : ∃ g x y, fv = .func g x y /\ call g (x ++ eQ ++ y) m = some fin := by
 cases fv <;> first | exact ⟨_, _, _, rfl, h⟩ | (simp only [fM, reduceCtorEq] at h)
theorem SV.aaE {θ : cD} {a b : EV} (h : SV θ a b) : Gk b = false := by cases h <;> rfl
theorem Mu (bF : Ao T call) : ∀ (l : List aY) (fr : Fr) (m : Mem) (out : Out), gQ call (l.map aY.sub) fr m = some out -> l.all AF = true -> ∀ (θ : cD) (fr' : Fr) (m' : Mem), BM θ fr fr' -> gI θ m m' -> sc θ m m' out (oj T l fr' m')
 | [], fr, m, out, h, _, θ, fr', m', hf, hg => by
  simp only [List.map_nil, gQ, bc] at h; subst h
  exact ⟨θ, _, uK, .norm hf hg, .refl _ _ _⟩
 | o :: l, fr, m, out, h, ee, θ, fr', m', hf, hg => by
  have ih := Mu bF l
  simp only [List.all_cons, pC] at ee;obtain ⟨d, op, g⟩ := o
  simp only [List.map_cons, aY.sub, gQ] at h
  cases hw : bf fr g with
  | none => simp [hw] at h
  | some b =>
  rw [IS (DG hf hw)]
  cases b with
  | false =>
   simp only [hw] at h;exact ih _ _ _ h ee.2 θ _ _ (hf.put .undef d) hg
  | true =>
   simp only [hw] at h;simp only [cond_true]
   cases op with
   | val op =>
    simp only [Aq.sub, GB] at h
    cases he : aA (fun x => fr.eval (jC x)) op m with
    | none => simp [he] at h
    | some q =>
     obtain ⟨v, m1⟩ := q
     simp only [he] at h;obtain ⟨θ', v', fR, e1, e2, e3, e4⟩ := Ie.uv hg (He (hf.ops hg.Fl) hg.toMemS hg.ok (hg.ok.fresh (fh _) (fh _)) ee.1 he)
     rw [rA, e1];exact sc.after e4 (ih _ _ _ h ee.2 θ' _ _ ((hf.ext e4.ext).put e2 d) e3)
   | call f args =>
    have xe := ee.1
    simp only [AF, My, pC] at xe;simp only [Aq.sub, List.map_map, Function.comp_def] at h;have Jw : SV θ (fr.eval (jC f)) (fr'.eval f) := (hf.ops hg.Fl) f xe.1
    have HE : dP θ (args.map fun x => fr.eval (jC x)) (args.map fr'.eval) := x5.list (hf.ops hg.Fl) xe.2
    cases rL : fM call (fr.eval (jC f)) (args.map fun x => fr.eval (jC x)) m with
    | none => rw [rL] at h; cases h
    | some fin =>
     obtain ⟨gg, x, y, im, hc⟩ := JZ rL
     rw [im] at Jw;obtain ⟨x', y', Rr, hx, hy⟩ := Jw.EC
     rw [my, Rr, oK];obtain ⟨θ', JJ, e1, e2, e3⟩ := bF _ _ _ _ hc θ m' _ hg ((hx.append HE).append hy)
     rw [e1]
     cases e2 with
     | ret hv xh =>
      rw [rL] at h; simp only at h
      exact sc.after e3 (ih _ _ _ h ee.2 θ' _ _ ((hf.ext e3.ext).put hv d) xh)
     | gD hv xh =>
      rw [rL] at h; simp only [bc] at h
      subst h;exact ⟨θ', _, rfl, .gD hv (hf.ext e3.ext) xh, e3⟩
   | panic x =>
    have hx : SV θ (fr.eval (jC x)) (fr'.eval x) := (hf.ops hg.Fl) x ee.1
    simp only [Aq.sub] at h
    cases Xk : fr.eval (jC x) <;> simp only [Xk, reduceCtorEq, bc] at h
    rename_i t v
    rw [Xk] at hx;generalize aaS : fr'.eval x = w at hx
    cases hx with
    | iface hv =>
     rw [KX aaS];subst h;exact ⟨θ, _, rfl, .gD (.iface hv) hf hg, .refl _ _ _⟩
   | defer f args =>
    have xe := ee.1
    simp only [AF, My, pC] at xe;simp only [Aq.sub, List.map_map, Function.comp_def] at h;have Jw : SV θ (fr.eval (jC f)) (fr'.eval f) := (hf.ops hg.Fl) f xe.1
    have HE : dP θ (args.map fun x => fr.eval (jC x)) (args.map fr'.eval) := x5.list (hf.ops hg.Fl) xe.2
    cases im : fr.eval (jC f) <;> simp only [im, reduceCtorEq] at h
    rename_i gg x y
    rw [im] at Jw;obtain ⟨x', y', Rr, hx, hy⟩ := Jw.EC
    rw [KZ Rr];exact ih _ _ _ h ee.2 θ _ _ (BM.put (fr := ⟨fr.tmps, _ :: fr.defers⟩) (fr' := ⟨fr'.tmps, _ :: fr'.defers⟩) ⟨hf.tmp, .cons ((hx.append HE).append hy) hf.NB⟩ .undef d) hg
structure Yv (θ : cD) (m : Mem) (s s' : Nat × Mem) : Prop where
 i : s'.1 = s.1
 c9 : MemB θ s.2 s'.2
 le : s.2.next <= m.next
 gN : s.2.next = m.next -> ∀ c B, θ.gN c = some B -> s'.2.get c = B
inductive kX (θ : cD) (m : Mem) : List (Nat × Mem) -> List (Nat × Mem) -> Prop
 | nil : kX θ m [] []
 | cons {s s' : Nat × Mem} {l l' : List (Nat × Mem)} (h : Yv θ m s s') (hs : kX θ m l l') : kX θ m (s :: l) (s' :: l')
def E5 (θ : cD) (se : List Seen) (s' : Seen) : Prop :=
 (∃ s, s ∈ se /\ s'.i = s.i /\ s'.agg = s.agg /\ Gk s.a = false /\ SV θ s.a s'.a /\ SV θ s.v s'.v) \/ (Told s'.v = true /\ ∀ q : Mem, (∀ c B, θ.gN c = some B -> q.get c = B) -> q.load s'.agg s'.a = some s'.v)
theorem E5.ext {θ θ' : cD} {se : List Seen} {s' : Seen} (h : E5 θ se s') (e : cD.Ext θ θ') : E5 θ' se s' := by
 rcases h with ⟨s, h1, h2, h3, h4, h5, h6⟩ | ⟨h1, h2⟩
 ·exact .inl ⟨s, h1, h2, h3, h4, h5.ext e, h6.ext e⟩
 ·exact .inr ⟨h1, fun q hq => h2 q fun c B hc => hq c B (e.gN c B hc)⟩
theorem kX.step {θ θ' : cD} {m m1 m' fR : Mem} (ei : nZ θ m m' θ' m1 fR) (hd : ∀ b c, θ.hU b = none -> θ'.hU b = some c -> ∀ s : Nat × Mem, s.2.next <= m.next -> True) : ∀ {l l' : List (Nat × Mem)}, kX θ m l l' -> kX θ' m1 l l'
 | _, _, .nil => .nil
 | _, _, .cons h hs => .cons ⟨h.i, h.c9.ext ei.ext fun b c hb _ => h.c9.cl b hb, pJ h.le ei.n1, fun e c B hc => by
   have h1 := h.le; have h2 := ei.n1
   rcases ei.gN c B hc with q | ⟨_, q⟩
   ·exact h.gN (by omega) c B q
   ·omega⟩ (kX.step ei hd hs)
theorem kX.same {θ θ1 : cD} {m m1 : Mem} (he : cD.Ext θ θ1) (hs : θ1.gN = θ.gN) (hn : m1.next = m.next) : ∀ {l l' : List (Nat × Mem)}, kX θ m l l' -> kX θ1 m1 l l'
 | _, _, .nil => .nil
 | _, _, .cons h hss => .cons ⟨h.i, h.c9.ext he fun b c hb _ => h.c9.cl b hb, by rw [hn]; exact h.le, fun e c B hc => by rw [hs] at hc; exact h.gN (e.trans hn) c B hc⟩ (kX.same he hs hn hss)
theorem Ba {m : Mem} {g : Option Nat} {a v : EV} (h : m.load g a = some v) (ht : Told v = true) : m.eD g a v = true := by
 unfold Mem.eD; rw [h]; exact rq v ht
theorem DT {θ : cD} {m : Mem} {chk : List (Nat × Nat)} {i : Nat} {g : Option Nat} {a a' v v' : EV} (ha : SV θ a a') (hv : SV θ v v') (hf : Gk a = false) : ∀ {l l' : List (Nat × Mem)}, kX θ m l l' -> bG chk i g a v l = true -> bG chk i g a' v' l' = true
 | _, _, .nil, _ => rfl
 | _, _, .cons (s := (j, mj)) (s' := (j', mj')) h hs, hc => by
  obtain rfl : j' = j := h.i
  simp only [bG] at hc ⊢
  cases hp : bV i j' chk <;> simp only [hp, cond_true, cond_false] at hc ⊢
  ·exact DT ha hv hf hs hc
  ·cases ei : mj.eD g a v <;> simp only [ei, cond_true, cond_false, re] at hc
   have aa0 : mj'.eD g a' v' = true := by
    unfold Mem.eD at ei ⊢
    cases hl : mj.load g a with
    | none => simp [hl] at ei
    | some x =>
     obtain ⟨x', zk, hx⟩ := Hr h.c9 ha hf hl
     simp only [hl] at ei;rw [zk]; exact hx.same hv ei
   simp only [aa0, cond_true];exact DT ha hv hf hs hc
theorem Hf {θ : cD} {m : Mem} {chk : List (Nat × Nat)} {i : Nat} {g : Option Nat} {a' v' : EV} (ht : Told v' = true) (hl : ∀ q : Mem, (∀ c B, θ.gN c = some B -> q.get c = B) -> q.load g a' = some v') : ∀ {l l' : List (Nat × Mem)}, kX θ m l l' -> dL chk i m.next l = true -> bG chk i g a' v' l' = true
 | _, _, .nil, _ => rfl
 | _, _, .cons (s := (j, mj)) (s' := (j', mj')) h hs, hc => by
  obtain rfl : j' = j := h.i
  simp only [bG, dL] at hc ⊢
  cases hp : bV i j' chk <;> simp only [hp, cond_true, cond_false] at hc ⊢
  ·exact Hf ht hl hs hc
  ·cases hn : mj.next.beq m.next <;> simp only [hn, cond_true, cond_false, re] at hc
   have := Ba (hl mj' (h.gN (aR hn))) ht
   simp only [this, cond_true];exact Hf ht hl hs hc
theorem DZ {θ : cD} {m1 fR : Mem} {chk : List (Nat × Nat)} {j : Nat} (hm : MemS θ m1 fR) {se : List Seen} (hc : aX chk j m1 se = true) : ∀ {se' : List Seen}, (∀ s', s' ∈ se' -> E5 θ se s') -> aX chk j fR se' = true
 | [], _ => rfl
 | s' :: se', h => by
  have ih := DZ hm hc (se' := se') fun x hx => h x (by simp [hx])
  simp only [aX, ih]
  cases hp : bV s'.i j chk <;> simp only [cond_true, cond_false]
  have : fR.eD s'.agg s'.a s'.v = true := by
   rcases h s' (by simp) with ⟨s, h1, h2, h3, h4, h5, h6⟩ | ⟨h1, h2⟩
   ·rw [h2] at hp
    have ei := oF hc s h1 hp
    unfold Mem.eD at ei ⊢
    cases hl : m1.load s.agg s.a with
    | none => simp [hl] at ei
    | some x =>
     obtain ⟨x', zk, hx⟩ := Hr hm.toMemB h5 h4 hl
     simp only [hl] at ei;rw [h3, zk]; exact hx.same h6 ei
   ·exact Ba (h2 fR hm.gN) h1
  simp only [this, cond_true]
theorem MemS.QB {θ : cD} {m m' : Mem} (h : MemS θ m m') (n n' : Nat) : MemS θ ⟨n, m.gB⟩ ⟨n', m'.gB⟩ := ⟨⟨h.c9, h.cl⟩, h.gN⟩
def Kept (θ : cD) (B0 B0' i n : Nat) : Prop := ∀ j, i <= j -> j < n -> Ak θ (B0 + j) (B0' + j)
theorem Kept.step {θ θ' : cD} {m m' m1 fR : Mem} (ei : nZ θ m m' θ' m1 fR) {B0 B0' i n : Nat} (h : Kept θ B0 B0' i n) (h1 : B0 + n <= m.next) (h2 : B0' + n <= m'.next) : Kept θ' B0 B0' i n := by
 intro j hj hn
 have f := h j hj hn
 refine ⟨?_, fun a ha => ?_, ?_⟩
 ·cases e : θ'.hU (B0 + j) with
  | none => rfl
  | some c =>
   rcases ei.hU _ _ e with q | ⟨q, _⟩
   ·rw [f.l] at q; cases q
   ·omega
 ·rcases ei.hU _ _ ha with q | ⟨_, q⟩
  ·exact f.r a q
  ·omega
 ·cases e : θ'.gN (B0' + j) with
  | none => rfl
  | some c =>
   rcases ei.gN _ _ e with q | ⟨q, _⟩
   ·rw [f.s] at q; cases q
   ·omega
theorem JT (bF : Ao T call) {chk : List (Nat × Nat)} {B0 B0' n : Nat} {θ0 : cD} {m0 m0' : Mem} (e0 : m0.next = B0) (e0' : m0'.next = B0') : ∀ (l : List aY) (i : Nat) (fr : Fr) (m : Mem) (sn : List (Nat × Mem)) (se : List Seen) (out : Out), i + l.length = n ->
  dG call chk B0 (l.map aY.sub) i fr m sn se = some out -> l.all AF = true -> ∀ (θ : cD) (fr' : Fr) (m' : Mem) (DU : List (Nat × Mem)) (se' : List Seen), BM θ fr fr' -> gI θ m m' -> B0 + n <= m.next -> B0' + n <= m'.next -> Kept θ B0 B0' i n -> kX θ m sn DU -> (∀ s', s' ∈ se' -> E5 θ se s') ->
  nZ θ0 m0 m0' θ m m' -> sc θ0 m0 m0' out (kU T chk B0' l i fr' m' DU se')
 | [], i, fr, m, sn, se, out, hn, h, _, θ, fr', m', DU, se', hf, hg, _, _, _, _, _, ei => by
  simp only [List.map_nil, dG, bc] at h; subst h
  exact ⟨θ, _, zQ, .norm hf hg, ei⟩
 | o :: l, i, fr, m, sn, se, out, hn, h, ee, θ, fr', m', DU, se', hf, hg, hb, BJ, hk, Ly, To, ei => by
  have ih := JT bF e0 e0' (chk := chk) (B0 := B0) (B0' := B0') (n := n) (θ0 := θ0) (m0 := m0) (m0' := m0') l (i + 1)
  have Sv : i + 1 + l.length = n := by rw [List.length_cons] at hn; omega
  have Ex : i < n := by rw [List.length_cons] at hn; omega
  have Kt : Kept θ B0 B0' (i + 1) n := fun j hj => hk j (by omega)
  simp only [List.all_cons, pC] at ee;obtain ⟨d, op, g⟩ := o
  simp only [List.map_cons, aY.sub, dG] at h
  cases hw : bf fr g with
  | none => simp [hw] at h
  | some b =>
  rw [LM (DG hf hw)]
  cases b with
  | false =>
   simp only [hw] at h;exact ih _ _ _ _ _ Sv h ee.2 θ _ _ _ _ (hf.put .undef d) hg hb BJ Kt Ly To ei
  | true =>
   simp only [hw] at h;simp only [cond_true]
   cases op with
   | panic x => simp [Aq.sub] at h
   | defer f args => simp [Aq.sub] at h
   | call f args =>
    have xe := ee.1
    simp only [AF, My, pC] at xe;simp only [Aq.sub, List.map_map, Function.comp_def] at h;have Jw : SV θ (fr.eval (jC f)) (fr'.eval f) := (hf.ops hg.Fl) f xe.1
    have HE : dP θ (args.map fun x => fr.eval (jC x)) (args.map fr'.eval) := x5.list (hf.ops hg.Fl) xe.2
    cases rL : fM call (fr.eval (jC f)) (args.map fun x => fr.eval (jC x)) m with
    | none => rw [rL] at h; cases h
    | some fin =>
     obtain ⟨gg, x, y, im, hc⟩ := JZ rL
     rw [im] at Jw;obtain ⟨x', y', Rr, hx, hy⟩ := Jw.EC
     rw [zW, Rr, oK];obtain ⟨θ', JJ, e1, e2, e3⟩ := bF _ _ _ _ hc θ m' _ hg ((hx.append HE).append hy)
     rw [e1]
     cases e2 with
     | gD hv xh => rw [rL] at h; cases h
     | @ret v v' m1 fR hv xh =>
      rw [rL] at h; simp only at h
      cases mg : aX chk i m1 se <;> simp only [mg, cond_true, cond_false, reduceCtorEq] at h
      have Rb : ∀ s', s' ∈ se' -> E5 θ' se s' := fun s' Hz => (To s' Hz).ext e3.ext
      have a1 := e3.n1; have a2 := e3.n2
      simp only [Fin.mem] at a1 a2;simp only [ri, DZ xh.toMemS mg Rb, jM];refine ih _ _ _ _ _ Sv h ee.2 θ' _ _ _ _ ((hf.ext e3.ext).put hv d) xh (by omega) (by omega) (Kt.step e3 hb BJ) (.cons ?_ (Ly.step e3 fun _ _ _ _ _ _ => trivial)) Rb (ei.trans e3)
      refine ⟨rfl, hg.toMemB.ext e3.ext fun b c hb _ => hg.cl b hb, a1, fun e c B hc => ?_⟩
      rcases e3.gN c B hc with q | ⟨_, q⟩
      ·exact hg.gN c B q
      ·simp only [Fin.mem] at q e; omega
   | val op =>
    simp only [Aq.sub, P5, GB] at h;have xe : Qt op = true := ee.1
    have h3 := P6 op
    by_cases Xr : cS op = 0
    ·simp only [Xr] at h
     rw [AW Xr]
     cases he : aA (fun x => fr.eval (jC x)) op m with
     | none => simp [he] at h
     | some q =>
      obtain ⟨v, m1⟩ := q
      simp only [he] at h;obtain ⟨rfl, _⟩ := IM Xr he
      obtain ⟨v', fR, rL, mg, _⟩ := He (hf.ops hg.Fl) hg.toMemS hg.ok (hg.ok.fresh (fh _) (fh _)) xe he
      rw [rL];rcases mg with ⟨zh, _, _, _⟩ | ⟨_, _, q, _⟩
      ·exact ih _ _ _ _ _ Sv h ee.2 θ _ _ _ _ (hf.put zh d) hg hb BJ Kt Ly To ei
      ·omega
    ·by_cases rK : cS op = 1
     ·simp only [rK] at h
      rw [AV rK]
      cases he : aA (fun x => fr.eval (jC x)) op ⟨B0 + i, m.gB⟩ with
      | none => simp [he] at h
      | some q =>
       obtain ⟨v, m1⟩ := q
       simp only [he] at h;have f := hk i (fh _) Ex
       obtain ⟨v', fR, e1, mg, XK⟩ := He (hf.ops hg.Fl) (hg.toMemS.QB (B0 + i) (B0' + i)) hg.ok f xe he
       obtain ⟨B, mk, _, hB, _⟩ := Ef rK he
       rw [e1];rcases mg with ⟨c1, c2, c3, c4⟩ | ⟨c1, c2, c3, c4⟩
       ·rw [hB] at c3
        have c3' : B0 + i + 1 = B0 + i := c3
        omega
       ·have aa5 : qO (θ.more (B0 + i) (B0' + i)) m.next m'.next := hg.ok.more f (by omega) (by omega) (fh _) (fh _)
        have Vq : ∀ b c, (θ.more (B0 + i) (B0' + i)).hU b = some c -> θ.hU b = some c \/ (b = B0 + i /\ c = B0' + i) := by
         intro b c Rt
         have Tx : (if b = B0 + i then some (B0' + i) else θ.hU b) = some c := Rt
         by_cases hx : b = B0 + i
         ·rw [if_pos hx] at Tx; cases Tx; exact .inr ⟨hx, rfl⟩
         ·rw [if_neg hx] at Tx; exact .inl Tx
        refine ih _ _ _ _ _ Sv h ee.2 (θ.more (B0 + i) (B0' + i)) _ _ _ _ ((hf.ext f.ext).put c1 d) ⟨c2.QB _ _, aa5, hg.Fl.ext f.ext⟩ hb BJ ?_ (kX.same (m := m) (m1 := ⟨m.next, m1.gB⟩) f.ext rfl rfl Ly) (fun s' Hz => (To s' Hz).ext f.ext) ⟨ei.ext.trans f.ext, ?_, ei.gN, ei.n1, ei.n2, ?_⟩
        ·intro j hj hjn
         have fj := hk j (by omega) hjn
         refine ⟨?_, fun a ha => ?_, fj.s⟩
         ·cases e : (θ.more (B0 + i) (B0' + i)).hU (B0 + j) with
          | none => rfl
          | some c =>
           rcases Vq _ _ e with q | ⟨q, _⟩
           ·rw [fj.l] at q; cases q
           ·omega
         ·rcases Vq _ _ ha with q | ⟨_, q⟩
          ·exact fj.r a q
          ·omega
        ·intro b c Rt
         rcases Vq b c Rt with q | ⟨rfl, rfl⟩
         ·exact ei.hU b c q
         ·exact .inr ⟨by omega, by omega⟩
        ·intro c hc hr
         have h1 : fR.get c = m'.get c := by
          refine XK c (show c ≠ B0' + i by omega) fun b Rt => ?_
          rcases ei.hU b c Rt with q | ⟨_, q⟩
          ·exact hr b q
          ·omega
         exact h1.trans (ei.rG c hc hr)
     ·by_cases Su : cS op = 2
      ·cases op <;> simp only [cS, reduceCtorEq, Nat.reduceEqDiff] at Su
       case conv c x => cases c <;> simp at Su
       rename_i agg a
       simp only [cS, ls.xc] at h;have ha : SV θ (fr.eval (jC a)) (fr'.eval a) := (hf.ops hg.Fl) a (by simpa only [Qt, iI, K2, List.all_cons, List.all_nil, Bool.and_true] using xe)
       rw [zR];have Uv := ha.aaE
       simp only [Ss, Uv, cond_false]
       cases hl : m.load agg (fr.eval (jC a)) with
       | none => simp [hl] at h
       | some v =>
        simp only [hl] at h
        cases hF : Gk (fr.eval (jC a)) <;> simp only [hF, cond_true, cond_false] at h
        ·cases mg : bG chk i agg (fr.eval (jC a)) v sn <;> simp only [mg, cond_true, cond_false, reduceCtorEq] at h
         obtain ⟨v', zk, hv⟩ := Hr hg.toMemB ha hF hl
         simp only [zk, ub, DT ha hv hF Ly mg, jM];refine ih _ _ _ _ _ Sv h ee.2 θ _ _ _ _ (hf.put hv d) hg hb BJ Kt Ly (fun s' Hz => ?_) ei
         rcases oQ.1 Hz with rfl | Hz
         ·exact .inl ⟨⟨i, agg, fr.eval (jC a), v⟩, by simp, rfl, rfl, hF, ha, hv⟩
         ·rcases To s' Hz with ⟨s, q1, q2⟩ | q
          ·exact .inl ⟨s, by simp [q1], q2⟩
          ·exact .inr q
        ·cases mg : dL chk i m.next sn <;> simp only [mg, cond_true, cond_false, reduceCtorEq] at h
         generalize im : fr.eval (jC a) = y at ha hF hl
         cases y <;> simp only [Gk, re] at hF
         obtain ⟨v', hv, hall⟩ := QP ha hl
         simp only [hall m' hg.gN, ub, Hf hv.told hall Ly mg, jM];refine ih _ _ _ _ _ Sv h ee.2 θ _ _ _ _ (hf.put hv d) hg hb BJ Kt Ly (fun s' Hz => ?_) ei
         rcases oQ.1 Hz with rfl | Hz
         ·exact .inr ⟨hv.told, hall⟩
         ·exact To s' Hz
      ·have hs3 : cS op = 3 := by omega
       simp only [hs3] at h;rw [HS hs3]
       cases he : aA (fun x => fr.eval (jC x)) op m with
       | none => simp [he] at h
       | some q =>
        obtain ⟨v, m1⟩ := q
        simp only [he] at h
        cases mg : aX chk i m1 se <;> simp only [mg, cond_true, cond_false, reduceCtorEq] at h
        obtain ⟨θ', v', fR, e1, e2, e3, e4⟩ := Ie.uv hg (He (hf.ops hg.Fl) hg.toMemS hg.ok (hg.ok.fresh (fh _) (fh _)) xe he)
        rw [e1];have Rb : ∀ s', s' ∈ se' -> E5 θ' se s' := fun s' Hz => (To s' Hz).ext e4.ext
        have a1 := e4.n1; have a2 := e4.n2
        simp only [gA, DZ e3.toMemS mg Rb, jM];refine ih _ _ _ _ _ Sv h ee.2 θ' _ _ _ _ ((hf.ext e4.ext).put e2 d) e3 (by omega) (by omega) (Kt.step e4 hb BJ) (.cons ?_ (Ly.step e4 fun _ _ _ _ _ _ => trivial)) Rb (ei.trans e4)
        refine ⟨rfl, hg.toMemB.ext e4.ext fun b c hb _ => hg.cl b hb, a1, fun e c B hc => ?_⟩
        rcases e4.gN c B hc with q | ⟨_, q⟩
        ·exact hg.gN c B q
        ·simp only at e; omega
theorem Kh.l6 {θ : cD} {m m' : Mem} {out SZ : Out} {X : Option Out} {K : Fr -> Mem -> Option Out} {k : Fr -> Mem -> Option Out} (hX : sc θ m m' out X)
  (h : (match out with | .norm fr m1 => k fr m1 | o => some o) = some SZ)
  (hk : ∀ θ1 fr m1 fr' fR, BM θ1 fr fr' -> gI θ1 m1 fR -> k fr m1 = some SZ -> sc θ1 m1 fR SZ (K fr' fR)) : sc θ m m' SZ (Ev.l6 X K) := by
 obtain ⟨θ1, BB, rfl, hs, ei⟩ := hX
 cases hs with
 | norm hf hg => exact sc.after ei (hk _ _ _ _ _ hf hg h)
 | exit hf hg => simp only [bc] at h; subst h; exact ⟨θ1, _, rfl, .exit hf hg, ei⟩
 | ret hf hg => simp only [bc] at h; subst h; exact ⟨θ1, _, rfl, .ret hf hg, ei⟩
 | gD hv hf hg => simp only [bc] at h; subst h; exact ⟨θ1, _, rfl, .gD hv hf hg, ei⟩
theorem Pk {θ : cD} {m m' : Mem} (hg : gI θ m m') (k : Nat) : gI θ ⟨m.next + k, m.gB⟩ ⟨m'.next + k, m'.gB⟩ :=
 ⟨hg.toMemS.QB _ _, ⟨fun b c h => by have := hg.ok.hU b c h; exact ⟨mn this.1 (Nat.le_add_right _ _), mn this.2 (Nat.le_add_right _ _)⟩, hg.ok.inj, hg.ok.off, fun b B h => mn (hg.ok.gN b B h) (Nat.le_add_right _ _)⟩, hg.Fl⟩
theorem kC (bF : Ao T call) (n : Nat) : ∀ (c : aH) (fr : Fr) (m : Mem) (out : Out), ao call n c.sub fr m = some out -> kK c = true -> ∀ (θ : cD) (fr' : Fr) (m' : Mem), BM θ fr fr' -> gI θ m m' -> sc θ m m' out (exec T c fr' m')
 | .skip, fr, m, out, h, _, θ, fr', m', hf, hg => by
  simp only [aH.sub, ao, bc] at h; subst h
  exact ⟨θ, _, rS, .norm hf hg, .refl _ _ _⟩
 | .ret, fr, m, out, h, _, θ, fr', m', hf, hg => by
  simp only [aH.sub, ao, bc] at h; subst h
  exact ⟨θ, _, va, .ret hf hg, .refl _ _ _⟩
 | .exit id, fr, m, out, h, _, θ, fr', m', hf, hg => by
  simp only [aH.sub, ao, bc] at h; subst h
  exact ⟨θ, _, rT, .exit hf hg, .refl _ _ _⟩
 | .region ops, fr, m, out, h, ee, θ, fr', m', hf, hg => by
  simp only [aH.sub, ao] at h;rw [nA];exact Mu bF ops fr m out h (by simpa only [kK] using ee) θ fr' m' hf hg
 | .draw ops chk, fr, m, out, h, ee, θ, fr', m', hf, hg => by
  simp only [aH.sub, ao] at h;rw [O5];rw [List.length_map] at h;have VG := Pk hg ops.length
  refine JT bF (n := ops.length) (θ0 := θ) (m0 := m) (m0' := m') rfl rfl ops 0 fr _ [] [] out (Nat.zero_add _) h (by simpa only [kK] using ee) θ fr' _ [] [] hf VG (fh _) (fh _) (fun j _ hj => hg.ok.fresh (Nat.le_add_right _ _) (Nat.le_add_right _ _)) .nil (fun s' Hz => by simp at Hz)
   ⟨.refl θ, fun _ _ h => .inl h, fun _ _ h => .inl h, Nat.le_add_right _ _, Nat.le_add_right _ _, fun _ _ _ => rfl⟩
 | .seq a b, fr, m, out, h, ee, θ, fr', m', hf, hg => by
  simp only [kK, pC] at ee;simp only [aH.sub, ao] at h;rw [u9]
  cases ha : ao call n a.sub fr m with
  | none => simp [ha] at h
  | some o =>
   refine Kh.l6 (k := ao call n b.sub) (kC bF n a fr m o ha ee.1 θ fr' m' hf hg) (by rw [ha] at h; cases o <;> exact h) fun θ1 fT m1 X6 fR sf hg1 h1 => kC bF n b _ _ _ h1 ee.2 θ1 _ _ sf hg1
 | .cond c a b, fr, m, out, h, ee, θ, fr', m', hf, hg => by
  simp only [kK, pC] at ee;simp only [aH.sub, ao] at h;have hc : SV θ (fr.eval (jC c)) (fr'.eval c) := (hf.ops hg.Fl) c ee.1.1
  cases hce : fr.eval (jC c) <;> simp only [hce, reduceCtorEq] at h
  rename_i t
  simp only [hce] at hc;rw [GA (TV hc)]
  cases t
  ·exact kC bF n b _ _ _ h ee.2 θ _ _ hf hg
  ·exact kC bF n a _ _ _ h ee.1.2 θ _ _ hf hg
 | .block id a, fr, m, out, h, ee, θ, fr', m', hf, hg => by
  simp only [aH.sub, ao] at h;rw [pj]
  cases ha : ao call n a.sub fr m with
  | none => simp [ha] at h
  | some o =>
   obtain ⟨θ1, BB, e, hs, ei⟩ := kC bF n a fr m o ha (by simpa only [kK] using ee) θ fr' m' hf hg
   rw [e];rw [ha] at h
   cases hs with
   | norm hf hg => simp only [bc] at h; subst h; exact ⟨θ1, _, rfl, .norm hf hg, ei⟩
   | ret hf hg => simp only [bc] at h; subst h; exact ⟨θ1, _, rfl, .ret hf hg, ei⟩
   | gD hv hf hg => simp only [bc] at h; subst h; exact ⟨θ1, _, rfl, .gD hv hf hg, ei⟩
   | @exit j fT X6 m1 fR hf hg =>
    simp only [pf];simp only at h
    cases hb : j.beq id <;> simp only [hb, cond_true, cond_false, bc] at h ⊢ <;> subst h
    ·exact ⟨θ1, _, rfl, .exit hf hg, ei⟩
    ·exact ⟨θ1, _, rfl, .norm hf hg, ei⟩
 | .loop a, fr, m, out, h, ee, θ, fr', m', hf, hg => by
  simp only [aH.sub, ao] at h;have aa6 : kK a = true := by simpa only [kK] using ee
  have ha := kC bF n a
  have go : ∀ (k : Nat) (fr : Fr) (m : Mem) (out : Out), iter (ao call n a.sub) k fr m = some out -> ∀ (θ : cD) (fr' : Fr) (m' : Mem), BM θ fr fr' -> gI θ m m' -> sc θ m m' out (exec T (.loop a) fr' m') := by
   intro k
   induction k with
   | zero => intro fr m out h; simp [iter] at h
   | succ k ih =>
    intro fr m out h θ fr' m' hf hg
    simp only [iter] at h;rw [eP]
    cases hb : ao call n a.sub fr m with
    | none => simp [hb] at h
    | some o =>
     refine Kh.l6 (k := iter (ao call n a.sub) k) (ha fr m o hb aa6 θ fr' m' hf hg) (by rw [hb] at h; cases o <;> exact h) fun θ1 fT m1 X6 fR sf hg1 h1 => ih _ _ _ h1 θ1 _ _ sf hg1
  exact go n fr m out h θ fr' m' hf hg
theorem vj {θ : cD} : ∀ {x x' : List EV} (i : Nat) {t t' : Tr EV}, dP θ x x' -> (∀ k, SV θ (((⟨t, []⟩ : Fr)).get k) (((⟨t', []⟩ : Fr)).get k)) -> ∀ k, SV θ (((⟨cJ x i t, []⟩ : Fr)).get k) (((⟨cJ x' i t', []⟩ : Fr)).get k)
 | _, _, i, t, t', .nil, h => h
 | _, _, i, t, t', .cons (v := v) (v' := v') hv hs, h => by
  refine vj (i + 1) hs fun k => ?_
  show SV θ ((Fr.set ⟨t, []⟩ i v).get k) ((Fr.set ⟨t', []⟩ i v').get k)
  rw [Fr.bW, Fr.bW]
  split
  ·exact hv
  ·exact h k
theorem iU {θ : cD} {m m' : Mem} (hm : MemS θ m m') {fr fr' : Fr} (hf : BM θ fr fr') : ∀ (rs : List lV) (vs : List EV), bN fr m rs = some vs -> ∃ uz, bN fr' m' rs = some uz /\ dP θ vs uz
 | [], vs, h => by simp only [bN, bc] at h; subst h; exact ⟨[], rfl, .nil⟩
 | r :: rs, vs, h => by
  simp only [bN] at h ⊢
  cases hr : zH fr m r with
  | none => simp [hr] at h
  | some v =>
   have hv : ∃ v', zH fr' m' r = some v' /\ SV θ v v' := by
    cases r with
    | tmp t => simp only [zH, bc] at hr ⊢; subst hr; exact ⟨_, rfl, hf.tmp t⟩
    | cell t agg => simp only [zH] at hr ⊢; exact Jb hm (hf.tmp t) hr
   obtain ⟨v', FA, zh⟩ := hv
   simp only [hr, FA] at h ⊢
   obtain ⟨ws, hw, rfl⟩ := j6.1 h
   obtain ⟨ws', Xn, hs⟩ := iU hm hf rs ws hw
   exact ⟨v' :: ws', by rw [Xn]; rfl, .cons zh hs⟩
theorem yP {θ : cD} {x x' : List EV} (h : dP θ x x') : SV θ (one x) (one x') := by
 cases h with
 | nil => exact .tuple .nil
 | cons hv hs =>
  cases hs with
  | nil => exact hv
  | cons Vo Su => exact .tuple (.cons hv (.cons Vo Su))
def Ga (F : ax) : Bool := kK F.body && rC F.body
def ly (F : ax) : Bool := kK F.body
theorem Ol {F : ax} (h : Ga F = true) : F.sub = F := by
 simp only [Ga, pC] at h;unfold ax.sub; rw [mz h.2]
theorem S1 {F : ax} (h : Ga F = true) : ly F = true := by simp only [Ga, pC] at h; exact h.1
theorem EZ (bF : Ao T call) (n : Nat) {f : Nat} {F : ax} (hT : T f = some (.go F)) (ee : ly F = true) {args : List EV} {m : Mem} {fin : Fin} (h : dr call n F.sub args m = some fin) {θ : cD} {m' : Mem} {aw : List EV} (hg : gI θ m m') (ha : dP θ args aw) : vn θ m m' fin (run T f aw m') := by
 unfold dr at h;simp only [ax.sub] at h
 cases hb : args.length.ble F.ntmps <;> simp only [hb, cond_true, cond_false, reduceCtorEq] at h
 have hlen : aw.length <= F.ntmps := by rw [<- ha.length]; exact qP hb
 rw [Qb hT hlen]
 cases hc : ao call n F.body.sub ⟨cJ args 0 .leaf, []⟩ m with
 | none => simp [hc] at h
 | some out =>
  have hf : BM θ ⟨cJ args 0 .leaf, []⟩ ⟨cJ aw 0 .leaf, []⟩ := ⟨vj 0 ha fun k => by rw [show (⟨.leaf, []⟩ : Fr) = ph from rfl, lO]; exact .undef, .nil⟩
  obtain ⟨θ1, BB, e, hs, ei⟩ := kC bF n F.body _ _ _ hc ee θ _ m' hf hg
  rw [e];simp only [hc] at h
  cases hs with
  | exit hf hg => simp at h
  | @norm fr fr' m1 fR sf hg1 =>
   cases hd : fr.defers with
   | cons d ds => simp [hd] at h
   | nil =>
    simp only [hd] at h;have FG : fr'.defers = [] := sf.NB.none hd
    simp only [sR, FG];obtain ⟨vs, hv, rfl⟩ := j6.1 h
    obtain ⟨uz, rJ, x8⟩ := iU hg1.toMemS sf F.results vs hv
    rw [rJ];exact ⟨θ1, _, rfl, .ret (yP x8) hg1, ei⟩
  | @ret fr fr' m1 fR sf hg1 =>
   cases hd : fr.defers with
   | cons d ds => simp [hd] at h
   | nil =>
    simp only [hd] at h;have FG : fr'.defers = [] := sf.NB.none hd
    simp only [sR, FG];obtain ⟨vs, hv, rfl⟩ := j6.1 h
    obtain ⟨uz, rJ, x8⟩ := iU hg1.toMemS sf F.results vs hv
    rw [rJ];exact ⟨θ1, _, rfl, .ret (yP x8) hg1, ei⟩
  | @gD v v' fr fr' m1 fR zh sf hg1 =>
   cases hd : fr.defers with
   | cons d ds => simp [hd] at h
   | nil =>
    simp only [hd, bc] at h;have FG : fr'.defers = [] := sf.NB.none hd
    simp only [sR, FG];subst h;exact ⟨θ1, _, rfl, .gD zh hg1, ei⟩
def KD (D : List (Nat × Option Nat × ax)) : List (Nat × Option Nat × ax) := D.map fun p => (p.1, p.2.1, p.2.2.sub)
theorem GD {g : Nat} {b : Option Nat} {FD : ax} : ∀ {D : List (Nat × Option Nat × ax)}, mh g (KD D) = some (b, FD) -> ∃ F0, mh g D = some (b, F0) /\ FD = F0.sub
 | [], h => by simp [KD, mh] at h
 | (g', b', F') :: D, h => by
  simp only [KD, List.map_cons, mh] at h ⊢
  cases hb : g'.beq g <;> simp only [hb, cond_true, cond_false] at h ⊢
  ·exact GD (D := D) h
  ·simp only [bc, eM] at h
   obtain ⟨rfl, rfl⟩ := h
   exact ⟨F', rfl, rfl⟩
def W3 (D : List (Nat × Option Nat × ax)) : Bool := D.all fun p => ly p.2.2
theorem IW {g : Nat} {b : Option Nat} {F : ax} : ∀ {D : List (Nat × Option Nat × ax)}, W3 D = true -> mh g D = some (b, F) -> ly F = true
 | [], _, h => by simp [mh] at h
 | (g', b', F') :: D, ho, h => by
  simp only [W3, List.all_cons, pC] at ho;simp only [mh] at h
  cases hb : g'.beq g <;> simp only [hb, cond_true, cond_false] at h
  ·exact IW (D := D) ho.2 h
  ·cases h; exact ho.1
theorem Pn (bF : Ao T call) (n : Nat) {F : ax} (ee : ly F = true) {args : List EV} {m : Mem} {fin : Fin} (h : dr call n F.sub args m = some fin) {θ : cD} {m' : Mem} {aw : List EV} (hg : gI θ m m') (ha : dP θ args aw) : vn θ m m' fin (J8 T F aw m') := by
 unfold dr at h;simp only [ax.sub] at h
 cases hb : args.length.ble F.ntmps <;> simp only [hb, cond_true, cond_false, reduceCtorEq] at h
 have hlen : aw.length <= F.ntmps := by rw [<- ha.length]; exact qP hb
 rw [R3 hlen]
 cases hc : ao call n F.body.sub ⟨cJ args 0 .leaf, []⟩ m with
 | none => simp [hc] at h
 | some out =>
  have hf : BM θ ⟨cJ args 0 .leaf, []⟩ ⟨cJ aw 0 .leaf, []⟩ := ⟨vj 0 ha fun k => by rw [show (⟨.leaf, []⟩ : Fr) = ph from rfl, lO]; exact .undef, .nil⟩
  obtain ⟨θ1, BB, e, hs, ei⟩ := kC bF n F.body _ _ _ hc ee θ _ m' hf hg
  rw [e];simp only [hc] at h
  cases hs with
  | exit hf hg => simp at h
  | @norm fr fr' m1 fR sf hg1 =>
   cases hd : fr.defers with
   | cons d ds => simp [hd] at h
   | nil =>
    simp only [hd] at h;have FG : fr'.defers = [] := sf.NB.none hd
    simp only [sR, FG];obtain ⟨vs, hv, rfl⟩ := j6.1 h
    obtain ⟨uz, rJ, x8⟩ := iU hg1.toMemS sf F.results vs hv
    rw [rJ];exact ⟨θ1, _, rfl, .ret (yP x8) hg1, ei⟩
  | @ret fr fr' m1 fR sf hg1 =>
   cases hd : fr.defers with
   | cons d ds => simp [hd] at h
   | nil =>
    simp only [hd] at h;have FG : fr'.defers = [] := sf.NB.none hd
    simp only [sR, FG];obtain ⟨vs, hv, rfl⟩ := j6.1 h
    obtain ⟨uz, rJ, x8⟩ := iU hg1.toMemS sf F.results vs hv
    rw [rJ];exact ⟨θ1, _, rfl, .ret (yP x8) hg1, ei⟩
  | @gD v v' fr fr' m1 fR zh sf hg1 =>
   cases hd : fr.defers with
   | cons d ds => simp [hd] at h
   | nil =>
    simp only [hd, bc] at h;have FG : fr'.defers = [] := sf.NB.none hd
    simp only [sR, FG];subst h;exact ⟨θ1, _, rfl, .gD zh hg1, ei⟩
def Md (θ : cD) (u u' : Option EV) : Prop := match u with
 | none => u' = none
 | some v => ∃ v', u' = some v' /\ SV θ v v'
theorem Md.ext {θ θ' : cD} (e : cD.Ext θ θ') {u u' : Option EV} (h : Md θ u u') : Md θ' u u' := by
 cases u with
 | none => exact h
 | some v => obtain ⟨v', h1, h2⟩ := h; exact ⟨v', h1, h2.ext e⟩
theorem Md.get {θ : cD} {u u' : Option EV} (h : Md θ u u') : SV θ (u.getD .aC) (u'.getD .aC) := by
 cases u with
 | none => cases h; exact .aC
 | some v => obtain ⟨v', rfl, h2⟩ := h; exact h2
theorem L6 (bF : Ao T call) (n : Nat) {d : Nat} {F : ax} (ee : ly F = true) {args : List EV} {u u' : Option EV} {m m1 : Mem} (h : fC call n d F.sub args u m = some m1) {θ : cD} {m' : Mem} {aw : List EV} (hg : gI θ m m') (ha : dP θ args aw) (hu : Md θ u u') :
  ∃ θ1 fR, H4 T d F aw u' m' = some fR /\ gI θ1 m1 fR /\ nZ θ m m' θ1 m1 fR := by
 unfold fC at h;simp only [ax.sub] at h
 cases hb : args.length.ble F.ntmps <;> simp only [hb, cond_true, cond_false, reduceCtorEq] at h
 have hlen : aw.length <= F.ntmps := by rw [<- ha.length]; exact qP hb
 rw [Pm hlen]
 cases hc : ao call n F.body.sub (Fr.set ⟨cJ args 0 .leaf, []⟩ d (u.getD .aC)) m with
 | none => simp [hc] at h
 | some out =>
  have hf : BM θ ⟨cJ args 0 .leaf, []⟩ ⟨cJ aw 0 .leaf, []⟩ := ⟨vj 0 ha fun k => by rw [show (⟨.leaf, []⟩ : Fr) = ph from rfl, lO]; exact .undef, .nil⟩
  obtain ⟨θ1, BB, e, hs, ei⟩ := kC bF n F.body _ _ _ hc ee θ _ m' (hf.put hu.get (some d)) hg
  have e' : exec T F.body (Fr.set ⟨cJ aw 0 .leaf, []⟩ d (u'.getD .aC)) m' = some BB := e
  rw [e'];simp only [hc] at h
  cases hs with
  | exit hf hg => simp at h
  | @norm fr fr' m2 Sp sf hg1 =>
   cases hd : fr.defers with
   | cons d ds => simp [hd] at h
   | nil =>
    simp only [hd] at h;have FG : fr'.defers = [] := sf.NB.none hd
    simp only [SS, FG];obtain ⟨vs, hv, rfl⟩ := j6.1 h
    obtain ⟨uz, rJ, x8⟩ := iU hg1.toMemS sf F.results vs hv
    rw [rJ];exact ⟨θ1, _, rfl, hg1, ei⟩
  | @ret fr fr' m2 Sp sf hg1 =>
   cases hd : fr.defers with
   | cons d ds => simp [hd] at h
   | nil =>
    simp only [hd] at h;have FG : fr'.defers = [] := sf.NB.none hd
    simp only [SS, FG];obtain ⟨vs, hv, rfl⟩ := j6.1 h
    obtain ⟨uz, rJ, x8⟩ := iU hg1.toMemS sf F.results vs hv
    rw [rJ];exact ⟨θ1, _, rfl, hg1, ei⟩
  | @gD v v' fr fr' m2 Sp zh sf hg1 => simp at h
theorem vn.after {θ θ1 : cD} {m m' m1 fR : Mem} {fin : Fin} {o : Option Fin} (hs : nZ θ m m' θ1 m1 fR) (h : vn θ1 m1 fR fin o) : vn θ m m' fin o := by
 obtain ⟨θ2, JJ, e, h1, h2⟩ := h
 cases h1 with
 | ret hv hg => exact ⟨θ2, _, e, .ret hv hg, hs.trans h2⟩
 | gD hv hg => exact ⟨θ2, _, e, .gD hv hg, hs.trans h2⟩
theorem oM (bF : Ao T call) (n : Nat) {rs : List lV} {D : List (Nat × Option Nat × ax)} (hD : W3 D = true) {fr fr' : Fr} : ∀ (ds vc : List (Nat × List EV)) (u u' : Option EV) (θ : cD) (m m' : Mem) (fin : Fin), Fg θ ds vc -> Md θ u u' -> gI θ m m' -> BM θ fr fr' -> cN call n rs (KD D) fr ds u m = some fin -> vn θ m m' fin (mE T rs D fr' vc u' m')
 | [], vc, u, u', θ, m, m', fin, Ez, hu, hg, hf, h => by
  cases Ez
  cases u with
  | none =>
   cases hu
   simp only [cN] at h;obtain ⟨vs, hv, rfl⟩ := j6.1 h
   obtain ⟨uz, rJ, x8⟩ := iU hg.toMemS hf rs vs hv
   rw [Ll, rJ];exact ⟨θ, _, rfl, .ret (yP x8) hg, .refl _ _ _⟩
  | some v =>
   obtain ⟨v', rfl, hv⟩ := hu
   simp only [cN, bc] at h;subst h;rw [Lk];exact ⟨θ, _, rfl, .gD hv hg, .refl _ _ _⟩
 | (g, args) :: ds, vc, u, u', θ, m, m', fin, Ez, hu, hg, hf, h => by
  cases Ez with
  | @cons _ _ aw _ TS hx Ez =>
  simp only [cN] at h
  cases FF : mh g (KD D) with
  | none => simp [FF] at h
  | some q =>
  obtain ⟨b, FD⟩ := q
  obtain ⟨F0, hF0, rfl⟩ := GD FF
  have ee := IW hD hF0
  cases b with
  | some d =>
   simp only [FF] at h
   cases hb : fC call n d F0.sub args u m with
   | none => simp [hb] at h
   | some m1 =>
    simp only [hb] at h;obtain ⟨θ1, fR, e1, hg1, rK⟩ := L6 bF n ee hb hg hx hu
    rw [Lj hF0, e1];exact (oM bF n hD ds TS none none θ1 m1 fR fin (Ez.ext rK.ext) rfl hg1 (hf.ext rK.ext) h).after rK
  | none =>
   simp only [FF] at h
   cases hb : dr call n F0.sub args m with
   | none => simp [hb] at h
   | some X7 =>
    simp only [hb] at h;obtain ⟨θ1, aei, e1, sf, rK⟩ := Pn bF n ee hb hg hx
    rw [Je hF0, e1]
    cases sf with
    | ret hv hg1 => exact (oM bF n hD ds TS u u' θ1 _ _ fin (Ez.ext rK.ext) (hu.ext rK.ext) hg1 (hf.ext rK.ext) h).after rK
    | @gD v v' _ _ hv hg1 =>
     cases u with
     | some x => cases h
     | none =>
      cases hu
      exact (oM bF n hD ds TS (some v) (some v') θ1 _ _ fin (Ez.ext rK.ext) ⟨v', rfl, hv⟩ hg1 (hf.ext rK.ext) h).after rK
theorem Po (bF : Ao T call) (n : Nat) {f : Nat} {F : ax} {D : List (Nat × Option Nat × ax)} (hT : T f = some (.NA F D)) (ee : ly F = true) (hD : W3 D = true) {args : List EV} {m : Mem} {fin : Fin} (h : jn call n F.sub (KD D) args m = some fin) {θ : cD} {m' : Mem} {aw : List EV} (hg : gI θ m m') (ha : dP θ args aw) : vn θ m m' fin (run T f aw m') := by
 unfold jn at h;simp only [ax.sub] at h
 cases hb : args.length.ble F.ntmps <;> simp only [hb, cond_true, cond_false, reduceCtorEq] at h
 have hlen : aw.length <= F.ntmps := by rw [<- ha.length]; exact qP hb
 rw [SQ hT hlen]
 cases hc : ao call n F.body.sub ⟨cJ args 0 .leaf, []⟩ m with
 | none => simp [hc] at h
 | some out =>
  have hf : BM θ ⟨cJ args 0 .leaf, []⟩ ⟨cJ aw 0 .leaf, []⟩ := ⟨vj 0 ha fun k => by rw [show (⟨.leaf, []⟩ : Fr) = ph from rfl, lO]; exact .undef, .nil⟩
  obtain ⟨θ1, BB, e, hs, ei⟩ := kC bF n F.body _ _ _ hc ee θ _ m' hf hg
  rw [e];simp only [hc] at h
  cases hs with
  | exit hf hg => simp at h
  | norm sf hg1 => exact (oM bF n hD _ _ none none θ1 _ _ fin sf.NB rfl hg1 sf h).after ei
  | ret sf hg1 => exact (oM bF n hD _ _ none none θ1 _ _ fin sf.NB rfl hg1 sf h).after ei
  | @gD v v' _ _ _ _ zh sf hg1 => exact (oM bF n hD _ _ (some v) (some v') θ1 _ _ fin sf.NB ⟨v', rfl, zh⟩ hg1 sf h).after ei
def hJ (T : Nat -> Option iz) (f : Nat) : iz -> Prop
 | .go F1 => ∃ F, T f = some (.go F) /\ ly F = true /\ F1 = F.sub
 | .ext g => ∀ θ m m' args aw v, gI θ m m' -> dP θ args aw -> g args = some v -> vn θ m m' (.ret v m) (run T f aw m')
 | .pure g => ∀ θ m m' args aw v, gI θ m m' -> dP θ args aw -> g args = some v -> vn θ m m' (.ret v m) (run T f aw m')
 | .spec g => ∀ θ m m' args aw fin, gI θ m m' -> dP θ args aw -> g args m = some fin -> vn θ m m' fin (run T f aw m')
 | .NA F1 D1 => ∃ F D, T f = some (.NA F D) /\ ly F = true /\ W3 D = true /\ F1 = F.sub /\ D1 = KD D
theorem C6 {T1 : Nat -> Option iz} (h1 : ∀ f e, T1 f = some e -> hJ T f e) : ∀ k, Ao T (aS T1 k)
 | 0 => fun f args m fin h => by simp [aS] at h
 | k + 1 => fun f args m fin h θ m' aw hg ha => by
  simp only [aS] at h
  cases he : T1 f with
  | none => simp [he] at h
  | some e =>
   have hE := h1 f e he
   simp only [he] at h
   cases e with
   | go F =>
    obtain ⟨F0, hT, ee, rfl⟩ := hE
    exact EZ (C6 h1 k) k hT ee h hg ha
   | ext g =>
    obtain ⟨v, hv, rfl⟩ := j6.1 h
    exact hE θ m m' args aw v hg ha hv
   | pure g =>
    obtain ⟨v, hv, rfl⟩ := j6.1 h
    exact hE θ m m' args aw v hg ha hv
   | spec g => exact hE θ m m' args aw fin hg ha h
   | NA F D =>
    obtain ⟨F0, D0, hT, ee, hD, rfl, rfl⟩ := hE
    exact Po (C6 h1 k) k hT ee hD h hg ha
end
end
section
def chunk (e : Nat) : Nat -> List EV -> List (List EV)
 | 0, _ => []
 | n + 1, l => l.take e :: chunk e n (l.drop e)
def Ab (cap : Option Nat) (n : Nat) : Bool := match cap with
 | none => true
 | some c => n.ble c
mutual
def oO (F : List EV -> Option (List EV)) (m : Mem) : EV -> Option EV
 | .slice b off n cap => match m.get b with
  | .cells cs e _ _ => bif Ab cap n then (bif (off + n * e).ble cs.length then (F ((cs.drop off).take (n * e))).map fun ys => .fz 0 e (chunk e n ys) else none) else none
  | _ => none
 | .agg xs => (jl F m xs).map .agg
 | .tuple xs => (jl F m xs).map .tuple
 | .iface t v => (oO F m v).map (.iface t)
 | .func f x y => match jl F m x, jl F m y with
  | some x, some y => some (.func f x y)
  | _, _ => none
 | .fz _ e els => some (.fz 0 e els)
 | .ptr _ _ | .map _ | .fF _ _ _ _ => none
 | .undef => some .undef
 | .bool b => some (.bool b)
 | .int k n => some (.int k n)
 | .str s => some (.str s)
 | .bL => some .bL
 | .ae => some .ae
 | .bB => some .bB
 | .aN => some .aN
 | .aC => some .aC
def jl (F : List EV -> Option (List EV)) (m : Mem) : List EV -> Option (List EV)
 | [] => some []
 | v :: l => match oO F m v, jl F m l with
  | some v, some l => some (v :: l)
  | _, _ => none
end
def cB : Nat -> Mem -> List EV -> Option (List EV)
 | 0, _, _ => none
 | d + 1, m, l => jl (cB d m) m l
mutual
def closed : EV -> Bool
 | .ptr _ _ | .slice _ _ _ _ | .map _ | .fF _ _ _ _ => false
 | .func _ x y => fK x && fK y
 | .iface _ v => closed v
 | .agg x | .tuple x => fK x
 | _ => true
def fK : List EV -> Bool
 | [] => true
 | v :: x => closed v && fK x
end
theorem rY {e : Nat} : ∀ (n : Nat) (l : List EV), (chunk e n l).length = n
 | 0, _ => rfl
 | n + 1, l => by simp [chunk, rY n]
theorem GH {e : Nat} : ∀ (n : Nat) (l : List EV), l.length = n * e -> (∀ el ∈ chunk e n l, el.length = e) /\ (chunk e n l).flatten = l
 | 0, l, h => by
  rw [Nat.zero_mul] at h;have := List.eq_nil_of_length_eq_zero h
  subst this; simp [chunk]
 | n + 1, l, h => by
  rw [Nat.succ_mul] at h;obtain ⟨h1, h2⟩ := GH (e := e) n (l.drop e) (by rw [x9]; omega)
  refine ⟨fun el Ey => ?_, ?_⟩
  ·simp only [chunk, oQ] at Ey
   rcases Ey with rfl | Ey
   ·rw [List.length_take]; omega
   ·exact h1 el Ey
  ·simp only [chunk, List.flatten_cons, h2, List.take_append_drop]
open Classical in
noncomputable def cD.end_ (θ : cD) (m' : Mem) : cD := ⟨fun _ => none, fun _ => none, fun c => if ∃ b, θ.hU b = some c then some (m'.get c) else θ.gN c⟩
theorem TN {θ : cD} {m' : Mem} {b c : Nat} (h : θ.hU b = some c) : (θ.end_ m').gN c = some (m'.get c) := by
 unfold cD.end_; simp only; exact if_pos ⟨b, h⟩
theorem HR {θ : cD} {m' : Mem} {c : Nat} {B : fQ} (h : (θ.end_ m').gN c = some B) : ((∃ b, θ.hU b = some c) /\ B = m'.get c) \/ θ.gN c = some B := by
 unfold cD.end_ at h; simp only at h
 split at h
 ·rename_i hx; cases h; exact .inl ⟨hx, rfl⟩
 ·exact .inr h
theorem MG {θ : cD} {m' : Mem} {n n' : Nat} (k : qO θ n n') : cD.Ext θ.low (θ.end_ m') := by
 refine ⟨fun _ _ h => (by simp [cD.low] at h), fun _ _ h => (by simp [cD.low] at h), fun c B h => ?_⟩
 have h' : θ.gN c = some B := h
 unfold cD.end_; simp only
 rw [if_neg, h']
 rintro ⟨b, hb⟩
 rw [k.off b c hb] at h'; cases h'
theorem SR.low {θ : cD} {e : Nat} {els : List (List EV)} {b off : Nat} (h : SR θ e els b off) : SR θ.low e els b off := by
 cases h with | mk hs hl hn hx => exact .mk hs hl hn hx
section
variable {θ : cD} {m m' : Mem} {F : List EV -> Option (List EV)}
theorem dP.Hg {l' : List EV} (h : dP θ [] l') : l' = [] := by cases h; rfl
theorem dP.cons_inv {v : EV} {l l' : List EV} (h : dP θ (v :: l) l') : ∃ v' r', l' = v' :: r' /\ SV θ v v' /\ dP θ l r' := by
 cases h with | cons h hs => exact ⟨_, _, rfl, h, hs⟩
theorem Gx {v : EV} {l r : List EV} (h : jl F m (v :: l) = some r) : ∃ a b, oO F m v = some a /\ jl F m l = some b /\ r = a :: b := by
 simp only [jl] at h
 cases h1 : oO F m v with
 | none => simp [h1] at h
 | some a =>
  cases h2 : jl F m l with
  | none => simp [h1, h2] at h
  | some b => simp only [h1, h2, bc] at h; exact ⟨a, b, rfl, rfl, h.symm⟩
mutual
theorem Nh (hg : gI θ m m') (hF : ∀ l r l', F l = some r -> dP θ l l' -> dP (θ.end_ m') r l') : ∀ {v r v' : EV}, oO F m v = some r -> SV θ v v' -> SV (θ.end_ m') r v'
 | .undef, r, v', h, hv => by cases hv; cases h; exact .undef
 | .bool b, r, v', h, hv => by cases hv; cases h; exact .bool b
 | .int k n, r, v', h, hv => by cases hv; cases h; exact .int k n
 | .str s, r, v', h, hv => by cases hv; cases h; exact .str s
 | .bL, r, v', h, hv => by cases hv; cases h; exact .bL
 | .ae, r, v', h, hv => by cases hv; cases h; exact .ae
 | .bB, r, v', h, hv => by cases hv; cases h; exact .bB
 | .aN, r, v', h, hv => by cases hv; cases h; exact .aN
 | .aC, r, v', h, hv => by cases hv; cases h; exact .aC
 | .ptr _ _, r, v', h, hv => by simp [oO] at h
 | .map _, r, v', h, hv => by simp [oO] at h
 | .fF _ _ _ _, r, v', h, hv => by simp [oO] at h
 | .fz t e els, r, v', h, hv => by
  simp only [oO, bc] at h; subst h
  cases hv with
  | fz hr ht hc => exact .fz (hr.low.ext (MG hg.ok)) (.inl rfl) hc
  | BK ht => exact .BK (.inl rfl)
 | .slice b off n cap, r, v', h, hv => by
  cases hv with
  | @slice _ _ c _ _ _ hb =>
  simp only [oO] at h;have hB := hg.c9 b c hb
  cases VF : m.get b with
  | dead => simp [VF] at h
  | map es => simp [VF] at h
  | cells cs e k ro =>
   rw [VF] at hB;obtain ⟨lQ, xh, hs⟩ := hB
   simp only [VF] at h
   cases JB : Ab cap n <;> simp only [JB, cond_true, cond_false, reduceCtorEq] at h
   cases hl : (off + n * e).ble cs.length <;> simp only [hl, cond_true, cond_false, reduceCtorEq] at h
   have hle := qP hl
   obtain ⟨ys, hy, rfl⟩ := j6.1 h
   have Tn := hF _ _ _ hy ((hs.drop off).take (n * e))
   have hyl : ys.length = n * e := by rw [Tn.length, List.length_take, x9, <- hs.length]; omega
   obtain ⟨q1, q2⟩ := GH n ys hyl
   have ei := TN (m' := m') hb
   rw [xh] at ei;have hr : SR (θ.end_ m') e (chunk e n ys) c off := .mk ei q1 (by rw [rY, <- hs.length]; exact hle) (by rw [q2, rY]; exact Tn)
   have := SV.fz (t := 0) (cap := cap) hr (.inl rfl) (fun q hq => by subst hq; rw [rY]; exact qP JB)
   rw [rY] at this; exact this
 | .agg x, r, v', h, hv => by
  simp only [oO] at h;obtain ⟨y, hy, rfl⟩ := j6.1 h
  cases hv with | agg hx => exact .agg (rN hg hF hy hx)
 | .tuple x, r, v', h, hv => by
  simp only [oO] at h;obtain ⟨y, hy, rfl⟩ := j6.1 h
  cases hv with | tuple hx => exact .tuple (rN hg hF hy hx)
 | .iface t x, r, v', h, hv => by
  simp only [oO] at h;obtain ⟨y, hy, rfl⟩ := j6.1 h
  cases hv with | iface hx => exact .iface (Nh hg hF hy hx)
 | .func f x y, r, v', h, hv => by
  simp only [oO] at h
  cases h1 : jl F m x with
  | none => simp [h1] at h
  | some a =>
   cases h2 : jl F m y with
   | none => simp [h1, h2] at h
   | some b =>
    simp only [h1, h2, bc] at h; subst h
    cases hv with | func hx hy => exact .func (rN hg hF h1 hx) (rN hg hF h2 hy)
theorem rN (hg : gI θ m m') (hF : ∀ l r l', F l = some r -> dP θ l l' -> dP (θ.end_ m') r l') : ∀ {l r l' : List EV}, jl F m l = some r -> dP θ l l' -> dP (θ.end_ m') r l'
 | [], r, l', h, hv => by
  have := hv.Hg; subst this
  simp only [jl, bc] at h; subst h; exact .nil
 | v :: l, r, l', h, hv => by
  obtain ⟨a, b, h1, h2, rfl⟩ := Gx h
  obtain ⟨v', r', rfl, g1, g2⟩ := hv.cons_inv
  exact .cons (Nh hg hF h1 g1) (rN hg hF h2 g2)
end
theorem u5 (hg : gI θ m m') : ∀ (d : Nat) (l r l' : List EV), cB d m l = some r -> dP θ l l' -> dP (θ.end_ m') r l'
 | 0, l, r, l', h, _ => by simp [cB] at h
 | d + 1, l, r, l', h, hv => rN hg (u5 hg d) h hv
mutual
theorem EE : ∀ {v r v' : EV}, oO F m v = some r -> closed v = true -> SV θ v v' -> SV θ.low r v'
 | .undef, r, v', h, _, hv => by cases hv; cases h; exact .undef
 | .bool b, r, v', h, _, hv => by cases hv; cases h; exact .bool b
 | .int k n, r, v', h, _, hv => by cases hv; cases h; exact .int k n
 | .str s, r, v', h, _, hv => by cases hv; cases h; exact .str s
 | .bL, r, v', h, _, hv => by cases hv; cases h; exact .bL
 | .ae, r, v', h, _, hv => by cases hv; cases h; exact .ae
 | .bB, r, v', h, _, hv => by cases hv; cases h; exact .bB
 | .aN, r, v', h, _, hv => by cases hv; cases h; exact .aN
 | .aC, r, v', h, _, hv => by cases hv; cases h; exact .aC
 | .ptr _ _, r, v', h, _, hv => by simp [oO] at h
 | .map _, r, v', h, _, hv => by simp [oO] at h
 | .fF _ _ _ _, r, v', h, _, hv => by simp [oO] at h
 | .slice _ _ _ _, r, v', h, hc, hv => by simp [closed] at hc
 | .fz t e els, r, v', h, _, hv => by
  simp only [oO, bc] at h; subst h
  cases hv with
  | fz hr ht hc => exact .fz hr.low (.inl rfl) hc
  | BK ht => exact .BK (.inl rfl)
 | .agg x, r, v', h, hc, hv => by
  simp only [oO] at h;obtain ⟨y, hy, rfl⟩ := j6.1 h
  cases hv with | agg hx => exact .agg (ld hy (by simpa only [closed] using hc) hx)
 | .tuple x, r, v', h, hc, hv => by
  simp only [oO] at h;obtain ⟨y, hy, rfl⟩ := j6.1 h
  cases hv with | tuple hx => exact .tuple (ld hy (by simpa only [closed] using hc) hx)
 | .iface t x, r, v', h, hc, hv => by
  simp only [oO] at h;obtain ⟨y, hy, rfl⟩ := j6.1 h
  cases hv with | iface hx => exact .iface (EE hy (by simpa only [closed] using hc) hx)
 | .func f x y, r, v', h, hc, hv => by
  simp only [oO] at h;simp only [closed, pC] at hc
  cases h1 : jl F m x with
  | none => simp [h1] at h
  | some a =>
   cases h2 : jl F m y with
   | none => simp [h1, h2] at h
   | some b =>
    simp only [h1, h2, bc] at h; subst h
    cases hv with | func hx hy => exact .func (ld h1 hc.1 hx) (ld h2 hc.2 hy)
theorem ld : ∀ {l r l' : List EV}, jl F m l = some r -> fK l = true -> dP θ l l' -> dP θ.low r l'
 | [], r, l', h, _, hv => by
  have := hv.Hg; subst this
  simp only [jl, bc] at h; subst h; exact .nil
 | v :: l, r, l', h, hc, hv => by
  simp only [fK, pC] at hc;obtain ⟨a, b, h1, h2, rfl⟩ := Gx h
  obtain ⟨v', r', rfl, g1, g2⟩ := hv.cons_inv
  exact .cons (EE h1 hc.1 g1) (ld h2 hc.2 g2)
end
def gy : Nat -> List EV -> List EV
 | _, [] => []
 | i, v :: r => (match v with | .fz _ e els => .fz i e els | v => v) :: gy (i + 1) r
def P1 (l : List EV) (t : Nat) : Option (Nat × Nat × Option Nat) := match l[t - 1]? with
 | some (.slice b off _ cap) => some (b, off, cap)
 | _ => none
theorem BU {S : Nat -> Option fQ} {tg : Nat -> Option (Nat × Nat × Option Nat)} : ∀ (l l' : List EV) (i : Nat), (∀ j b off n cap, l'[j]? = some (.slice b off n cap) -> tg (i + j) = some (b, off, cap)) -> dP ⟨fun _ => none, fun _ => none, S⟩ l l' -> dP ⟨fun _ => none, tg, S⟩ (gy i l) l'
 | [], l', i, _, h => by have := h.Hg; subst this; exact .nil
 | v :: l, l', i, ht, h => by
  obtain ⟨v', r', rfl, g1, g2⟩ := h.cons_inv
  have e : cD.Ext ⟨fun _ => none, fun _ => none, S⟩ ⟨fun _ => none, tg, S⟩ := ⟨fun _ _ h => by simp at h, fun _ _ h => by simp at h, fun _ _ h => h⟩
  refine .cons ?_ (BU l r' (i + 1) (fun j b off n cap hj => by have := ht (j + 1) b off n cap (by simpa using hj); rw [show i + 1 + j = i + (j + 1) by omega]; exact this) g2)
  have rG : SV ⟨fun _ => none, tg, S⟩ v v' := g1.ext e
  cases v <;> try exact rG
  cases g1 with
  | fz hr _ hc => exact .fz (hr.ext e) (.inr (by have := ht 0 _ _ _ _ rfl; exact this)) hc
  | BK _ => exact .BK (.inr (by have := ht 0 _ _ _ _ rfl; exact this))
theorem DP (l : List EV) : ∀ j b off n cap, l[j]? = some (.slice b off n cap) -> P1 l (1 + j) = some (b, off, cap) := by
 intro j b off n cap h
 unfold P1;rw [show 1 + j - 1 = j by omega, h]
end
def bR : Mem := ⟨0, .leaf⟩
theorem Oy (b : Nat) : bR.get b = .dead := QI 0 b
def deep : Nat := 8
def kf (g : List EV -> Option EV) (args : List EV) (m : Mem) : Option Fin := match cB deep m args with
 | some eQ => match g (gy 1 eQ) with
  | some V => bif Flat V then some (.ret V m) else none
  | none => none
 | none => none
def ke (g : List EV -> Option EV) (args : List EV) (m : Mem) : Option Fin := bif fK args then match cB deep m args with
 | some eQ => match g (gy 1 eQ) with
  | some V => some (.ret V ⟨m.next + 1, m.gB⟩)
  | none => none
 | none => none else none
noncomputable def qI (T : Nat -> Option iz) (F : ax) (eQ : List EV) : Option EV := bif eQ.length.ble F.ntmps then
 match sR F (exec T F.body ⟨cJ eQ 0 .leaf, []⟩ bR) with
 | some (.ret v m) => match cB deep m [v] with
  | some [V] => some V
  | _ => none
 | _ => none else none
section
variable {T T1 : Nat -> Option iz}
theorem TW {F : ax} {eQ : List EV} {fin : Fin} (hl : eQ.length.ble F.ntmps = true) (h : sR F (exec T1 F.body ⟨cJ eQ 0 .leaf, []⟩ bR) = some fin) : ∃ n, dr (aS T1 n) n F eQ bR = some fin := by
 cases hc : exec T1 F.body ⟨cJ eQ 0 .leaf, []⟩ bR with
 | none => simp [hc, sR] at h
 | some o =>
  obtain ⟨n, hn⟩ := cg.1 hc
  refine ⟨n, ?_⟩
  rw [hc] at h;simp only [dr, hl, cond_true, hn]
  cases o <;> exact h
theorem TM {F : ax} {eQ : List EV} {fin : Fin} {n : Nat} (h : dr (aS T1 n) n F eQ bR = some fin) : eQ.length.ble F.ntmps = true /\ sR F (exec T1 F.body ⟨cJ eQ 0 .leaf, []⟩ bR) = some fin := by
 unfold dr at h
 cases hl : eQ.length.ble F.ntmps <;> simp only [hl, cond_true, cond_false, reduceCtorEq] at h
 refine ⟨rfl, ?_⟩
 cases hc : ao (aS T1 n) n F.body ⟨cJ eQ 0 .leaf, []⟩ bR with
 | none => simp [hc] at h
 | some o =>
  rw [cg.2 ⟨n, hc⟩];simp only [hc] at h
  cases o <;> exact h
theorem A3 {F : ax} {eQ : List EV} {V : EV} (h : qI T1 F eQ = some V) : ∃ n v m, dr (aS T1 n) n F eQ bR = some (.ret v m) /\ cB deep m [v] = some [V] := by
 unfold qI at h
 cases hl : eQ.length.ble F.ntmps <;> simp only [hl, cond_true, cond_false, reduceCtorEq] at h
 cases hr : sR F (exec T1 F.body ⟨cJ eQ 0 .leaf, []⟩ bR) with
 | none => simp [hr] at h
 | some fin =>
  cases fin with
  | gD v m => simp [hr] at h
  | ret v m =>
   simp only [hr] at h;obtain ⟨n, hn⟩ := TW hl hr
   refine ⟨n, v, m, hn, ?_⟩
   split at h
   ·rename_i q; cases h; exact q
   ·cases h
theorem Ae {F : ax} {eQ : List EV} {V v : EV} {m : Mem} {n : Nat} (h : dr (aS T1 n) n F eQ bR = some (.ret v m)) (hv : cB deep m [v] = some [V]) : qI T1 F eQ = some V := by
 obtain ⟨h1, h2⟩ := TM h
 unfold qI;simp only [h1, cond_true, h2, hv]
theorem pure_run (h1 : ∀ f e, T1 f = some e -> hJ T f e) {f : Nat} {F : ax} (hT : T f = some (.go F)) (ee : ly F = true) {eQ : List EV} {V : EV} (h : qI T1 F.sub eQ = some V) {tg : Nat -> Option (Nat × Nat × Option Nat)} {S : Nat -> Option fQ} {m' : Mem} {aw : List EV}
  (OP : ∀ b B, S b = some B -> m'.get b = B /\ b < m'.next) (ha : dP ⟨fun _ => none, tg, S⟩ eQ aw) (Rq : mJ ⟨fun _ => none, tg, S⟩) :
  ∃ v' m1 fR θ, run T f aw m' = some (.ret v' fR) /\ nZ ⟨fun _ => none, tg, S⟩ bR m' θ m1 fR /\ gI θ m1 fR /\ SV (θ.end_ fR) V v' := by
 obtain ⟨n, v, m, hb, hf⟩ := A3 h
 have hg : gI ⟨fun _ => none, tg, S⟩ bR m' := ⟨⟨⟨fun b c hb => by simp at hb, fun b _ => Oy b⟩, fun b B hb => (OP b B hb).1⟩, ⟨fun b c hb => by simp at hb, fun a b c hb => by simp at hb, fun b c hb => by simp at hb, fun b B hb => (OP b B hb).2⟩, Rq⟩
 obtain ⟨θ, JJ, e, hs, ei⟩ := EZ (C6 h1 n) n hT ee hb hg ha
 cases hs with
 | @ret _ v' _ fR hv hg1 =>
  have := u5 hg1 deep [v] [V] [v'] hf (.cons hv .nil)
  obtain ⟨w, r, hw, q1, q2⟩ := this.cons_inv
  cases hw
  exact ⟨v', m, fR, θ, e, ei, hg1, q1⟩
theorem F8 (h1 : ∀ f e, T1 f = some e -> hJ T f e) {f : Nat} {F : ax} (hT : T f = some (.go F)) (ee : ly F = true) {g : List EV -> Option EV} (hg : ∀ eQ V, g eQ = some V -> qI T1 F.sub eQ = some V) : hJ T f (.spec (kf g)) := by
 intro θ m m' args aw fin nP ha h
 unfold kf at h
 cases hfz : cB deep m args with
 | none => simp [hfz] at h
 | some eQ =>
  simp only [hfz] at h
  cases hv : g (gy 1 eQ) with
  | none => simp [hv] at h
  | some V =>
   simp only [hv] at h
   cases FE : Flat V <;> simp only [FE, cond_true, cond_false, reduceCtorEq, bc] at h
   subst h;have hs := u5 nP deep args eQ aw hfz ha
   obtain ⟨v', m1, fR, θ1, e, ei, hg1, zh⟩ := pure_run h1 hT ee (hg _ _ hv) (m' := m') (S := (θ.end_ m').gN) (fun b B hb => by
    rcases HR hb with ⟨⟨x, hx⟩, rfl⟩ | hb
    ·exact ⟨rfl, (nP.ok.hU x b hx).2⟩
    ·exact ⟨nP.gN b B hb, nP.ok.gN b B hb⟩) (BU eQ aw 1 (DP aw) hs) (nP.Fl.down ⟨fun _ _ h => (by simp [cD.low] at h), fun _ _ h => (by simp [cD.low] at h), (MG nP.ok).gN⟩)
   have := zh.flat FE
   subst this;have rG : ∀ c, c < m'.next -> fR.get c = m'.get c := fun c hc => ei.rG c hc fun b hb => by simp at hb
   refine ⟨θ, _, e, .ret (SV.of_flat FE) ⟨⟨⟨fun b c hb => ?_, nP.cl⟩, fun b B hb => ?_⟩, ⟨fun b c hb => ⟨(nP.ok.hU b c hb).1, mn (nP.ok.hU b c hb).2 ei.n2⟩, nP.ok.inj, nP.ok.off, fun b B hb => mn (nP.ok.gN b B hb) ei.n2⟩, nP.Fl⟩,
    ⟨.refl θ, fun _ _ h => .inl h, fun _ _ h => .inl h, fh _, ei.n2, fun c hc _ => rG c hc⟩⟩
   ·rw [rG c (nP.ok.hU b c hb).2]; exact nP.c9 b c hb
   ·rw [rG b (nP.ok.gN b B hb)]; exact nP.gN b B hb
theorem Og (h1 : ∀ f e, T1 f = some e -> hJ T f e) {f : Nat} {F : ax} (hT : T f = some (.go F)) (ee : ly F = true) {g : List EV -> Option EV} (hg : ∀ eQ V, g eQ = some V -> qI T1 F.sub eQ = some V) : hJ T f (.spec (ke g)) := by
 intro θ m m' args aw fin nP ha h
 unfold ke at h
 cases oN : fK args <;> simp only [oN, cond_true, cond_false, reduceCtorEq] at h
 cases hfz : cB deep m args with
 | none => simp [hfz] at h
 | some eQ =>
  simp only [hfz] at h
  cases hv : g (gy 1 eQ) with
  | none => simp [hv] at h
  | some V =>
   simp only [hv, bc] at h;subst h;have hs : dP θ.low eQ aw := ld (F := cB 7 m) (m := m) hfz oN ha
   obtain ⟨v', m1, fR, θ1, e, ei, hg1, zh⟩ := pure_run h1 hT ee (hg _ _ hv) (m' := m') (S := θ.gN) (fun b B hb => ⟨nP.gN b B hb, nP.ok.gN b B hb⟩) (BU eQ aw 1 (DP aw) hs) (nP.Fl.down ⟨fun _ _ h => (by simp [cD.low] at h), fun _ _ h => (by simp [cD.low] at h), fun _ _ h => h⟩)
   have rG : ∀ c, c < m'.next -> fR.get c = m'.get c := fun c hc => ei.rG c hc fun b hb => by simp at hb
   let θ2 : cD := ⟨θ.hU, θ.tag, fun c => if c < m'.next then θ.gN c else (θ1.end_ fR).gN c⟩
   have s1 : ∀ c, c < m'.next -> θ2.gN c = θ.gN c := fun c hc => if_pos hc
   have s2 : ∀ c, ¬ c < m'.next -> θ2.gN c = (θ1.end_ fR).gN c := fun c hc => if_neg hc
   have SA : ∀ c B, (θ1.end_ fR).gN c = some B -> fR.get c = B /\ c < fR.next := by
    intro c B hb
    rcases HR hb with ⟨⟨x, hx⟩, rfl⟩ | hb
    ·exact ⟨rfl, (hg1.ok.hU x c hx).2⟩
    ·exact ⟨hg1.gN c B hb, hg1.ok.gN c B hb⟩
   have abJ : cD.Ext (θ1.end_ fR) θ2 := by
    refine ⟨fun _ _ h => (by simp [cD.end_] at h), fun _ _ h => (by simp [cD.end_] at h), fun c B hb => ?_⟩
    by_cases hc : c < m'.next
    ·rw [s1 c hc]
     rcases HR hb with ⟨⟨x, hx⟩, rfl⟩ | hb
     ·rcases ei.hU x c hx with q | ⟨_, q⟩
      ·simp at q
      ·omega
     ·rcases ei.gN c B hb with q | ⟨q, _⟩
      ·exact q
      ·omega
    ·rw [s2 c hc]; exact hb
   have ext : cD.Ext θ θ2 := ⟨fun _ _ h => h, fun _ _ h => h, fun c B hb => by rw [s1 c (nP.ok.gN c B hb)]; exact hb⟩
   refine ⟨θ2, _, e, .ret (zh.ext abJ) ⟨⟨⟨fun b c hb => ?_, nP.cl⟩, fun c B hb => ?_⟩, ⟨fun b c hb => ⟨Nat.lt_succ_of_lt (nP.ok.hU b c hb).1, mn (nP.ok.hU b c hb).2 ei.n2⟩, nP.ok.inj, fun b c hb => ?_, fun c B hb => ?_⟩, nP.Fl.ext ext⟩,
    ⟨ext, fun _ _ h => .inl h, fun c B hb => ?_, Nat.le_succ _, ei.n2, fun c hc _ => rG c hc⟩⟩
   ·have := nP.ok.hU b c hb
    rw [rG c this.2]; exact (nP.c9 b c hb).ext ext
   ·by_cases hc : c < m'.next
    ·rw [s1 c hc] at hb; rw [rG c hc]; exact nP.gN c B hb
    ·rw [s2 c hc] at hb; exact (SA c B hb).1
   ·rw [s1 c (nP.ok.hU b c hb).2]; exact nP.ok.off b c hb
   ·by_cases hc : c < m'.next
    ·exact mn hc ei.n2
    ·rw [s2 c hc] at hb; exact (SA c B hb).2
   ·by_cases hc : c < m'.next
    ·rw [s1 c hc] at hb; exact .inl hb
    ·exact .inr ⟨Nat.le_of_not_lt hc, Nat.lt_succ_self _⟩
end
end
end Go.Proofs.YtdiccmapankckaaDoor.Ev
