/- PSz, PPar, WPar1, WPar2, WPar3, WPar4, WTx1, WTx2, WTx3, WTx4, WTx5, WTx6, EvNd, WTt, WPts. -/
import Derived.Test.YtblcomejcahkdaaDoorMg
set_option linter.unusedSimpArgs false
set_option linter.unusedVariables false
set_option linter.unusedSectionVars false
set_option linter.defProp false
set_option maxRecDepth 20000
set_option maxHeartbeats 8000000
namespace Go.Proofs.YtblcomejcahkdaaDoor.Ev
open Go
section
def OA (d : Nd) : Nat := 1
def so (l : List Nd) : Nat -> Nat -> Nat
 | 0, _ => 0
 | f + 1, i => match l[i]? with
  | none => 0
  | some d => OA d + cF (d.kids.map fun x => so l f x.toNat)
def Ib (l : List Nd) (i : Nat) : Nat := so l (i + 1) i
theorem Ic {l : List Nd} (hk : bl l) : ∀ (i f g : Nat), i < f -> i < g -> so l f i = so l g i := by
 intro i
 induction i using Nat.strongRecOn with
 | _ i ih =>
  intro f g hf hg
  obtain ⟨f, rfl⟩ : ∃ f', f = f' + 1 := ⟨f - 1, by omega⟩
  obtain ⟨g, rfl⟩ : ∃ g', g = g' + 1 := ⟨g - 1, by omega⟩
  simp only [so]
  cases hd : l[i]? with
  | none => rfl
  | some d =>
   simp only
   congr 2
   refine List.map_congr_left fun x hx => ?_
   have := hk i d hd x hx
   exact ih x.toNat (by omega) f g (by omega) (by omega)
theorem Pj {l : List Nd} (hk : bl l) {i : Nat} {d : Nd} (hd : l[i]? = some d) : Ib l i = OA d + cF (d.kids.map fun x => Ib l x.toNat) := by
 unfold Ib;rw [so];simp only [hd]
 congr 2
 refine List.map_congr_left fun x hx => ?_
 have := hk i d hd x hx
 exact Ic hk _ _ _ (by omega) (by omega)
theorem zq {l : List Nd} (hk : bl l) (hu : (aW l).Nodup) : ∀ i, i <= l.length -> cF ((roots l i).map fun x => Ib l x.toNat) <= cF ((l.take i).map OA)
 | 0, _ => by simp [roots, upto, cF]
 | i + 1, hi => by
  have ih := zq hk hu i (by omega)
  have hd : l[i]? = some l[i] := ij (by omega)
  have sA := kQ hd
  have ov : l.take (i + 1) = l.take i ++ [l[i]] := List.take_succ_eq_append_getElem (by omega)
  have hx := hk i _ hd
  have hnd : (aW (l.take i) ++ l[i].kids).Nodup := by rw [<- sA]; exact hu.sublist (lV _)
  generalize l[i] = d at *
  have VD : upto (i + 1) = upto i ++ [(i : Int)] := by unfold upto; rw [List.range_succ, List.map_append]; rfl
  have hU : ∀ x ∈ aW (l.take i), x < (i : Int) := by
   intro x hx
   obtain ⟨j, e, he, GD⟩ := jt.1 hx
   rw [List.getElem?_take] at he
   split at he
   ·have := hk j e he x GD; omega
   ·cases he
  rw [List.nodup_append] at hnd;have e1 : roots l (i + 1) = (roots l i).filter (fun x => !d.kids.contains x) ++ [(i : Int)] := by
   unfold roots;rw [sA, VD, List.filter_append, List.filter_filter]
   congr 1
   ·refine List.filter_congr fun x hx => ?_
    rw [List.contains_eq_any_beq, List.contains_eq_any_beq, List.contains_eq_any_beq, List.any_append]
    cases (aW (l.take i)).any (x == ·) <;> cases d.kids.any (x == ·) <;> rfl
   ·rw [List.filter_cons, if_pos]
    ·rfl
    ·have : ¬ ((i : Int) ∈ aW (l.take i) ++ d.kids) := by
      rw [nY]
      rintro (q | q)
      ·have := hU _ q; omega
      ·have := hx _ q; omega
     simpa using this
  have h2 : cF (d.kids.map fun x => Ib l x.toNat) <= cF (((roots l i).filter fun x => d.kids.contains x).map fun x => Ib l x.toNat) := by
   refine kR hnd.2.1 fun x rc => ?_
   rw [List.mem_filter];refine ⟨?_, by simpa using rc⟩
   unfold roots;rw [List.mem_filter];refine ⟨gM.2 ⟨(hx x rc).1, (hx x rc).2⟩, ?_⟩
   have : ¬ x ∈ aW (l.take i) := fun q => hnd.2.2 x q x rc rfl
   simpa using this
  have h3 := ti (w := fun x : Int => Ib l x.toNat) (fun x => d.kids.contains x) (roots l i)
  have h4 := Pj hk hd
  rw [e1, ov, List.map_append, List.map_append, gN, gN];simp only [List.map_cons, List.map_nil, cF];rw [show ((i : Int)).toNat = i by omega, h4];omega
theorem Ov {l : List Nd} (hk : bl l) (hu : (aW l).Nodup) {i : Nat} (hi : i < l.length) : Ib l i <= l.length := by
 have h := zq hk hu (i + 1) hi
 have hm : (i : Int) ∈ roots l (i + 1) := by
  unfold roots;rw [List.mem_filter];refine ⟨gM.2 ⟨by omega, by omega⟩, ?_⟩
  have : ¬ (i : Int) ∈ aW (l.take (i + 1)) := by
   intro hx
   obtain ⟨j, e, he, GD⟩ := jt.1 hx
   rw [List.getElem?_take] at he
   split at he
   ·have := hk j e he _ GD; omega
   ·cases he
  simpa using this
 have h1 := kR (w := fun x : Int => Ib l x.toNat) (a := [(i : Int)]) (b := roots l (i + 1)) (by simp) fun x hx => by rw [xu.1 hx]; exact hm
 have h2 : ∀ k : List Nd, cF (k.map OA) = k.length := by
  intro k
  induction k with
  | nil => rfl
  | cons d k ih => simp only [List.map_cons, cF, List.length_cons, ih, OA]; omega
 rw [h2, List.length_take] at h;simp only [List.map_cons, List.map_nil, cF] at h1;rw [show ((i : Int)).toNat = i by omega] at h1;omega
end
section
def wh (o : Nat) (d : Nd) : Nd := { d with kids := d.kids.map (· + (o : Int)), nl := d.kids.isEmpty }
def mS (a : List Nd × List Int) (p : List Nd) : List Nd × List Int := (a.1 ++ p.map (wh a.1.length), a.2 ++ [((a.1.length + p.length : Nat) : Int) - 1])
def oF (d : Nd) (R : List Int) : Nd := { d with kids := R, nl := R.isEmpty }
def cA (l : List Nd) : Nat -> Nat -> List Nd
 | 0, _ => []
 | f + 1, i => match l[i]? with
  | none => []
  | some d =>
   let r := d.kids.foldl (fun a x => mS a (cA l f x.toNat)) ([], [])
   r.1 ++ [oF d r.2]
def Jr (k : Int) (c : List Int) : Prop :=
 if k = 5 \/ k = 8 \/ k = 14 then c.length = 2 /\ (2 <= c.length /\ ∀ x ∈ c.take 2, lG x)
 else if k = 6 \/ k = 7 \/ k = 9 \/ k = 10 \/ k = 12 \/ k = 13 \/ k = 20 \/ k = 21 then c.length = 1 /\ (1 <= c.length /\ ∀ x ∈ c.take 1, lG x)
 else if k = 11 then c.length <= 8 /\ (c.length <= c.length /\ ∀ x ∈ c.take c.length, lG x)
 else if k = 15 then ((1 <= c.length /\ ∀ x ∈ c.take 1, lG x) /\ 2 <= c.length) /\ ((∀ x ∈ c.drop 1, x = 23) /\ (c.drop 1).length <= 2)
 else if k = 16 then ((1 <= c.length /\ ∀ x ∈ c.take 1, lG x) /\ c.length = 2) /\ ((∀ x ∈ c.drop 1, x = 23) /\ (c.drop 1).length <= 1)
 else if k = 17 then ((2 <= c.length /\ ∀ x ∈ c.take 2, lG x) /\ c.length = 3) /\ ((∀ x ∈ c.drop 2, x = 23) /\ (c.drop 2).length <= 1)
 else if k = 22 then c.length = 1 /\ ∀ x ∈ c, x = 11
 else if k = 23 then ∀ x ∈ c, pP x
 else if k = 25 then (1 <= c.length /\ ((∀ x ∈ c.take (c.length - 1), x = 24) /\ (c.take (c.length - 1)).length <= 8)) /\ ∀ x ∈ c.getLast?, x = 23
 else if k = 26 then (∀ x ∈ c, x = 25) /\ c.length <= 200
 else c.length = 0
theorem rU {l : List Nd} {d : Nd} : bY l d ↔ Jr d.kind (d.kids.map (kindOf l)) := by
 unfold bY Jr ja oG;simp only [List.length_map, <- List.map_take, <- List.map_drop, List.getLast?_map, List.mem_map, forall_exists_index, and_imp, forall_apply_eq_imp_iff₂, Option.mem_def, fG]
theorem oe {l l' : List Nd} {d d' : Nd} (hk : d'.kind = d.kind) (h : d'.kids.map (kindOf l') = d.kids.map (kindOf l)) (hd : bY l d) : bY l' d' := by
 rw [rU, hk, h, <- rU]; exact hd
theorem mJ {F G : List Nd} {x : Int} (h : 0 <= x /\ x < (F.length : Int)) : kindOf (F ++ G) x = kindOf F x := by
 unfold kindOf; rw [rB (by omega)]
theorem wH {F G : List Nd} {x : Int} (h : 0 <= x) : kindOf (F ++ G.map (wh F.length)) (x + (F.length : Int)) = kindOf G x := by
 unfold kindOf;rw [qJ (by omega), show (x + (F.length : Int)).toNat - F.length = x.toNat by omega, List.getElem?_map]
 cases G[x.toNat]? <;> rfl
theorem ub {F G : List Nd} (hF : bl F) (hG : ∀ (j : Nat) (d : Nd), G[j]? = some d -> ∀ x ∈ d.kids, 0 <= x /\ x < ((F.length + j : Nat) : Int)) : bl (F ++ G) := by
 intro i d hd x hx
 by_cases h : i < F.length
 ·rw [rB h] at hd; exact hF i d hd x hx
 ·rw [qJ (by omega)] at hd
  have := hG _ d hd x hx
  omega
theorem q8 {F G : List Nd} (hF : bl F) (hG : bl G) : bl (F ++ G.map (wh F.length)) := by
 refine ub hF fun j d hd x hx => ?_
 rw [List.getElem?_map] at hd
 cases hg : G[j]? with
 | none => rw [hg] at hd; cases hd
 | some e =>
  rw [hg] at hd; cases hd
  obtain ⟨y, hy, rfl⟩ := List.mem_map.1 hx
  have := hG j e hg y hy
  omega
theorem y7 {F G : List Nd} : (F ++ G).take F.length = F := List.take_left
theorem Ad {F G : List Nd} (hF : bl F) {y : Nat} (hy : y < F.length) : bm (F ++ G) y = bm F y := by
 have h := mM (l := F ++ G) (i := F.length) hy (by rw [y7]; exact hF)
 rw [y7] at h; exact h.symm
theorem y6 {F G : List Nd} (hF : bl F) (hFG : bl (F ++ G)) : ∀ y, y < F.length -> br (F ++ G) y = br F y := by
 intro y
 induction y using Nat.strongRecOn with
 | _ y ih =>
  intro hy
  have hd : F[y]? = some F[y] := ij hy
  have hd2 : (F ++ G)[y]? = some F[y] := by rw [rB hy]; exact hd
  rw [iS hF hd, iS hFG hd2]
  congr 1
  refine List.map_congr_left fun x hx => ?_
  have := hF y _ hd x hx
  exact ih x.toNat (by omega) (by omega)
theorem mZ {f g : Int -> Nat} : ∀ (ks : List Int) (a : Nat), (∀ x ∈ ks, f x = g x) -> ks.foldl (fun h x => max h (1 + f x)) a = ks.foldl (fun h x => max h (1 + g x)) a
 | [], a, _ => rfl
 | x :: ks, a, h => by
  rw [List.foldl_cons, List.foldl_cons, h x (by simp)];exact mZ ks _ fun y hy => h y (by simp [hy])
theorem Is {F G : List Nd} {j : Nat} {d : Nd} (hd : G[j]? = some d) : (F ++ G.map (wh F.length))[F.length + j]? = some (wh F.length d) := by
 rw [qJ (by omega), show F.length + j - F.length = j by omega, List.getElem?_map, hd]; rfl
theorem MU {F G : List Nd} (hF : bl F) (hG : bl G) : ∀ j, j < G.length -> bm (F ++ G.map (wh F.length)) (F.length + j) = bm G j := by
 intro j
 induction j using Nat.strongRecOn with
 | _ j ih =>
  intro hj
  have hd : G[j]? = some G[j] := ij hj
  rw [jU hG hd, jU (q8 hF hG) (Is hd)]
  show (List.map _ _).foldl _ _ = _
  rw [List.foldl_map];refine mZ _ _ fun x hx => ?_
  have := hG j _ hd x hx
  rw [show (x + (F.length : Int)).toNat = F.length + x.toNat by omega];exact ih x.toNat (by omega) (by omega)
theorem LG {F G : List Nd} (hF : bl F) (hG : bl G) : ∀ j, j < G.length -> br (F ++ G.map (wh F.length)) (F.length + j) = br G j := by
 intro j
 induction j using Nat.strongRecOn with
 | _ j ih =>
  intro hj
  have hd : G[j]? = some G[j] := ij hj
  rw [iS hG hd, iS (q8 hF hG) (Is hd)];have e : ∀ ks, fN (wh F.length G[j]) ks = fN G[j] ks := fun _ => rfl
  rw [e]
  congr 1
  show (List.map _ (List.map _ _)) = _
  rw [List.map_map];refine List.map_congr_left fun x hx => ?_
  have := hG j _ hd x hx
  show br _ (x + (F.length : Int)).toNat = _
  rw [show (x + (F.length : Int)).toNat = F.length + x.toNat by omega];exact ih x.toNat (by omega) (by omega)
structure pA (l F : List Nd) (R ks : List Int) : Prop where
 lt : bl F
 nd : ∀ d ∈ F, lL d /\ bY F d
 perm : (aW F ++ R).Perm (upto F.length)
 len : R.length = ks.length
 root : ∀ (m : Nat) (x k : Int), R[m]? = some x -> ks[m]? = some k -> kindOf F x = kindOf l k /\ bm F x.toNat = bm l k.toNat /\ br F x.toNat = br l k.toNat
theorem pA.valid {l F : List Nd} {R ks : List Int} (h : pA l F R ks) {x : Int} (hx : x ∈ R) : 0 <= x /\ x < (F.length : Int) :=
 gM.1 (h.perm.mem_iff.1 (List.mem_append_right _ hx))
theorem vT (F G : List Nd) : aW (F ++ G) = aW F ++ aW G := by unfold aW; rw [List.map_append, List.flatten_append]
theorem yZ (o : Nat) : ∀ G : List Nd, aW (G.map (wh o)) = (aW G).map (· + (o : Int))
 | [] => rfl
 | d :: G => by
  have h := yZ o G
  unfold aW at *
  simp only [List.map_cons, List.flatten_cons, List.map_append, h]
  rfl
theorem HN (n m : Nat) : upto n ++ (upto m).map (· + (n : Int)) = upto (n + m) := by
 unfold upto;rw [List.range_add, List.map_append, List.map_map, List.map_map]
 congr 1
 refine List.map_congr_left fun a _ => ?_
 show (a : Int) + (n : Int) = ((n + a : Nat) : Int)
 omega
theorem pA.Xy {l F G : List Nd} {R R' ks XR : List Int} (h : pA l F R ks) (h' : pA l G R' XR) : pA l (F ++ G.map (wh F.length)) (R ++ R'.map (· + (F.length : Int))) (ks ++ XR) := by
 have aP := q8 h.lt h'.lt
 refine ⟨aP, fun d hd => ?_, ?_, by rw [kE, kE, List.length_map, h.len, h'.len], fun m x k hx hk => ?_⟩
 ·rcases nY.1 hd with hd | hd
  ·refine ⟨(h.nd d hd).1, oe rfl (List.map_congr_left fun x hx => ?_) (h.nd d hd).2⟩
   obtain ⟨i, hi⟩ := List.mem_iff_getElem?.1 hd
   have := h.lt i d hi x hx
   have := (kO.1 hi).1
   exact mJ (by omega)
  ·obtain ⟨e, he, rfl⟩ := List.mem_map.1 hd
   refine ⟨(h'.nd e he).1, oe (d := e) rfl ?_ (h'.nd e he).2⟩
   show List.map _ (List.map _ _) = _
   rw [List.map_map];refine List.map_congr_left fun x hx => ?_
   obtain ⟨i, hi⟩ := List.mem_iff_getElem?.1 he
   have := h'.lt i e hi x hx
   exact wH this.1
 ·rw [vT, yZ, kE, List.length_map, <- HN]
  have p1 : ((aW F ++ (aW G).map (· + (F.length : Int))) ++ (R ++ R'.map (· + (F.length : Int)))).Perm ((aW F ++ R) ++ ((aW G).map (· + (F.length : Int)) ++ R'.map (· + (F.length : Int)))) := by
   rw [List.append_assoc, List.append_assoc];refine List.Perm.append_left _ ?_
   rw [<- List.append_assoc, <- List.append_assoc];exact List.Perm.append_right _ List.perm_append_comm
  refine p1.trans (h.perm.append ?_)
  rw [<- List.map_append];exact h'.perm.map _
 ·by_cases hm : m < R.length
  ·rw [rB hm] at hx
   rw [rB (by rw [<- h.len]; exact hm)] at hk
   obtain ⟨a, b, c⟩ := h.root m x k hx hk
   have v := h.valid (List.mem_of_getElem? hx)
   exact ⟨(mJ v).trans a, (Ad h.lt (by omega)).trans b, (y6 h.lt aP _ (by omega)).trans c⟩
  ·rw [qJ (by omega), List.getElem?_map] at hx
   rw [qJ (by rw [<- h.len]; omega), <- h.len] at hk
   cases hy : R'[m - R.length]? with
   | none => rw [hy] at hx; cases hx
   | some y =>
    rw [hy] at hx; cases hx
    obtain ⟨a, b, c⟩ := h'.root _ y k hy hk
    have v := h'.valid (List.mem_of_getElem? hy)
    have e : (y + (F.length : Int)).toNat = F.length + y.toNat := by omega
    refine ⟨(wH v.1).trans a, ?_, ?_⟩
    ·rw [e]; exact (MU h.lt h'.lt _ (by omega)).trans b
    ·rw [e]; exact (LG h.lt h'.lt _ (by omega)).trans c
theorem xO {α : Type} {R ks : List Int} {f g : Int -> α} (hl : R.length = ks.length) (h : ∀ (m : Nat) (x k : Int), R[m]? = some x -> ks[m]? = some k -> f x = g k) : R.map f = ks.map g := by
 refine List.ext_getElem? fun m => ?_
 rw [List.getElem?_map, List.getElem?_map];by_cases hm : m < R.length
 ·have q1 : R[m]? = some R[m] := ij hm
  have q2 : ks[m]? = some ks[m] := ij (by omega)
  rw [q1, q2, Option.map_some, Option.map_some, h m _ _ q1 q2]
 ·rw [List.getElem?_eq_none (by omega), List.getElem?_eq_none (by omega)]; rfl
theorem pA.nil {l : List Nd} : pA l [] [] [] := ⟨fun i d h => (by simp at h), fun d h => (by cases h), .refl _, rfl, fun m x k h => (by simp at h)⟩
theorem pA.node {l F : List Nd} {R : List Int} {d : Nd} {i : Nat} (hk : bl l) (hd : l[i]? = some d) (ho : lL d /\ bY l d) (h : pA l F R d.kids) : pA l (F ++ [oF d R]) [(F.length : Int)] [(i : Int)] := by
 have P4 : R.map (kindOf (F ++ [oF d R])) = d.kids.map (kindOf l) := xO h.len fun m x k q1 q2 => by
  rw [mJ (h.valid (List.mem_of_getElem? q1)), (h.root m _ _ q1 q2).1]
 have aP : bl (F ++ [oF d R]) := ub h.lt fun j e he x hx => by
  cases j with
  | zero =>
   simp only [List.getElem?_cons_zero, aQ] at he;subst he;have := h.valid (x := x) hx
   omega
  | succ j => simp at he
 have hg : (F ++ [oF d R])[F.length]? = some (oF d R) := by rw [qJ (ee _), Nat.sub_self]; rfl
 refine ⟨aP, fun e he => ?_, ?_, rfl, fun m x k hx Bp => ?_⟩
 ·rcases nY.1 he with he | he
  ·refine ⟨(h.nd e he).1, oe rfl (List.map_congr_left fun x hx => ?_) (h.nd e he).2⟩
   obtain ⟨j, hj⟩ := List.mem_iff_getElem?.1 he
   have := h.lt j e hj x hx
   have := (kO.1 hj).1
   exact mJ (by omega)
  ·rw [xu.1 he]
   exact ⟨ho.1, oe (d := d) rfl P4 ho.2⟩
 ·have e : aW [oF d R] = R := by unfold aW; simp [oF]
  rw [vT, e, kE, List.length_singleton];have : upto (F.length + 1) = upto F.length ++ [(F.length : Int)] := by unfold upto; rw [List.range_succ, List.map_append]; rfl
  rw [this];exact h.perm.append (.refl _)
 ·cases m with
  | succ m => simp at hx
  | zero =>
   simp only [List.getElem?_cons_zero, aQ] at hx Bp;subst hx; subst Bp
   have e1 : ((F.length : Int)).toNat = F.length := by omega
   have e2 : ((i : Int)).toNat = i := by omega
   rw [e1, e2];refine ⟨?_, ?_, ?_⟩
   ·unfold kindOf; rw [e1, e2, hg, hd]; rfl
   ·rw [jU aP hg, jU hk hd]
    show R.foldl _ 1 = _
    have key : R.map (fun x => bm (F ++ [oF d R]) x.toNat) = d.kids.map (fun x => bm l x.toNat) := xO h.len fun m x k q1 q2 => by
     have v := h.valid (List.mem_of_getElem? q1)
     rw [Ad h.lt (by omega), (h.root m _ _ q1 q2).2.1]
    have f1 : ∀ (ks : List Int) (w : Int -> Nat) (a : Nat), ks.foldl (fun h x => max h (1 + w x)) a = (ks.map w).foldl (fun h y => max h (1 + y)) a := fun ks w a => by rw [List.foldl_map]
    rw [f1 R (fun x => bm (F ++ [oF d R]) x.toNat), f1 d.kids (fun x => bm l x.toNat), key]
   ·rw [iS aP hg, iS hk hd]
    have e : ∀ ks, fN (oF d R) ks = fN d ks := fun _ => rfl
    rw [e]
    congr 1
    refine xO h.len fun m x k q1 q2 => ?_
    have v := h.valid (List.mem_of_getElem? q1)
    rw [y6 h.lt aP _ (by omega), (h.root m _ _ q1 q2).2.2]
theorem sR {l : List Nd} (hk : bl l) (ho : ∀ d ∈ l, lL d /\ bY l d) : ∀ (f i : Nat), i < f -> i < l.length -> pA l (cA l f i) [((cA l f i).length : Int) - 1] [(i : Int)] /\ (cA l f i).length = so l f i /\ 0 < (cA l f i).length
 | 0, i, h, _ => by omega
 | f + 1, i, h, hi => by
  have hd : l[i]? = some l[i] := ij hi
  have hm := oU hi
  generalize l[i] = d at *
  have key : ∀ (ks : List Int), (∀ x ∈ ks, 0 <= x /\ x < (i : Int)) -> ∀ (a : List Nd × List Int) (k0 : List Int), pA l a.1 a.2 k0 -> pA l (ks.foldl (fun a x => mS a (cA l f x.toNat)) a).1 (ks.foldl (fun a x => mS a (cA l f x.toNat)) a).2 (k0 ++ ks) /\ (ks.foldl (fun a x => mS a (cA l f x.toNat)) a).1.length = a.1.length + cF (ks.map fun x => so l f x.toNat) := by
   intro ks
   induction ks with
   | nil => intro _ a k0 h; rw [List.append_nil]; exact ⟨h, rfl⟩
   | cons x ks ih =>
    intro hx a k0 ha
    have h1 := hx x (by simp)
    obtain ⟨p1, p2, p3⟩ := sR hk ho f x.toNat (by omega) (by omega)
    have e : (((x.toNat : Nat) : Int)) = x := by omega
    rw [e] at p1;have h2 := ha.Xy p1
    have e2 : mS a (cA l f x.toNat) = (a.1 ++ (cA l f x.toNat).map (wh a.1.length), a.2 ++ [((cA l f x.toNat).length : Int) - 1].map (· + (a.1.length : Int))) := by
     unfold mS;simp only [List.map_cons, List.map_nil, kj, List.append_cancel_left_eq, List.cons.injEq, and_true, true_and];omega
    obtain ⟨q1, q2⟩ := ih (fun y hy => hx y (by simp [hy])) (mS a (cA l f x.toNat)) (k0 ++ [x]) (by rw [e2]; exact h2)
    rw [List.foldl_cons];refine ⟨by rw [List.append_assoc] at q1; exact q1, ?_⟩
    rw [q2, e2];simp only [kE, List.length_map, List.map_cons, cF, p2];omega
  obtain ⟨q1, q2⟩ := key d.kids (fun x hx => hk i d hd x hx) ([], []) [] .nil
  have e1 : cA l (f + 1) i = (d.kids.foldl (fun a x => mS a (cA l f x.toNat)) ([], [])).1 ++ [oF d (d.kids.foldl (fun a x => mS a (cA l f x.toNat)) ([], [])).2] := by
   rw [cA]; simp only [hd]
  have e2 : so l (f + 1) i = OA d + cF (d.kids.map fun x => so l f x.toNat) := by rw [so]; simp only [hd]
  have h3 := pA.node hk hd (ho d hm) q1
  have e3 : (cA l (f + 1) i).length = (d.kids.foldl (fun a x => mS a (cA l f x.toNat)) ([], [])).1.length + 1 := by rw [e1, kE]; rfl
  refine ⟨?_, ?_, by omega⟩
  ·rw [e3, e1, show ((((d.kids.foldl (fun a x => mS a (cA l f x.toNat)) ([], [])).1.length + 1 : Nat) : Int) - 1) = ((d.kids.foldl (fun a x => mS a (cA l f x.toNat)) ([], [])).1.length : Int) by omega]
   exact h3
  ·rw [e3, e2, q2]
   simp only [List.length_nil, OA]; omega
def eX (l : List Nd) (i : Nat) : List Nd := cA l (i + 1) i
theorem o0 {l : List Nd} (hr : ef l) {i : Nat} (hi : i < l.length) : ef (eX l i) /\ (eX l i).length <= l.length /\ bm (eX l i) ((eX l i).length - 1) = bm l i /\ br (eX l i) ((eX l i).length - 1) = br l i := by
 obtain ⟨p1, p2, p3⟩ := sR hr.1.1 hr.1.2.2 (i + 1) i (by omega) hi
 have lU := Ov hr.1.1 hr.1.2.1 hi
 have hh := ((jH.1 hr).1.1 i _ hi (ij hi)).2.2
 obtain ⟨a, b, c⟩ := p1.root 0 _ _ rfl rfl
 unfold eX;generalize cA l (i + 1) i = P at *
 have e1 : ((P.length : Int) - 1).toNat = P.length - 1 := by omega
 have e2 : ((i : Int)).toNat = i := by omega
 rw [e1, e2] at b c;have hl := p1.perm.length_eq
 rw [kE, pJ] at hl;simp only [List.length_cons, List.length_nil] at hl;refine ⟨⟨⟨p1.lt, (List.nodup_append.1 (p1.perm.nodup_iff.2 oV)).1, p1.nd⟩, p3, by omega, by rw [b]; exact hh⟩, ?_, b, c⟩
 have : Ib l i = so l (i + 1) i := rfl
 omega
end
section
theorem Em (a : List Int) (x : Int) : is (a ++ [x]) = is a ++ [.int .i64 x] := by simp [is]
theorem tA {f : Fr} {a k : Nat} {v : EV} (h : k < a) : (f.set a v).get k = f.get k := by
 rw [ux];have : (k == a) = false := by simp; omega
 rw [this]; exact B6
def NY (m : Mem) (N j : Nat) (B : cY) : Mem := ⟨nb m.next N, (ext ⟨m.next + j, (bump m N).kl⟩ [B]).kl⟩
theorem mo {m : Mem} {N j : Nat} {B : cY} : (NY m N j B).next = nb m.next N := rfl
theorem yw {m : Mem} {N j c : Nat} {B : cY} (hc : c < m.next) : (NY m N j B).get c = m.get c :=
 (cC (m := ⟨m.next + j, (bump m N).kl⟩) (xs := [B]) (show c < m.next + j by omega)).trans rfl
theorem NX {m : Mem} {N j : Nat} {B : cY} : (NY m N j B).get (nb (m.next + j) 0) = B :=
 (bS (m := ⟨m.next + j, (bump m N).kl⟩) (i := 0) rfl (by simp)).trans rfl
theorem Me {xs : List Nv} {j : Nat} {x : Nv} (hx : xs[j]? = some x) {pb ob o tp xb : Nat} {pcap ocap : Option Nat} {m0 : Mem} {fr : Fr} {c0 c2 c3 c4 : EV} (CH : xs.length < 100000) (ho : o < 100000) (qf : x.d.kids.length < 100000) (P4 : ∀ y ∈ x.d.kids, 0 <= y /\ y < 100000)
  (hp : m0.get pb = .cells (iq xs) 5 tp false) (Bo : pb < m0.next) (Zs : m0.get xb = .cells [c0, .aa, c2, c3, c4] 5 aL false) (Lm : xb < m0.next) (iv : pb ≠ xb) (hk : j6 m0 x.d x.kv) (Z3 : lT x.kv xb)
  (h5 : fr.get 5 = .slice ob 0 o ocap) (h8 : fr.get 8 = .slice pb 0 xs.length pcap) (h9 : fr.get 9 = .int .i64 (j : Int)) (TT : fr.get 10 = .ptr xb 0) (TS : fr.get 11 = .int .i64 0) (hd : fr.defers = []) :
  ∃ oo, exec A1 (.loop eP) fr m0 = some oo /\ ∃ fr' m' kv, oo = .exit 4 fr' m' /\ m'.get xb = .cells [c0, kv, c2, c3, c4] 5 aL false /\ jJ m' kv (is (x.d.kids.map (· + (o : Int)))) x.d.kids.length 1 m0.next /\ (x.d.kids = [] -> kv = .aa) /\ m0.next <= m'.next /\ (∀ c, c < m0.next -> c ≠ xb -> m'.get c = m0.get c) /\ (∀ k, k < 11 -> fr'.get k = fr.get k) /\ fr'.defers = [] := by
 have qj := zH hx
 obtain ⟨hj, _⟩ := kO.1 hx
 refine dF (σ := Nat) (fun i f m => i <= x.d.kids.length /\ (∃ kv, m.get xb = .cells [c0, kv, c2, c3, c4] 5 aL false /\ jJ m kv (is ((x.d.kids.take i).map (· + (o : Int)))) i 1 m0.next /\ (i = 0 -> kv = .aa)) /\ m0.next <= m.next /\ (∀ c, c < m0.next -> c ≠ xb -> m.get c = m0.get c) /\ f.get 11 = .int .i64 (i : Int) /\ (∀ k, k < 11 -> f.get k = fr.get k) /\ f.defers = []) (fun i => x.d.kids.length - i) _ ?_ 0 fr m0
  ⟨pF _, ⟨.aa, Zs, ⟨.inl ⟨rfl, rfl, rfl⟩, rfl⟩, fun _ => rfl⟩, ee _, fun _ _ _ => rfl, TS, fun _ _ => rfl, hd⟩
 rintro i f m ⟨hi, ⟨kv, gx, eS, hz⟩, hn, JV, TS, hr, hd⟩
 have r5 := (hr 5 (by omega)).trans h5
 have r8 := (hr 8 (by omega)).trans h8
 have r9 := (hr 9 (by omega)).trans h9
 have Y1 := (hr 10 (by omega)).trans TT
 have gp := (JV pb Bo iv).trans hp
 have pl : pb < m.next := by omega
 have xl : xb < m.next := by omega
 have iO : idx xs.length (.int .i64 (j : Int)) = some j := aA hj
 generalize hX : exec A1 eP f m = X
 by_cases aP : i < x.d.kids.length
 ·have hc : (i : Int) < (x.d.kids.length : Int) := by omega
  rcases hk.o.is with ⟨_, q, _⟩ | ⟨kb, kc, tk, YH, _, k2, k3, k4⟩
  ·omega
  have kx : kb ≠ xb := fun q => by
   have := Z3 kb 0 x.d.kids.length kc YH
   exact this q.symm
  have gk := (JV kb k2 kx).trans k3
  have l8 : (is x.d.kids)[i]? = some (.int .i64 x.d.kids[i]) := by unfold is; rw [List.getElem?_map, ij aP]; rfl
  have hb := P4 _ (oU aP)
  have ov : x.d.kids.take (i + 1) = x.d.kids.take i ++ [x.d.kids[i]] := List.take_succ_eq_append_getElem aP
  generalize x.d.kids[i] = y at *
  have hw := bL (i := i) (by omega)
  have Zt : IntKind.i64.wrap (y + (o : Int)) = y + (o : Int) := wrap_i64 (by omega) (by omega)
  have P6 : idx x.d.kids.length (.int .i64 (i : Int)) = some i := aA aP
  rw [YH] at qj;have c1 := qj.2.1
  have JN : jJ (NY m 17 13 (.cells [.int .i64 (y + (o : Int))] 1 3 false)) kv (is ((x.d.kids.take i).map (· + (o : Int)))) i 1 m0.next := eS.mono (by rw [mo]; exact p8) fun c hc => yw hc
  obtain ⟨ha, JQ⟩ := iA (e := 3) JN (by rw [mo]; unfold nb; omega) (n7 NX rfl (cap := some 1)) rfl (by decide) (by unfold room; omega)
  have TU : (grow (NY m 17 13 (.cells [.int .i64 (y + (o : Int))] 1 3 false)) kv 3 1 (is ((x.d.kids.take i).map (· + (o : Int))) ++ [.int .i64 (y + (o : Int))])).get xb = .cells [c0, kv, c2, c3, c4] 5 aL false := by
   rw [mb (by rw [mo]; unfold nb; omega) (eS.lt (.inr Lm)), yw xl]; exact gx
  have mY : ∀ c, c < m0.next -> (grow (NY m 17 13 (.cells [.int .i64 (y + (o : Int))] 1 3 false)) kv 3 1 (is ((x.d.kids.take i).map (· + (o : Int))) ++ [.int .i64 (y + (o : Int))])).get c = m.get c := fun c hc => by
   rw [mb (by rw [mo]; unfold nb; omega) (eS.lt (.inr hc)), yw (by omega)]
  have Q7 : (grow (NY m 17 13 (.cells [.int .i64 (y + (o : Int))] 1 3 false)) kv 3 1 (is ((x.d.kids.take i).map (· + (o : Int))) ++ [.int .i64 (y + (o : Int))])).next = nb m.next 18 := by rw [jB, mo, rN]
  generalize hG : grow (NY m 17 13 (.cells [.int .i64 (y + (o : Int))] 1 3 false)) kv 3 1 _ = M2 at ha JQ TU mY Q7
  clear hG;unfold NY at ha;have T5 : xb < M2.next := by rw [Q7]; unfold nb; omega
  simp +contextual -implicitDefEqProofs (maxSteps := 1000000) (maxDischargeDepth := 8) only [eP, r5, r8, r9, Y1, TS, hd, hc, hw, Zt, gp, pl, gx, xl, gk, l8, iO, P6, c1, ha, TU, T5, Nat.mul_one, aO, ag, implies_true, simprocAttr] at hX
  subst hX;refine cB (i + 1) (by omega) ⟨aP, ⟨_, fy, ?_, fun q => absurd q (by omega)⟩, by rw [cG, Q7]; exact vn hn p8, fun c hc Yt => by rw [bz Yt, mY c hc]; exact JV c hc Yt, by simp only [ai, Nat.reduceBEq ], fun k hk => ?_, by simp only [hd, ai, Nat.reduceBEq ]⟩
  ·rw [mo, rN, Nat.add_zero] at JQ
   have e1 : is ((x.d.kids.take (i + 1)).map (· + (o : Int))) = is ((x.d.kids.take i).map (· + (o : Int))) ++ [.int .i64 (y + (o : Int))] := by rw [ov, List.map_append]; exact Em _ _
   rw [e1];refine JQ.wI (by rw [cG]; exact ee _) fun c _ hc _ => bz (by omega)
  ·iterate 27 rw [tA (by omega)]
   exact hr k hk
 ·have hc : ¬ (i : Int) < (x.d.kids.length : Int) := by omega
  obtain rfl : i = x.d.kids.length := by omega
  rw [List.take_length] at eS;have hlen : ∀ M, xW x.kv M = some (.val (.int .i64 (x.d.kids.length : Int)) M) := fun M => by
   rcases hk.o.is with ⟨e, q, _⟩ | ⟨kb, kc, tk, e, _⟩
   ·rw [e, q]; rfl
   ·rw [e]; rfl
  have c1 := qj.2.1
  simp +contextual -implicitDefEqProofs (maxSteps := 1000000) (maxDischargeDepth := 8) only [eP, r8, r9, TS, hd, hc, gp, pl, iO, c1, hlen, Nat.mul_one, aO, ag, implies_true, simprocAttr] at hX
  subst hX;refine cN ⟨_, _, kv, rfl, gx, eS, fun q => hz (by rw [q]; rfl), hn, JV, fun k hk => ?_, by simp only [hd, ai, Nat.reduceBEq ]⟩
  iterate 8 rw [tA (by omega)]
  exact hr k hk
end
section
theorem Ck {ys r : List Nv} {x x' : Nv} {j : Nat} (hj : ys.length = j) : eG (iq (ys ++ x :: r)) (j * 5) x'.cells = some (iq (ys ++ x' :: r)) := by
 subst hj;have e : ∀ z : Nv, iq (ys ++ z :: r) = iq ys ++ (z.cells ++ iq r) := fun z => by rw [xG]; rfl
 have hl : (iq ys).length = ys.length * 5 := pU ys
 have hc : ∀ z : Nv, z.cells.length = 5 := fun _ => rfl
 unfold eG;rw [e x, hc x', lJ (by rw [kE, kE, hl, hc]; omega), cond_true, e x', <- hl, List.take_left]
 congr 1
 rw [List.append_assoc, List.drop_append, show (iq ys).length + 5 - (iq ys).length = 5 by omega, List.drop_eq_nil_of_le (by omega), List.nil_append]
 congr 2
theorem j6.iY {m m' : Mem} {d : Nd} {kv : EV} (h : j6 m d kv) (hn : m.next <= m'.next) (hk : ∀ c, c < m.next -> ¬ lT kv c -> m'.get c = m.get c) : j6 m' d kv :=
 ⟨h.o.wI hn fun c hc _ ho => hk c hc ho, h.nl, h.z⟩
theorem Md {xs : List Nv} {pb ob o tp : Nat} {pcap ocap : Option Nat} {m0 : Mem} {fr : Fr} (CH : xs.length < 100000) (ho : o < 100000) (qf : ∀ x ∈ xs, x.d.kids.length < 100000) (P4 : ∀ x ∈ xs, ∀ y ∈ x.d.kids, 0 <= y /\ y < 100000)
  (hp : m0.get pb = .cells (iq xs) 5 tp false) (Bo : pb < m0.next) (hk : ∀ x ∈ xs, j6 m0 x.d x.kv /\ lT x.kv pb)
  (h5 : fr.get 5 = .slice ob 0 o ocap) (h8 : fr.get 8 = .slice pb 0 xs.length pcap) (h9 : fr.get 9 = .int .i64 0) (hd : fr.defers = []) :
  ∃ oo, exec A1 (.loop eO) fr m0 = some oo /\ ∃ fr' m' ys, oo = .exit 2 fr' m' /\ ys.map Nv.d = xs.map (fun x => wh o x.d) /\ m'.get pb = .cells (iq ys) 5 tp false /\ (∀ y ∈ ys, j6 m' y.d y.kv /\ ∀ c, ¬ lT y.kv c -> m0.next <= c) /\ m0.next <= m'.next /\ (∀ c, c < m0.next -> c ≠ pb -> m'.get c = m0.get c) /\ (∀ k, k < 9 -> fr'.get k = fr.get k) /\ fr'.defers = [] := by
 refine dF (σ := Nat) (fun j f m => j <= xs.length /\ (∃ ys, ys.length = j /\ ys.map Nv.d = (xs.take j).map (fun x => wh o x.d) /\ m.get pb = .cells (iq (ys ++ xs.drop j)) 5 tp false /\ (∀ y ∈ ys, j6 m y.d y.kv /\ ∀ c, ¬ lT y.kv c -> m0.next <= c)) /\ m0.next <= m.next /\ (∀ c, c < m0.next -> c ≠ pb -> m.get c = m0.get c) /\ f.get 9 = .int .i64 (j : Int) /\ (∀ k, k < 9 -> f.get k = fr.get k) /\ f.defers = []) (fun j => xs.length - j) _ ?_ 0 fr m0
  ⟨pF _, ⟨[], rfl, rfl, hp, fun y hy => by cases hy⟩, ee _, fun _ _ _ => rfl, h9, fun _ _ => rfl, hd⟩
 rintro j f m ⟨hj, ⟨ys, yl, yd, gp, yk⟩, hn, JV, h9, hr, hd⟩
 have r5 := (hr 5 (by omega)).trans h5
 have r8 := (hr 8 (by omega)).trans h8
 have pl : pb < m.next := by omega
 generalize hX : exec A1 eO f m = X
 by_cases aP : j < xs.length
 ·have hc : (j : Int) < (xs.length : Int) := by omega
  have iO : idx xs.length (.int .i64 (j : Int)) = some j := aA aP
  have hw := bL (i := j) (by omega)
  have hdr : xs.drop j = xs[j] :: xs.drop (j + 1) := List.drop_eq_getElem_cons aP
  have ov : xs.take (j + 1) = xs.take j ++ [xs[j]] := List.take_succ_eq_append_getElem aP
  have hm := oU aP
  obtain ⟨k1, k2⟩ := hk _ hm
  have k3 := qf _ hm
  have k4 := P4 _ hm
  generalize xs[j] = x at *
  rw [hdr] at gp;have hx : (ys ++ x :: xs.drop (j + 1))[j]? = some x := by rw [qJ (by omega), yl, Nat.sub_self]; rfl
  have hl : (ys ++ x :: xs.drop (j + 1)).length = xs.length := by rw [kE, List.length_cons, Lv]; omega
  have TD := (zH hx).2.2.2.2.2
  have Zr : x.cells = [.int .i64 x.d.kind, x.kv, .int .i64 x.d.n, .str x.d.s, .int .i64 x.d.pos] := rfl
  rw [Zr] at TD;generalize hL : exec A1 (au.loop eP) = L
  simp +contextual -implicitDefEqProofs (maxSteps := 1000000) (maxDischargeDepth := 8) only [eO, r5, r8, h9, hd, hc, hw, gp, pl, iO, TD, Nat.mul_one, aO, ag, implies_true, simprocAttr] at hX
  subst hL;generalize hC : exec A1 (.loop eP) _ _ = C at hX
  have en : (ext m [cY.cells [EV.int IntKind.i64 x.d.kind, EV.aa, EV.int IntKind.i64 x.d.n, EV.str x.d.s, EV.int IntKind.i64 x.d.pos] 5 aL false]).next = nb m.next 1 := by rw [b8]; rfl
  have eo : ∀ c, c < m.next -> (ext m [cY.cells [EV.int IntKind.i64 x.d.kind, EV.aa, EV.int IntKind.i64 x.d.n, EV.str x.d.s, EV.int IntKind.i64 x.d.pos] 5 aL false]).get c = m.get c := fun c hc => cC hc
  have ex : (ext m [cY.cells [EV.int IntKind.i64 x.d.kind, EV.aa, EV.int IntKind.i64 x.d.n, EV.str x.d.s, EV.int IntKind.i64 x.d.pos] 5 aL false]).get (nb m.next 0) = cY.cells [EV.int IntKind.i64 x.d.kind, EV.aa, EV.int IntKind.i64 x.d.n, EV.str x.d.s, EV.int IntKind.i64 x.d.pos] 5 aL false := (bS (i := 0) rfl (by simp)).trans rfl
  generalize ext m [cY.cells [EV.int IntKind.i64 x.d.kind, EV.aa, EV.int IntKind.i64 x.d.n, EV.str x.d.s, EV.int IntKind.i64 x.d.pos] 5 aL false] = M1 at *
  have Zc : nb m.next 0 = m.next := rfl
  have Zb : nb m.next 1 = m.next + 1 := rfl
  have kM : j6 M1 x.d x.kv := k1.iY (by omega) fun c hc vj => by rw [eo c (by omega)]; exact JV c hc fun q => vj (q ▸ k2)
  obtain ⟨oo, rfl, fr', m', kv, rfl, q1, q2, q3, q4, q5, q6, qd⟩ := cw hC (Me (xs := ys ++ x :: xs.drop (j + 1)) hx (o := o) (ob := ob) (tp := tp) (pb := pb) (xb := nb m.next 0) (pcap := pcap) (ocap := ocap) (by omega) ho k3 k4 (by rw [eo pb pl]; exact gp) (by omega) ex (by omega) (by omega) kM (k1.o.lt (.inl (by omega)))
   (by simp only [r5, ai, Nat.reduceBEq ]) (by rw [hl]; simp only [r8, ai, Nat.reduceBEq ]) (by simp only [h9, ai, Nat.reduceBEq ]) (by simp only [ai, Nat.reduceBEq ]) (by simp only [ai, Nat.reduceBEq ]) (by simp only [hd, ai, Nat.reduceBEq ]))
  clear hC;have f8 := q6 8 (by omega)
  have f9 := q6 9 (by omega)
  have f10 := q6 10 (by omega)
  simp only [r8, h9, ai, Nat.reduceBEq ] at f8 f9 f10;have gp2 := (q5 pb (by omega) (by omega)).trans ((eo pb pl).trans gp)
  have Yj := Ck (r := xs.drop (j + 1)) (x := x) (x' := ⟨wh o x.d, kv⟩) yl
  have VB : Nv.cells ⟨wh o x.d, kv⟩ = [.int .i64 x.d.kind, kv, .int .i64 x.d.n, .str x.d.s, .int .i64 x.d.pos] := rfl
  rw [VB] at Yj;have Zu : Rk m' pb (j * 5) [.int .i64 x.d.kind, kv, .int .i64 x.d.n, .str x.d.s, .int .i64 x.d.pos] (.cells (iq (ys ++ x :: xs.drop (j + 1))) 5 tp false) = some (m'.set pb (.cells (iq (ys ++ (⟨wh o x.d, kv⟩ : Nv) :: xs.drop (j + 1))) 5 tp false)) := by
   unfold Rk; simp only [Yj, cond_false, Option.map_some]
  have T5 : nb m.next 0 < m'.next := by omega
  have Y2 : pb < m'.next := by omega
  simp +contextual -implicitDefEqProofs (maxSteps := 1000000) (maxDischargeDepth := 8) only [f8, f9, f10, qd, q1, gp2, iO, Zu, hw, T5, Y2, Nat.mul_one, aO, ag, implies_true, simprocAttr] at hX
  subst hX;have YV : ∀ y ∈ ys ++ [⟨wh o x.d, kv⟩], j6 (m'.set pb (.cells (iq (ys ++ (⟨wh o x.d, kv⟩ : Nv) :: xs.drop (j + 1))) 5 tp false)) y.d y.kv /\ ∀ c, ¬ lT y.kv c -> m0.next <= c := by
   intro y hy
   rcases nY.1 hy with hy | hy
   ·obtain ⟨a, b⟩ := yk y hy
    refine ⟨a.iY (by rw [cG]; omega) fun c hc vj => ?_, b⟩
    have := b c vj
    have := a.o.nw vj
    rw [bz (by omega), q5 c (by omega) (by omega), eo c (by omega)]
   ·rw [xu.1 hy]
    refine ⟨⟨?_, by show x.d.kids.isEmpty = (x.d.kids.map _).isEmpty; cases x.d.kids <;> rfl, fun q => q3 (List.map_eq_nil_iff.1 q)⟩, fun c vj => by have := q2.nw vj; omega⟩
    have : jJ (m'.set pb (.cells (iq (ys ++ (⟨wh o x.d, kv⟩ : Nv) :: xs.drop (j + 1))) 5 tp false)) kv (is (x.d.kids.map (· + (o : Int)))) x.d.kids.length 1 M1.next := q2.wI (by rw [cG]; exact ee _) fun c _ hc _ => bz (by omega)
    have e : (x.d.kids.map (· + (o : Int))).length = x.d.kids.length := List.length_map ..
    show jJ _ kv (is (x.d.kids.map (· + (o : Int)))) (x.d.kids.map (· + (o : Int))).length 1 0
    rw [e]; exact this.XQ
  refine cB (j + 1) (by omega) ⟨aP, ⟨ys ++ [⟨wh o x.d, kv⟩], by rw [kE, yl]; rfl, by rw [List.map_append, yd, ov, List.map_append]; rfl, ?_, YV⟩, by rw [cG]; omega, fun c hc Yu => ?_, by simp only [ai, Nat.reduceBEq ], fun k hk => ?_, by simp only [qd, ai, Nat.reduceBEq ]⟩
  ·rw [fy, List.append_assoc]; rfl
  ·rw [bz Yu, q5 c (by omega) (by omega), eo c (by omega)]; exact JV c hc Yu
  ·iterate 7 rw [tA (by omega)]
   rw [q6 k (by omega)]
   iterate 11 rw [tA (by omega)]
   exact hr k hk
 ·have hc : ¬ (j : Int) < (xs.length : Int) := by omega
  obtain rfl : j = xs.length := by omega
  simp +contextual -implicitDefEqProofs (maxSteps := 1000000) (maxDischargeDepth := 8) only [eO, r8, h9, hd, hc, aO, ag, implies_true, simprocAttr] at hX
  subst hX;rw [List.drop_length, List.append_nil] at gp;rw [List.take_length] at yd;refine cN ⟨_, _, ys, rfl, yd, gp, yk, hn, JV, fun k hk => ?_, by simp only [hd, ai, Nat.reduceBEq ]⟩
  iterate 4 rw [tA (by omega)]
  exact hr k hk
end
section
def py (l : List Nd) (f : Nat) (ks : List Int) : List Nd × List Int := ks.foldl (fun a x => mS a (cA l f x.toNat)) ([], [])
theorem xn {l : List Nd} {f : Nat} {ks : List Int} {y : Int} : py l f (ks ++ [y]) = mS (py l f ks) (cA l f y.toNat) := by
 unfold py; rw [List.foldl_append]; rfl
theorem Bi {l : List Nd} {f : Nat} : ∀ (n : Nat) (ks : List Int), ks.length = n -> (py l f ks).1.length = cF (ks.map fun x => (cA l f x.toNat).length) /\ (py l f ks).2.length = ks.length
 | 0, ks, h => by rw [List.eq_nil_of_length_eq_zero h]; exact ⟨rfl, rfl⟩
 | n + 1, ks, h => by
  have iv : ks ≠ [] := fun q => by rw [q] at h; simp at h
  rw [<- List.dropLast_concat_getLast iv, xn];obtain ⟨h1, h2⟩ := Bi (l := l) (f := f) n ks.dropLast (by simp [h])
  unfold mS;simp only [kE, List.length_map, h1, h2, List.map_append, gN, List.map_cons, List.map_nil, cF, List.length_cons, List.length_nil];exact ⟨by omega, trivial⟩
theorem tK {l : List Nd} {f i : Nat} {d : Nd} (hd : l[i]? = some d) : cA l (f + 1) i = (py l f d.kids).1 ++ [oF d (py l f d.kids).2] := by
 rw [cA]; simp only [hd]; rfl
structure Hw (m : Mem) (v5 rv : EV) (bx lo : Nat) (d : Nd) (xs : List Nv) (R : List Int) : Prop where
 o5 : jJ m v5 (iq xs) xs.length 5 lo
 OB : jJ m rv (is R) R.length 1 lo
 rz : R = [] -> rv = .aa
 gx : m.get bx = .cells [.int .i64 d.kind, rv, .int .i64 d.n, .str d.s, .int .i64 d.pos] 5 aL false
 lx : lo <= bx /\ bx < m.next
 x5 : lT v5 bx
 xr : lT rv bx
 vr : ∀ c, ¬ lT v5 c -> lT rv c
 k : ∀ x ∈ xs, j6 m x.d x.kv /\ ∀ c, ¬ lT x.kv c -> lo <= c /\ c ≠ bx /\ lT rv c /\ lT v5 c
theorem Hw.iY {m m' : Mem} {v5 rv : EV} {bx lo : Nat} {d : Nd} {xs : List Nv} {R : List Int} (h : Hw m v5 rv bx lo d xs R) (hn : m.next <= m'.next) (hk : ∀ c, c < m.next -> m'.get c = m.get c) : Hw m' v5 rv bx lo d xs R :=
 ⟨h.o5.mono hn hk, h.OB.mono hn hk, h.rz, (hk _ h.lx.2).trans h.gx, ⟨h.lx.1, by have := h.lx.2; omega⟩, h.x5, h.xr, h.vr, fun x hx => ⟨(h.k x hx).1.iY hn fun c hc _ => hk c hc, (h.k x hx).2⟩⟩
theorem mF {n o c : Nat} {cap : Option Nat} (h : c < n) : lT (.slice (nb n 0) 0 o cap) c := lT.of (by unfold nb; omega)
theorem Hw.more {m : Mem} {v5 rv p : EV} {bx lo Ty e : Nat} {d : Nd} {xs ys : List Nv} {R : List Int} (h : Hw m v5 rv bx lo d xs R) (hp : jJ m p (iq ys) ys.length 5 Ty) (h0 : 0 < ys.length) (hr : xs.length + ys.length < 1000000)
  (hk : ∀ y ∈ ys, j6 m y.d y.kv /\ ∀ c, ¬ lT y.kv c -> lo <= c /\ c ≠ bx /\ lT rv c /\ lT v5 c) :
  eu m e 5 v5 p = some (.slice (nb m.next 0) 0 (xs.length + ys.length) none, grow m v5 e 5 (iq xs ++ iq ys)) /\ Hw (grow m v5 e 5 (iq xs ++ iq ys)) (.slice (nb m.next 0) 0 (xs.length + ys.length) none) rv bx lo d (xs ++ ys) R /\ (∀ c, c < lo -> (grow m v5 e 5 (iq xs ++ iq ys)).get c = m.get c) := by
 have PY : lo <= m.next := by have := h.lx; omega
 obtain ⟨ha, ho⟩ := iA (e := e) h.o5 PY hp.source (pU ys) (by omega) (by unfold room; omega)
 have Qa : (grow m v5 e 5 (iq xs ++ iq ys)).next = m.next + 1 := by rw [jB]; rfl
 have old : ∀ c, c < m.next -> lT v5 c -> (grow m v5 e 5 (iq xs ++ iq ys)).get c = m.get c := fun c hc ho => mb hc ho
 refine ⟨ha, ⟨by rw [xG, kE]; exact ho, h.OB.wI (by omega) fun c hc _ re => old c hc ?_, h.rz, (old bx h.lx.2 h.x5).trans h.gx, ⟨h.lx.1, by have := h.lx.2; omega⟩, mF h.lx.2, h.xr, fun c hc => ?_, fun x hx => ?_⟩, fun c hc => old c (by omega) (h.o5.lt (.inr hc))⟩
 ·exact sj fun q => re (h.vr c q)
 ·have hb := ho.nw hc
  refine h.OB.lt (.inl ?_)
  refine sj fun q => hc (mF (by omega))
 ·have key : j6 m x.d x.kv /\ ∀ c, ¬ lT x.kv c -> lo <= c /\ c ≠ bx /\ lT rv c /\ lT v5 c := by
   rcases nY.1 hx with hx | hx
   ·exact h.k x hx
   ·exact hk x hx
  refine ⟨key.1.iY (by omega) fun c hc vj => old c hc (key.2 c vj).2.2.2, fun c vj => ?_⟩
  obtain ⟨a, b, c', _⟩ := key.2 c vj
  exact ⟨a, b, c', mF (key.1.o.nw vj).2⟩
theorem Hw.root {m : Mem} {v5 rv q : EV} {bx lo e : Nat} {d : Nd} {xs : List Nv} {R : List Int} {y : Int} (h : Hw m v5 rv bx lo d xs R) (hq : m.source 1 q = some (1, [.int .i64 y])) (hr : R.length < 1000000) :
  eu m e 1 rv q = some (.slice (nb m.next 0) 0 (R.length + 1) none, grow m rv e 1 (is R ++ [.int .i64 y])) /\ Hw ((grow m rv e 1 (is R ++ [.int .i64 y])).set bx (.cells [.int .i64 d.kind, .slice (nb m.next 0) 0 (R.length + 1) none, .int .i64 d.n, .str d.s, .int .i64 d.pos] 5 aL false)) v5 (.slice (nb m.next 0) 0 (R.length + 1) none) bx lo d xs (R ++ [y]) /\
   (grow m rv e 1 (is R ++ [.int .i64 y])).get bx = .cells [.int .i64 d.kind, rv, .int .i64 d.n, .str d.s, .int .i64 d.pos] 5 aL false /\ bx < (grow m rv e 1 (is R ++ [.int .i64 y])).next /\
   (∀ c, c < lo -> ((grow m rv e 1 (is R ++ [.int .i64 y])).set bx (.cells [.int .i64 d.kind, .slice (nb m.next 0) 0 (R.length + 1) none, .int .i64 d.n, .str d.s, .int .i64 d.pos] 5 aL false)).get c = m.get c) /\ m.next <= (grow m rv e 1 (is R ++ [.int .i64 y])).next := by
 have PY : lo <= m.next := by have := h.lx; omega
 obtain ⟨ha, ho⟩ := iA (e := e) h.OB PY hq rfl (by decide) (by unfold room; omega)
 have Qa : (grow m rv e 1 (is R ++ [.int .i64 y])).next = m.next + 1 := by rw [jB]; rfl
 have old : ∀ c, c < m.next -> lT rv c -> (grow m rv e 1 (is R ++ [.int .i64 y])).get c = m.get c := fun c hc ho => mb hc ho
 have PA : ∀ (B : cY) c, c < m.next -> lT rv c -> c ≠ bx -> ((grow m rv e 1 (is R ++ [.int .i64 y])).set bx B).get c = m.get c := fun B c hc ho hx => (bz hx).trans (old c hc ho)
 refine ⟨ha, ⟨h.o5.wI (by rw [cG]; omega) fun c hc _ re => PA _ c hc (h.vr c re) ?_, ?_, fun q => by simp at q, fy, ⟨h.lx.1, by rw [cG]; have := h.lx.2; omega⟩, h.x5, mF h.lx.2, fun c hc => ?_, fun x hx => ?_⟩, (old bx h.lx.2 h.xr).trans h.gx, by have := h.lx.2; omega, fun c hc => PA _ c (by omega) (h.OB.lt (.inr hc)) (by have := h.lx.1; omega), by omega⟩
 ·intro q; exact re (q ▸ h.x5)
 ·have e1 : is (R ++ [y]) = is R ++ [.int .i64 y] := Em _ _
  rw [e1, kE];refine ho.wI (by rw [cG]; exact ee _) fun c _ _ re => bz fun q => re (q ▸ mF h.lx.2)
 ·exact mF (h.o5.nw hc).2
 ·obtain ⟨a, b⟩ := h.k x hx
  refine ⟨a.iY (by rw [cG]; omega) fun c hc vj => PA _ c hc (b c vj).2.2.1 (b c vj).2.1, fun c vj => ?_⟩
  obtain ⟨p, q, r, s⟩ := b c vj
  exact ⟨p, q, mF (a.o.nw vj).2, s⟩
end
section
theorem Ie {w : Int -> Nat} (ks : List Int) (k : Nat) : cF ((ks.take k).map w) <= cF (ks.map w) := by
 have h := gN ((ks.take k).map w) ((ks.drop k).map w)
 rw [<- List.map_append, List.take_append_drop] at h;omega
theorem D2 {w : Int -> Nat} {x : Int} : ∀ {ks : List Int}, x ∈ ks -> w x <= cF (ks.map w)
 | y :: ks, h => by
  rw [List.map_cons, cF];rcases lj.1 h with rfl | h
  ·omega
  ·have := D2 (w := w) h; omega
def O6 (l : List Nd) (nl : Bool) (f : Nat) : Prop := ∀ (i : Nat) (t : Nat) (m : Mem) (X : Option Fin), i < f -> i < l.length -> so l f i < 50000 -> run A1 kX [row nl t 5 (dX l), .int .i64 (i : Int)] m = X -> ∃ v m' xs, X = some (.ret v m') /\ Tp m' v xs m.next /\ xs.map Nv.d = cA l f i /\ m.next <= m'.next /\ ∀ c, c < m.next -> m'.get c = m.get c
theorem Mb {l : List Nd} {nl : Bool} {f i t bx lo : Nat} {d : Nd} (ih : O6 l nl f) (MN : l.length < 100000) (hi : i < l.length) (hd0 : l[i]? = some d) (Sd : d.kids.length < 100000) (GJ : ∀ x ∈ d.kids, 0 <= x /\ x < (i : Int)) (hif : i < f + 1)
  (Bo : ∀ x ∈ d.kids, (cA l f x.toNat).length = so l f x.toNat /\ 0 < (cA l f x.toNat).length /\ (∀ e ∈ cA l f x.toNat, e.kids.length < 100000 /\ ∀ y ∈ e.kids, 0 <= y /\ y < 100000))
  (Su : ∀ k, k <= d.kids.length -> (py l f (d.kids.take k)).1.length = cF ((d.kids.take k).map fun x => so l f x.toNat) /\ (py l f (d.kids.take k)).2.length = k) (lU : cF (d.kids.map fun x => so l f x.toNat) < 50000)
  {ob : Nat} {oc : Option Nat} {m0 : Mem} {fr : Fr} (hu : Hw m0 (.slice ob 0 0 oc) .aa bx lo d [] []) (h0 : fr.get 0 = row nl t 5 (dX l)) (h1 : fr.get 1 = .int .i64 (i : Int)) (h5 : fr.get 5 = .slice ob 0 0 oc) (h6 : fr.get 6 = .ptr bx 0) (h7 : fr.get 7 = .int .i64 0) (hd : fr.defers = []) :
  ∃ oo, exec A1 (.loop eN) fr m0 = some oo /\ ∃ fr' m' xs ob oc rv R, oo = .exit 0 fr' m' /\ Hw m' (.slice ob 0 xs.length oc) rv bx lo d xs R /\ (xs.map Nv.d, R) = py l f d.kids /\ fr'.get 5 = .slice ob 0 xs.length oc /\ fr'.get 6 = .ptr bx 0 /\ m0.next <= m'.next /\ (∀ c, c < lo -> m'.get c = m0.get c) /\ fr'.defers = [] := by
 refine dF (σ := Nat) (fun k f' m => k <= d.kids.length /\ (∃ xs ob oc rv R, Hw m (.slice ob 0 xs.length oc) rv bx lo d xs R /\ (xs.map Nv.d, R) = py l f (d.kids.take k) /\ f'.get 5 = .slice ob 0 xs.length oc) /\ m0.next <= m.next /\ (∀ c, c < lo -> m.get c = m0.get c) /\ f'.get 0 = row nl t 5 (dX l) /\ f'.get 1 = .int .i64 (i : Int) /\ f'.get 6 = .ptr bx 0 /\ f'.get 7 = .int .i64 (k : Int) /\ f'.defers = []) (fun k => d.kids.length - k) _ ?_ 0 fr m0
  ⟨pF _, ⟨[], ob, oc, .aa, [], hu, rfl, h5⟩, ee _, fun _ _ => rfl, h0, h1, h6, h7, hd⟩
 rintro k f' m ⟨hk, ⟨xs, ob, oc, rv, R, hu, OH, h5⟩, hn, JV, h0, h1, h6, h7, hd⟩
 have iO : idx l.length (.int .i64 (i : Int)) = some i := aA hi
 generalize hX : exec A1 eN f' m = X
 by_cases aP : k < d.kids.length
 ·have hc : (k : Int) < (d.kids.length : Int) := by omega
  have P6 : idx d.kids.length (.int .i64 (k : Int)) = some k := aA aP
  have hw := bL (i := k) (by omega)
  have Zo : d.kids[k]? = some d.kids[k] := ij aP
  have ov : d.kids.take (k + 1) = d.kids.take k ++ [d.kids[k]] := List.take_succ_eq_append_getElem aP
  have X9 := oU aP
  have Wj := Su k (by omega)
  have Wi := Su (k + 1) (by omega)
  have cx := Ie (w := fun x => so l f x.toNat) d.kids (k + 1)
  generalize d.kids[k] = y at *
  have hyb := GJ y X9
  obtain ⟨p1, p2, p3⟩ := Bo y X9
  obtain ⟨n, rfl⟩ : ∃ n : Nat, y = (n : Int) := ⟨y.toNat, by omega⟩
  rw [Int.toNat_natCast] at p1 p2 p3;have Lm : xs.length = (py l f (d.kids.take k)).1.length := by rw [<- OH]; simp
  have hRl : R.length = k := by rw [<- Wj.2, <- OH]
  have e1 : py l f (d.kids.take (k + 1)) = mS (xs.map Nv.d, R) (cA l f n) := by rw [ov, xn, <- OH, Int.toNat_natCast]
  have hbound : xs.length + (cA l f n).length < 50000 := by
   have := Wi.1
   rw [e1] at this;unfold mS at this;simp only [kE, List.length_map] at this;omega
  have VG : so l f n < 50000 := by omega
  generalize hL : exec A1 (au.loop eO) = L
  simp +contextual -implicitDefEqProofs (maxSteps := 1000000) (maxDischargeDepth := 8) only [eN, h0, h1, h5, h6, h7, hd, hc, iO, P6, hd0, Zo, bt, aK, cZ, ao, Nd.cells, aO, ag, implies_true, simprocAttr] at hX
  generalize hC : run A1 kX _ _ = C at hX
  obtain ⟨v, m1, zs, rfl, tv, zd, n1, k1⟩ := ih n _ _ _ (by omega) (by omega) VG hC
  clear hC;have zl : zs.length = (cA l f n).length := by rw [<- zd, List.length_map]
  rcases tv.o.is with ⟨_, q, _⟩ | ⟨pb, pcap, tp, rfl, b1, b2, b3, b4⟩
  ·omega
  simp +contextual -implicitDefEqProofs (maxSteps := 1000000) (maxDischargeDepth := 8) only [aO, ag, implies_true, simprocAttr] at hX
  subst hL;generalize hC : exec A1 (.loop eO) _ _ = C at hX
  have XG : ∀ z ∈ zs, z.d ∈ cA l f n := fun z hz => by rw [<- zd]; exact List.mem_map_of_mem hz
  obtain ⟨oo, rfl, NF, m2, ys, rfl, yd, q1, q2, q3, q4, q5, qd⟩ := cw hC (Md (xs := zs) (pb := pb) (ob := ob) (o := xs.length) (tp := tp) (pcap := pcap) (ocap := oc) (by omega) (by omega) (fun z hz => (p3 _ (XG z hz)).1) (fun z hz => (p3 _ (XG z hz)).2) b3 b2 (fun z hz => ⟨tv.k z hz, sj fun q => (tv.f z hz pb q).2 pb 0 zs.length pcap rfl rfl⟩)
   (by simp only [h5, ai, Nat.reduceBEq ]) (by simp only [ai, Nat.reduceBEq ]) (by simp only [ai, Nat.reduceBEq ]) (by simp only [hd, ai, Nat.reduceBEq ]))
  clear hC;have f0 := q5 0 (by omega)
  have f1 := q5 1 (by omega)
  have f5 := q5 5 (by omega)
  have f6 := q5 6 (by omega)
  have f7 := q5 7 (by omega)
  have f8 := q5 8 (by omega)
  simp only [h0, h1, h5, h6, h7, ai, Nat.reduceBEq ] at f0 f1 f5 f6 f7 f8;have yl : ys.length = zs.length := by have := congrArg List.length yd; rwa [List.length_map, List.length_map] at this
  have k2 : ∀ c, c < m.next -> m2.get c = m.get c := fun c hc => (q4 c (by omega) (by omega)).trans (k1 c hc)
  have HF := hu.iY (m' := m2) (by omega) k2
  have ZP : jJ m2 (.slice pb 0 zs.length pcap) (iq ys) ys.length 5 m.next := ⟨.inr ⟨pb, pcap, tp, by rw [yl], b1, by omega, q1, by rw [yl]; exact b4⟩, pU ys⟩
  obtain ⟨ha, Q4, Zi⟩ := HF.more (e := 27) ZP (by omega) (by omega) fun y hy => by
   obtain ⟨a, b⟩ := q2 y hy
   refine ⟨a, fun c hc => ?_⟩
   have := b c hc
   have := hu.lx
   exact ⟨by omega, by omega, hu.OB.lt (.inl (by omega)), hu.o5.lt (.inl (by omega))⟩
  have n3 : (grow m2 (.slice ob 0 xs.length oc) 27 5 (iq xs ++ iq ys)).next = m2.next + 1 := by rw [jB]; rfl
  generalize grow m2 (.slice ob 0 xs.length oc) 27 5 (iq xs ++ iq ys) = m3 at *
  have ji : IntKind.i64.wrap (((xs.length + ys.length : Nat) : Int) - 1) = ((xs.length + ys.length : Nat) : Int) - 1 := wrap_i64 (by omega) (by omega)
  have VE := Q4.iY (m' := ext m3 [.cells [.int .i64 (((xs.length + ys.length : Nat) : Int) - 1)] 1 3 false]) (by rw [b8]; exact p8) fun c hc => cC hc
  obtain ⟨ha4, Yh, gx, lx, XS, n5⟩ := VE.root (e := 3) (y := ((xs.length + ys.length : Nat) : Int) - 1) (BZ rfl) (by omega)
  have e4 : ∀ c, c < lo -> (ext m3 [.cells [.int .i64 (((xs.length + ys.length : Nat) : Int) - 1)] 1 3 false]).get c = m3.get c := fun c hc => cC (by have := Q4.lx; omega)
  have n4 : (ext m3 [.cells [.int .i64 (((xs.length + ys.length : Nat) : Int) - 1)] 1 3 false]).next = m3.next + 1 := by rw [b8]; rfl
  have gx3 := Q4.gx
  have Zf := Q4.lx.2
  have gx4 := VE.gx
  have Ze := VE.lx.2
  have YF : (xs ++ ys).length = xs.length + zs.length := by rw [kE, yl]
  rw [yl] at *
  generalize hG : grow (ext m3 [.cells [.int .i64 (((xs.length + zs.length : Nat) : Int) - 1)] 1 3 false]) rv 3 1 (is R ++ [.int .i64 (((xs.length + zs.length : Nat) : Int) - 1)]) = m5 at *
  simp +contextual -implicitDefEqProofs (maxSteps := 1000000) (maxDischargeDepth := 8) only [f0, f1, f5, f6, f7, f8, qd, ha, ji, gx3, Zf, gx4, Ze, ha4, gx, lx, hw, aO, ag, implies_true, simprocAttr] at hX
  subst hX;have Yp : nb (ext m3 [.cells [.int .i64 (((xs.length + zs.length : Nat) : Int) - 1)] 1 3 false]).next 0 = nb m3.next 1 := by rw [b8, rN]; rfl
  rw [Yp] at Yh XS;refine cB (k + 1) (by omega) ⟨aP, ⟨xs ++ ys, nb m2.next 0, none, .slice (nb m3.next 1) 0 (R.length + 1) none, R ++ [((xs.length + zs.length : Nat) : Int) - 1], by rw [YF]; exact Yh, ?_, by rw [YF]; simp only [ai, Nat.reduceBEq ]⟩, by rw [cG]; omega, fun c hc => ?_, by simp only [f0, ai, Nat.reduceBEq ], by simp only [f1, ai, Nat.reduceBEq ], by simp only [f6, ai, Nat.reduceBEq ], by simp only [ai, Nat.reduceBEq ], by simp only [qd, ai, Nat.reduceBEq ]⟩
  ·rw [e1]
   unfold mS;simp only [List.map_append, List.length_map, yd, zl];rw [<- zd, List.map_map]
   rfl
  ·rw [XS c hc, e4 c hc, Zi c hc, k2 c (by have := hu.lx; omega)]; exact JV c hc
 ·have hc : ¬ (k : Int) < (d.kids.length : Int) := by omega
  obtain rfl : k = d.kids.length := by omega
  rw [List.take_length] at OH;simp +contextual -implicitDefEqProofs (maxSteps := 1000000) (maxDischargeDepth := 8) only [eN, h0, h1, h7, hd, hc, iO, hd0, bt, aK, ao, Nd.cells, aO, ag, implies_true, simprocAttr] at hX
  subst hX;exact cN ⟨_, _, xs, ob, oc, rv, R, rfl, hu, OH, by simp only [h5, ai, Nat.reduceBEq ], by simp only [h6, ai, Nat.reduceBEq ], hn, JV, by simp only [hd, ai, Nat.reduceBEq ]⟩
theorem wv {l : List Nd} {nl : Bool} (hk : bl l) (ho : ∀ d ∈ l, lL d /\ bY l d) (MN : l.length < 100000) (qf : ∀ d ∈ l, d.kids.length < 100000) : ∀ f, O6 l nl f
 | 0 => fun i _ _ _ h => absurd h (Nat.not_lt_zero i)
 | f + 1 => by
  have ih := wv (nl := nl) hk ho MN qf f
  intro i t m X hf hi lU hX
  have hd0 : l[i]? = some l[i] := ij hi
  have iZ := oU hi
  have Sd := qf _ iZ
  generalize l[i] = d at *
  have GJ := hk i d hd0
  have ZD : so l (f + 1) i = OA d + cF (d.kids.map fun x => so l f x.toNat) := by rw [so]; simp only [hd0]
  have Bo : ∀ x ∈ d.kids, (cA l f x.toNat).length = so l f x.toNat /\ 0 < (cA l f x.toNat).length /\ bl (cA l f x.toNat) := fun x hx => by
   have := GJ x hx
   obtain ⟨a, b, c⟩ := sR hk ho f x.toNat (by omega) (by omega)
   exact ⟨b, c, a.lt⟩
  have Su : ∀ k, k <= d.kids.length -> (py l f (d.kids.take k)).1.length = cF ((d.kids.take k).map fun x => so l f x.toNat) /\ (py l f (d.kids.take k)).2.length = k := fun k Bp => by
   obtain ⟨a, b⟩ := Bi (l := l) (f := f) _ (d.kids.take k) rfl
   refine ⟨?_, by rw [b, List.length_take]; omega⟩
   rw [a]; congr 1
   exact List.map_congr_left fun x hx => (Bo x (List.mem_of_mem_take hx)).1
  have ZN : ∀ x ∈ d.kids, ∀ e ∈ cA l f x.toNat, e.kids.length < 100000 /\ ∀ y ∈ e.kids, 0 <= y /\ y < 100000 := fun x hx e he => by
   obtain ⟨a, b, c⟩ := Bo x hx
   have hm := D2 (w := fun x => so l f x.toNat) hx
   obtain ⟨j, hj⟩ := List.mem_iff_getElem?.1 he
   have MQ := (kO.1 hj).1
   have aP := c j e hj
   refine ⟨?_, fun y hy => by have := aP y hy; omega⟩
   have ZO := (sR hk ho f x.toNat (by have := GJ x hx; omega) (by have := GJ x hx; omega)).1
   have hnd : (aW (cA l f x.toNat)).Nodup := (List.nodup_append.1 (ZO.perm.nodup_iff.2 oV)).1
   have := nD aP (hnd.sublist (ua he))
   omega
  rw [L2 (by simp [cK])] at hX
  generalize hL : exec A1 (au.loop eN) = L at hX
  have iO : idx l.length (.int .i64 (i : Int)) = some i := aA hi
  simp +contextual -implicitDefEqProofs (maxSteps := 1000000) (maxDischargeDepth := 8) only [cK, iO, hd0, bt, aK, Nd.cells, aO, ag, implies_true, simprocAttr] at hX
  subst hL;generalize hC : exec _ (.loop eN) _ _ = C at hX
  have Zc : nb m.next 0 = m.next := rfl
  have Zb : nb m.next 1 = m.next + 1 := rfl
  have en : (ext m [cY.cells [] 5 27 false, cY.cells [EV.int IntKind.i64 d.kind, EV.aa, EV.int IntKind.i64 d.n, EV.str d.s, EV.int IntKind.i64 d.pos] 5 27 false]).next = m.next + 2 := by rw [b8]; rfl
  have eo : ∀ c, c < m.next -> (ext m [cY.cells [] 5 27 false, cY.cells [EV.int IntKind.i64 d.kind, EV.aa, EV.int IntKind.i64 d.n, EV.str d.s, EV.int IntKind.i64 d.pos] 5 27 false]).get c = m.get c := fun c hc => cC hc
  have g0 : (ext m [cY.cells [] 5 27 false, cY.cells [EV.int IntKind.i64 d.kind, EV.aa, EV.int IntKind.i64 d.n, EV.str d.s, EV.int IntKind.i64 d.pos] 5 27 false]).get (nb m.next 0) = cY.cells [] 5 27 false := (bS (i := 0) rfl (by simp)).trans rfl
  have g1 : (ext m [cY.cells [] 5 27 false, cY.cells [EV.int IntKind.i64 d.kind, EV.aa, EV.int IntKind.i64 d.n, EV.str d.s, EV.int IntKind.i64 d.pos] 5 27 false]).get (nb m.next 1) = cY.cells [EV.int IntKind.i64 d.kind, EV.aa, EV.int IntKind.i64 d.n, EV.str d.s, EV.int IntKind.i64 d.pos] 5 27 false := (bS (i := 1) rfl (by simp)).trans rfl
  generalize ext m [cY.cells [] 5 27 false, cY.cells [EV.int IntKind.i64 d.kind, EV.aa, EV.int IntKind.i64 d.n, EV.str d.s, EV.int IntKind.i64 d.pos] 5 27 false] = M0 at *
  have hu : Hw M0 (.slice (nb m.next 0) 0 0 (some 0)) .aa (nb m.next 1) m.next d [] [] :=
   ⟨⟨.inr ⟨nb m.next 0, some 0, 27, rfl, by omega, by omega, g0, .inr rfl⟩, rfl⟩, ⟨.inl ⟨rfl, rfl, rfl⟩, rfl⟩, fun _ => rfl, g1, ⟨by omega, by omega⟩, lT.of (by omega), lT.nil, fun _ _ => lT.nil, fun x hx => by cases hx⟩
  obtain ⟨oo, rfl, fr', m2, xs, ob, oc, rv, R, rfl, HF, OH, f5, f6, n2, Zj, fd⟩ := cw hC (Mb (l := l) (nl := nl) (t := t) (i := i) ih MN hi hd0 Sd GJ hf (fun x hx => ⟨(Bo x hx).1, (Bo x hx).2.1, ZN x hx⟩) Su (by omega) hu (by simp only [ai, Nat.reduceBEq ]) (by simp only [ai, Nat.reduceBEq ]) (by simp only [ai, Nat.reduceBEq ]) (by simp only [ai, Nat.reduceBEq ]) (by simp only [ai, Nat.reduceBEq ]) (by simp only [ai, Nat.reduceBEq ]))
  clear hC;have Lm : xs.length = cF (d.kids.map fun x => so l f x.toNat) := by
   have h := (Su d.kids.length (ee _)).1
   rw [List.take_length, <- OH, List.length_map] at h;exact h
  have Q4 := HF.iY (m' := ext m2 [.cells [.int .i64 d.kind, rv, .int .i64 d.n, .str d.s, .int .i64 d.pos] 5 27 false]) (by rw [b8]; exact p8) fun c hc => cC hc
  have e3 : (ext m2 [.cells [.int .i64 d.kind, rv, .int .i64 d.n, .str d.s, .int .i64 d.pos] 5 27 false]).get (nb m2.next 0) = .cells [.int .i64 d.kind, rv, .int .i64 d.n, .str d.s, .int .i64 d.pos] 5 27 false := (bS (i := 0) rfl (by simp)).trans rfl
  have n3 : (ext m2 [.cells [.int .i64 d.kind, rv, .int .i64 d.n, .str d.s, .int .i64 d.pos] 5 27 false]).next = m2.next + 1 := by rw [b8]; rfl
  have o3 : ∀ c, c < m2.next -> (ext m2 [.cells [.int .i64 d.kind, rv, .int .i64 d.n, .str d.s, .int .i64 d.pos] 5 27 false]).get c = m2.get c := fun c hc => cC hc
  have nb2 : nb m2.next 0 = m2.next := rfl
  have TU := HF.gx
  have XN := HF.lx
  have Z5 : j6 m2 (oF d R) rv := ⟨HF.OB.XQ, rfl, HF.rz⟩
  have mN : (Nv.cells ⟨oF d R, rv⟩).length = 1 * 5 := rfl
  obtain ⟨ha, ZT⟩ := iA (e := 27) Q4.o5 (by have := XN; omega) (n7 e3 rfl (cap := some 1)) mN (by decide) (by unfold room; omega)
  have n4 : (grow (ext m2 [.cells [.int .i64 d.kind, rv, .int .i64 d.n, .str d.s, .int .i64 d.pos] 5 27 false]) (.slice ob 0 xs.length oc) 27 5 (iq xs ++ [.int .i64 d.kind, rv, .int .i64 d.n, .str d.s, .int .i64 d.pos])).next = m2.next + 2 := by rw [jB, n3]; rfl
  have o4 : ∀ c, c < m2.next -> lT (.slice ob 0 xs.length oc) c -> (grow (ext m2 [.cells [.int .i64 d.kind, rv, .int .i64 d.n, .str d.s, .int .i64 d.pos] 5 27 false]) (.slice ob 0 xs.length oc) 27 5 (iq xs ++ [.int .i64 d.kind, rv, .int .i64 d.n, .str d.s, .int .i64 d.pos])).get c = m2.get c := fun c hc VP => (mb (by omega) VP).trans (o3 c hc)
  have Yp : nb (ext m2 [.cells [.int .i64 d.kind, rv, .int .i64 d.n, .str d.s, .int .i64 d.pos] 5 27 false]).next 0 = m2.next + 1 := n3
  have ZX : nb m2.next 1 = m2.next + 1 := rfl
  generalize hG : grow (ext m2 [.cells [.int .i64 d.kind, rv, .int .i64 d.n, .str d.s, .int .i64 d.pos] 5 27 false]) (.slice ob 0 xs.length oc) 27 5 (iq xs ++ [.int .i64 d.kind, rv, .int .i64 d.n, .str d.s, .int .i64 d.pos]) = m4 at *
  have Vr := XN.2
  simp +contextual -implicitDefEqProofs (maxSteps := 1000000) (maxDischargeDepth := 8) only [f5, f6, fd, TU, Vr, ha, aO, ag, implies_true, simprocAttr] at hX
  subst hX;refine ⟨_, _, xs ++ [⟨oF d R, rv⟩], rfl, ⟨?_, fun x hx => ?_, fun x hx c hc => ?_⟩, ?_, by omega, fun c hc => ?_⟩
  ·rw [I0, kE]
   exact ZT
  ·rcases nY.1 hx with hx | hx
   ·obtain ⟨a, b⟩ := HF.k x hx
    exact a.iY (by omega) fun c hc vj => o4 c hc (b c vj).2.2.2
   ·rw [xu.1 hx]
    exact Z5.iY (by omega) fun c hc vj => o4 c hc (sj fun q => vj (HF.vr c q))
  ·have aP : c < m2.next /\ m.next <= c := by
    rcases nY.1 hx with hx | hx
    ·obtain ⟨a, b⟩ := HF.k x hx
     exact ⟨(a.o.nw hc).2, (b c hc).1⟩
    ·rw [xu.1 hx] at hc
     have := HF.OB.nw hc
     exact ⟨this.2, this.1⟩
   refine ⟨aP.2, lT.of ?_⟩
   omega
  ·rw [tK hd0, <- OH, List.map_append]; rfl
  ·rw [o4 c (by omega) (HF.o5.lt (.inr hc)), Zj c hc, eo c hc]
end
section
theorem D3 {α : Type} {f g : α -> Nat} : ∀ {a : List α}, (∀ x ∈ a, f x <= g x) -> cF (a.map f) <= cF (a.map g)
 | [], _ => ee _
 | x :: a, h => by
  have h1 := h x (by simp)
  have h2 := D3 (a := a) fun y hy => h y (by simp [hy])
  simp only [List.map_cons, cF]; omega
theorem Jt : ∀ (ps : List gh), (Go.Lib.join ps [32]).length <= cF (ps.map fun p => p.length + 1)
 | [] => by simp [Go.Lib.join_nil]
 | x :: r => by
  rw [Go.Lib.join_cons, kE];have : ∀ r : List gh, (Go.Lib.joinTail [32] r).length = cF (r.map fun p => p.length + 1) := by
   intro r
   unfold Go.Lib.joinTail
   induction r with
   | nil => rfl
   | cons y r ih => rw [List.map_cons, List.flatten_cons, kE, ih]; simp [cF]
  rw [this];simp only [List.map_cons, cF]; omega
theorem Ir (n : Int) : (oJ n).length <= 2 := by
 unfold oJ
 split
 ·have : ∀ k : Nat, k < 16 -> (opsL.getD k []).length <= 2 := by decide
  exact this _ (by omega)
 ·simp
theorem yW (d : Nd) : (aJ d).length <= 8 := by
 unfold aJ
 split
 ·have := Ir d.n; omega
 ·unfold fT
  split
  ·have : ∀ k : Nat, k < 26 -> ((il.getD k mU).word).length <= 8 := by decide
   exact this _ (by omega)
  ·decide
theorem wG (k : Int) : (dI k).length <= 4 := by
 unfold dI; split; decide; split; decide; split; decide; decide
structure yJ (l : List Nd) : Prop where
 small : Small l
 len : l.length <= 1000
 s : ∀ d ∈ l, d.s.length <= 1000
 n : ∀ d ∈ l, -9223372036854775808 <= d.n /\ d.n <= 9223372036854775807
theorem J0 (d : Nd) : cF ((fP d).map fun p => p.length + 1) <= d.s.length + 15 := by
 have h1 := yW d
 have h2 := wG d.n
 unfold fP;rw [List.map_append, List.map_append, gN, gN]
 split <;> split <;> split <;> simp [cF] <;> omega
theorem H6 {l : List Nd} (hk : bl l) (hn : ∀ d ∈ l, -9223372036854775808 <= d.n /\ d.n <= 9223372036854775807) : ∀ i, i < l.length -> (br l i).length + 1 <= s8 l i := by
 intro i
 induction i using Nat.strongRecOn with
 | _ i ih =>
  intro hi
  have hd : l[i]? = some l[i] := ij hi
  have CI := hn _ (oU hi)
  have hx := hk i _ hd
  generalize l[i] = d at *
  rw [iS hk hd, DU hk hd];have h1 := Jx CI.1 CI.2
  have h2 : cF ((d.kids.map fun x => br l x.toNat).map fun p => p.length + 1) <= cF (d.kids.map fun x => s8 l x.toNat) := by
   rw [List.map_map];refine D3 fun x rc => ?_
   have := hx x rc
   exact ih x.toNat (by omega) (by omega)
  have h3 := Jt (fP d ++ d.kids.map fun x => br l x.toNat)
  rw [List.map_append, gN] at h3;have h4 := J0 d
  unfold fN ow
  split
  ·omega
  ·split
   ·split <;> simp [td, pj] <;> omega
   ·split
    ·simp [RC]; omega
    ·split
     ·omega
     ·simp only [List.length_cons, kE, List.length_nil]; omega
theorem y5 {l : List Nd} (ht : yJ l) (hr : ef l) {i : Nat} (hi : i < l.length) : (br l i).length <= 1100000 := by
 have h1 := H6 hr.1.1 ht.n i hi
 have h2 := Pb hr.1.1 hr.1.2.1 ht.s hi
 have h3 : l.length * (100 + 1000) <= 1000 * 1100 := Nat.mul_le_mul_right _ ht.len
 omega
def kg (m0 m : Mem) : Prop := m0.next <= m.next /\ ∀ b, b < m0.next -> m.get b = m0.get b
theorem kg.refl (m : Mem) : kg m m := ⟨ee _, fun _ _ => rfl⟩
theorem kg.trans {a b c : Mem} (h : kg a b) (k : kg b c) : kg a c := ⟨vn h.1 k.1, fun x hx => by rw [k.2 x (ve hx h.1), h.2 x hx]⟩
theorem kg.ext {m0 m : Mem} (h : kg m0 m) (xs : List cY) : kg m0 (Ev.ext m xs) := ⟨by rw [b8]; exact vn h.1 p8, fun b hb => by rw [cC (ve hb h.1)]; exact h.2 b hb⟩
theorem kg.bump {m0 m : Mem} (h : kg m0 m) (k : Nat) : kg m0 (Ev.bump m k) := ⟨by rw [oa]; exact vn h.1 p8, fun b hb => by rw [mc]; exact h.2 b hb⟩
theorem IM {m0 m : Mem} {v x : EV} {cs : List EV} {n ty : Nat} (eS : jJ m v cs n 1 m0.next) (hk : kg m0 m) (hn : n < 1000000) :
  ∃ v2 M2, eu (ext m [.cells [x] 1 ty false]) ty 1 v (.slice (nb m.next 0) 0 1 (some 1)) = some (v2, M2) /\ jJ M2 v2 (cs ++ [x]) (n + 1) 1 m0.next /\ kg m0 M2 := by
 have hM : (ext m [.cells [x] 1 ty false]).get (nb m.next 0) = .cells [x] 1 ty false := by rw [bS rfl (by simp)]; rfl
 obtain ⟨ha, Ab⟩ := iA (e := ty) (eS.ext [.cells [x] 1 ty false]) (by rw [b8]; exact vn hk.1 p8) (n7 (cap := some 1) hM rfl) rfl (by decide) (by unfold room; omega)
 refine ⟨_, _, ha, Ab, ⟨?_, fun b hb => ?_⟩⟩
 ·rw [jB, b8]; have := hk.1; unfold nb; simp; omega
 ·rw [mb (by rw [b8]; have := hk.1; unfold nb; simp; omega)]
  ·rw [cC (ve hb hk.1)]; exact hk.2 b hb
  ·intro b2 o n2 cap hv
   rcases eS.is with ⟨rfl, _⟩ | ⟨b3, aaG, t3, rfl, h1, _⟩
   ·cases hv
   ·cases hv; omega
theorem tJ {ws : List gh} {bw tw : Nat} {m0 : Mem} {v2 v5 v6 : EV} {fr : Fr} (hw : ws.length <= 2) (We : m0.get bw = .cells (ws.map .str) 1 tw false) (aP : bw < m0.next) (h2 : fr.get 2 = v2) (h5 : fr.get 5 = v5) (h6 : fr.get 6 = v6) (h8 : fr.get 8 = .aa) (Qn : fr.get 54 = .slice bw 0 ws.length (some ws.length)) (Qm : fr.get 55 = .int .i64 (ws.length : Int)) (SD : fr.get 56 = .int .i64 0) (hd : fr.defers = []) :
  ∃ o, exec U (.loop bW) fr m0 = some o /\ ∃ fr' m' v, o = .exit 1 fr' m' /\ fr'.get 2 = v2 /\ fr'.get 5 = v5 /\ fr'.get 6 = v6 /\ fr'.get 8 = v /\ jJ m' v ((ws.filter (· ≠ [])).map .str) (ws.filter (· ≠ [])).length 1 m0.next /\ kg m0 m' /\ fr'.defers = [] := by
 refine dF (σ := Nat) (fun i fr m => i <= ws.length /\ kg m0 m /\ fr.get 2 = v2 /\ fr.get 5 = v5 /\ fr.get 6 = v6 /\ (∃ v, fr.get 8 = v /\ jJ m v (((ws.take i).filter (· ≠ [])).map .str) ((ws.take i).filter (· ≠ [])).length 1 m0.next) /\ fr.get 54 = .slice bw 0 ws.length (some ws.length) /\ fr.get 55 = .int .i64 (ws.length : Int) /\ fr.get 56 = .int .i64 (i : Int) /\ fr.defers = []) (fun i => ws.length - i) _ ?_ 0 fr m0
  ⟨pF _, .refl _, h2, h5, h6, ⟨_, h8, ⟨.inl ⟨rfl, rfl, rfl⟩, rfl⟩⟩, Qn, Qm, SD, hd⟩
 rintro i fr m ⟨hi, hk, h2, h5, h6, ⟨v, h8, eS⟩, Qn, Qm, SD, hd⟩
 generalize hX : exec U bW fr m = X
 have Sp := (hk.2 bw aP).trans We
 by_cases pc : i < ws.length
 ·have hc : (i : Int) < (ws.length : Int) := by omega
  have hg : ws[i]? = some ws[i] := ij pc
  have ov : ws.take (i + 1) = ws.take i ++ [ws[i]] := List.take_succ_eq_append_getElem pc
  have iO : idx ws.length (.int .i64 (i : Int)) = some i := aA pc
  have ji := bL (i := i) (by omega)
  have Br : ((ws.take i).filter (· ≠ [])).length <= 2 := vn (List.length_filter_le _ _) (by rw [List.length_take]; omega)
  generalize ws[i] = s at *
  by_cases he : s = []
  ·subst he
   simp +contextual -implicitDefEqProofs (maxSteps := 1000000) (maxDischargeDepth := 8) only [bW, h2, h5, h6, h8, Qn, Qm, SD, hd, hc, Sp, hg, iO, ji, Nat.mul_one, aO, ag, implies_true, simprocAttr] at hX
   subst hX;refine cB (i + 1) (by omega) ⟨pc, hk, by simp only [h2, ai, Nat.reduceBEq ], by simp only [h5, ai, Nat.reduceBEq ], by simp only [h6, ai, Nat.reduceBEq ], ⟨v, by simp only [h8, ai, Nat.reduceBEq ], ?_⟩, by simp only [Qn, ai, Nat.reduceBEq ], by simp only [Qm, ai, Nat.reduceBEq ], by simp only [ai, Nat.reduceBEq ], by simp only [hd, ai, Nat.reduceBEq ]⟩
   rw [ov, List.filter_append]
   simpa using eS
  ·obtain ⟨Rn, M2, ha, JQ, mY⟩ := IM (x := .str s) (ty := fV) eS hk (by omega)
   simp +contextual -implicitDefEqProofs (maxSteps := 1000000) (maxDischargeDepth := 8) only [bW, h2, h5, h6, h8, Qn, Qm, SD, hd, hc, Sp, hg, iO, ji, he, ha, Nat.mul_one, aO, ag, implies_true, simprocAttr] at hX
   subst hX;refine cB (i + 1) (by omega) ⟨pc, mY, by simp only [h2, ai, Nat.reduceBEq ], by simp only [h5, ai, Nat.reduceBEq ], by simp only [h6, ai, Nat.reduceBEq ], ⟨Rn, by simp only [ai, Nat.reduceBEq ], ?_⟩, by simp only [Qn, ai, Nat.reduceBEq ], by simp only [Qm, ai, Nat.reduceBEq ], by simp only [ai, Nat.reduceBEq ], by simp only [hd, ai, Nat.reduceBEq ]⟩
   rw [ov, List.filter_append]
   simpa [he] using JQ
 ·have hc : ¬ ((i : Int) < (ws.length : Int)) := by omega
  rw [qI (by omega)] at eS;simp +contextual -implicitDefEqProofs (maxSteps := 1000000) (maxDischargeDepth := 8) only [bW, h2, h5, h6, h8, Qn, Qm, SD, hd, hc, aO, ag, implies_true, simprocAttr] at hX
  subst hX;exact cN ⟨_, _, v, rfl, by simp only [h2, ai, Nat.reduceBEq ], by simp only [h5, ai, Nat.reduceBEq ], by simp only [h6, ai, Nat.reduceBEq ], by simp only [h8, ai, Nat.reduceBEq ], eS, hk, by simp only [hd, ai, Nat.reduceBEq ]⟩
end
section
def yK (f : Nat) (args : List EV) (m : Mem) (s : gh) : Prop := ∃ m', run U f args m = some (.ret (.str s) m') /\ kg m m'
structure Cl (m : Mem) (b1 b3 : Nat) (v : EV) : Prop where
 g1 : ∃ t1, m.get b1 = .cells [v] 1 t1 false
 g3 : ∃ t3, m.get b3 = .cells [.func gP [] [.ptr b1 0, .ptr b3 0]] 1 t3 false
 l1 : b1 < m.next
 l3 : b3 < m.next
theorem Cl.iY {m m' : Mem} {b1 b3 : Nat} {v : EV} (h : Cl m b1 b3 v) (k : kg m m') : Cl m' b1 b3 v :=
 ⟨by obtain ⟨t, e⟩ := h.g1; exact ⟨t, (k.2 _ h.l1).trans e⟩, by obtain ⟨t, e⟩ := h.g3; exact ⟨t, (k.2 _ h.l3).trans e⟩, ve h.l1 k.1, ve h.l3 k.1⟩
theorem tI {l : List Nd} {ks : List Int} {b1 b3 : Nat} {vr : EV} {nl : Bool} {m0 : Mem} {vp : EV} {ps : List gh} {lo : Mem} {fr : Fr} (MO : ks.length < 1001) (hps : ps.length <= 10) (mN : Cl lo b1 b3 vr) (Q8 : kg lo m0)
  (ih : ∀ x ∈ ks, ∀ m, Cl m b1 b3 vr -> yK gP [.int .i64 x, .ptr b1 0, .ptr b3 0] m (br l x.toNat))
  (h2 : fr.get 2 = .ptr b3 0) (h8 : fr.get 8 = vp) (eS : jJ m0 vp (ps.map .str) ps.length 1 lo.next) (SA : fr.get 82 = row nl 0 1 (ints ks)) (Sz : fr.get 83 = .int .i64 (ks.length : Int)) (TQ : fr.get 84 = .int .i64 0) (hd : fr.defers = []) :
  ∃ o, exec U (.loop cz) fr m0 = some o /\ ∃ fr' m' v, o = .exit 3 fr' m' /\ fr'.get 8 = v /\ jJ m' v ((ps ++ ks.map fun x => br l x.toNat).map .str) (ps ++ ks.map fun x => br l x.toNat).length 1 lo.next /\ kg lo m' /\ fr'.defers = [] := by
 refine dF (σ := Nat) (fun i fr m => i <= ks.length /\ kg lo m /\ fr.get 2 = .ptr b3 0 /\ (∃ v, fr.get 8 = v /\ jJ m v ((ps ++ (ks.take i).map fun x => br l x.toNat).map .str) (ps ++ (ks.take i).map fun x => br l x.toNat).length 1 lo.next) /\ fr.get 82 = row nl 0 1 (ints ks) /\ fr.get 83 = .int .i64 (ks.length : Int) /\ fr.get 84 = .int .i64 (i : Int) /\ fr.defers = []) (fun i => ks.length - i) _ ?_ 0 fr m0
  ⟨pF _, Q8, h2, ⟨_, h8, by simpa using eS⟩, SA, Sz, TQ, hd⟩
 rintro i fr m ⟨hi, hk, h2, ⟨v, h8, eS⟩, SA, Sz, TQ, hd⟩
 generalize hX : exec U cz fr m = X
 by_cases pc : i < ks.length
 ·have hc : (i : Int) < (ks.length : Int) := by omega
  have hg : ks[i]? = some ks[i] := ij pc
  have ov : ks.take (i + 1) = ks.take i ++ [ks[i]] := List.take_succ_eq_append_getElem pc
  have iO : idx ks.length (.int .i64 (i : Int)) = some i := aA pc
  have ji := bL (i := i) (by omega)
  have iZ := oU pc
  generalize ks[i] = x at *
  have Qf := mN.iY hk
  obtain ⟨m1, hr, ul⟩ := ih x iZ m Qf
  obtain ⟨t3, hg3⟩ := Qf.g3
  have JN : jJ m1 v ((ps ++ (ks.take i).map fun x => br l x.toNat).map .str) (ps ++ (ks.take i).map fun x => br l x.toNat).length 1 lo.next := eS.mono ul.1 fun c hc => ul.2 c hc
  obtain ⟨Rn, M2, ha, JQ, mY⟩ := IM (x := .str (br l x.toNat)) (ty := fV) JN (hk.trans ul) (by simp; omega)
  simp +contextual -implicitDefEqProofs (maxSteps := 1000000) (maxDischargeDepth := 8) only [cz, h2, h8, SA, Sz, TQ, hd, hc, hg, iO, ji, hg3, hr, ha, cZ, ao, aA, pc, aO, ag, implies_true, simprocAttr] at hX
  subst hX;refine cB (i + 1) (by omega) ⟨pc, mY, by simp only [h2, ai, Nat.reduceBEq ], ⟨Rn, by simp only [ai, Nat.reduceBEq ], ?_⟩, by simp only [SA, ai, Nat.reduceBEq ], by simp only [Sz, ai, Nat.reduceBEq ], by simp only [ai, Nat.reduceBEq ], by simp only [hd, ai, Nat.reduceBEq ]⟩
  rw [ov]
  simpa [List.append_assoc, Nat.add_assoc] using JQ
 ·have hc : ¬ ((i : Int) < (ks.length : Int)) := by omega
  rw [qI (by omega)] at eS;simp +contextual -implicitDefEqProofs (maxSteps := 1000000) (maxDischargeDepth := 8) only [cz, h2, h8, SA, Sz, TQ, hd, hc, aO, ag, implies_true, simprocAttr] at hX
  subst hX;exact cN ⟨_, _, v, rfl, by simp only [h8, ai, Nat.reduceBEq ], eS, hk, by simp only [hd, ai, Nat.reduceBEq ]⟩
theorem uc {m : Mem} {v : EV} {ps : List gh} {lo : Nat} (h : jJ m v (ps.map .str) ps.length 1 lo) (hl : ps.length <= 100000) (hj : (Go.Lib.join ps [32]).length <= 4000000000) : run U tQ [v, .str [32]] m = some (.ret (.str (Go.Lib.join ps [32])) m) := by
 rw [lZ (g := nE) (by unfold U UT PT; rfl)]
 have hs := h.source
 have cx : ue v = false := by rcases h.is with ⟨rfl, _⟩ | ⟨b, cap, t, rfl, _⟩ <;> rfl
 unfold nE;simp only [hs, cx, vZ, El, lJ (show ps.length <= 1000000000 by omega), lJ (show (Go.Lib.join ps [32]).length <= 4294967296 by omega), Bool.and_self, cond_true]
theorem Jw {n : Int} {m : Mem} (h1 : -9223372036854775808 <= n) (h2 : n <= 9223372036854775807) : run U tR [.int .i64 n] m = some (.ret (.str (Go.Lib.itoa n)) m) := by
 rw [run_pure (g := yU) (by unfold U UT PT; rfl)]
 simp only [yU, wM.2 ⟨h1, h2⟩, cond_true, Option.map_some]
theorem NG : aM B K jQ [.bool true] = some (.str td) := by
 have h : aM B K fi [.bool true] = some (.str td) := jO 10 fun call => by kernel_rfl
 rw [bR (by simp [bh])]
 simp +contextual -implicitDefEqProofs (maxSteps := 1000000) (maxDischargeDepth := 8) only [bh, h, aO, ag, implies_true, simprocAttr]
theorem Kp : aM B K jQ [.bool false] = some (.str pj) := by
 have h : aM B K fi [.bool false] = some (.str pj) := jO 10 fun call => by kernel_rfl
 rw [bR (by simp [bh])]
 simp +contextual -implicitDefEqProofs (maxSteps := 1000000) (maxDischargeDepth := 8) only [bh, h, aO, ag, implies_true, simprocAttr]
theorem jJ.down {m : Mem} {v : EV} {cs : List EV} {n e lo Ty : Nat} (h : jJ m v cs n e lo) (hl : Ty <= lo) : jJ m v cs n e Ty :=
 ⟨by rcases h.is with h | ⟨b, cap, t, h1, h2, h3⟩; exact .inl h; exact .inr ⟨b, cap, t, h1, by omega, h3⟩, h.len⟩
theorem wR (d : Nd) : ((if aJ d ≠ [] then [aJ d] else []) ++ (if d.s ≠ [] then [d.s] else [])).length <= 2 := by
 by_cases h1 : aJ d = [] <;> by_cases h2 : d.s = [] <;> simp [h1, h2]
theorem kK (d : Nd) : (fP d).length <= 3 := by
 have := wR d
 unfold fP;rw [kE];by_cases h : d.kind = 25 \/ d.kind = 24
 ·rw [if_pos h]; simp only [List.length_cons, List.length_nil]; omega
 ·rw [if_neg h]; simp only [List.length_nil]; omega
theorem oZ (d : Nd) : [aJ d, d.s].filter (· ≠ []) = (if aJ d ≠ [] then [aJ d] else []) ++ (if d.s ≠ [] then [d.s] else []) := by
 by_cases h1 : aJ d = [] <;> by_cases h2 : d.s = [] <;> simp [h1, h2]
theorem Fk {l : List Nd} {t : Nat} {nl : Bool} (ht : yJ l) (hr : ef l) {b1 b3 : Nat} : ∀ i : Nat, i < l.length -> ∀ m, Cl m b1 b3 (row nl t 5 (dX l)) -> yK gP [.int .i64 (i : Int), .ptr b1 0, .ptr b3 0] m (br l i) := by
 intro i
 induction i using Nat.strongRecOn with
 | _ i ih =>
  intro hi m mN
  have hd0 : l[i]? = some l[i] := ij hi
  have iZ := oU hi
  have qf : l[i].kids.length < 1001 := by have := sW hr.1.1 hr.1.2.1 iZ; have := ht.len; omega
  have RR := ht.s _ iZ
  have CI := ht.n _ iZ
  have hx := hr.1.1 i _ hd0
  have RP := y5 ht hr hi
  have HG := iS hr.1.1 hd0
  generalize Qe : l[i] = d at *
  have Lj : ∀ x ∈ d.kids, ∀ m, Cl m b1 b3 (row nl t 5 (dX l)) -> yK gP [.int .i64 x, .ptr b1 0, .ptr b3 0] m (br l x.toNat) := by
   intro x rc m hc
   have h1 := hx x rc
   have := ih x.toNat (by omega) (by omega) m hc
   rw [show ((x.toNat : Nat) : Int) = x by omega] at this;exact this
  obtain ⟨Ts, hg1⟩ := mN.g1
  have iO : idx l.length (.int .i64 (i : Int)) = some i := aA hi
  have jj := vU (k := d.kind)
  unfold yK;rw [tF (by simp [bG])]
  generalize Sx : exec (UT B K) (au.loop bW) = L0
  generalize Rc : exec (UT B K) (au.loop cz) = L1
  have Lq := mN.l1
  have OO := mN.l3
  generalize hX : qT _ _ = X
  by_cases k1 : d.kind = 1
  ·have CM := fun m => Jw (m := m) CI.1 CI.2
   have e : br l i = Go.Lib.itoa d.n := by rw [HG]; unfold fN; rw [if_pos k1]
   rw [e];rw [k1] at jj;simp +contextual -implicitDefEqProofs (maxSteps := 1000000) (maxDischargeDepth := 8) only [bG, hg1, iO, hd0, Lq, OO, bt, aK, Nd.cells, gD.cells, jj, k1, CM, aO, ag, implies_true, simprocAttr] at hX
   subst hX;exact ⟨_, rfl, by repeat first | exact kg.refl _ | apply kg.ext | apply kg.bump⟩
  by_cases k2 : d.kind = 2
  ·rw [k2] at jj
   by_cases h1 : d.n = 1
   ·have e : br l i = td := by rw [HG]; unfold fN; rw [if_neg k1, if_pos k2, if_pos h1]
    rw [e];simp +contextual -implicitDefEqProofs (maxSteps := 1000000) (maxDischargeDepth := 8) only [bG, hg1, iO, hd0, Lq, OO, bt, aK, Nd.cells, gD.cells, jj, k2, h1, NG, aO, ag, implies_true, simprocAttr] at hX
    subst hX;exact ⟨_, rfl, by repeat first | exact kg.refl _ | apply kg.ext | apply kg.bump⟩
   ·have e : br l i = pj := by rw [HG]; unfold fN; rw [if_neg k1, if_pos k2, if_neg h1]
    rw [e];simp +contextual -implicitDefEqProofs (maxSteps := 1000000) (maxDischargeDepth := 8) only [bG, hg1, iO, hd0, Lq, OO, bt, aK, Nd.cells, gD.cells, jj, k2, h1, Kp, aO, ag, implies_true, simprocAttr] at hX
    subst hX;exact ⟨_, rfl, by repeat first | exact kg.refl _ | apply kg.ext | apply kg.bump⟩
  by_cases k3 : d.kind = 3
  ·have e : br l i = (fT d.kind).word := by rw [HG]; unfold fN; rw [if_neg k1, if_neg k2, if_pos k3, k3]; rfl
   rw [e];rw [k3] at jj ⊢
   simp +contextual -implicitDefEqProofs (maxSteps := 1000000) (maxDischargeDepth := 8) only [bG, hg1, iO, hd0, Lq, OO, bt, aK, Nd.cells, gD.cells, jj, k3, aO, ag, implies_true, simprocAttr] at hX
   subst hX;exact ⟨_, rfl, by repeat first | exact kg.refl _ | apply kg.ext | apply kg.bump⟩
  by_cases k4 : d.kind = 4
  ·have e : br l i = d.s := by rw [HG]; unfold fN; rw [if_neg k1, if_neg k2, if_neg k3, if_pos k4]
   rw [e];rw [k4] at jj;simp +contextual -implicitDefEqProofs (maxSteps := 1000000) (maxDischargeDepth := 8) only [bG, hg1, iO, hd0, Lq, OO, bt, aK, Nd.cells, gD.cells, jj, k4, aO, ag, implies_true, simprocAttr] at hX
   subst hX;exact ⟨_, rfl, by repeat first | exact kg.refl _ | apply kg.ext | apply kg.bump⟩
  have e : br l i = 40 :: (Go.Lib.join (fP d ++ d.kids.map fun x => br l x.toNat) [32] ++ [41]) := by rw [HG]; unfold fN; rw [if_neg k1, if_neg k2, if_neg k3, if_neg k4]
  rw [e] at RP ⊢
  simp only [List.length_cons, kE, List.length_nil] at RP;have Ww : cH 2 [EV.str []] = [.str [], .str []] := rfl
  have TX : cH 1 [EV.str []] = [.str []] := rfl
  by_cases k5 : d.kind = 5
  ·have Q5 : aM B K rP [.int .i64 d.n] = some (.str (aJ d)) := by rw [E8 (by omega) (by omega)]; unfold aJ; rw [if_pos k5]
   have rV : aJ d = aJ d := rfl
   have Ae : fP d = (if aJ d ≠ [] then [aJ d] else []) ++ (if d.s ≠ [] then [d.s] else []) := by unfold fP; simp [show ¬ (d.kind = 25 \/ d.kind = 24) by omega]
   rw [k5] at jj;simp +contextual -implicitDefEqProofs (maxSteps := 1000000) (maxDischargeDepth := 8) only [bG, hg1, iO, hd0, Lq, OO, bt, aK, Nd.cells, gD.cells, jj, k5, Q5, Ww, di, jb, aO, ag, implies_true, simprocAttr] at hX
   subst Sx;generalize hY : exec _ (.loop bW) _ _ = Y at hX
   rw [rV] at hY;generalize hM : ext (bump _ 1) _ = M1 at hY
   have MP : kg m M1 := by rw [<- hM]; repeat first | exact kg.refl _ | apply kg.ext | apply kg.bump
   have Sr : M1.get (nb m.next 3) = .cells ([aJ d, d.s].map .str) 1 fV false := by rw [<- hM]; simp +contextual -implicitDefEqProofs (maxSteps := 1000000) (maxDischargeDepth := 8) only [rV, aO, ag, implies_true, simprocAttr]
   have Aj : M1.get (nb m.next 0) = .cells d.cells 5 aL false := by rw [<- hM]; simp +contextual -implicitDefEqProofs (maxSteps := 1000000) (maxDischargeDepth := 8) only [Nd.cells, k5, Q5, aO, ag, implies_true, simprocAttr]
   have wQ : M1.next = nb m.next 4 := by rw [<- hM]; simp +contextual -implicitDefEqProofs (maxSteps := 1000000) (maxDischargeDepth := 8) only [aO, ag, implies_true, simprocAttr]
   obtain ⟨o, rfl, dB, m1, v1, rfl, g2, g5, g6, g8, Eu, ul, gd⟩ := cw hY (tJ (ws := [aJ d, d.s]) (bw := nb m.next 3) (tw := fV) (v2 := .ptr b3 0) (v5 := .ptr (nb m.next 0) 0) (v6 := .ptr (nb m.next 2) 0) (by simp) Sr (by rw [wQ]; unfold nb; omega) (by simp only [ai, Nat.reduceBEq ]) (by simp only [ai, Nat.reduceBEq ]) (by simp only [ai, Nat.reduceBEq ]) (by simp only [ai, Nat.reduceBEq ]) (by simp only [ai, Nat.reduceBEq ]; rfl) (by simp only [ai, Nat.reduceBEq ]; rfl) (by simp only [ai, Nat.reduceBEq ]) (by simp only [ai, Nat.reduceBEq ]))
   rw [oZ] at Eu;have vF := (ul.2 (nb m.next 0) (by rw [wQ]; unfold nb; omega)).trans Aj
   simp only [Nd.cells] at vF
   have GI : kg m m1 := MP.trans ul
   replace Eu := Eu.down MP.1
   rw [<- Ae] at Eu;rw [k5] at vF
   simp +contextual -implicitDefEqProofs (maxSteps := 1000000) (maxDischargeDepth := 8) only [g2, g5, g6, g8, gd, vF, GI.1, aO, ag, implies_true, simprocAttr] at hX
   subst Rc;generalize hZ : exec _ (.loop cz) _ _ = Z at hX
   obtain ⟨o, rfl, YD, m3, v3, rfl, w8, R5, Se, wd⟩ := cw hZ (tI (l := l) (ks := d.kids) (b1 := b1) (b3 := b3) (vr := row nl t 5 (dX l)) (nl := d.nl) (ps := fP d) (lo := m) (vp := v1) qf (by have := kK d; omega) mN GI Lj (by simp only [g2, ai, Nat.reduceBEq ]) (by simp only [g8, ai, Nat.reduceBEq ]) (by simpa using Eu) (by simp only [ai, Nat.reduceBEq ]) (by simp only [ao, ai, Nat.reduceBEq ]) (by simp only [ai, Nat.reduceBEq ]) (by simp only [gd, ai, Nat.reduceBEq ]))
   have Sf := uc (m := m3) R5 (by have hh := kK d; rw [kE, List.length_map]; omega) (by omega)
   have c1 : ∀ s : gh, s.length <= 4000000000 -> aV .add (.str [40]) (.str s) = some (.str (40 :: s)) := fun s hs => by rw [jc, lJ (by simp; omega)]; rfl
   have c2 : ∀ s : gh, s.length <= 4000000000 -> aV .add (.str s) (.str [41]) = some (.str (s ++ [41])) := fun s hs => by rw [jc, lJ (by simp; omega)]; rfl
   have QA := c1 (Go.Lib.join (fP d ++ d.kids.map fun x => br l x.toNat) [32]) (by omega)
   have Tk := c2 (40 :: Go.Lib.join (fP d ++ d.kids.map fun x => br l x.toNat) [32]) (by simp; omega)
   simp +contextual -implicitDefEqProofs (maxSteps := 1000000) (maxDischargeDepth := 8) only [w8, wd, Sf, QA, Tk, aO, ag, implies_true, simprocAttr] at hX
   subst hX;exact ⟨_, rfl, Se⟩
  by_cases hk : d.kind = 25 \/ d.kind = 24
  ·have rV : (fT d.kind).word = aJ d := by unfold aJ; rw [if_neg k5]
   have Ae : fP d = ((if aJ d ≠ [] then [aJ d] else []) ++ (if d.s ≠ [] then [d.s] else [])) ++ [dI d.n] := by unfold fP; simp [hk]
   have sC : aM B K rQ [.int .i64 d.n] = some (.str (dI d.n)) := Fa
   simp +contextual -implicitDefEqProofs (maxSteps := 1000000) (maxDischargeDepth := 8) only [bG, hg1, iO, hd0, Lq, OO, bt, aK, Nd.cells, gD.cells, jj, k1, k2, k3, k4, k5, Ww, di, jb, aO, ag, implies_true, simprocAttr] at hX
   subst Sx;generalize hY : exec _ (.loop bW) _ _ = Y at hX
   rw [rV] at hY;generalize hM : ext (bump _ 1) _ = M1 at hY
   have MP : kg m M1 := by rw [<- hM]; repeat first | exact kg.refl _ | apply kg.ext | apply kg.bump
   have Sr : M1.get (nb m.next 3) = .cells ([aJ d, d.s].map .str) 1 fV false := by rw [<- hM]; simp +contextual -implicitDefEqProofs (maxSteps := 1000000) (maxDischargeDepth := 8) only [rV, aO, ag, implies_true, simprocAttr]
   have Aj : M1.get (nb m.next 0) = .cells d.cells 5 aL false := by rw [<- hM]; simp +contextual -implicitDefEqProofs (maxSteps := 1000000) (maxDischargeDepth := 8) only [Nd.cells, k1, k2, k3, k4, k5, aO, ag, implies_true, simprocAttr]
   have wQ : M1.next = nb m.next 4 := by rw [<- hM]; simp +contextual -implicitDefEqProofs (maxSteps := 1000000) (maxDischargeDepth := 8) only [aO, ag, implies_true, simprocAttr]
   obtain ⟨o, rfl, dB, m1, v1, rfl, g2, g5, g6, g8, Eu, ul, gd⟩ := cw hY (tJ (ws := [aJ d, d.s]) (bw := nb m.next 3) (tw := fV) (v2 := .ptr b3 0) (v5 := .ptr (nb m.next 0) 0) (v6 := .ptr (nb m.next 2) 0) (by simp) Sr (by rw [wQ]; unfold nb; omega) (by simp only [ai, Nat.reduceBEq ]) (by simp only [ai, Nat.reduceBEq ]) (by simp only [ai, Nat.reduceBEq ]) (by simp only [ai, Nat.reduceBEq ]) (by simp only [ai, Nat.reduceBEq ]; rfl) (by simp only [ai, Nat.reduceBEq ]; rfl) (by simp only [ai, Nat.reduceBEq ]) (by simp only [ai, Nat.reduceBEq ]))
   rw [oZ] at Eu;have vF := (ul.2 (nb m.next 0) (by rw [wQ]; unfold nb; omega)).trans Aj
   simp only [Nd.cells] at vF
   have GI : kg m m1 := MP.trans ul
   obtain ⟨Rn, M2, ha, JQ, mY⟩ := IM (x := .str (dI d.n)) (ty := fV) (m0 := M1) Eu ul (by have := wR d; omega)
   have Yx := vF
   simp +contextual -implicitDefEqProofs (maxSteps := 1000000) (maxDischargeDepth := 8) only [g2, g5, g6, g8, gd, vF, sC, hk, TX, ha, di, jb, aO, ag, implies_true, simprocAttr] at hX
   have Yw : M2.get (nb m.next 0) = .cells d.cells 5 aL false := (mY.2 (nb m.next 0) (by rw [wQ]; unfold nb; omega)).trans Aj
   replace JQ := JQ.down MP.1
   replace mY := MP.trans mY
   simp only [Nd.cells] at Yw;simp +contextual -implicitDefEqProofs (maxSteps := 1000000) (maxDischargeDepth := 8) only [Yw, aO, ag, implies_true, simprocAttr] at hX
   subst Rc;generalize hZ : exec _ (.loop cz) _ _ = Z at hX
   obtain ⟨o, rfl, YD, m3, v3, rfl, w8, R5, Se, wd⟩ := cw hZ (tI (l := l) (ks := d.kids) (b1 := b1) (b3 := b3) (vr := row nl t 5 (dX l)) (nl := d.nl) (ps := fP d) (lo := m) (vp := Rn) qf (by have := kK d; omega) mN mY Lj (by simp only [g2, ai, Nat.reduceBEq ]) (by simp only [g8, ai, Nat.reduceBEq ]) (by rw [Ae, List.map_append (l₂ := [dI d.n]), kE (bs := [dI d.n])]; exact JQ) (by simp only [ai, Nat.reduceBEq ]) (by simp only [ao, ai, Nat.reduceBEq ]) (by simp only [ai, Nat.reduceBEq ]) (by simp only [gd, ai, Nat.reduceBEq ]))
   have Sf := uc (m := m3) R5 (by have hh := kK d; rw [kE, List.length_map]; omega) (by omega)
   have c1 : ∀ s : gh, s.length <= 4000000000 -> aV .add (.str [40]) (.str s) = some (.str (40 :: s)) := fun s hs => by rw [jc, lJ (by simp; omega)]; rfl
   have c2 : ∀ s : gh, s.length <= 4000000000 -> aV .add (.str s) (.str [41]) = some (.str (s ++ [41])) := fun s hs => by rw [jc, lJ (by simp; omega)]; rfl
   have QA := c1 (Go.Lib.join (fP d ++ d.kids.map fun x => br l x.toNat) [32]) (by omega)
   have Tk := c2 (40 :: Go.Lib.join (fP d ++ d.kids.map fun x => br l x.toNat) [32]) (by simp; omega)
   simp +contextual -implicitDefEqProofs (maxSteps := 1000000) (maxDischargeDepth := 8) only [w8, wd, Sf, QA, Tk, aO, ag, implies_true, simprocAttr] at hX
   subst hX;exact ⟨_, rfl, Se⟩
  ·have rV : (fT d.kind).word = aJ d := by unfold aJ; rw [if_neg k5]
   have Ae : fP d = (if aJ d ≠ [] then [aJ d] else []) ++ (if d.s ≠ [] then [d.s] else []) := by unfold fP; simp [hk]
   simp +contextual -implicitDefEqProofs (maxSteps := 1000000) (maxDischargeDepth := 8) only [bG, hg1, iO, hd0, Lq, OO, bt, aK, Nd.cells, gD.cells, jj, k1, k2, k3, k4, k5, Ww, di, jb, aO, ag, implies_true, simprocAttr] at hX
   subst Sx;generalize hY : exec _ (.loop bW) _ _ = Y at hX
   rw [rV] at hY;generalize hM : ext (bump _ 1) _ = M1 at hY
   have MP : kg m M1 := by rw [<- hM]; repeat first | exact kg.refl _ | apply kg.ext | apply kg.bump
   have Sr : M1.get (nb m.next 3) = .cells ([aJ d, d.s].map .str) 1 fV false := by rw [<- hM]; simp +contextual -implicitDefEqProofs (maxSteps := 1000000) (maxDischargeDepth := 8) only [rV, aO, ag, implies_true, simprocAttr]
   have Aj : M1.get (nb m.next 0) = .cells d.cells 5 aL false := by rw [<- hM]; simp +contextual -implicitDefEqProofs (maxSteps := 1000000) (maxDischargeDepth := 8) only [Nd.cells, k1, k2, k3, k4, k5, aO, ag, implies_true, simprocAttr]
   have wQ : M1.next = nb m.next 4 := by rw [<- hM]; simp +contextual -implicitDefEqProofs (maxSteps := 1000000) (maxDischargeDepth := 8) only [aO, ag, implies_true, simprocAttr]
   obtain ⟨o, rfl, dB, m1, v1, rfl, g2, g5, g6, g8, Eu, ul, gd⟩ := cw hY (tJ (ws := [aJ d, d.s]) (bw := nb m.next 3) (tw := fV) (v2 := .ptr b3 0) (v5 := .ptr (nb m.next 0) 0) (v6 := .ptr (nb m.next 2) 0) (by simp) Sr (by rw [wQ]; unfold nb; omega) (by simp only [ai, Nat.reduceBEq ]) (by simp only [ai, Nat.reduceBEq ]) (by simp only [ai, Nat.reduceBEq ]) (by simp only [ai, Nat.reduceBEq ]) (by simp only [ai, Nat.reduceBEq ]; rfl) (by simp only [ai, Nat.reduceBEq ]; rfl) (by simp only [ai, Nat.reduceBEq ]) (by simp only [ai, Nat.reduceBEq ]))
   rw [oZ] at Eu;have vF := (ul.2 (nb m.next 0) (by rw [wQ]; unfold nb; omega)).trans Aj
   simp only [Nd.cells] at vF
   have GI : kg m m1 := MP.trans ul
   replace Eu := Eu.down MP.1
   rw [<- Ae] at Eu;simp +contextual -implicitDefEqProofs (maxSteps := 1000000) (maxDischargeDepth := 8) only [g2, g5, g6, g8, gd, vF, hk, GI.1, aO, ag, implies_true, simprocAttr] at hX
   subst Rc;generalize hZ : exec _ (.loop cz) _ _ = Z at hX
   obtain ⟨o, rfl, YD, m3, v3, rfl, w8, R5, Se, wd⟩ := cw hZ (tI (l := l) (ks := d.kids) (b1 := b1) (b3 := b3) (vr := row nl t 5 (dX l)) (nl := d.nl) (ps := fP d) (lo := m) (vp := v1) qf (by have := kK d; omega) mN GI Lj (by simp only [g2, ai, Nat.reduceBEq ]) (by simp only [g8, ai, Nat.reduceBEq ]) (by simpa using Eu) (by simp only [ai, Nat.reduceBEq ]) (by simp only [ao, ai, Nat.reduceBEq ]) (by simp only [ai, Nat.reduceBEq ]) (by simp only [gd, ai, Nat.reduceBEq ]))
   have Sf := uc (m := m3) R5 (by have hh := kK d; rw [kE, List.length_map]; omega) (by omega)
   have c1 : ∀ s : gh, s.length <= 4000000000 -> aV .add (.str [40]) (.str s) = some (.str (40 :: s)) := fun s hs => by rw [jc, lJ (by simp; omega)]; rfl
   have c2 : ∀ s : gh, s.length <= 4000000000 -> aV .add (.str s) (.str [41]) = some (.str (s ++ [41])) := fun s hs => by rw [jc, lJ (by simp; omega)]; rfl
   have QA := c1 (Go.Lib.join (fP d ++ d.kids.map fun x => br l x.toNat) [32]) (by omega)
   have Tk := c2 (40 :: Go.Lib.join (fP d ++ d.kids.map fun x => br l x.toNat) [32]) (by simp; omega)
   simp +contextual -implicitDefEqProofs (maxSteps := 1000000) (maxDischargeDepth := 8) only [w8, wd, Sf, QA, Tk, aO, ag, implies_true, simprocAttr] at hX
   subst hX;exact ⟨_, rfl, Se⟩
end
section
open Classical in
noncomputable def DX (l : List Nd) : gh := if ef l then br l (l.length - 1) else []
theorem E7 {l : List Nd} {t : Nat} {nl : Bool} (ht : yJ l) : aM B K rO [row nl t 5 (dX l)] = some (.str (DX l)) := by
 have hlen := ht.small.len
 rw [bR (by simp [ez])]
 have e := fun t nl => te (t := t) (nl := nl) ht.small (fun d hd => (ht.n d hd).2)
 unfold DX;by_cases h : ef l
 ·rw [if_pos h]
  have vD := h.2.1
  have hw : IntKind.i64.wrap ((l.length : Int) - 1) = ((l.length - 1 : Nat) : Int) := by rw [wrap_i64 (by omega) (by omega)]; omega
  have mN : ∀ Ts T9, Cl (ext cu [.cells [row nl t 5 (dX l)] 1 Ts false, .cells [.func gP [] [.ptr (nb cu.next 0) 0, .ptr (nb cu.next 1) 0]] 1 T9 false]) (nb cu.next 0) (nb cu.next 1) (row nl t 5 (dX l)) := fun Ts T9 =>
   ⟨⟨Ts, by rw [bS rfl (by simp)]; rfl⟩, ⟨T9, by rw [bS rfl (by simp)]; rfl⟩, by rw [b8]; unfold nb; simp, by rw [b8]; unfold nb; simp⟩
  obtain ⟨m', hr, _⟩ := Fk ht h (l.length - 1) (by omega) _ (mN xy 38)
  simp +contextual -implicitDefEqProofs (maxSteps := 1000000) (maxDischargeDepth := 8) only [ez, e, h, hw, hr, aK, nc, aO, ag, implies_true, simprocAttr]
 ·rw [if_neg h]
  simp +contextual -implicitDefEqProofs (maxSteps := 1000000) (maxDischargeDepth := 8) only [ez, e, h, lh, aO, ag, implies_true, simprocAttr]
end
section
def sr (n : Int) (u : Nat) : Int := if n < 0 then -(u : Int) else (u : Int)
theorem AR {m : Mem} {x : Int} {ty : Nat} : fA .text (ext m [.cells [.int .u8 x] 1 ty false]) (.slice (nb m.next 0) 0 1 (some 1)) = some (.str [UInt8.ofNat x.toNat], ext m [.cells [.int .u8 x] 1 ty false]) := by
 have hM : (ext m [.cells [.int .u8 x] 1 ty false]).get (nb m.next 0) = .cells [.int .u8 x] 1 ty false := by rw [bS rfl (by simp)]; rfl
 simp only [fA, Mem.jG (show (1 : Nat) ≠ 0 by decide), Mem.tG, hM]
 rfl
theorem LZ {n : Int} {u : Nat} : (sr n u).tdiv 10 = sr n (u / 10) := by
 unfold sr
 split
 ·rw [Int.neg_tdiv]; rfl
 ·rfl
theorem LY {n : Int} {u : Nat} : (sr n u).tmod 10 = sr n (u % 10) := by
 unfold sr
 split
 ·rw [Int.neg_tmod]; rfl
 ·rfl
theorem DE {n : Int} {N : Nat} (hN : N <= 9223372036854775808) {v0 : EV} {m0 : Mem} {fr : Fr} (h0 : fr.get 0 = v0) (h3 : fr.get 3 = .str []) (h4 : fr.get 4 = .int .i64 (sr n N)) (h0' : N ≠ 0) (hd : fr.defers = []) :
  ∃ o, exec U (.loop dq) fr m0 = some o /\ ∃ fr' m', o = .exit 0 fr' m' /\ fr'.get 0 = v0 /\ fr'.get 3 = .str (Go.Lib.decDigits N) /\ fr'.defers = [] := by
 have hlen := s4 18 N (by omega)
 refine dF (σ := Nat) (fun u fr m => u <= N /\ fr.get 0 = v0 /\ fr.get 4 = .int .i64 (sr n u) /\ (∃ s, fr.get 3 = .str s /\ ((u ≠ 0 /\ Go.Lib.decDigits N = Go.Lib.decDigits u ++ s) \/ (u = 0 /\ Go.Lib.decDigits N = s))) /\ fr.defers = []) (fun u => u) _ ?_ N fr m0
  ⟨ee _, h0, h4, ⟨[], h3, .inl ⟨h0', by simp⟩⟩, hd⟩
 rintro u fr m ⟨hu, h0, h4, ⟨s, h3, hs⟩, hd⟩
 generalize hX : exec U dq fr m = X
 by_cases hz : u = 0
 ·subst hz
  have e : Go.Lib.decDigits N = s := by rcases hs with ⟨h, _⟩ | ⟨_, h⟩; exact absurd rfl h; exact h
  have hc : sr n 0 = 0 := by unfold sr; split <;> rfl
  rw [hc] at h4;simp +contextual -implicitDefEqProofs (maxSteps := 1000000) (maxDischargeDepth := 8) only [dq, h0, h3, h4, hd, aO, ag, implies_true, simprocAttr] at hX
  subst hX;exact cN ⟨_, _, rfl, by simp only [h0, ai, Nat.reduceBEq ], by simp only [h3, e, ai, Nat.reduceBEq ], by simp only [hd, ai, Nat.reduceBEq ]⟩
 ·have e : Go.Lib.decDigits N = Go.Lib.decDigits u ++ s := by rcases hs with ⟨_, h⟩ | ⟨h, _⟩; exact h; exact absurd h hz
  have RR : s.length <= 19 := by have := congrArg List.length e; rw [kE] at this; omega
  have hc : ¬ sr n u = 0 := by unfold sr; split <;> omega
  have hm := LY (n := n) (u := u)
  have hq := LZ (n := n) (u := u)
  have Yc : IntKind.i64.wrap (sr n (u / 10)) = sr n (u / 10) := wrap_i64 (by unfold sr; split <;> omega) (by unfold sr; split <;> omega)
  have Ye : IntKind.u8.wrap (48 + ((u % 10 : Nat) : Int)) = 48 + ((u % 10 : Nat) : Int) := by rw [LC]; omega
  have Yd : IntKind.i64.wrap (48 + ((u % 10 : Nat) : Int)) = 48 + ((u % 10 : Nat) : Int) := wrap_i64 (by omega) (by omega)
  have Yi : (48 + ((u % 10 : Nat) : Int)).toNat = 48 + u % 10 := by omega
  have c1 : aV .add (.str [UInt8.ofNat (48 + u % 10)]) (.str s) = some (.str (UInt8.ofNat (48 + u % 10) :: s)) := by rw [jc, lJ (by simp; omega)]; rfl
  have TX : cH 1 [EV.int .u8 0] = [.int .u8 0] := rfl
  have e2 : (u / 10 ≠ 0 /\ Go.Lib.decDigits N = Go.Lib.decDigits (u / 10) ++ (UInt8.ofNat (48 + u % 10) :: s)) \/ (u / 10 = 0 /\ Go.Lib.decDigits N = UInt8.ofNat (48 + u % 10) :: s) := by
   rw [e];by_cases TT : u < 10
   ·refine .inr ⟨by omega, ?_⟩
    unfold Go.Lib.decDigits;rw [dif_pos TT, show u % 10 = u by omega]; rfl
   ·refine .inl ⟨by omega, ?_⟩
    conv => lhs; unfold Go.Lib.decDigits
    rw [dif_neg TT, List.append_assoc]; rfl
  by_cases R6 : sr n (u % 10) < 0
  ·have JR : n < 0 := by
    refine sj fun q => ?_
    unfold sr at R6; rw [if_neg q] at R6; omega
   have Zv : IntKind.i64.wrap (0 - sr n (u % 10)) = ((u % 10 : Nat) : Int) := by
    have : sr n (u % 10) = -((u % 10 : Nat) : Int) := by unfold sr; rw [if_pos JR]
    rw [this, wrap_i64 (by omega) (by omega)]; omega
   simp +contextual -implicitDefEqProofs (maxSteps := 1000000) (maxDischargeDepth := 8) only [dq, h0, h3, h4, hd, hc, hm, hq, Yc, R6, Zv, Yd, Ye, Yi, TX, AR, c1, di, jb, if_false, aO, ag, implies_true, simprocAttr] at hX
   subst hX;exact cB (u / 10) (by omega) ⟨by omega, by simp only [h0, ai, Nat.reduceBEq ], by simp only [ai, Nat.reduceBEq ], ⟨_, by simp only [ai, Nat.reduceBEq ], e2⟩, by simp only [hd, ai, Nat.reduceBEq ]⟩
  ·have Q5 : sr n (u % 10) = ((u % 10 : Nat) : Int) := by
    unfold sr at R6 ⊢
    split
    ·rename_i q; rw [if_pos q] at R6; omega
    ·rfl
   have VV : ¬ (((u % 10 : Nat) : Int) < 0) := by omega
   rw [Q5] at hm;simp +contextual -implicitDefEqProofs (maxSteps := 1000000) (maxDischargeDepth := 8) only [dq, h0, h3, h4, hd, hc, hm, hq, Yc, VV, Yd, Ye, Yi, TX, AR, c1, di, jb, if_false, aO, ag, implies_true, simprocAttr] at hX
   subst hX;exact cB (u / 10) (by omega) ⟨by omega, by simp only [h0, ai, Nat.reduceBEq ], by simp only [ai, Nat.reduceBEq ], ⟨_, by simp only [ai, Nat.reduceBEq ], e2⟩, by simp only [hd, ai, Nat.reduceBEq ]⟩
theorem Ht {n : Int} (h1 : -9223372036854775808 <= n) (h2 : n <= 9223372036854775807) : aM B K zT [.int .i64 n] = some (.str (Go.Lib.itoa n)) := by
 rw [bR (by simp [eE])]
 generalize hL : exec (UT B K) (au.loop dq) = L
 by_cases h0 : n = 0
 ·subst h0
  have e : Go.Lib.itoa 0 = [48] := by unfold Go.Lib.itoa; rw [if_neg (by decide)]; unfold Go.Lib.decDigits; rw [dif_pos (by decide)]; rfl
  rw [e];simp +contextual -implicitDefEqProofs (maxSteps := 1000000) (maxDischargeDepth := 8) only [eE, aO, ag, implies_true, simprocAttr]
 ·simp +contextual -implicitDefEqProofs (maxSteps := 1000000) (maxDischargeDepth := 8) only [eE, h0, aO, ag, implies_true, simprocAttr]
  subst hL;generalize hX : exec _ (.loop dq) _ _ = X
  have Q5 : n = sr n n.natAbs := by unfold sr; split <;> omega
  have hlen := s4 18 n.natAbs (by omega)
  obtain ⟨o, rfl, fr', m', rfl, g0, g3, gd⟩ := cw hX (DE (n := n) (N := n.natAbs) (v0 := .int .i64 n) (by omega) (by simp only [ai, Nat.reduceBEq ]) (by simp only [ai, Nat.reduceBEq ]) (by simp only [<- Q5, ai, Nat.reduceBEq ]) (by omega) (by simp only [ai, Nat.reduceBEq ]))
  by_cases hn : n < 0
  ·have c1 : aV .add (.str [45]) (.str (Go.Lib.decDigits n.natAbs)) = some (.str (45 :: Go.Lib.decDigits n.natAbs)) := by rw [jc, lJ (by simp; omega)]; rfl
   have e : Go.Lib.itoa n = 45 :: Go.Lib.decDigits n.natAbs := by unfold Go.Lib.itoa; rw [if_pos hn]
   rw [e];simp +contextual -implicitDefEqProofs (maxSteps := 1000000) (maxDischargeDepth := 8) only [g0, g3, gd, hn, c1, aO, ag, implies_true, simprocAttr]
  ·have e : Go.Lib.itoa n = Go.Lib.decDigits n.natAbs := by unfold Go.Lib.itoa; rw [if_neg hn, show n.toNat = n.natAbs by omega]
   rw [e];simp +contextual -implicitDefEqProofs (maxSteps := 1000000) (maxDischargeDepth := 8) only [g0, g3, gd, hn, aO, ag, implies_true, simprocAttr]
end
section
def Qx : List gh := il.map gD.word
theorem NZ {d : Nd} (h : 1 <= d.kind /\ d.kind <= 26) (h5 : d.kind ≠ 5) : Qx[(d.kind - 1).toNat]? = some (aJ d) := by
 unfold aJ fT;rw [if_neg h5, if_pos h];have hl : (d.kind - 1).toNat < il.length := by show _ < 26; omega
 unfold Qx;rw [List.getElem?_map, ij hl, List.getD_eq_getElem?_getD, ij hl]; rfl
theorem IK {d : Nd} (h : 1 <= d.kind /\ d.kind <= 26) (h5 : d.kind = 5 -> 1 <= d.n /\ d.n <= 16) : aM B K tS [.agg d.cells] = some (.str (aJ d)) := by
 rw [bR (by simp [fE])]
 have hf : cU (cH 26 [.str []]) [(0, 1, .str []), (1, 1, .str []), (2, 1, .str [110, 105, 108]), (3, 1, .str []), (4, 1, .str []), (5, 1, .str [110, 101, 103]), (6, 1, .str [110, 111, 116]), (7, 1, .str [97, 116]), (8, 1, .str [108, 101, 110]), (9, 1, .str [110, 101, 119]), (10, 1, .str [99, 97, 108, 108]), (11, 1, .str [118, 97, 114]), (12, 1, .str [115, 101, 116]), (13, 1, .str [112, 117, 116]), (14, 1, .str [105, 102]), (15, 1, .str [119, 104, 105, 108, 101]), (16, 1, .str [102, 111, 114]), (17, 1, .str [98, 114, 101, 97, 107]), (18, 1, .str [99, 111, 110, 116, 105, 110, 117, 101]), (19, 1, .str [114, 101, 116, 117, 114, 110]), (20, 1, .str [112, 114, 105, 110, 116]), (21, 1, .str [100, 111]), (22, 1, .str [98, 108, 111, 99, 107]), (23, 1, .str []), (24, 1, .str [102, 110]), (25, 1, .str [112, 114, 111, 103])] = some (Qx.map .str) := by kernel_rfl
 by_cases k5 : d.kind = 5
 ·have hn := h5 k5
  obtain ⟨n, CI⟩ : ∃ n : Nat, d.n = (n : Int) + 1 := ⟨(d.n - 1).toNat, by omega⟩
  have hw : IntKind.i64.wrap ((n : Int) + 1 - 1) = (n : Int) := by rw [wrap_i64 (by omega) (by omega)]; omega
  have hi : idx opsL.length (.int .i64 (n : Int)) = some n := aA (by show n < 16; omega)
  have hg : opsL[n]? = some (aJ d) := by
   unfold aJ; rw [if_pos k5, CI]
   have : ∀ n : Nat, n < 16 -> opsL[n]? = some (oJ ((n : Int) + 1)) := by decide
   exact this n (by omega)
  simp +contextual -implicitDefEqProofs (maxSteps := 1000000) (maxDischargeDepth := 8) only [fE, Nd.cells, k5, CI, hw, hi, hg, FJ, hf, qQ, qP, di, jb, Nat.mul_one, aO, ag, implies_true, simprocAttr]
 ·have hw : IntKind.i64.wrap (d.kind - 1) = (((d.kind - 1).toNat : Nat) : Int) := by rw [wrap_i64 (by omega) (by omega)]; omega
  have hi : idx 26 (.int .i64 (((d.kind - 1).toNat : Nat) : Int)) = some (d.kind - 1).toNat := aA (by omega)
  have hg := NZ h k5
  simp +contextual -implicitDefEqProofs (maxSteps := 1000000) (maxDischargeDepth := 8) only [fE, Nd.cells, k5, hw, hi, hg, hf, di, jb, Nat.mul_one, aO, ag, implies_true, simprocAttr]
def dR (d : Nd) : gh := aJ d ++ (if d.s ≠ [] /\ aJ d ≠ [] then [32] else []) ++ d.s ++ (if d.kind = 24 \/ d.kind = 25 then 32 :: dI d.n else [])
theorem tail_cons (y : gh) (r : List gh) : Go.Lib.joinTail [32] (y :: r) = 32 :: (y ++ Go.Lib.joinTail [32] r) := rfl
theorem jL : ∀ (a b : List gh), Go.Lib.joinTail [32] (a ++ b) = Go.Lib.joinTail [32] a ++ Go.Lib.joinTail [32] b := by
 intro a b; unfold Go.Lib.joinTail; rw [List.map_append, List.flatten_append]
theorem tail_nil : Go.Lib.joinTail [32] [] = [] := rfl
theorem Gy {d : Nd} (h : aJ d ≠ [] \/ d.s ≠ []) (ks : List gh) : Go.Lib.join (fP d ++ ks) [32] = dR d ++ Go.Lib.joinTail [32] ks := by
 unfold fP dR;by_cases h1 : aJ d = []
 ·have h2 : d.s ≠ [] := by rcases h with h | h; exact absurd h1 h; exact h
  by_cases h3 : d.kind = 25 \/ d.kind = 24
  ·simp [h1, h2, h3, h3.symm, Go.Lib.join_cons, tail_cons, jL]
  ·have h4 : ¬ (d.kind = 24 \/ d.kind = 25) := fun q => h3 q.symm
   simp [h1, h2, h3, h4, Go.Lib.join_cons, tail_cons, jL]
 ·by_cases h2 : d.s = []
  ·by_cases h3 : d.kind = 25 \/ d.kind = 24
   ·simp [h1, h2, h3, h3.symm, Go.Lib.join_cons, tail_cons, jL]
   ·have h4 : ¬ (d.kind = 24 \/ d.kind = 25) := fun q => h3 q.symm
    simp [h1, h2, h3, h4, Go.Lib.join_cons, tail_cons, jL]
  ·by_cases h3 : d.kind = 25 \/ d.kind = 24
   ·simp [h1, h2, h3, h3.symm, Go.Lib.join_cons, tail_cons, jL]
   ·have h4 : ¬ (d.kind = 24 \/ d.kind = 25) := fun q => h3 q.symm
    simp [h1, h2, h3, h4, Go.Lib.join_cons, tail_cons, jL]
theorem wx {d : Nd} (h : lL d) (h5 : 5 <= d.kind) : (1 <= d.kind /\ d.kind <= 26) /\ (d.kind = 5 -> 1 <= d.n /\ d.n <= 16) /\ (aJ d ≠ [] \/ d.s ≠ []) := by
 unfold lL at h;obtain ⟨h1, h2, h3⟩ := h
 simp only [not_or, Classical.not_not] at h1;have hk : 1 <= d.kind /\ d.kind <= 26 := by omega
 have Yq : d.kind = 5 -> 1 <= d.n /\ d.n <= 16 := by
  intro k; rw [k] at h3; simpa using h3
 refine ⟨hk, Yq, ?_⟩
 by_cases Zl : d.kind = 24
 ·exact .inr (h1.2.1 (by rw [Zl]; decide))
 ·left
  unfold aJ;by_cases k5 : d.kind = 5
  ·rw [if_pos k5]
   have := Yq k5
   obtain ⟨n, hn⟩ : ∃ n : Nat, d.n = (n : Int) + 1 := ⟨(d.n - 1).toNat, by omega⟩
   rw [hn];have : ∀ n : Nat, n < 16 -> oJ ((n : Int) + 1) ≠ [] := by decide
   exact this n (by omega)
  ·rw [if_neg k5]
   unfold fT;rw [if_pos hk];have : ∀ k : Nat, k < 26 -> 4 < k -> k ≠ 23 -> (il.getD k mU).word ≠ [] := by decide
   exact this _ (by omega) (by omega) (by omega)
theorem Mg {d : Nd} (h : lL d) (h5 : d.kind = 3) : d.s = [] := by
 unfold lL at h;have h1 := h.1
 simp only [not_or, Classical.not_not] at h1;refine sj fun q => ?_
 have := h1.2.2 q
 rw [h5] at this;exact absurd this (by decide)
theorem kF {l : List Nd} {t b5 ty : Nat} {nl : Bool} {d : Nd} {s0 : gh} (hx : ∀ x ∈ d.kids, 0 <= x) (qf : d.kids.length < 1001) (ih : ∀ x ∈ d.kids, aM B K o6 [row nl 1 5 (dX l), .int .i64 x] = some (.str (br l x.toNat))) {m0 : Mem} (yT : m0.get b5 = .cells d.cells 5 ty false) (GH : (s0 ++ Go.Lib.joinTail [32] (d.kids.map fun x => br l x.toNat)).length <= 2000000) {fr : Fr} (h0 : fr.get 0 = row nl t 5 (dX l)) (h5 : fr.get 5 = .ptr b5 0) (h6 : fr.get 6 = .str s0) (h7 : fr.get 7 = .int .i64 0) (hd : fr.defers = []) :
  ∃ o, exec U (.loop ct) fr m0 = some o /\ ∃ fr', o = .exit 0 fr' m0 /\ fr'.get 6 = .str (s0 ++ Go.Lib.joinTail [32] (d.kids.map fun x => br l x.toNat)) /\ fr'.defers = [] := by
 simp only [Nd.cells] at yT;refine dF (σ := Nat) (fun j fr m => m = m0 /\ j <= d.kids.length /\ fr.get 0 = row nl t 5 (dX l) /\ fr.get 5 = .ptr b5 0 /\ fr.get 6 = .str (s0 ++ Go.Lib.joinTail [32] ((d.kids.take j).map fun x => br l x.toNat)) /\ fr.get 7 = .int .i64 (j : Int) /\ fr.defers = []) (fun j => d.kids.length - j) _ ?_ 0 fr m0 ⟨rfl, pF _, h0, h5, by simpa [tail_nil] using h6, h7, hd⟩
 rintro j fr m ⟨rfl, hj, h0, h5, h6, h7, hd⟩
 generalize hX : exec U ct fr m = X
 by_cases aP : j < d.kids.length
 ·have hc : (j : Int) < (d.kids.length : Int) := by omega
  have hg : d.kids[j]? = some d.kids[j] := ij aP
  have ov : d.kids.take (j + 1) = d.kids.take j ++ [d.kids[j]] := List.take_succ_eq_append_getElem aP
  have hdk : d.kids = d.kids.take (j + 1) ++ d.kids.drop (j + 1) := (List.take_append_drop _ _).symm
  have iZ := oU aP
  generalize d.kids[j] = x at *
  have TK := ih x iZ
  have ji := bL (i := j) (by omega)
  generalize hA : s0 ++ Go.Lib.joinTail [32] ((d.kids.take j).map fun x => br l x.toNat) = A at *
  have rW : s0 ++ Go.Lib.joinTail [32] ((d.kids.take (j + 1)).map fun x => br l x.toNat) = A ++ [32] ++ br l x.toNat := by
   rw [ov, List.map_append, jL, <- List.append_assoc, hA, List.append_assoc]; simp [tail_cons, tail_nil]
  have hlen : (A ++ [32] ++ br l x.toNat).length <= 2000000 := by
   rw [<- rW];refine vn ?_ GH
   conv => rhs; rw [hdk]
   rw [List.map_append, jL, kE, kE, kE]; omega
  simp only [kE, List.length_cons, List.length_nil] at hlen;have c1 : aV .add (.str A) (.str [32]) = some (.str (A ++ [32])) := by rw [jc, lJ (by simp; omega)]; rfl
  have c2 : aV .add (.str (A ++ [32])) (.str (br l x.toNat)) = some (.str (A ++ [32] ++ br l x.toNat)) := by rw [jc, lJ (by simp; omega)]; rfl
  simp +contextual -implicitDefEqProofs (maxSteps := 1000000) (maxDischargeDepth := 8) only [ct, h0, h5, h6, h7, hd, yT, hc, hg, aP, ji, TK, c1, c2, aA, cZ, ao, aO, ag, implies_true, simprocAttr] at hX
  subst hX;exact cB (j + 1) (by omega) ⟨rfl, aP, by simp only [h0, ai, Nat.reduceBEq ], by simp only [h5, ai, Nat.reduceBEq ], by simp only [rW, ai, Nat.reduceBEq ], by simp only [ai, Nat.reduceBEq ], by simp only [hd, ai, Nat.reduceBEq ]⟩
 ·have hc : ¬ ((j : Int) < (d.kids.length : Int)) := by omega
  rw [qI (by omega)] at h6;simp +contextual -implicitDefEqProofs (maxSteps := 1000000) (maxDischargeDepth := 8) only [ct, h0, h5, h6, h7, hd, yT, hc, ao, aO, ag, implies_true, simprocAttr] at hX
  subst hX;exact cN ⟨_, rfl, by simp only [h6, ai, Nat.reduceBEq ], by simp only [hd, ai, Nat.reduceBEq ]⟩
end
section
theorem ga {a b : gh} (h : a.length + b.length <= 4000000000) : aV .add (.str a) (.str b) = some (.str (a ++ b)) := by rw [jc, lJ (by omega)]; rfl
theorem IH {l : List Nd} {nl : Bool} (ht : yJ l) (hr : ef l) : ∀ i : Nat, i < l.length -> ∀ t, aM B K o6 [row nl t 5 (dX l), .int .i64 (i : Int)] = some (.str (br l i)) := by
 intro i
 induction i using Nat.strongRecOn with
 | _ i ih =>
  intro hi t
  have hd0 : l[i]? = some l[i] := ij hi
  have iZ := oU hi
  have qf : l[i].kids.length < 1001 := by have := sW hr.1.1 hr.1.2.1 iZ; have := ht.len; omega
  have RR := ht.s _ iZ
  have CI := ht.n _ iZ
  have hx := hr.1.1 i _ hd0
  have RP := y5 ht hr hi
  have HG := iS hr.1.1 hd0
  have eS := (hr.1.2.2 _ iZ).1
  generalize Qe : l[i] = d at *
  have Lj : ∀ x ∈ d.kids, aM B K o6 [row nl 1 5 (dX l), .int .i64 x] = some (.str (br l x.toNat)) := by
   intro x rc
   have h1 := hx x rc
   have := ih x.toNat (by omega) (by omega) 1
   rw [show ((x.toNat : Nat) : Int) = x by omega] at this;exact this
  have iO : idx l.length (.int .i64 (i : Int)) = some i := aA hi
  rw [bR (by simp [cr])]
  generalize hL : exec (UT B K) (au.loop ct) = L
  have VZ : 1 <= d.kind /\ d.kind <= 26 := by
   have h1 := eS.1
   simp only [not_or, Classical.not_not] at h1;omega
  by_cases k1 : d.kind = 1
  ·have CM := Ht CI.1 CI.2
   have e : br l i = Go.Lib.itoa d.n := by rw [HG]; unfold fN; rw [if_pos k1]
   rw [e];simp +contextual -implicitDefEqProofs (maxSteps := 1000000) (maxDischargeDepth := 8) only [cr, iO, hd0, bt, aK, Nd.cells, k1, CM, aO, ag, implies_true, simprocAttr]
  by_cases k2 : d.kind = 2
  ·by_cases h1 : d.n = 1
   ·have e : br l i = td := by rw [HG]; unfold fN; rw [if_neg k1, if_pos k2, if_pos h1]
    rw [e];simp +contextual -implicitDefEqProofs (maxSteps := 1000000) (maxDischargeDepth := 8) only [cr, iO, hd0, bt, aK, Nd.cells, k2, h1, td, aO, ag, implies_true, simprocAttr]
   ·have e : br l i = pj := by rw [HG]; unfold fN; rw [if_neg k1, if_pos k2, if_neg h1]
    rw [e];simp +contextual -implicitDefEqProofs (maxSteps := 1000000) (maxDischargeDepth := 8) only [cr, iO, hd0, bt, aK, Nd.cells, k2, h1, pj, aO, ag, implies_true, simprocAttr]
  have OI : aM B K tS [.agg [.int .i64 d.kind, row d.nl 0 1 (ints d.kids), .int .i64 d.n, .str d.s, .int .i64 d.pos]] = some (.str (aJ d)) := by
   refine IK VZ fun k5 => ?_
   exact (wx eS (by omega)).2.1 k5
  have hwl := yW d
  by_cases PH : d.kind <= 4
  ·have e : br l i = aJ d ++ d.s := by
    rw [HG]; unfold fN
    rw [if_neg k1, if_neg k2];by_cases k3 : d.kind = 3
    ·rw [if_pos k3, Mg eS k3, List.append_nil]; unfold aJ fT; rw [if_neg (by omega), if_pos VZ, k3]; rfl
    ·have k4 : d.kind = 4 := by omega
     rw [if_neg k3, if_pos k4];have : aJ d = [] := by unfold aJ fT; rw [if_neg (by omega), if_pos VZ, k4]; rfl
     rw [this, List.nil_append]
   rw [e];have hc := ga (a := aJ d) (b := d.s) (by omega)
   simp +contextual -implicitDefEqProofs (maxSteps := 1000000) (maxDischargeDepth := 8) only [cr, iO, hd0, bt, aK, Nd.cells, k1, k2, PH, OI, hc, aO, ag, implies_true, simprocAttr]
  obtain ⟨hk, h5, iv⟩ := wx eS (by omega)
  have k3 : d.kind ≠ 3 := by omega
  have k4 : d.kind ≠ 4 := by omega
  have e : br l i = 40 :: (dR d ++ Go.Lib.joinTail [32] (d.kids.map fun x => br l x.toNat) ++ [41]) := by rw [HG]; unfold fN; rw [if_neg k1, if_neg k2, if_neg k3, if_neg k4, Gy iv]
  rw [e] at RP ⊢
  simp only [List.length_cons, kE, List.length_nil] at RP;have sC : aM B K tU [.int .i64 d.n] = some (.str (dI d.n)) := II (by omega) (by omega)
  have Z4 := wG d.n
  have c5 := ga (a := [40]) (b := dR d ++ Go.Lib.joinTail [32] (d.kids.map fun x => br l x.toNat)) (by simp; omega)
  have c6 := ga (a := 40 :: (dR d ++ Go.Lib.joinTail [32] (d.kids.map fun x => br l x.toNat))) (b := [41]) (by simp; omega)
  by_cases iM : d.s = []
  ·rw [iM] at OI
   by_cases mY : d.kind = 24 \/ d.kind = 25
   ·have hf : dR d = aJ d ++ [32] ++ dI d.n := by unfold dR; simp [iM, mY]
    have KS : aV .add (.str (aJ d)) (.str ([])) = some (.str (aJ d)) := by have := ga (a := aJ d) (b := []) (by simp; omega); simpa using this
    have Qz : aV .add (.str (aJ d)) (.str ([32])) = some (.str (aJ d ++ [32])) := by have := ga (a := aJ d) (b := [32]) (by simp; omega); simpa using this
    have Tl : aV .add (.str (aJ d ++ [32])) (.str (dI d.n)) = some (.str (aJ d ++ [32] ++ dI d.n)) := by have := ga (a := aJ d ++ [32]) (b := dI d.n) (by simp; omega); simpa using this
    simp +contextual -implicitDefEqProofs (maxSteps := 1000000) (maxDischargeDepth := 8) only [cr, iO, hd0, bt, aK, Nd.cells, k1, k2, PH, iM, mY, sC, OI, KS, Qz, Tl, aO, ag, implies_true, simprocAttr]
    subst hL;generalize hX : exec _ (.loop ct) _ _ = X
    obtain ⟨o, rfl, fr', rfl, g6, gd⟩ := cw hX (kF (l := l) (t := t) (nl := nl) (b5 := nb cu.next 0) (ty := aL) (d := d) (s0 := dR d) (fun x rc => (hx x rc).1) qf Lj (by simp +contextual -implicitDefEqProofs (maxSteps := 1000000) (maxDischargeDepth := 8) only [Nd.cells, iM, mY, aO, ag, implies_true, simprocAttr]) (by rw [kE]; omega) (by simp only [ai, simprocAttr]) (by simp only [ai, simprocAttr]) (by simp only [hf, ai, simprocAttr]) (by simp only [ai, simprocAttr]) (by simp only [ai, simprocAttr]))
    simp +contextual -implicitDefEqProofs (maxSteps := 1000000) (maxDischargeDepth := 8) only [g6, gd, c5, c6, aO, ag, implies_true, simprocAttr]
    try rfl
   ·have hf : dR d = aJ d := by unfold dR; simp [iM, mY]
    have KS : aV .add (.str (aJ d)) (.str ([])) = some (.str (aJ d)) := by have := ga (a := aJ d) (b := []) (by simp; omega); simpa using this
    simp +contextual -implicitDefEqProofs (maxSteps := 1000000) (maxDischargeDepth := 8) only [cr, iO, hd0, bt, aK, Nd.cells, k1, k2, PH, iM, mY, sC, OI, KS, aO, ag, implies_true, simprocAttr]
    subst hL;generalize hX : exec _ (.loop ct) _ _ = X
    obtain ⟨o, rfl, fr', rfl, g6, gd⟩ := cw hX (kF (l := l) (t := t) (nl := nl) (b5 := nb cu.next 0) (ty := aL) (d := d) (s0 := dR d) (fun x rc => (hx x rc).1) qf Lj (by simp +contextual -implicitDefEqProofs (maxSteps := 1000000) (maxDischargeDepth := 8) only [Nd.cells, iM, mY, aO, ag, implies_true, simprocAttr]) (by rw [kE]; omega) (by simp only [ai, simprocAttr]) (by simp only [ai, simprocAttr]) (by simp only [hf, ai, simprocAttr]) (by simp only [ai, simprocAttr]) (by simp only [ai, simprocAttr]))
    simp +contextual -implicitDefEqProofs (maxSteps := 1000000) (maxDischargeDepth := 8) only [g6, gd, c5, c6, aO, ag, implies_true, simprocAttr]
    try rfl
  by_cases ji : aJ d = []
  ·by_cases mY : d.kind = 24 \/ d.kind = 25
   ·have hf : dR d = d.s ++ [32] ++ dI d.n := by unfold dR; simp [iM, ji, mY]
    have KS : aV .add (.str ([])) (.str (d.s)) = some (.str (d.s)) := by have := ga (a := []) (b := d.s) (by simp; omega); simpa using this
    have Qz : aV .add (.str (d.s)) (.str ([32])) = some (.str (d.s ++ [32])) := by have := ga (a := d.s) (b := [32]) (by simp; omega); simpa using this
    have Tl : aV .add (.str (d.s ++ [32])) (.str (dI d.n)) = some (.str (d.s ++ [32] ++ dI d.n)) := by have := ga (a := d.s ++ [32]) (b := dI d.n) (by simp; omega); simpa using this
    simp +contextual -implicitDefEqProofs (maxSteps := 1000000) (maxDischargeDepth := 8) only [cr, iO, hd0, bt, aK, Nd.cells, k1, k2, PH, iM, ji, mY, sC, OI, KS, Qz, Tl, aO, ag, implies_true, simprocAttr]
    subst hL;generalize hX : exec _ (.loop ct) _ _ = X
    obtain ⟨o, rfl, fr', rfl, g6, gd⟩ := cw hX (kF (l := l) (t := t) (nl := nl) (b5 := nb cu.next 0) (ty := aL) (d := d) (s0 := dR d) (fun x rc => (hx x rc).1) qf Lj (by simp +contextual -implicitDefEqProofs (maxSteps := 1000000) (maxDischargeDepth := 8) only [Nd.cells, iM, ji, mY, aO, ag, implies_true, simprocAttr]) (by rw [kE]; omega) (by simp only [ai, simprocAttr]) (by simp only [ai, simprocAttr]) (by simp only [hf, ai, simprocAttr]) (by simp only [ai, simprocAttr]) (by simp only [ai, simprocAttr]))
    simp +contextual -implicitDefEqProofs (maxSteps := 1000000) (maxDischargeDepth := 8) only [g6, gd, c5, c6, aO, ag, implies_true, simprocAttr]
    try rfl
   ·have hf : dR d = d.s := by unfold dR; simp [iM, ji, mY]
    have KS : aV .add (.str ([])) (.str (d.s)) = some (.str (d.s)) := by have := ga (a := []) (b := d.s) (by simp; omega); simpa using this
    simp +contextual -implicitDefEqProofs (maxSteps := 1000000) (maxDischargeDepth := 8) only [cr, iO, hd0, bt, aK, Nd.cells, k1, k2, PH, iM, ji, mY, sC, OI, KS, aO, ag, implies_true, simprocAttr]
    subst hL;generalize hX : exec _ (.loop ct) _ _ = X
    obtain ⟨o, rfl, fr', rfl, g6, gd⟩ := cw hX (kF (l := l) (t := t) (nl := nl) (b5 := nb cu.next 0) (ty := aL) (d := d) (s0 := dR d) (fun x rc => (hx x rc).1) qf Lj (by simp +contextual -implicitDefEqProofs (maxSteps := 1000000) (maxDischargeDepth := 8) only [Nd.cells, iM, ji, mY, aO, ag, implies_true, simprocAttr]) (by rw [kE]; omega) (by simp only [ai, simprocAttr]) (by simp only [ai, simprocAttr]) (by simp only [hf, ai, simprocAttr]) (by simp only [ai, simprocAttr]) (by simp only [ai, simprocAttr]))
    simp +contextual -implicitDefEqProofs (maxSteps := 1000000) (maxDischargeDepth := 8) only [g6, gd, c5, c6, aO, ag, implies_true, simprocAttr]
    try rfl
  ·by_cases mY : d.kind = 24 \/ d.kind = 25
   ·have hf : dR d = aJ d ++ [32] ++ d.s ++ [32] ++ dI d.n := by unfold dR; simp [iM, ji, mY]
    have KS : aV .add (.str (aJ d)) (.str ([32])) = some (.str (aJ d ++ [32])) := by have := ga (a := aJ d) (b := [32]) (by simp; omega); simpa using this
    have Qz : aV .add (.str (aJ d ++ [32])) (.str (d.s)) = some (.str (aJ d ++ [32] ++ d.s)) := by have := ga (a := aJ d ++ [32]) (b := d.s) (by simp; omega); simpa using this
    have Tl : aV .add (.str (aJ d ++ [32] ++ d.s)) (.str ([32])) = some (.str (aJ d ++ [32] ++ d.s ++ [32])) := by have := ga (a := aJ d ++ [32] ++ d.s) (b := [32]) (by simp; omega); simpa using this
    have c13 : aV .add (.str (aJ d ++ [32] ++ d.s ++ [32])) (.str (dI d.n)) = some (.str (aJ d ++ [32] ++ d.s ++ [32] ++ dI d.n)) := by have := ga (a := aJ d ++ [32] ++ d.s ++ [32]) (b := dI d.n) (by simp; omega); simpa using this
    simp +contextual -implicitDefEqProofs (maxSteps := 1000000) (maxDischargeDepth := 8) only [cr, iO, hd0, bt, aK, Nd.cells, k1, k2, PH, iM, ji, mY, sC, OI, KS, Qz, Tl, c13, aO, ag, implies_true, simprocAttr]
    subst hL;generalize hX : exec _ (.loop ct) _ _ = X
    obtain ⟨o, rfl, fr', rfl, g6, gd⟩ := cw hX (kF (l := l) (t := t) (nl := nl) (b5 := nb cu.next 0) (ty := aL) (d := d) (s0 := dR d) (fun x rc => (hx x rc).1) qf Lj (by simp +contextual -implicitDefEqProofs (maxSteps := 1000000) (maxDischargeDepth := 8) only [Nd.cells, iM, ji, mY, aO, ag, implies_true, simprocAttr]) (by rw [kE]; omega) (by simp only [ai, simprocAttr]) (by simp only [ai, simprocAttr]) (by simp only [hf, ai, simprocAttr]) (by simp only [ai, simprocAttr]) (by simp only [ai, simprocAttr]))
    simp +contextual -implicitDefEqProofs (maxSteps := 1000000) (maxDischargeDepth := 8) only [g6, gd, c5, c6, aO, ag, implies_true, simprocAttr]
    try rfl
   ·have hf : dR d = aJ d ++ [32] ++ d.s := by unfold dR; simp [iM, ji, mY]
    have KS : aV .add (.str (aJ d)) (.str ([32])) = some (.str (aJ d ++ [32])) := by have := ga (a := aJ d) (b := [32]) (by simp; omega); simpa using this
    have Qz : aV .add (.str (aJ d ++ [32])) (.str (d.s)) = some (.str (aJ d ++ [32] ++ d.s)) := by have := ga (a := aJ d ++ [32]) (b := d.s) (by simp; omega); simpa using this
    simp +contextual -implicitDefEqProofs (maxSteps := 1000000) (maxDischargeDepth := 8) only [cr, iO, hd0, bt, aK, Nd.cells, k1, k2, PH, iM, ji, mY, sC, OI, KS, Qz, aO, ag, implies_true, simprocAttr]
    subst hL;generalize hX : exec _ (.loop ct) _ _ = X
    obtain ⟨o, rfl, fr', rfl, g6, gd⟩ := cw hX (kF (l := l) (t := t) (nl := nl) (b5 := nb cu.next 0) (ty := aL) (d := d) (s0 := dR d) (fun x rc => (hx x rc).1) qf Lj (by simp +contextual -implicitDefEqProofs (maxSteps := 1000000) (maxDischargeDepth := 8) only [Nd.cells, iM, ji, mY, aO, ag, implies_true, simprocAttr]) (by rw [kE]; omega) (by simp only [ai, simprocAttr]) (by simp only [ai, simprocAttr]) (by simp only [hf, ai, simprocAttr]) (by simp only [ai, simprocAttr]) (by simp only [ai, simprocAttr]))
    simp +contextual -implicitDefEqProofs (maxSteps := 1000000) (maxDischargeDepth := 8) only [g6, gd, c5, c6, aO, ag, implies_true, simprocAttr]
    try rfl
end
section
structure K7 (d : Nd) : Prop where
 kids : d.kids.length <= 9223372036854775807
 s : d.s.length <= 9223372036854775807
 n : -9223372036854775808 <= d.n /\ d.n <= 9223372036854775807
 pos : -9223372036854775808 <= d.pos /\ d.pos <= 9223372036854775807
theorem Ly {n : Int} (h : (Lit.int .i64 n).wf = true) : -9223372036854775808 <= n /\ n <= 9223372036854775807 := by
 have := wf_i64 h; omega
theorem NC {n : Nat} : ∀ {els : List (List EV)} {ds : List Dt}, Lu (List.replicate n (.int .i64)) els ds -> ∃ ks : List Int, els = ints ks /\ ks.length = n := by
 induction n with
 | zero => intro els ds h; rw [List.replicate_zero] at h; cases h; exact ⟨[], rfl, rfl⟩
 | succ n ih =>
  intro els ds h
  rw [List.replicate_succ] at h
  cases h with
  | cons h hs =>
   obtain ⟨ks, rfl, hl⟩ := ih hs
   cases h with
   | int hw => exact ⟨_ :: ks, rfl, by simp [hl]⟩
def Mu (e2 : Nat) : Sh := .struct [.int .i64, .slice e2 1 (.int .i64), .int .i64, .str, .int .i64]
theorem NB {e2 : Nat} {el : List EV} {d : Dt} (h : Fz (Mu e2) el d) : ∃ nd : Nd, el = nd.cells /\ K7 nd := by
 cases h with
 | struct h =>
 cases h with | cons h1 h =>
 cases h with | cons h2 h =>
 cases h with | cons h3 h =>
 cases h with | cons h4 h =>
 cases h with | cons h5 h =>
 cases h
 cases h1 with | int w1 =>
 cases h3 with | int w3 =>
 cases h4 with | str w4 =>
 cases h5 with | int w5 =>
 cases h2 with
 | nil => exact ⟨⟨_, [], true, _, _, _⟩, rfl, ⟨by simp, w4, Ly w3, Ly w5⟩⟩
 | slice hl hs =>
  obtain ⟨ks, rfl, hk⟩ := NC hs
  exact ⟨⟨_, ks, false, _, _, _⟩, rfl, ⟨by rw [hk]; exact hl, w4, Ly w3, Ly w5⟩⟩
theorem Kg {n e2 : Nat} : ∀ {els : List (List EV)} {ds : List Dt}, Lu (List.replicate n (Mu e2)) els ds -> ∃ l : List Nd, els = dX l /\ l.length = n /\ ∀ d ∈ l, K7 d := by
 induction n with
 | zero => intro els ds h; rw [List.replicate_zero] at h; cases h; exact ⟨[], rfl, rfl, by simp⟩
 | succ n ih =>
  intro els ds h
  rw [List.replicate_succ] at h
  cases h with
  | cons h hs =>
   obtain ⟨l, rfl, hl, hd⟩ := ih hs
   obtain ⟨nd, rfl, hn⟩ := NB h
   exact ⟨nd :: l, rfl, by simp [hl], fun d hm => (lj.1 hm).elim (fun q => q ▸ hn) (hd d)⟩
theorem Nz {e e2 : Nat} {v : EV} {d : Dt} (h : Rj (.slice e 5 (Mu e2)) v d) : ∃ (nl : Bool) (l : List Nd), v = row nl 0 5 (dX l) /\ l.length <= 9223372036854775807 /\ ∀ d ∈ l, K7 d := by
 have h : Fz (.slice e 5 (Mu e2)) [v] d := h
 cases h with
 | nil => exact ⟨true, [], rfl, by simp, by simp⟩
 | slice hl hs =>
  obtain ⟨l, rfl, hn, hd⟩ := Kg hs
  exact ⟨false, l, rfl, by rw [hn]; exact hl, hd⟩
end
section
theorem Ko {l : List Nd} {nl : Bool} {t : Nat} (hl : l.length <= 9223372036854775807) {m0 : Mem} {fr : Fr} (h0 : fr.get 0 = row nl t 5 (dX l)) (h3 : fr.get 3 = .int .i64 0) (h4 : fr.get 4 = .int .i64 0) (hd : fr.defers = []) :
  ∃ o, exec U (.loop eD) fr m0 = some o /\ ((∃ fr', o = .ret fr' m0 /\ fr'.get 2 = .bool false /\ fr'.defers = []) \/ ((∀ d ∈ l, d.s.length <= 40) /\ ∃ fr' n, o = .exit 0 fr' m0 /\ fr'.get 0 = row nl t 5 (dX l) /\ fr'.get 3 = .int .i64 n /\ fr'.defers = [])) := by
 refine dF (σ := Nat) (fun i fr m => m = m0 /\ i <= l.length /\ (∀ d ∈ l.take i, d.s.length <= 40) /\ fr.get 0 = row nl t 5 (dX l) /\ (∃ n, fr.get 3 = .int .i64 n) /\ fr.get 4 = .int .i64 (i : Int) /\ fr.defers = []) (fun i => l.length - i) _ ?_ 0 fr m0 ⟨rfl, pF _, by simp, h0, ⟨_, h3⟩, h4, hd⟩
 rintro i fr m ⟨rfl, hi, hall, h0, ⟨n, h3⟩, h4, hd⟩
 generalize hX : exec U eD fr m = X
 by_cases aP : i < l.length
 ·have hc : (i : Int) < (l.length : Int) := by omega
  have hd0 : l[i]? = some l[i] := ij aP
  have ov : l.take (i + 1) = l.take i ++ [l[i]] := List.take_succ_eq_append_getElem aP
  have ji := bL (i := i) (by omega)
  have iO : idx l.length (.int .i64 (i : Int)) = some i := aA aP
  generalize l[i] = d at *
  by_cases h40 : d.s.length <= 40
  ·have hq : ¬ ((40 : Int) < (d.s.length : Int)) := by omega
   simp +contextual -implicitDefEqProofs (maxSteps := 1000000) (maxDischargeDepth := 8) only [eD, h0, h3, h4, hd, hc, hd0, iO, ji, hq, bt, aK, Nd.cells, ao, aO, ag, implies_true, simprocAttr] at hX
   subst hX;refine cB (i + 1) (by omega) ⟨rfl, aP, ?_, by simp only [h0, ai, Nat.reduceBEq ], ⟨_, by simp only [ai, Nat.reduceBEq ]; rfl⟩, by simp only [ai, Nat.reduceBEq ], by simp only [hd, ai, Nat.reduceBEq ]⟩
   intro e he
   rw [ov, nY] at he;rcases he with he | he
   ·exact hall e he
   ·rw [xu.1 he]; exact h40
  ·have hq : (40 : Int) < (d.s.length : Int) := by omega
   simp +contextual -implicitDefEqProofs (maxSteps := 1000000) (maxDischargeDepth := 8) only [eD, h0, h3, h4, hd, hc, hd0, iO, ji, hq, bt, aK, Nd.cells, ao, aO, ag, implies_true, simprocAttr] at hX
   subst hX;exact e6 (.inl ⟨_, rfl, by simp only [ai, Nat.reduceBEq ], by simp only [hd, ai, Nat.reduceBEq ]⟩)
 ·have hc : ¬ ((i : Int) < (l.length : Int)) := by omega
  rw [qI (by omega)] at hall;simp +contextual -implicitDefEqProofs (maxSteps := 1000000) (maxDischargeDepth := 8) only [eD, h0, h3, h4, hd, hc, aK, aO, ag, implies_true, simprocAttr] at hX
  subst hX;exact cN (.inr ⟨hall, _, n, rfl, by simp only [h0, ai, Nat.reduceBEq ], by simp only [h3, ai, Nat.reduceBEq ], by simp only [hd, ai, Nat.reduceBEq ]⟩)
theorem Qr {l : List Nd} {nl : Bool} {t : Nat} (hl : l.length <= 9223372036854775807) : ∃ p : Prop, aM B K Gf [row nl t 5 (dX l)] = some (bo p) /\ (p -> l.length <= 60 /\ ∀ d ∈ l, d.s.length <= 40) := by
 rw [bR (by simp [iL])]
 generalize hL : exec (UT B K) (au.loop eD) = L
 generalize hY : OW _ = Y
 simp +contextual -implicitDefEqProofs (maxSteps := 1000000) (maxDischargeDepth := 8) only [iL, aO, ag, implies_true, simprocAttr] at hY
 subst hL;generalize hX : exec _ (.loop eD) _ _ = X at hY
 obtain ⟨o, rfl, h⟩ := cw hX (Ko (l := l) (nl := nl) (t := t) hl (by simp only [ai, Nat.reduceBEq ]) (by simp only [ai, Nat.reduceBEq ]) (by simp only [ai, Nat.reduceBEq ]) (by simp only [ai, Nat.reduceBEq ]))
 rcases h with ⟨fr', rfl, g2, gd⟩ | ⟨h, fr', n, rfl, g0, g3, gd⟩
 ·simp +contextual -implicitDefEqProofs (maxSteps := 1000000) (maxDischargeDepth := 8) only [g2, gd, aO, ag, implies_true, simprocAttr] at hY
  exact ⟨False, by rw [<- hY, lh], fun q => q.elim⟩
 ·have hc : ((l.length : Int) <= 60) = (l.length <= 60) := propext (by omega)
  simp +contextual -implicitDefEqProofs (maxSteps := 1000000) (maxDischargeDepth := 8) only [g0, g3, gd, hc, aK, aO, ag, implies_true, simprocAttr] at hY
  exact ⟨_, hY.symm, fun q => ⟨q.1, h⟩⟩
theorem LF {l : List Nd} (sE : ∀ d ∈ l, K7 d) (h : l.length <= 60 /\ ∀ d ∈ l, d.s.length <= 40) : yJ l :=
 ⟨⟨by omega, fun d hd => (sE d hd).kids, fun d hd => by have := h.2 d hd; omega⟩, by omega, fun d hd => by have := h.2 d hd; omega, fun d hd => (sE d hd).n⟩
end
section
theorem n9 {l : List Nd} : ∀ (f i : Nat) (e : Nd), e ∈ cA l f i -> ∃ d ∈ l, e.s = d.s /\ e.n = d.n
 | 0, i, e, h => by cases h
 | f + 1, i, e, h => by
  cases hd : l[i]? with
  | none => rw [cA] at h; simp only [hd] at h; cases h
  | some d =>
   rw [tK hd] at h;have key : ∀ (ks : List Int) (a : List Nd × List Int), (∀ e ∈ a.1, ∃ d ∈ l, e.s = d.s /\ e.n = d.n) -> ∀ e ∈ (ks.foldl (fun a x => mS a (cA l f x.toNat)) a).1, ∃ d ∈ l, e.s = d.s /\ e.n = d.n := by
    intro ks
    induction ks with
    | nil => intro a ha; exact ha
    | cons x ks ih =>
     intro a ha
     refine ih _ fun e he => ?_
     rcases nY.1 he with he | he
     ·exact ha e he
     ·obtain ⟨g, hg, rfl⟩ := List.mem_map.1 he
      exact n9 f x.toNat g hg
   rcases nY.1 h with h | h
   ·exact key d.kids ([], []) (fun e he => by cases he) e h
   ·rw [xu.1 h]
    exact ⟨d, List.mem_of_getElem? hd, rfl, rfl⟩
theorem FT {l : List Nd} (ht : yJ l) (hr : ef l) {i : Nat} (hi : i < l.length) : yJ (eX l i) := by
 obtain ⟨p1, p2, p3, p4⟩ := o0 hr hi
 have hl := ht.len
 refine ⟨⟨by omega, fun d hd => ?_, fun d hd => ?_⟩, by omega, fun d hd => ?_, fun d hd => ?_⟩
 ·have := (ua hd).length_le
  have := p1.2.2.1
  omega
 ·obtain ⟨e, he, h1, _⟩ := n9 _ _ d hd
  have := ht.s e he
  rw [h1]; omega
 ·obtain ⟨e, he, h1, _⟩ := n9 _ _ d hd
  rw [h1]; exact ht.s e he
 ·obtain ⟨e, he, _, h2⟩ := n9 _ _ d hd
  rw [h2]; exact ht.n e he
theorem Ho {T : Nat -> Option fg} {f : Nat} {F : ar} (hT : T f = some (.go F)) {az : List EV} {v V : EV} {m : Mem} (h : run T f az cu = some (.ret v m)) (hv : bj deep m [v] = some [V]) : gW T F az = some V := by
 obtain ⟨k, hk⟩ := jF.1 h
 cases k with
 | zero => simp [aC] at hk
 | succ k =>
  simp only [aC, hT, fc] at hk;exact nU hk hv
theorem FW {l : List Nd} (ht : yJ l) (hr : ef l) {j : Nat} (hj : j < l.length) : gW A1 cK [.fz 1 5 (dX l), .int .i64 (j : Int)] = some (.fz 0 5 (dX (eX l j))) := by
 have hlen := ht.len
 have lU := Ov hr.1.1 hr.1.2.1 hj
 obtain ⟨p1, p2, p3, p4⟩ := o0 hr hj
 obtain ⟨v, m1, xs, hX, tv, xd, n1, k1⟩ := wv (nl := false) hr.1.1 hr.1.2.2 (by omega) (fun d hd => by have := sW hr.1.1 hr.1.2.1 hd; omega) (j + 1) j 1 cu _ (by omega) hj (show Ib l j < _ by omega) rfl
 have xl : xs.length = (eX l j).length := by rw [show eX l j = cA l (j + 1) j from rfl, <- xd, List.length_map]
 have hP0 := p1.2.1
 have iv : xs ≠ [] := fun w => by rw [w] at xl; simp at xl; omega
 have hz := Kh tv.k tv.o iv
 rw [xd] at hz;refine Ho (T := A1) (f := kX) rfl hX ?_
 have Zn : kA (bj 7 m1) m1 v = some (.fz 0 5 (dX (eX l j))) := hz
 show e8 (bj 7 m1) m1 [v] = _
 simp only [e8, Zn]
theorem FQ {l : List Nd} {nl : Bool} {t : Nat} (ht : yJ l) (hr : ef l) {j : Nat} (hj : j < l.length) (M : Mem) : run U kX [row nl t 5 (dX l), .int .i64 (j : Int)] M = some (.ret (.fz 0 5 (dX (eX l j))) (bump M 1)) := by
 have e : row nl t 5 (dX l) = .fz t 5 (dX l) := by
  rcases l2 nl t 5 (dX l) with ⟨_, q⟩ | q
  ·have h := congrArg List.length q
   rw [aK] at h;have := hr.2.1
   rw [List.length_nil] at h; omega
  ·exact q
 rw [e, lZ (T := U) (f := kX) (g := fu (gW A1 cK)) rfl];have hb := FW ht hr hj
 have h2 : fu (gW A1 cK) [.fz t 5 (dX l), .int .i64 (j : Int)] M = match gW A1 cK [.fz 1 5 (dX l), .int .i64 (j : Int)] with
  | some V => some (.ret V ⟨M.next + 1, M.kl⟩)
  | none => none := rfl
 rw [h2, hb]; rfl
theorem vq {l : List Nd} {nl : Bool} {t : Nat} {x : Int} (hx : 0 <= x /\ x < 256) (hl : l.length <= 9223372036854775807) (sE : ∀ d ∈ l, K7 d) : aM B K ke [row nl t 5 (dX l), .int .u8 x] = some (.bool true) := by
 obtain ⟨p, hp, TD⟩ := Qr (nl := nl) (t := 1) hl
 rw [bR (by simp [bU])]
 by_cases q : p
 ·have ht := LF sE (TD q)
  have hn := fun d hd => (ht.n d hd).2
  have t3 := fun t => IC (t := t) (nl := nl) ht.small
  by_cases hr : ef l
  ·have vD := hr.2.1
   have hlen := ht.len
   obtain ⟨j, hj, MQ⟩ : ∃ j : Nat, x.tmod (l.length : Int) = (j : Int) /\ j < l.length := by
    have e : x.tmod (l.length : Int) = x % (l.length : Int) := Int.tmod_eq_emod_of_nonneg hx.1
    have h1 := Int.emod_nonneg x (show (l.length : Int) ≠ 0 by omega)
    have h2 := Int.emod_lt_of_pos x (show (0 : Int) < (l.length : Int) by omega)
    exact ⟨(x % (l.length : Int)).toNat, by rw [e]; omega, by omega⟩
   have hz : ¬ ((l.length : Int) = 0) := by omega
   have w1 : IntKind.i64.wrap x = x := wrap_i64 (by omega) (by omega)
   have iO : idx l.length (.int .i64 (j : Int)) = some j := aA MQ
   obtain ⟨p1, p2, p3, p4⟩ := o0 hr MQ
   have ML := FT ht hr MQ
   have R0 := fun t => FQ (nl := nl) (t := t) ht hr MQ
   have t6 := fun t => nG (t := t) (nl := nl) ht.small hn hr
   have t7 := fun t => IH (nl := nl) ht hr j MQ t
   have Q7 := fun d hd => (ML.n d hd).2
   have u1 : aM B K pY [.fz 1 5 (dX (eX l j))] = some (bo (ef (eX l j))) := te (nl := false) ML.small Q7
   rw [KU p1] at u1;have u6 : aM B K iW [.fz 1 5 (dX (eX l j))] = some (.fz 0 1 (ints (er (eX l j)))) := nG (nl := false) ML.small Q7 p1
   have u5 : aM B K rO [.fz 1 5 (dX (eX l j))] = some (.str (DX (eX l j))) := E7 (nl := false) ML
   have e5 : DX (eX l j) = br l j := (if_pos p1).trans p4
   rw [e5] at u5;have hP0 := p1.2.1
   have RM : IntKind.i64.wrap (((eX l j).length : Int) - 1) = (((eX l j).length - 1 : Nat) : Int) := by rw [wrap_i64 (by omega) (by omega)]; omega
   have V2 : idx (eX l j).length (.int .i64 (((eX l j).length - 1 : Nat) : Int)) = some ((eX l j).length - 1) := aA (by omega)
   have hg1 : (er l)[j]? = some (bm l j : Int) := by unfold er; rw [List.getElem?_map, List.getElem?_range MQ]; rfl
   have hg2 : (er (eX l j))[(eX l j).length - 1]? = some (bm l j : Int) := by
    unfold er; rw [List.getElem?_map, List.getElem?_range (by omega), Option.map_some, p3]
   simp +contextual -implicitDefEqProofs (maxSteps := 1000000) (maxDischargeDepth := 8) only [bU, hp, q, t3, hr, w1, hj, hz, R0, t6, t7, u1, u6, u5, iO, V2, RM, hg1, hg2, qh, ao, cZ, aK, oY, nc, aO, ag, implies_true, simprocAttr]
  ·simp +contextual -implicitDefEqProofs (maxSteps := 1000000) (maxDischargeDepth := 8) only [bU, hp, q, t3, hr, oY, lh, nc, aO, ag, implies_true, simprocAttr]
 ·simp +contextual -implicitDefEqProofs (maxSteps := 1000000) (maxDischargeDepth := 8) only [bU, hp, q, oY, lh, aO, ag, implies_true, simprocAttr]
theorem treeParts_run {m : Mem} {e e2 : Nat} {es : List EV} {ds : List Dt} (hm : K3 m) (hg : jD (still m)) (h : mr m [.slice e 5 (.struct [.int .i64, .slice e2 1 (.int .i64), .int .i64, .str, .int .i64]), .int .u8] es ds) : ∃ m', run T ke es m = some (.ret (.bool true) m') := by
 obtain ⟨us, hu, hl⟩ := Jq Wu (f := ke) (F := bU) (cD.has (T := B)) hm h rfl hg
 obtain ⟨e, d, lS, nQ, rfl, _, h1, hu⟩ := hu.one
 obtain ⟨TW, d2, aaC, aaF, rfl, _, h2, hu⟩ := hu.one
 obtain rfl := hu.none
 obtain ⟨nl, l, rfl, hn, sE⟩ := Nz h1
 obtain ⟨x, rfl, hx⟩ := Qp h2
 simp only [pN, rC, y8] at hl;exact hl (vq (wf_u8 hx) hn sE)
end
end Go.Proofs.YtblcomejcahkdaaDoor.Ev
