/- PLex, PLx, WNm, WLex1, WLex2, WLex3, WLex4, PTree, WTree1, PExpr, WExpr1, WExpr2, WExpr3, PExpr2, WExpr4, WExpr5, WExpr6, WExpr7, WExpr8. -/
import GoSem.Dispatch
import Derived.Test.YtdiccmapankckaaDoorMf
set_option linter.unusedSimpArgs false
set_option linter.unusedVariables false
set_option linter.unusedSectionVars false
set_option linter.defProp false
set_option maxRecDepth 20000
set_option maxHeartbeats 8000000
namespace Go.Proofs.YtdiccmapankckaaDoor.Ev
open Go
section
def cO (n : Int) : Prop := (97 <= n /\ n <= 122 \/ 65 <= n /\ n <= 90) \/ n = 95
def bu (n : Int) : Prop := 48 <= n /\ n <= 57
def er (n : Int) : Prop := ((n = 32 \/ n = 9) \/ n = 10) \/ n = 13
instance (n : Int) : Decidable (cO n) := by unfold cO; infer_instance
instance (n : Int) : Decidable (bu n) := by unfold bu; infer_instance
instance (n : Int) : Decidable (er n) := by unfold er; infer_instance
abbrev bZ := List UInt8
abbrev cI (c : UInt8) : Int := (c.toNat : Int)
def jx : List bZ := [[102, 110], [118, 97, 114], [105, 102], [101, 108, 115, 101], [119, 104, 105, 108, 101], [102, 111, 114], [98, 114, 101, 97, 107], [99, 111, 110, 116, 105, 110, 117, 101], [114, 101, 116, 117, 114, 110], [112, 114, 105, 110, 116], [108, 101, 110], [110, 101, 119], [116, 114, 117, 101], [102, 97, 108, 115, 101], [110, 105, 108], [105, 110, 116], [98, 111, 111, 108], [97, 114, 114]]
def GV : List bZ := [[124, 124], [38, 38], [61, 61], [33, 61], [60, 61], [62, 61], [43, 37], [45, 37], [42, 37]]
def U6 : bZ := [60, 62, 43, 45, 42, 47, 37, 33, 61, 40, 41, 123, 125, 91, 93, 44, 59]
def eU : Bool -> bZ -> Nat
 | _, [] => 0
 | r, c :: s => let r1 := if cI c = 10 then false else if cI c = 35 then true else r
  if r1 = false /\ ¬ er (cI c) then 0 else 1 + eU r1 s
def BC : Nat -> bZ -> Option Nat
 | n, [] => some n
 | n, c :: s => if 922337203685477580 < n \/ n = 922337203685477580 /\ 7 < c.toNat - 48 then none else BC (10 * n + (c.toNat - 48)) s
def l7 (s : bZ) : Nat := if 2 <= s.length /\ s.take 2 ∈ GV then 2 else if ∃ c ∈ U6, s[0]? = some c then 1 else 0
def lead (p : Int -> Prop) [DecidablePred p] : bZ -> Nat
 | [] => 0
 | c :: s => if p (cI c) then 1 + lead p s else 0
def nj (s : bZ) : Prop := (∀ (i : Nat) (c : UInt8), s[i]? = some c -> cO (cI c) \/ i ≠ 0 /\ bu (cI c)) /\ 0 < s.length /\ s.length <= 32 /\ s ∉ jx
def eN : bZ -> Nat
 | [] => 0
 | c :: s => if cO (cI c) then 1 + lead (fun n => cO n \/ bu n) s else 0
structure Tok where
 kind : Nat
 text : bZ
 n : Nat
 pos : Nat
deriving DecidableEq
inductive E6 (α : Type) where
 | ok (a : α)
 | bad (e p : Nat)
def E6.map {α β : Type} (f : α -> β) : E6 α -> E6 β
 | .ok a => .ok (f a)
 | .bad e p => .bad e p
def E6.bind {α β : Type} (x : E6 α) (f : α -> E6 β) : E6 β := match x with
 | .ok a => f a
 | .bad e p => .bad e p
def IX (k : bZ) (p : Nat) : E6 Tok := match BC 0 k with
 | some n => .ok ⟨2, k, n, p⟩
 | none => .bad 7 p
def kg (s : bZ) (p : Nat) : E6 Tok :=
 if ∃ c ∈ s[0]?, bu (cI c) then
  IX (s.take (lead bu s)) p
 else
  let k := eN s
  if 0 < k /\ s.take k ∈ jx then .ok ⟨3, s.take k, 0, p⟩
  else if 32 < k then .bad 3 p
  else if 0 < k then .ok ⟨1, s.take k, 0, p⟩
  else if l7 s = 0 then .bad 6 p
  else .ok ⟨4, s.take (l7 s), 0, p⟩
def gi : Nat -> bZ -> Nat -> E6 (List Tok)
 | 0, _, p => .bad 0 p
 | _ + 1, [], _ => .ok []
 | k + 1, s, p => match kg s p with
  | .bad e q => .bad e q
  | .ok t =>
   let r := s.drop t.text.length
   let j := eU false r
   (gi k (r.drop j) (p + t.text.length + j)).map (t :: ·)
def uS (s : bZ) : E6 (List Tok) :=
 if 65536 < s.length then .bad 3 0
 else (gi (s.length + 1) (s.drop (eU false s)) (eU false s)).map (· ++ [⟨0, [], 0, s.length⟩])
end
section
theorem cx {i : Nat} (h : i < 9223372036854775807) : IntKind.i64.wrap ((i : Int) + 1) = ((i + 1 : Nat) : Int) := by rw [wrap_i64 (by omega) (by omega)]; omega
theorem drop_cons {α : Type} {s : List α} {i : Nat} (h : i < s.length) : s.drop i = s[i] :: s.drop (i + 1) := List.drop_eq_getElem_cons h
theorem mS (p : Int -> Prop) [DecidablePred p] : ∀ s : bZ, lead p s <= s.length
 | [] => fh _
 | c :: s => by
  have := mS p s
  unfold lead; split <;> simp only [List.length_cons] <;> omega
theorem AI (p : Int -> Prop) [DecidablePred p] : ∀ s : bZ, ∀ c ∈ s.take (lead p s), p (cI c)
 | [], c, h => by simp at h
 | d :: s, c, h => by
  unfold lead at h
  split at h
  ·rename_i hd
   rw [Nat.add_comm, List.take_succ_cons, oQ] at h;rcases h with rfl | h
   ·exact hd
   ·exact AI p s c h
  ·simp at h
theorem DE : ∀ s : bZ, eN s <= s.length
 | [] => fh _
 | c :: s => by
  simp only [eN];have := mS (fun n => cO n \/ bu n) s
  split <;> simp only [List.length_cons] <;> omega
theorem IH {s : bZ} (h : 0 < s.length) : l7 s <= s.length := by
 unfold l7
 split
 ·rename_i q; exact q.1
 ·split <;> omega
def Tok.cells (t : Tok) : List EV := [.int .i64 (t.kind : Int), .str t.text, .int .i64 (t.n : Int), .int .i64 (t.pos : Int)]
theorem we {s : bZ} {p : Nat} (dO : 0 < s.length) : kg s p = if bu (cI s[0]) then IX (s.take (lead bu s)) p else (if 0 < eN s /\ s.take (eN s) ∈ jx then .ok ⟨3, s.take (eN s), 0, p⟩
  else if 32 < eN s then .bad 3 p
  else if 0 < eN s then .ok ⟨1, s.take (eN s), 0, p⟩
  else if l7 s = 0 then .bad 6 p
  else .ok ⟨4, s.take (l7 s), 0, p⟩) := by
 have HD : s[0]? = some s[0] := mZ dO
 unfold kg;simp only [HD, Option.mem_def, bc, exists_eq_left']
def mr (l : List Tok) : List (List EV) := l.map Tok.cells
theorem N2 (l : List Tok) (t : Tok) : (mr (l ++ [t])).flatten = (mr l).flatten ++ t.cells := by simp [mr]
theorem PW (l : List Tok) : ∀ el ∈ mr l, el.length = 4 := by
 intro el h; obtain ⟨t, _, rfl⟩ := List.mem_map.1 h; rfl
theorem KA (l : List Tok) : ∀ el ∈ mr l, jd el = true := by
 intro el h; obtain ⟨t, _, rfl⟩ := List.mem_map.1 h; rfl
theorem yQ {s : bZ} {p : Nat} {t : Tok} (hs : 0 < s.length) (h : kg s p = .ok t) : 0 < t.text.length /\ t.text.length <= s.length /\ t.pos = p /\ t.text = s.take t.text.length := by
 have HD : s[0]? = some s[0] := mZ hs
 have hl := mS bu s
 have hw := DE s
 have hg := IH hs
 unfold kg at h;simp only [HD, Option.mem_def, bc, exists_eq_left'] at h;have tk : ∀ k, k <= s.length -> (s.take k).length = k := fun k hk => by rw [List.length_take]; omega
 split at h
 ·rename_i hd
  have h1 : 0 < lead bu s := by
   have := drop_cons hs
   rw [List.drop_zero] at this;rw [this, lead, if_pos hd]; omega
  unfold IX at h
  split at h
  ·cases h; rw [tk _ hl]; exact ⟨h1, hl, rfl, rfl⟩
  ·cases h
 ·split at h
  ·rename_i q; cases h; rw [tk _ hw]; exact ⟨q.1, hw, rfl, rfl⟩
  ·split at h
   ·cases h
   ·split at h
    ·rename_i q; cases h; rw [tk _ hw]; exact ⟨q, hw, rfl, rfl⟩
    ·split at h
     ·cases h
     ·rename_i q; cases h; rw [tk _ hg]; exact ⟨by omega, hg, rfl, rfl⟩
theorem IU {s : bZ} {p e q : Nat} (hs : 0 < s.length) (h : kg s p = .bad e q) : q = p /\ 0 < e := by
 rw [we hs] at h;by_cases h1 : bu (cI s[0])
 ·rw [if_pos h1] at h
  unfold IX at h
  cases hn : BC 0 (s.take (lead bu s)) <;> rw [hn] at h <;> cases h
  exact ⟨rfl, by decide⟩
 ·rw [if_neg h1] at h
  by_cases h2 : 0 < eN s /\ s.take (eN s) ∈ jx
  ·rw [if_pos h2] at h; cases h
  ·rw [if_neg h2] at h
   by_cases h3 : 32 < eN s
   ·rw [if_pos h3] at h; cases h; exact ⟨rfl, by decide⟩
   ·rw [if_neg h3] at h
    by_cases h4 : 0 < eN s
    ·rw [if_pos h4] at h; cases h
    ·rw [if_neg h4] at h
     by_cases h5 : l7 s = 0
     ·rw [if_pos h5] at h; cases h; exact ⟨rfl, by decide⟩
     ·rw [if_neg h5] at h; cases h
def OC : E6 (List Tok) -> EV
 | .ok l => .tuple [.fz 0 4 (mr l), .agg [.int .i64 0, .int .i64 0]]
 | .bad e p => .tuple [.ae, .agg [.int .i64 (e : Int), .int .i64 (p : Int)]]
theorem E6.map_map {α β γ : Type} (f : α -> β) (g : β -> γ) (x : E6 α) : (x.map f).map g = x.map (fun a => g (f a)) := by cases x <;> rfl
theorem NQ {s : bZ} (h0 : 0 < eN s) (h1 : eN s <= 32) (h2 : s.take (eN s) ∉ jx) : s.take (eN s) ≠ [] /\ nj (s.take (eN s)) := by
 have hl := DE s
 have hlen : (s.take (eN s)).length = eN s := by rw [List.length_take]; omega
 refine ⟨fun q => by rw [q] at hlen; simp at hlen; omega, ?_, by omega, by omega, h2⟩
 intro i c hi
 cases s with
 | nil => simp at hi
 | cons a s =>
  have hw : eN (a :: s) = if cO (cI a) then 1 + lead (fun n => cO n \/ bu n) s else 0 := rfl
  rw [hw] at hi h0
  split at h0
  ·rename_i ha
   rw [if_pos ha, Nat.add_comm, List.take_succ_cons] at hi
   cases i with
   | zero =>
    simp only [List.getElem?_cons_zero, bc] at hi;subst hi; exact .inl ha
   | succ i =>
    rw [List.getElem?_cons_succ] at hi;have := AI (fun n => cO n \/ bu n) s c (List.mem_of_getElem? hi)
    exact this.elim .inl fun q => .inr ⟨Nat.succ_ne_zero i, q⟩
  ·omega
theorem Ok {s : bZ} {p : Nat} {t : Tok} (hs : 0 < s.length) (h : kg s p = .ok t) (hk : t.kind = 1) : t.text ≠ [] /\ nj t.text := by
 rw [we hs] at h;by_cases h1 : bu (cI s[0])
 ·rw [if_pos h1] at h
  unfold IX at h
  cases hn : BC 0 (s.take (lead bu s)) <;> rw [hn] at h <;> cases h
  cases hk
 ·rw [if_neg h1] at h
  by_cases h2 : 0 < eN s /\ s.take (eN s) ∈ jx
  ·rw [if_pos h2] at h; cases h; cases hk
  ·rw [if_neg h2] at h
   by_cases h3 : 32 < eN s
   ·rw [if_pos h3] at h; cases h
   ·rw [if_neg h3] at h
    by_cases h4 : 0 < eN s
    ·rw [if_pos h4] at h; cases h
     exact NQ h4 (by omega) fun q => h2 ⟨h4, q⟩
    ·rw [if_neg h4] at h
     by_cases h5 : l7 s = 0
     ·rw [if_pos h5] at h; cases h
     ·rw [if_neg h5] at h; cases h; cases hk
theorem DN : ∀ (k : Nat) (s : bZ) (p : Nat) (l : List Tok), gi k s p = .ok l -> l.length <= s.length /\ ∀ t ∈ l, t.kind = 1 -> t.text ≠ [] /\ nj t.text
 | 0, s, p, l, h => by simp only [gi] at h; cases h
 | k + 1, [], p, l, h => by simp only [gi] at h; cases h; exact ⟨fh _, fun t ht => by cases ht⟩
 | k + 1, c :: s, p, l, h => by
  simp only [gi] at h
  cases ho : kg (c :: s) p with
  | bad e q => rw [ho] at h; cases h
  | ok t =>
   rw [ho] at h;simp only at h
   obtain ⟨g1, g2, g3, g4⟩ := yQ (by simp) ho
   cases hr : gi k (((c :: s).drop t.text.length).drop (eU false ((c :: s).drop t.text.length))) (p + t.text.length + eU false ((c :: s).drop t.text.length)) with
   | bad e q => rw [hr] at h; cases h
   | ok l2 =>
    rw [hr] at h
    cases h
    obtain ⟨i1, i2⟩ := DN k _ _ _ hr
    rw [x9, x9] at i1;refine ⟨by rw [List.length_cons]; omega, fun t' ht' hk => ?_⟩
    rcases oQ.1 ht' with rfl | ht'
    ·exact Ok (by simp) ho hk
    ·exact i2 t' ht' hk
theorem FW : ∀ (k : Nat) (s : bZ) (p : Nat) (e q : Nat), s.length < k -> gi k s p = .bad e q -> 0 < e
 | 0, s, p, e, q, hk, h => by omega
 | k + 1, [], p, e, q, hk, h => by simp only [gi] at h; cases h
 | k + 1, c :: s, p, e, q, hk, h => by
  simp only [gi] at h
  cases ho : kg (c :: s) p with
  | bad e' q' => rw [ho] at h; cases h; exact (IU (by simp) ho).2
  | ok t =>
   rw [ho] at h;simp only at h
   obtain ⟨g1, g2, g3, g4⟩ := yQ (by simp) ho
   cases hr : gi k (((c :: s).drop t.text.length).drop (eU false ((c :: s).drop t.text.length))) (p + t.text.length + eU false ((c :: s).drop t.text.length)) with
   | bad e' q' =>
    rw [hr] at h; cases h
    exact FW k _ _ _ _ (by rw [x9, x9, List.length_cons]; rw [List.length_cons] at hk; omega) hr
   | ok l2 => rw [hr] at h; cases h
theorem S9 {s : bZ} {e p : Nat} (h : uS s = .bad e p) : 0 < e := by
 unfold uS at h
 split at h
 ·cases h; decide
 ·cases hr : gi (s.length + 1) (s.drop (eU false s)) (eU false s) with
  | bad e' q => rw [hr] at h; cases h; exact FW _ _ _ _ _ (by rw [x9]; omega) hr
  | ok l2 => rw [hr] at h; cases h
theorem jD {k : Nat} {s : bZ} {p : Nat} (h : s ≠ []) : gi (k + 1) s p = match kg s p with
  | .bad e q => .bad e q
  | .ok t => (gi k ((s.drop t.text.length).drop (eU false (s.drop t.text.length))) (p + t.text.length + eU false (s.drop t.text.length))).map (t :: ·) := by
 cases s with
 | nil => exact absurd rfl h
 | cons c s => rfl
def Tok.move (d : Nat) (t : Tok) : Tok := { t with pos := t.pos + d }
def adw (p : Nat) (s : bZ) : E6 (List Tok) := gi (s.length + 1) (s.drop (eU false s)) (p + eU false s)
end
section
theorem OD {n : Int} : bA B K Hl [.int .u8 n] = some (bo (cO n)) := by
 rw [dQ (by simp [gY])]
 simp +contextual -implicitDefEqProofs (maxSteps := 1000000) (maxDischargeDepth := 8) only [gY, cO, aq, aa, implies_true, simprocAttr]
theorem RT {n : Int} : bA B K I8 [.int .u8 n] = some (bo (bu n)) := by
 rw [dQ (by simp [iZ])]
 simp +contextual -implicitDefEqProofs (maxSteps := 1000000) (maxDischargeDepth := 8) only [iZ, bu, aq, aa, implies_true, simprocAttr]
def strs (l : List bZ) : List (List EV) := l.map fun s => [.str s]
theorem PH : bA B K I7 [] = some (.fz 0 1 (strs jx)) := Bf 10 fun call => by kernel_rfl
theorem P3 {l : List bZ} {i : Nat} : (strs l)[i]? = (l[i]?).map fun s => [.str s] := by unfold strs; rw [List.getElem?_map]
theorem IA {l : List bZ} : (strs l).length = l.length := by unfold strs; rw [List.length_map]
theorem NR {ws : List bZ} {s : bZ} (hw : ws.length < 1000) {m0 : Mem} {fr : Fr} (h0 : fr.get 0 = .str s) (h3 : fr.get 3 = .fz 0 1 (strs ws)) (h4 : fr.get 4 = .int .i64 0) (hd : fr.defers = []) :
  ∃ o, exec U (.loop ik) fr m0 = some o /\ ((s ∈ ws /\ ∃ fr', o = .ret fr' m0 /\ fr'.get 2 = .bool true /\ fr'.defers = []) \/ (s ∉ ws /\ ∃ fr', o = .exit 0 fr' m0 /\ fr'.defers = [])) := by
 refine ia (σ := Nat) (fun i fr m => m = m0 /\ i <= ws.length /\ s ∉ ws.take i /\ fr.get 0 = .str s /\ fr.get 3 = .fz 0 1 (strs ws) /\ fr.get 4 = .int .i64 (i : Int) /\ fr.defers = []) (fun i => ws.length - i) _ ?_ 0 fr m0 ⟨rfl, lu _, by simp, h0, h3, h4, hd⟩
 rintro i fr m ⟨rfl, hi, hn, h0, h3, h4, hd⟩
 generalize hX : exec U ik fr m = X
 by_cases bt : i < ws.length
 ·have hc : (i : Int) < (ws.length : Int) := by omega
  have hg : ws[i]? = some ws[i] := mZ bt
  have uW := cx (i := i) (by omega)
  simp +contextual -implicitDefEqProofs (maxSteps := 1000000) (maxDischargeDepth := 8) only [ik, h0, h3, h4, hd, hc, hg, bt, uW, bJ, P3, IA, aq, aa, implies_true, simprocAttr] at hX
  subst hX;refine ud (fun he => kl (.inl ⟨he ▸ Fm bt, _, rfl, ?_, ?_⟩)) (fun he => et (i + 1) (by omega) ⟨rfl, bt, ?_, ?_, ?_, ?_, ?_⟩)
  case refine_3 =>
   rw [List.take_succ_eq_append_getElem bt, uy]
   rintro (q | q)
   ·exact hn q
   ·exact he (Ar.1 q).symm
  all_goals simp only [h0, h3, hd, ap, Nat.reduceBEq ]
 ·have hc : ¬ ((i : Int) < (ws.length : Int)) := by omega
  simp +contextual -implicitDefEqProofs (maxSteps := 1000000) (maxDischargeDepth := 8) only [ik, h0, h3, h4, hd, hc, IA, aq, aa, implies_true, simprocAttr] at hX
  subst hX;have : ws.take i = ws := Ij (by omega)
  rw [this] at hn;exact fi (.inr ⟨hn, _, rfl, by simp only [hd, ap, Nat.reduceBEq ]⟩)
theorem SC {s : bZ} : bA B K Ld [.str s] = some (bo (s ∈ jx)) := by
 rw [dQ (by simp [jS])]
 generalize hL : exec (UT B K) (aH.loop ik) = L
 simp +contextual -implicitDefEqProofs (maxSteps := 1000000) (maxDischargeDepth := 8) only [jS, PH, aq, aa, implies_true, simprocAttr]
 subst hL;generalize hX : exec _ (.loop ik) _ _ = X
 obtain ⟨o, rfl, h⟩ := hZ hX (NR (ws := jx) (s := s) (by decide) (by simp only [ap, Nat.reduceBEq ]) (by simp only [ap, Nat.reduceBEq ]) (by simp only [ap, Nat.reduceBEq ]) (by simp only [ap, Nat.reduceBEq ]))
 rcases h with ⟨h, fr', rfl, h2, hd⟩ | ⟨h, fr', rfl, hd⟩
 ·simp +contextual -implicitDefEqProofs (maxSteps := 1000000) (maxDischargeDepth := 8) only [h, h2, hd, fY, aq, aa, implies_true, simprocAttr]
 ·simp +contextual -implicitDefEqProofs (maxSteps := 1000000) (maxDischargeDepth := 8) only [h, hd, fA, aq, aa, implies_true, simprocAttr]
theorem Ow {s : bZ} (hs : s.length < 1000000000) {m0 : Mem} {fr : Fr} (h0 : fr.get 0 = .str s) (h3 : fr.get 3 = .int .i64 0) (hd : fr.defers = []) :
  ∃ o, exec U (.loop il) fr m0 = some o /\ ((¬ (∀ (i : Nat) (c : UInt8), s[i]? = some c -> cO (cI c) \/ i ≠ 0 /\ bu (cI c)) /\ ∃ fr', o = .ret fr' m0 /\ fr'.get 2 = .bool false /\ fr'.defers = []) \/
   ((∀ (i : Nat) (c : UInt8), s[i]? = some c -> cO (cI c) \/ i ≠ 0 /\ bu (cI c)) /\ ∃ fr', o = .exit 0 fr' m0 /\ fr'.get 0 = .str s /\ fr'.defers = [])) := by
 refine ia (σ := Nat) (fun i fr m => m = m0 /\ i <= s.length /\ fr.get 0 = .str s /\ fr.get 3 = .int .i64 (i : Int) /\ (∀ (j : Nat) (c : UInt8), j < i -> s[j]? = some c -> cO (cI c) \/ j ≠ 0 /\ bu (cI c)) /\ fr.defers = []) (fun i => s.length - i) _ ?_ 0 fr m0 ⟨rfl, lu _, h0, h3, by omega, hd⟩
 rintro i fr m ⟨rfl, hi, h0, h3, hall, hd⟩
 generalize hX : exec U il fr m = X
 by_cases bt : i < s.length
 ·have hc : (i : Int) < (s.length : Int) := by omega
  have hg : s[i]? = some s[i] := mZ bt
  have uW := cx (i := i) (by omega)
  have hi0 : ((i : Int) = 0) = (i = 0) := by simp
  generalize s[i] = c at hg
  simp +contextual -implicitDefEqProofs (maxSteps := 1000000) (maxDischargeDepth := 8) only [il, h0, h3, hd, hc, hg, bt, uW, hi0, bJ, OD, RT, aq, aa, implies_true, simprocAttr] at hX
  subst hX;refine ud (fun hp => kl (Or.inl ⟨fun q => ?_, _, rfl, by simp only [ap, Nat.reduceBEq ], by simp only [hd, ap, Nat.reduceBEq ]⟩)) (fun hp => et (i + 1) (by omega) ⟨rfl, bt, by simp only [h0, ap, Nat.reduceBEq ], by simp only [ap, Nat.reduceBEq ], fun j d hj WA => ?_, by simp only [hd, ap, Nat.reduceBEq ]⟩)
  ·rcases q i c hg with q | ⟨q1, q2⟩
   ·exact hp.1 q
   ·exact hp.2.elim q1 (fun r => r q2)
  ·by_cases Sy : j < i
   ·exact hall j d Sy WA
   ·obtain rfl : j = i := by omega
    rw [hg] at WA; cases WA
    by_cases q : cO (cI c)
    ·exact .inl q
    ·exact .inr ⟨fun r => hp ⟨q, .inl r⟩, BP fun r => hp ⟨q, .inr r⟩⟩
 ·have hc : ¬ ((i : Int) < (s.length : Int)) := by omega
  simp +contextual -implicitDefEqProofs (maxSteps := 1000000) (maxDischargeDepth := 8) only [il, h0, h3, hd, hc, aq, aa, implies_true, simprocAttr] at hX
  subst hX;exact fi (Or.inr ⟨fun j c hj => hall j c (by have := (rc.1 hj).1; omega) hj, _, rfl, by simp only [h0, ap, Nat.reduceBEq ], by simp only [hd, ap, Nat.reduceBEq ]⟩)
theorem S6 {s : bZ} (hs : s.length < 1000000000) : bA B K Le [.str s] = some (bo (nj s)) := by
 rw [dQ (by simp [jT])]
 generalize hL : exec (UT B K) (aH.loop il) = L
 simp +contextual -implicitDefEqProofs (maxSteps := 1000000) (maxDischargeDepth := 8) only [jT, aq, aa, implies_true, simprocAttr]
 subst hL;generalize hX : exec _ (.loop il) _ _ = X
 obtain ⟨o, rfl, h⟩ := hZ hX (Ow (s := s) hs (by simp only [ap, Nat.reduceBEq ]) (by simp only [ap, Nat.reduceBEq ]) (by simp only [ap, Nat.reduceBEq ]))
 rcases h with ⟨h, fr', rfl, h2, hd⟩ | ⟨h, fr', rfl, h0, hd⟩
 ·have : ¬ nj s := fun q => h q.1
  simp +contextual -implicitDefEqProofs (maxSteps := 1000000) (maxDischargeDepth := 8) only [this, h2, hd, fA, aq, aa, implies_true, simprocAttr]
 ·simp +contextual -implicitDefEqProofs (maxSteps := 1000000) (maxDischargeDepth := 8) only [h0, hd, SC, aq, aa, implies_true, simprocAttr]
  refine congrArg some (Af ?_)
  unfold nj
  constructor
  ·rintro ⟨⟨q1, q2⟩, q3⟩; exact ⟨h, by omega, by omega, q3⟩
  ·rintro ⟨_, q1, q2, q3⟩; exact ⟨⟨by omega, by omega⟩, q3⟩
end
section
end
section
def aeK (o : Option Nat) : EV := match o with
 | some n => .tuple [.int .i64 (n : Int), .bool true]
 | none => .tuple [.int .i64 0, .bool false]
end
section
def aeE : E6 Tok -> EV
 | .ok t => .tuple [.agg t.cells, .int .i64 0]
 | .bad e _ => .tuple [.agg [.int .i64 0, .str [], .int .i64 0, .int .i64 0], .int .i64 (e : Int)]
end
section
end
section
structure Nd where
 kind : Int
 kids : List Int
 nl : Bool
 n : Int
 s : bZ
 pos : Int
def kc (k : Int) : Prop := 1 <= k /\ k <= 11
def iE (k : Int) : Prop := 12 <= k /\ k <= 22
def kindOf (l : List Nd) (x : Int) : Int := ((l[x.toNat]?).map Nd.kind).getD 0
def sX : List Int := [4, 11, 12, 13, 14, 17, 24, 25]
def BA (d : Nd) : Prop :=
 ¬ (((d.kind < 1 \/ 26 < d.kind) \/ d.pos < 0) \/ ¬ (d.kind ∈ sX ↔ d.s ≠ [])) /\ ¬ (d.s ≠ [] /\ ¬ nj d.s) /\
 (if d.kind = 1 then 0 <= d.n else if d.kind = 2 then d.n = 0 \/ d.n = 1 else if d.kind = 5 then 1 <= d.n /\ d.n <= 16 else if d.kind = 24 \/ d.kind = 25 then 1 <= d.n /\ d.n <= 3 else d.n = 0)
def iO (l : List Nd) (k : List Int) (n : Nat) : Prop := n <= k.length /\ ∀ x ∈ k.take n, kc (kindOf l x)
def tY (l : List Nd) (k : List Int) (kind : Int) (nO : Nat) : Prop := (∀ x ∈ k, kindOf l x = kind) /\ k.length <= nO
def cA (l : List Nd) (d : Nd) : Prop :=
 if d.kind = 5 \/ d.kind = 8 \/ d.kind = 14 then d.kids.length = 2 /\ iO l d.kids 2
 else if d.kind = 6 \/ d.kind = 7 \/ d.kind = 9 \/ d.kind = 10 \/ d.kind = 12 \/ d.kind = 13 \/ d.kind = 20 \/ d.kind = 21 then d.kids.length = 1 /\ iO l d.kids 1
 else if d.kind = 11 then d.kids.length <= 8 /\ iO l d.kids d.kids.length
 else if d.kind = 15 then (iO l d.kids 1 /\ 2 <= d.kids.length) /\ tY l (d.kids.drop 1) 23 2
 else if d.kind = 16 then (iO l d.kids 1 /\ d.kids.length = 2) /\ tY l (d.kids.drop 1) 23 1
 else if d.kind = 17 then (iO l d.kids 2 /\ d.kids.length = 3) /\ tY l (d.kids.drop 2) 23 1
 else if d.kind = 22 then d.kids.length = 1 /\ ∀ x ∈ d.kids, kindOf l x = 11
 else if d.kind = 23 then ∀ x ∈ d.kids, iE (kindOf l x)
 else if d.kind = 25 then (1 <= d.kids.length /\ tY l (d.kids.take (d.kids.length - 1)) 24 8) /\ ∀ x ∈ d.kids.getLast?, kindOf l x = 23
 else if d.kind = 26 then tY l d.kids 25 200
 else d.kids.length = 0
def ug (l : List Nd) : Nat -> Nat -> Nat
 | 0, _ => 1
 | f + 1, i => match l[i]? with
  | none => 1
  | some d => d.kids.foldl (fun h x => max h (1 + ug l f x.toNat)) 1
def gH (l : List Nd) (i : Nat) : Nat := ug l (i + 1) i
def lJ (l : List Nd) : Prop := ∀ (i : Nat) (d : Nd), l[i]? = some d -> ∀ x ∈ d.kids, 0 <= x /\ x < (i : Int)
def gM (l : List Nd) : List Int := (l.map Nd.kids).flatten
def D5 (l : List Nd) : Prop :=
 (lJ l /\ (gM l).Nodup /\ ∀ d ∈ l, BA d /\ cA l d) /\ 0 < l.length /\ (gM l).length = l.length - 1 /\ gH l (l.length - 1) <= 200
end
section
def ints (l : List Int) : List (List EV) := l.map fun n => [.int .i64 n]
theorem nq {l : List Int} {i : Nat} : (ints l)[i]? = (l[i]?).map fun n => [.int .i64 n] := by unfold ints; rw [List.getElem?_map]
theorem bh {l : List Int} : (ints l).length = l.length := by unfold ints; rw [List.length_map]
theorem Ji (l : List Int) : ∀ el ∈ ints l, el.length = 1 := by intro el h; obtain ⟨t, _, rfl⟩ := List.mem_map.1 h; rfl
theorem Em (l : List Int) : ∀ el ∈ ints l, jd el = true := by intro el h; obtain ⟨t, _, rfl⟩ := List.mem_map.1 h; rfl
theorem Gm (l : List Int) : (ints l).flatten = l.map (.int .i64) := by
 induction l with
 | nil => rfl
 | cons a l ih => rw [List.map_cons, <- ih]; rfl
theorem AK (l : List Int) (n : Nat) : (ints l).drop n = ints (l.drop n) := by unfold ints; rw [List.map_drop]
theorem OM (l : List Int) (n : Nat) : (ints l).take n = ints (l.take n) := by unfold ints; rw [List.map_take]
def Nd.cells (d : Nd) : List EV := [.int .i64 d.kind, row d.nl 0 1 (ints d.kids), .int .i64 d.n, .str d.s, .int .i64 d.pos]
def qS (l : List Nd) : List (List EV) := l.map Nd.cells
theorem lB {l : List Nd} {i : Nat} : (qS l)[i]? = (l[i]?).map Nd.cells := by unfold qS; rw [List.getElem?_map]
theorem jf {l : List Nd} : (qS l).length = l.length := by unfold qS; rw [List.length_map]
theorem zf {n : Nat} {k : IntKind} {x : Int} (h0 : 0 <= x) (h : x < (n : Int)) : idx n (.int k x) = some x.toNat := by
 obtain ⟨i, rfl⟩ := Int.eq_ofNat_of_zero_le h0
 exact bJ (by omega)
theorem yU {l : List Nd} {x : Int} (h0 : 0 <= x) (h : x < (l.length : Int)) : ∃ d, l[x.toNat]? = some d /\ kindOf l x = d.kind := by
 have bt : x.toNat < l.length := by omega
 refine ⟨l[x.toNat], mZ bt, ?_⟩
 unfold kindOf; rw [mZ bt]; rfl
theorem JD {l : List Int} {t : Nat} {nl : Bool} {x : Int} (hl : l.length < 1000000000) {m0 : Mem} {fr : Fr} (h0 : fr.get 0 = row nl t 1 (ints l)) (h1 : fr.get 1 = .int .i64 x) (h5 : fr.get 5 = .int .i64 0) (hd : fr.defers = []) :
  ∃ o, exec U (.loop fy) fr m0 = some o /\ ((x ∈ l /\ ∃ fr', o = .ret fr' m0 /\ fr'.get 4 = .bool true /\ fr'.defers = []) \/ (x ∉ l /\ ∃ fr', o = .exit 0 fr' m0 /\ fr'.defers = [])) := by
 refine ia (σ := Nat) (fun i fr m => m = m0 /\ i <= l.length /\ x ∉ l.take i /\ fr.get 0 = row nl t 1 (ints l) /\ fr.get 1 = .int .i64 x /\ fr.get 5 = .int .i64 (i : Int) /\ fr.defers = []) (fun i => l.length - i) _ ?_ 0 fr m0 ⟨rfl, lu _, by simp, h0, h1, h5, hd⟩
 rintro i fr m ⟨rfl, hi, hn, h0, h1, h5, hd⟩
 generalize hX : exec U fy fr m = X
 by_cases bt : i < l.length
 ·have hc : (i : Int) < (l.length : Int) := by omega
  have hg : l[i]? = some l[i] := mZ bt
  have uW := cx (i := i) (by omega)
  simp +contextual -implicitDefEqProofs (maxSteps := 1000000) (maxDischargeDepth := 8) only [fy, h0, h1, h5, hd, hc, hg, bt, uW, bJ, nq, bh, aq, aa, implies_true, simprocAttr] at hX
  subst hX;refine ud (fun he => kl (Or.inl ⟨he ▸ Fm bt, _, rfl, by simp only [ap, Nat.reduceBEq ], by simp only [hd, ap, Nat.reduceBEq ]⟩)) (fun he => et (i + 1) (by omega) ⟨rfl, bt, ?_, by simp only [h0, ap, Nat.reduceBEq ], by simp only [h1, ap, Nat.reduceBEq ], by simp only [ap, Nat.reduceBEq ], by simp only [hd, ap, Nat.reduceBEq ]⟩)
  rw [List.take_succ_eq_append_getElem bt, uy]
  rintro (q | q)
  ·exact hn q
  ·exact he (Ar.1 q).symm
 ·have hc : ¬ ((i : Int) < (l.length : Int)) := by omega
  simp +contextual -implicitDefEqProofs (maxSteps := 1000000) (maxDischargeDepth := 8) only [fy, h0, h1, h5, hd, hc, bh, aq, aa, implies_true, simprocAttr] at hX
  subst hX;have : l.take i = l := Ij (by omega)
  rw [this] at hn;exact fi (Or.inr ⟨hn, _, rfl, by simp only [hd, ap, Nat.reduceBEq ]⟩)
theorem Gv {l : List Int} {t : Nat} {nl : Bool} {x : Int} (hl : l.length < 1000000000) : bA B K xo [row nl t 1 (ints l), .int .i64 x] = some (bo (x ∈ l)) := by
 rw [dQ (by simp [gd])]
 generalize hL : exec (UT B K) (aH.loop fy) = L
 simp +contextual -implicitDefEqProofs (maxSteps := 1000000) (maxDischargeDepth := 8) only [gd, aq, aa, implies_true, simprocAttr]
 subst hL;generalize hX : exec _ (.loop fy) _ _ = X
 obtain ⟨o, rfl, h⟩ := hZ hX (JD (l := l) (x := x) (nl := nl) (t := t) hl (by simp only [ap, Nat.reduceBEq ]) (by simp only [ap, Nat.reduceBEq ]) (by simp only [ap, Nat.reduceBEq ]) (by simp only [ap, Nat.reduceBEq ]))
 rcases h with ⟨h, fr', rfl, h2, hd⟩ | ⟨h, fr', rfl, hd⟩
 ·simp +contextual -implicitDefEqProofs (maxSteps := 1000000) (maxDischargeDepth := 8) only [h, h2, hd, fY, aq, aa, implies_true, simprocAttr]
 ·simp +contextual -implicitDefEqProofs (maxSteps := 1000000) (maxDischargeDepth := 8) only [h, hd, fA, aq, aa, implies_true, simprocAttr]
theorem UZ {t e : Nat} {els : List (List EV)} : row false t e els = .fz t e els := rfl
theorem OW {l : List Int} {t : Nat} {x : Int} (hl : l.length < 1000000000) : bA B K xo [.fz t 1 (ints l), .int .i64 x] = some (bo (x ∈ l)) := by
 rw [<- UZ]; exact Gv hl
theorem TL {k : Int} : bA B K Lb [.int .i64 k] = some (bo (kc k)) := by
 rw [dQ (by simp [jR])]
 simp +contextual -implicitDefEqProofs (maxSteps := 1000000) (maxDischargeDepth := 8) only [jR, kc, aq, aa, implies_true, simprocAttr]
theorem SL {k : Int} : bA B K La [.int .i64 k] = some (bo (iE k)) := by
 rw [dQ (by simp [jQ])]
 simp +contextual -implicitDefEqProofs (maxSteps := 1000000) (maxDischargeDepth := 8) only [jQ, iE, aq, aa, implies_true, simprocAttr]
theorem QE {k : Int} : bA B K I5 [.int .i64 k] = some (bo (k ∈ sX)) := by
 rw [dQ (by simp [iX])]
 have hf : fw (eA 8 [.int .i64 0]) [(0, 1, .int .i64 4), (1, 1, .int .i64 11), (2, 1, .int .i64 12), (3, 1, .int .i64 13), (4, 1, .int .i64 14), (5, 1, .int .i64 17), (6, 1, .int .i64 24), (7, 1, .int .i64 25)] = some (ints sX).flatten := by kernel_rfl
 have hz : ∀ m : Mem, lX (ext m [.cells (ints sX).flatten 1 bn false]) (.slice (nb m.next 0) 0 8 (some 8)) = some (.fz 0 1 (ints sX)) := fun m =>
  mH (els := ints sX) (e := 1) (cap := some 8) (ty := bn) (ro := false) (by rw [aK rfl (by simp)]; rfl) (Ji _) (Em _) rfl
 simp +contextual -implicitDefEqProofs (maxSteps := 1000000) (maxDischargeDepth := 8) only [iX, cm, fG, hf, hz, Nat.mul_one, OW (l := sX) (by decide), aq, aa, implies_true, simprocAttr]
theorem U3 {d : Nd} (hs : d.s.length < 1000000000) : bA B K Ge [.agg d.cells] = some (bo (BA d)) := by
 rw [dQ (by simp [lh])]
 have hn := S6 hs
 simp +contextual -implicitDefEqProofs (maxSteps := 1000000) (maxDischargeDepth := 8) only [lh, Nd.cells, QE, hn, aq, aa, implies_true, simprocAttr]
 simp only [Vn, Vm];refine eW ?_
 unfold BA
 grind
end
section
structure RS where
 pos : Nat
 deep : Int
 tree : List Nd
 high : List Nat
 fe : Int
 fp : Int
def RS.now (st : RS) (l : List Tok) : Tok := l.getD (min st.pos (l.length - 1)) ⟨0, [], 0, 0⟩
def RS.is (st : RS) (l : List Tok) (s : bZ) : Prop := st.fe = 0 /\ 3 <= (st.now l).kind /\ (st.now l).text = s
instance (st : RS) (l : List Tok) (s : bZ) : Decidable (st.is l s) := inferInstanceAs (Decidable (_ /\ _ /\ _))
def RS.fail (st : RS) (e p : Int) : RS := if st.fe = 0 then { st with fe := e, fp := p } else st
def RS.next (st : RS) : RS := { st with pos := st.pos + 1 }
def RS.skip (st : RS) (l : List Tok) (s : bZ) : RS := if st.is l s then st.next else st
def RS.want (st : RS) (l : List Tok) (s : bZ) : RS := if st.is l s then st.next else st.fail 8 (st.now l).pos
def RS.open (st : RS) (p : Int) : RS := if 200 < st.deep + 1 then ({ st with deep := st.deep + 1 } : RS).fail 4 p else { st with deep := st.deep + 1 }
def RS.close (st : RS) : RS := { st with deep := st.deep - 1 }
def Jv (H : List Nat) (h : Nat) (x : Int) : Nat := if 0 <= x /\ x < (H.length : Int) then max h (H.getD x.toNat 0 + 1) else h
def lL (H : List Nat) (ks : List Int) : Nat := ks.foldl (Jv H) 1
def RS.nh (st : RS) (d : Nd) : RS := if 200 < lL st.high d.kids then st.fail 4 d.pos else st
def RS.put (st : RS) (d : Nd) : RS := if (st.nh d).fe = 0 then { st.nh d with tree := st.tree ++ [d], high := st.high ++ [lL st.high d.kids] } else st.nh d
def RS.gO (st : RS) (d : Nd) : Int := if (st.nh d).fe = 0 then (st.tree.length : Int) else -1
def mw (s : bZ) : Int × Int :=
 if s = [124, 124] then (1, 1) else if s = [38, 38] then (2, 2) else if s = [61, 61] then (3, 3) else if s = [33, 61] then (3, 4)
 else if s = [60] then (3, 5) else if s = [60, 61] then (3, 6) else if s = [62] then (3, 7) else if s = [62, 61] then (3, 8)
 else if s = [43] then (4, 9) else if s = [45] then (4, 10) else if s = [43, 37] then (4, 11) else if s = [45, 37] then (4, 12)
 else if s = [42] then (5, 13) else if s = [47] then (5, 14) else if s = [37] then (5, 15) else if s = [42, 37] then (5, 16) else (0, 0)
inductive gL where
 | expr
 | lR (least : Int)
 | kV (least nO left : Int)
 | front
 | atom
 | mI (left : Int)
 | inner (from_ to : bZ)
 | args
 | lU (out : List Int)
def nd (kind : Int) (kids : List Int) (n : Int) (s : bZ) (p : Int) : Nd := ⟨kind, kids, kids.isEmpty, n, s, p⟩
def jk (l : List Tok) : Nat -> gL -> RS -> Option (RS × List Int)
 | 0, _, _ => none
 | k + 1, .expr, st => (jk l k (.lR 1) st).bind fun (s1, r) => some (s1, if s1.fe = 0 then r else [-1])
 | k + 1, .lR least, st => (jk l k .front st).bind fun (s1, r) => jk l k (.kV least 6 (r.headD 0)) s1
 | k + 1, .kV least nO left, st =>
  let t := st.now l
  let o := mw t.text
  if st.fe = 0 /\ ¬ (((t.kind ≠ 4 \/ o.2 = 0) \/ o.1 < least) \/ nO < o.1) then
   (jk l k (.lR (o.1 + 1)) st.next).bind fun (s1, r) =>
    jk l k (.kV least (if o.1 = 3 then o.1 - 1 else o.1) (s1.gO (nd 5 [left, r.headD 0] o.2 [] t.pos))) (s1.put (nd 5 [left, r.headD 0] o.2 [] t.pos))
  else some (st, [left])
 | k + 1, .front, st =>
  let p : Int := (st.now l).pos
  let one := fun (kind : Int) =>
   if (st.next.open p).fe = 0 then
    (jk l k .front (st.next.open p)).bind fun (s1, r) => some (s1.close.put (nd kind r 0 [] p), [s1.close.gO (nd kind r 0 [] p)])
   else some (st.next.open p, [-1])
  if st.is l [45] then one 6
  else if st.is l [33] then one 7
  else (jk l k .atom st).bind fun (s1, r) => jk l k (.mI (r.headD 0)) s1
 | k + 1, .atom, st =>
  let t := st.now l
  let p : Int := t.pos
  let lay := fun (s : RS) (d : Nd) => some (s.put d, [s.gO d])
  if ¬ st.fe = 0 then some (st, [-1])
  else if st.is l [40] then jk l k (.inner [40] [41]) st
  else if t.kind = 2 then lay st.next (nd 1 [] t.n [] p)
  else if t.kind = 1 then
   if st.next.is l [40] then (jk l k .args st.next).bind fun (s1, r) => lay s1 (nd 11 r 0 t.text p)
   else lay st.next (nd 4 [] 0 t.text p)
  else if st.is l [116, 114, 117, 101] then lay st.next (nd 2 [] 1 [] p)
  else if st.is l [102, 97, 108, 115, 101] then lay st.next (nd 2 [] 0 [] p)
  else if st.is l [110, 105, 108] then lay st.next (nd 3 [] 0 [] p)
  else if st.is l [108, 101, 110] then (jk l k (.inner [40] [41]) st.next).bind fun (s1, r) => lay s1 (nd 9 r 0 [] p)
  else if st.is l [110, 101, 119] then (jk l k (.inner [40] [41]) st.next).bind fun (s1, r) => lay s1 (nd 10 r 0 [] p)
  else some (st.fail 8 p, [-1])
 | k + 1, .mI left, st =>
  if st.is l [91] then
   (jk l k (.inner [91] [93]) st).bind fun (s1, r) =>
    jk l k (.mI (s1.gO (nd 8 (left :: r) 0 [] (st.now l).pos))) (s1.put (nd 8 (left :: r) 0 [] (st.now l).pos))
  else some (st, [left])
 | k + 1, .inner a z, st =>
  if st.is l a then
   if (st.next.open (st.now l).pos).fe = 0 then
    (jk l k .expr (st.next.open (st.now l).pos)).bind fun (s1, r) => some ((s1.want l z).close, if (s1.want l z).fe = 0 then r else [-1])
   else some (st.next.open (st.now l).pos, [-1])
  else some (st.fail 8 (st.now l).pos, [-1])
 | k + 1, .args, st =>
  if st.is l [40] then
   if (st.next.open (st.now l).pos).fe = 0 then
    (if (st.next.open (st.now l).pos).is l [41] then some (st.next.open (st.now l).pos, []) else jk l k (.lU []) (st.next.open (st.now l).pos)).bind fun (s1, r) => some ((s1.want l [41]).close, r)
   else some (st.next.open (st.now l).pos, [])
  else some (st.fail 8 (st.now l).pos, [])
 | k + 1, .lU out, st =>
  let s0 := if out.length = 8 then st.fail 3 (st.now l).pos else st
  (jk l k .expr s0).bind fun (s1, r) =>
   if s1.is l [44] then jk l k (.lU (out ++ r)) s1.next else some (s1, out ++ r)
end
section
theorem PX {l : List Tok} {i : Nat} : (mr l)[i]? = (l[i]?).map Tok.cells := by unfold mr; rw [List.getElem?_map]
theorem N4 {l : List Tok} : (mr l).length = l.length := by unfold mr; rw [List.length_map]
abbrev aZ (tg : Nat) (l : List Tok) (st : RS) (tv hv : EV) : List EV := [.fz tg 4 (mr l), .int .i64 (st.pos : Int), .int .i64 st.deep, tv, hv, .int .i64 st.fe, .int .i64 st.fp]
theorem S4 {l : List Tok} {st : RS} (h : 0 < l.length) : l[min st.pos (l.length - 1)]? = some (st.now l) := by
 have : min st.pos (l.length - 1) < l.length := by omega
 rw [mZ this];unfold RS.now;rw [List.getD_eq_getElem?_getD, mZ this]; rfl
theorem DO {tg : Nat} {l : List Tok} {st : RS} {tv hv : EV} {b : Nat} {m : Mem} (hl : 0 < l.length) (Sw : l.length < 1000000000) (hp : st.pos < 1000000000) (hg : m.get b = .cells (aZ tg l st tv hv) 7 ai false) (hb : b < m.next) :
  run U kj [.ptr b 0] m = some (.ret (.agg (st.now l).cells) (bump m 19)) := by
 rw [lG];have HD : ¬ ((l.length : Int) = 0) := by omega
 have hw : IntKind.i64.wrap ((l.length : Int) - 1) = ((l.length - 1 : Nat) : Int) := by rw [wrap_i64 (by omega) (by omega)]; omega
 have OR : xv [.int .i64 (st.pos : Int), .int .i64 ((l.length - 1 : Nat) : Int)] = some (.int .i64 ((min st.pos (l.length - 1) : Nat) : Int)) := by
  simp only [xv, mR, Nat.beq_refl, cond_true]
  congr 2
  split <;> omega
 have bt : min st.pos (l.length - 1) < l.length := by omega
 have hn := S4 (st := st) hl
 obtain ⟨X, hE⟩ : ∃ X, pF bl.results (exec B0 bl.body (aa [.ptr b 0] 0 ph) m) = X := ⟨_, rfl⟩
 have hX := hE
 simp +contextual -implicitDefEqProofs (maxSteps := 1000000) (maxDischargeDepth := 8) only [bl, hg, hb, HD, hw, OR, bt, hn, PX, N4, bJ, Tok.cells, aq, aa, implies_true, simprocAttr] at hX
 subst hX;exact y5 (by simp [bl]) hE rfl rfl (td AJ)
theorem lf {tg : Nat} {l : List Tok} {st : RS} {tv hv : EV} {b : Nat} {m : Mem} (hg : m.get b = .cells (aZ tg l st tv hv) 7 ai false) (hb : b < m.next) :
  run U jg [.ptr b 0] m = some (.ret (bo (st.fe = 0)) (bump m 0)) := by
 rw [mc];obtain ⟨X, hE⟩ : ∃ X, pF bq.results (exec B1 bq.body (aa [.ptr b 0] 0 ph) m) = X := ⟨_, rfl⟩
 have hX := hE
 simp +contextual -implicitDefEqProofs (maxSteps := 1000000) (maxDischargeDepth := 8) only [bq, hg, hb, aq, aa, implies_true, simprocAttr] at hX
 subst hX;exact y5 (by simp [bq]) hE rfl rfl El
theorem Ti {tg : Nat} {l : List Tok} {st : RS} {tv hv : EV} {b : Nat} {m : Mem} {s : bZ} (hl : 0 < l.length) (Sw : l.length < 1000000000) (hp : st.pos < 1000000000) (hg : m.get b = .cells (aZ tg l st tv hv) 7 ai false) (hb : b < m.next) :
  run U mD [.ptr b 0, .str s] m = some (.ret (bo (st.is l s)) (bump m 20)) := by
 have h1 : ∀ M : Mem, M.get b = .cells (aZ tg l st tv hv) 7 ai false -> b < M.next -> kz B0 bl [.ptr b 0] M = some (.ret (.agg (st.now l).cells) (bump M 19)) := fun M h1 h2 => by
  have := DO (m := M) hl Sw hp h1 h2
  rwa [lG] at this
 have h2 : ∀ M : Mem, M.get b = .cells (aZ tg l st tv hv) 7 ai false -> b < M.next -> kz B1 bq [.ptr b 0] M = some (.ret (bo (st.fe = 0)) (bump M 0)) := fun M h1 h2 => by
  have := lf (m := M) h1 h2
  rwa [mc] at this
 rw [xd];have hk : ((3 : Int) <= ((st.now l).kind : Int)) = (3 <= (st.now l).kind) := propext (by omega)
 obtain ⟨X, hE⟩ : ∃ X, pF cz.results (exec B2 cz.body (aa [.ptr b 0, .str s] 0 ph) m) = X := ⟨_, rfl⟩
 have hX := hE
 simp +contextual -implicitDefEqProofs (maxSteps := 1000000) (maxDischargeDepth := 8) only [cz, rF, s4, h1, h2, hk, hg, hb, Tok.cells, aq, aa, implies_true, simprocAttr] at hX
 subst hX;exact y5 (by simp [cz]) (by rw [hE, and_assoc]; rfl) rfl rfl (td (Lp (td El) bE))
structure Kv (b tg : Nat) (l : List Tok) (st : RS) (tv hv : EV) : Prop where
 l0 : 0 < l.length
 l1 : l.length < 1000000000
 p : st.pos < 1000000000
 d : st.deep < 1000000000 /\ -1000000000 < st.deep
section
variable {tg : Nat} {l : List Tok} {st : RS} {tv hv : EV} {b : Nat} {m : Mem}
theorem Kv.token (h : Kv b tg l st tv hv) : ∀ M : Mem, M.get b = .cells (aZ tg l st tv hv) 7 ai false -> b < M.next -> run U kj [.ptr b 0] M = some (.ret (.agg [.int .i64 ((st.now l).kind : Int), .str (st.now l).text, .int .i64 ((st.now l).n : Int), .int .i64 ((st.now l).pos : Int)]) (bump M 19)) := fun M h1 h2 => DO h.l0 h.l1 h.p h1 h2
theorem Kv.abG (_h : Kv b tg l st tv hv) : ∀ M : Mem, M.get b = .cells (aZ tg l st tv hv) 7 ai false -> b < M.next -> run U jg [.ptr b 0] M = some (.ret (bo (st.fe = 0)) (bump M 0)) := fun M h1 h2 => lf h1 h2
theorem Kv.is (h : Kv b tg l st tv hv) : ∀ (M : Mem) (s : bZ), M.get b = .cells (aZ tg l st tv hv) 7 ai false -> b < M.next -> run U mD [.ptr b 0, .str s] M = some (.ret (bo (st.is l s)) (bump M 20)) := fun M s h1 h2 => Ti h.l0 h.l1 h.p h1 h2
structure qN (m m' : Mem) (b : Nat) (B : fQ) : Prop where
 n : m.next <= m'.next
 g : m'.get b = B
 k : ∀ c, c < m.next -> c ≠ b -> m'.get c = m.get c
theorem qN.same {B : fQ} {k : Nat} (h : m.get b = B) : qN m (bump m k) b B := ⟨by rw [bz]; exact bE, h, fun _ _ _ => rfl⟩
theorem qN.set {B : fQ} {m' : Mem} (hn : m.next <= m'.next) (hk : ∀ c, c < m.next -> c ≠ b -> m'.get c = m.get c) : qN m (m'.set b B) b B := ⟨hn, bK, fun c hc iQ => by rw [az iQ]; exact hk c hc iQ⟩
theorem qN.trans {m' Up : Mem} {B B' : fQ} (h : qN m m' b B) (h' : qN m' Up b B') : qN m Up b B' := ⟨pJ h.n h'.n, h'.g, fun c hc iQ => (h'.k c (mn hc h.n) iQ).trans (h.k c hc iQ)⟩
theorem u7 (hg : m.get b = .cells (aZ tg l st tv hv) 7 ai false) (hb : b < m.next) (e p : Int) : ∃ m', run U dR [.ptr b 0, .int .i64 e, .int .i64 p] m = some (.ret (.tuple []) m') /\ qN m m' b (.cells (aZ tg l (st.fail e p) tv hv) 7 ai false) := by
 have hf : ∀ M : Mem, M.get b = .cells (aZ tg l st tv hv) 7 ai false -> b < M.next -> run U jg [.ptr b 0] M = some (.ret (bo (st.fe = 0)) (bump M 0)) := fun M h1 h2 => lf h1 h2
 rw [bX (by simp [dl])]
 by_cases h0 : st.fe = 0
 ·simp +contextual -implicitDefEqProofs (maxSteps := 1000000) (maxDischargeDepth := 8) only [dl, hf, hg, hb, h0, aq, aa, implies_true, simprocAttr]
  refine ⟨_, rfl, by rw [bz]; exact bE, ?_, fun c hc iQ => az iQ⟩
  rw [gP, bK]; simp only [RS.fail, if_pos h0]
 ·simp +contextual -implicitDefEqProofs (maxSteps := 1000000) (maxDischargeDepth := 8) only [dl, hf, hg, hb, h0, aq, aa, implies_true, simprocAttr]
  exact ⟨_, rfl, .same (by rw [hg]; simp only [RS.fail, if_neg h0])⟩
theorem IF (h : Kv b tg l st tv hv) (hg : m.get b = .cells (aZ tg l st tv hv) 7 ai false) (hb : b < m.next) (s : bZ) : ∃ m', run U aT [.ptr b 0, .str s] m = some (.ret (bo (st.is l s)) m') /\ qN m m' b (.cells (aZ tg l (st.skip l s) tv hv) 7 ai false) := by
 have hi := h.is
 have hw := cx (i := st.pos) (by have := h.p; omega)
 rw [bX (by simp [dj])]
 by_cases h0 : st.is l s
 ·simp +contextual -implicitDefEqProofs (maxSteps := 1000000) (maxDischargeDepth := 8) only [dj, hi, hg, hb, h0, hw, fY, aq, aa, implies_true, simprocAttr]
  refine ⟨_, rfl, by rw [bz]; exact bE, ?_, fun c hc iQ => az iQ⟩
  rw [gP, bK]; simp only [RS.skip, RS.next, if_pos h0]
 ·simp +contextual -implicitDefEqProofs (maxSteps := 1000000) (maxDischargeDepth := 8) only [dj, hi, hg, hb, h0, fA, aq, aa, implies_true, simprocAttr]
  exact ⟨_, rfl, .same (by rw [hg]; simp only [RS.skip, if_neg h0])⟩
theorem Ph (h : Kv b tg l st tv hv) (hg : m.get b = .cells (aZ tg l st tv hv) 7 ai false) (hb : b < m.next) : ∃ m', run U dw [.ptr b 0] m = some (.ret (.tuple []) m') /\ qN m m' b (.cells (aZ tg l st.close tv hv) 7 ai false) := by
 have hw : IntKind.i64.wrap (st.deep - 1) = st.deep - 1 := by have := h.d; exact wrap_i64 (by omega) (by omega)
 rw [bX (by simp [dF])]
 simp +contextual -implicitDefEqProofs (maxSteps := 1000000) (maxDischargeDepth := 8) only [dF, hg, hb, hw, aq, aa, implies_true, simprocAttr]
 exact ⟨_, rfl, .set (fh _) fun _ _ _ => rfl⟩
theorem Kv.fail (h : Kv b tg l st tv hv) (e p : Int) : Kv b tg l (st.fail e p) tv hv := by
 unfold RS.fail; split
 ·exact ⟨h.l0, h.l1, h.p, h.d⟩
 ·exact h
theorem PJ (h : Kv b tg l st tv hv) (hg : m.get b = .cells (aZ tg l st tv hv) 7 ai false) (hb : b < m.next) (s : bZ) : ∃ m', run U aO [.ptr b 0, .str s] m = some (.ret (bo (st.is l s)) m') /\ qN m m' b (.cells (aZ tg l (st.want l s) tv hv) 7 ai false) := by
 obtain ⟨m1, e1, u1⟩ := IF h hg hb s
 rw [bX (by simp [di])]
 by_cases h0 : st.is l s
 ·simp +contextual -implicitDefEqProofs (maxSteps := 1000000) (maxDischargeDepth := 8) only [di, e1, h0, fY, aq, aa, implies_true, simprocAttr]
  refine ⟨_, rfl, ?_⟩
  simp only [RS.skip, RS.next, if_pos h0] at u1;simp only [RS.want, RS.next, if_pos h0]; exact u1
 ·have hsk : st.skip l s = st := by unfold RS.skip; rw [if_neg h0]
  rw [hsk] at u1;have AP : b < m1.next := mn hb u1.n
  have ht := h.token m1 u1.g AP
  obtain ⟨m2, e2, u2⟩ := u7 (m := bump m1 19) u1.g (mn AP bE) 8 ((st.now l).pos : Int)
  have Vv : ([EV.int .i64 ((st.now l).kind : Int), .str (st.now l).text, .int .i64 ((st.now l).n : Int), .int .i64 ((st.now l).pos : Int)] : List EV)[3]? = some (.int .i64 ((st.now l).pos : Int)) := rfl
  simp +contextual -implicitDefEqProofs (maxSteps := 1000000) (maxDischargeDepth := 8) only [di, e1, h0, ht, e2, Vv, fA, aq, aa, implies_true, simprocAttr]
  refine ⟨_, rfl, ?_⟩
  simp only [RS.want, if_neg h0];exact u1.trans ⟨pJ bE u2.n, u2.g, fun c hc iQ => u2.k c (mn hc bE) iQ⟩
theorem Qq (h : Kv b tg l st tv hv) (hg : m.get b = .cells (aZ tg l st tv hv) 7 ai false) (hb : b < m.next) (p : Int) : ∃ m', run U eE [.ptr b 0, .int .i64 p] m = some (.ret (bo ((st.open p).fe = 0)) m') /\ qN m m' b (.cells (aZ tg l (st.open p) tv hv) 7 ai false) := by
 have hd := h.d
 have hw : IntKind.i64.wrap (st.deep + 1) = st.deep + 1 := wrap_i64 (by omega) (by omega)
 rw [bX (by simp [dk])]
 have uu : b < (m.set b (.cells (aZ tg l { st with deep := st.deep + 1 } tv hv) 7 ai false)).next := hb
 have hg0 : (m.set b (.cells (aZ tg l { st with deep := st.deep + 1 } tv hv) 7 ai false)).get b = .cells (aZ tg l { st with deep := st.deep + 1 } tv hv) 7 ai false := bK
 by_cases h0 : 200 < st.deep + 1
 ·obtain ⟨m1, e1, u1⟩ := u7 (st := { st with deep := st.deep + 1 }) hg0 uu 4 p
  have ho : st.open p = (({ st with deep := st.deep + 1 } : RS).fail 4 p) := by simp only [RS.open, if_pos h0]
  rw [ho];have hfn := lf u1.g (mn hb u1.n)
  generalize hfs : (({ st with deep := st.deep + 1 } : RS).fail 4 p) = fs at *
  simp +contextual -implicitDefEqProofs (maxSteps := 1000000) (maxDischargeDepth := 8) only [dk, hg, hb, hw, h0, e1, hfn, aq, aa, implies_true, simprocAttr]
  refine ⟨_, rfl, ?_, u1.g, fun c hc iQ => ?_⟩
  ·rw [bz]; exact pJ u1.n bE
  ·rw [gP, u1.k c hc iQ, az iQ]
 ·have ho : st.open p = { st with deep := st.deep + 1 } := by simp only [RS.open, if_neg h0]
  rw [ho];have hfn := lf hg0 uu
  simp +contextual -implicitDefEqProofs (maxSteps := 1000000) (maxDischargeDepth := 8) only [dk, hg, hb, hw, h0, hfn, aq, aa, implies_true, simprocAttr]
  exact ⟨_, rfl, by rw [bz]; exact bE, bK, fun c hc iQ => az iQ⟩
end
end
section
def is (l : List Int) : List EV := l.map fun x => .int .i64 x
def So (l : List Nat) : List EV := l.map fun (x : Nat) => .int .i64 (x : Int)
theorem Lr {l : List Int} : (is l).length = l.length := List.length_map ..
structure Nv where
 d : Nd
 kv : EV
def wi (d : Nd) (kv : EV) : List EV := [.int .i64 d.kind, kv, .int .i64 d.n, .str d.s, .int .i64 d.pos]
def Nv.cells (x : Nv) : List EV := wi x.d x.kv
def Ip (xs : List Nv) : List EV := (xs.map Nv.cells).flatten
theorem Qv {xs : List Nv} {x : Nv} : Ip (xs ++ [x]) = Ip xs ++ x.cells := by simp [Ip]
structure UQ (b : Nat) (tv hv : EV) (c : Nat) : Prop where
 ne : c ≠ b
 t : gz tv c
 h : gz hv c
structure Bv (m : Mem) (b : Nat) (tv hv : EV) (d : Nd) (kv : EV) : Prop where
 o : jz m kv (is d.kids) d.kids.length 1 0
 f : ∀ c, ¬ gz kv c -> UQ b tv hv c
 nl : d.nl = d.kids.isEmpty
 z : d.kids = [] -> kv = .ae
structure E7 (m : Mem) (b tg : Nat) (l : List Tok) (st : RS) (P : Nat -> Prop) (tv hv : EV) (xs : List Nv) : Prop where
 g : m.get b = .cells (aZ tg l st tv hv) 7 ai false
 lt : b < m.next
 t : jz m tv (Ip xs) xs.length 5 (b + 1)
 h : jz m hv (So st.high) st.high.length 1 (b + 1)
 a : ∀ c, ¬ gz tv c -> gz hv c
 x : xs.map Nv.d = st.tree
 hl : st.high.length = st.tree.length
 k : ∀ x ∈ xs, Bv m b tv hv x.d x.kv
 p : ∀ c, P c -> c < m.next /\ UQ b tv hv c
 pk : ∀ c, P c -> ∀ x ∈ xs, gz x.kv c
def Rd (m : Mem) (b tg : Nat) (l : List Tok) (st : RS) (P : Nat -> Prop) : Prop := ∃ tv hv xs, E7 m b tg l st P tv hv xs
structure Kp (m m' : Mem) (P : Nat -> Prop) : Prop where
 n : m.next <= m'.next
 k : ∀ c, P c -> m'.get c = m.get c
theorem Kp.trans {m m' Up : Mem} {P : Nat -> Prop} (h : Kp m m' P) (h' : Kp m' Up P) : Kp m Up P := ⟨pJ h.n h'.n, fun c hc => (h'.k c hc).trans (h.k c hc)⟩
theorem Kp.bO {m m' : Mem} {P Q : Nat -> Prop} (h : Kp m m' P) (hq : ∀ c, Q c -> P c) : Kp m m' Q := ⟨h.n, fun c hc => h.k c (hq c hc)⟩
theorem jz.Qx {m : Mem} {v : EV} {cs : List EV} {n esz lo : Nat} (h : jz m v cs n esz lo) {c : Nat} (hc : ¬ gz v c) : lo <= c /\ c < m.next := by
 rcases h.is with ⟨rfl, _⟩ | ⟨b, cap, t, rfl, h1, h2, _⟩
 ·exact absurd gz.nil hc
 ·by_cases q : c = b
  ·subst q; exact ⟨h1, h2⟩
  ·exact absurd (gz.of q) hc
section
variable {m : Mem} {b tg : Nat} {l : List Tok} {st : RS} {P : Nat -> Prop} {tv hv : EV} {xs : List Nv}
theorem E7.NY (h : E7 m b tg l st P tv hv xs) {m' : Mem} {st' : RS} (ht : st'.tree = st.tree) (hh : st'.high = st.high) (u : qN m m' b (.cells (aZ tg l st' tv hv) 7 ai false)) : E7 m' b tg l st' P tv hv xs where
 g := u.g
 lt := mn h.lt u.n
 t := h.t.gF u.n fun c hc nv _ => u.k c hc (by omega)
 h := by rw [hh]; exact h.h.gF u.n fun c hc nv _ => u.k c hc (by omega)
 a := h.a
 x := h.x.trans ht.symm
 hl := by rw [hh, ht]; exact h.hl
 k := fun x hx => ⟨(h.k x hx).o.gF u.n fun c hc _ ho => u.k c hc ((h.k x hx).f c ho).ne, (h.k x hx).f, (h.k x hx).nl, (h.k x hx).z⟩
 p := fun c hc => ⟨mn (h.p c hc).1 u.n, (h.p c hc).2⟩
 pk := h.pk
theorem E7.kp (h : E7 m b tg l st P tv hv xs) {m' : Mem} {B : fQ} (u : qN m m' b B) : Kp m m' P := ⟨u.n, fun c hc => u.k c (h.p c hc).1 (h.p c hc).2.ne⟩
theorem qN.bump {B : fQ} {k : Nat} (h : m.get b = B) : qN m (bump m k) b B := .same h
theorem qN.ext {B : fQ} {ys : List fQ} (h : m.get b = B) (hb : b < m.next) : qN m (Ev.ext m ys) b B := ⟨by rw [aM]; exact bE, by rw [aL hb]; exact h, fun c hc _ => aL hc⟩
theorem E7.more (h : E7 m b tg l st P tv hv xs) {Q : Nat -> Prop} (hq : ∀ c, Q c -> P c \/ (c < m.next /\ UQ b tv hv c /\ ∀ x ∈ xs, gz x.kv c)) : E7 m b tg l st Q tv hv xs :=
 ⟨h.g, h.lt, h.t, h.h, h.a, h.x, h.hl, h.k, fun c hc => (hq c hc).elim (h.p c) fun q => ⟨q.1, q.2.1⟩, fun c hc => (hq c hc).elim (h.pk c) fun q => q.2.2⟩
theorem E7.fresh (h : E7 m b tg l st P tv hv xs) {c : Nat} (hc : m.next <= c) : UQ b tv hv c := ⟨by have := h.lt; omega, h.t.lt (.inl hc), h.h.lt (.inl hc)⟩
theorem E7.RG (h : E7 m b tg l st P tv hv xs) {c : Nat} (hc : m.next <= c) : ∀ x ∈ xs, gz x.kv c := fun x hx => (h.k x hx).o.lt (.inl hc)
theorem Qk {v3 : EV} {kids : List Int} {nl : EV} {lo : Nat} {fr : Fr} {m0 : Mem} (h : E7 m0 b tg l st P tv hv xs) (hH : ∀ x ∈ st.high, x <= 200) (ho : jz m0 nl (is kids) kids.length 1 lo) (Gs : kids.length < 1000000000) (hhl : st.high.length < 1000000000) (hd0 : fr.get 0 = .ptr b 0) (h5 : fr.get 5 = .int .i64 1) (h9 : fr.get 9 = nl) (zm : fr.get 10 = .int .i64 (kids.length : Int)) (CG : fr.get 11 = .int .i64 0) (h3 : fr.get 3 = v3) (hd : fr.defers = []) :
  ∃ o, exec U (.loop cb) fr m0 = some o /\ ∃ fr', o = .exit 0 fr' m0 /\ fr'.get 0 = .ptr b 0 /\ fr'.get 5 = .int .i64 (lL st.high kids : Int) /\ fr'.get 3 = v3 /\ fr'.defers = [] := by
 have OT : ∀ (ks : List Int) (a : Nat), a <= 201 -> ks.foldl (Jv st.high) a <= 201 := by
  intro ks
  induction ks with
  | nil => intro a ha; exact ha
  | cons x ks ih =>
   intro a ha
   rw [List.foldl_cons];refine ih _ ?_
   unfold Jv
   split
   ·rename_i q
    have hx : x.toNat < st.high.length := by omega
    have := hH _ (Fm hx)
    rw [List.getD_eq_getElem?_getD, mZ hx, Option.getD_some];omega
   ·exact ha
 refine ia (σ := Nat) (fun j fr m => m = m0 /\ j <= kids.length /\ fr.get 0 = .ptr b 0 /\ fr.get 5 = .int .i64 (((kids.take j).foldl (Jv st.high) 1 : Nat) : Int) /\ fr.get 9 = nl /\ fr.get 10 = .int .i64 (kids.length : Int) /\ fr.get 11 = .int .i64 (j : Int) /\ fr.get 3 = v3 /\ fr.defers = []) (fun j => kids.length - j) _ ?_ 0 fr m0
  ⟨rfl, lu _, hd0, h5, h9, zm, CG, h3, hd⟩
 rintro j fr m ⟨rfl, hj, hd0, h5, h9, zm, CG, h3, hd⟩
 generalize hX : exec U cb fr m = X
 by_cases bt : j < kids.length
 ·have hc : (j : Int) < (kids.length : Int) := by omega
  rcases ho.is with ⟨_, q, _⟩ | ⟨kb, cap, t, rfl, h1, h2, VT, h4⟩
  ·omega
  have FE : (kids.take (j + 1)).foldl (Jv st.high) 1 = Jv st.high ((kids.take j).foldl (Jv st.high) 1) kids[j] := by
   rw [List.take_add_one, mZ bt, Option.toList_some, List.foldl_append]; rfl
  have hle := OT (kids.take j) 1 (by omega)
  have hk : (is kids)[j]? = some (.int .i64 kids[j]) := by unfold is; rw [List.getElem?_map, mZ bt]; rfl
  generalize hA : (kids.take j).foldl (Jv st.high) 1 = A at *
  generalize hx : kids[j] = x at *
  have hw : IntKind.i64.wrap ((j : Int) + 1) = ((j + 1 : Nat) : Int) := by rw [wrap_i64 (by omega) (by omega)]; omega
  have hg := h.g
  have hb := h.lt
  by_cases hr : 0 <= x /\ x < (st.high.length : Int)
  ·obtain ⟨Wv, Vs⟩ := hr
   obtain ⟨n, rfl⟩ : ∃ n : Nat, x = (n : Int) := ⟨x.toNat, by omega⟩
   have hn : n < st.high.length := by omega
   rcases h.h.is with ⟨_, q, _⟩ | ⟨BJ, JB, ht, rfl, g1, g2, g3, g4⟩
   ·omega
   have hxn := hH _ (Fm hn)
   have hh : (So st.high)[n]? = some (.int .i64 (st.high[n] : Int)) := by unfold So; rw [List.getElem?_map, mZ hn]; rfl
   generalize hY : st.high[n] = y at *
   have Xm : IntKind.i64.wrap ((y : Int) + 1) = ((y + 1 : Nat) : Int) := by rw [wrap_i64 (by omega) (by omega)]; omega
   have zj : ui [.int .i64 (A : Int), .int .i64 ((y + 1 : Nat) : Int)] = some (.int .i64 ((max A (y + 1) : Nat) : Int)) := by
    simp only [ui, lF, Nat.beq_refl, cond_true]
    congr 2
    split <;> omega
   simp +contextual -implicitDefEqProofs (maxSteps := 1000000) (maxDischargeDepth := 8) only [cb, hd0, h5, h9, zm, CG, hd, hc, hk, VT, hg, hb, hh, g3, Wv, Vs, hn, bt, bJ, Nat.mul_one, hw, Xm, zj, aq, aa, implies_true, simprocAttr] at hX
   subst hX;refine et (j + 1) (by omega) ⟨rfl, by omega, by simp only [hd0, ap, Nat.reduceBEq ], ?_, by simp only [h9, ap, Nat.reduceBEq ], by simp only [zm, ap, Nat.reduceBEq ], by simp only [ap, Nat.reduceBEq ], by simp only [h3, ap, Nat.reduceBEq ], by simp only [hd, ap, Nat.reduceBEq ]⟩
   rw [FE, Jv, if_pos ⟨Wv, Vs⟩, Int.toNat_natCast, List.getD_eq_getElem?_getD, mZ hn, Option.getD_some, hY];simp only [ap, Nat.reduceBEq ]
  ·have FA : ¬ (x < (st.high.length : Int)) \/ ¬ (0 <= x) := by omega
   by_cases Wv : 0 <= x
   ·have Vs : ¬ (x < (st.high.length : Int)) := by omega
    rcases h.h.is with ⟨rfl, q, q2⟩ | ⟨BJ, JB, ht, rfl, g1, g2, g3, g4⟩
    ·rw [q] at Vs
     have aa2 : ¬ (x < 0) := by omega
     simp +contextual -implicitDefEqProofs (maxSteps := 1000000) (maxDischargeDepth := 8) only [cb, hd0, h5, h9, zm, CG, hd, hc, hk, VT, hg, hb, Wv, aa2, bt, bJ, Nat.mul_one, hw, aq, aa, implies_true, simprocAttr] at hX
     subst hX;refine et (j + 1) (by omega) ⟨rfl, by omega, by simp only [hd0, ap, Nat.reduceBEq ], ?_, by simp only [h9, ap, Nat.reduceBEq ], by simp only [zm, ap, Nat.reduceBEq ], by simp only [ap, Nat.reduceBEq ], by simp only [h3, ap, Nat.reduceBEq ], by simp only [hd, ap, Nat.reduceBEq ]⟩
     rw [FE, Jv, if_neg hr];simp only [h5, ap, Nat.reduceBEq ]
    ·simp +contextual -implicitDefEqProofs (maxSteps := 1000000) (maxDischargeDepth := 8) only [cb, hd0, h5, h9, zm, CG, hd, hc, hk, VT, hg, hb, Wv, Vs, bt, bJ, Nat.mul_one, hw, aq, aa, implies_true, simprocAttr] at hX
     subst hX;refine et (j + 1) (by omega) ⟨rfl, by omega, by simp only [hd0, ap, Nat.reduceBEq ], ?_, by simp only [h9, ap, Nat.reduceBEq ], by simp only [zm, ap, Nat.reduceBEq ], by simp only [ap, Nat.reduceBEq ], by simp only [h3, ap, Nat.reduceBEq ], by simp only [hd, ap, Nat.reduceBEq ]⟩
     rw [FE, Jv, if_neg hr];simp only [h5, ap, Nat.reduceBEq ]
   ·simp +contextual -implicitDefEqProofs (maxSteps := 1000000) (maxDischargeDepth := 8) only [cb, hd0, h5, h9, zm, CG, hd, hc, hk, VT, hg, hb, Wv, bt, bJ, Nat.mul_one, hw, aq, aa, implies_true, simprocAttr] at hX
    subst hX;refine et (j + 1) (by omega) ⟨rfl, by omega, by simp only [hd0, ap, Nat.reduceBEq ], ?_, by simp only [h9, ap, Nat.reduceBEq ], by simp only [zm, ap, Nat.reduceBEq ], by simp only [ap, Nat.reduceBEq ], by simp only [h3, ap, Nat.reduceBEq ], by simp only [hd, ap, Nat.reduceBEq ]⟩
    rw [FE, Jv, if_neg hr];simp only [h5, ap, Nat.reduceBEq ]
 ·have hc : ¬ (j : Int) < (kids.length : Int) := by omega
  obtain rfl : j = kids.length := by omega
  simp +contextual -implicitDefEqProofs (maxSteps := 1000000) (maxDischargeDepth := 8) only [cb, zm, CG, hc, hd, aq, aa, implies_true, simprocAttr] at hX
  subst hX;rw [List.take_length] at h5;exact fi ⟨_, rfl, by simp only [hd0, ap, Nat.reduceBEq ], by simp only [h5, lL, ap, Nat.reduceBEq ], by simp only [h3, ap, Nat.reduceBEq ], by simp only [hd, ap, Nat.reduceBEq ]⟩
end
end
section
section
variable {m : Mem} {b tg : Nat} {l : List Tok} {st : RS} {P : Nat -> Prop} {tv hv : EV} {xs : List Nv}
theorem Qj (h : E7 m b tg l st P tv hv xs) (hH : ∀ x ∈ st.high, x <= 200) (Lx : st.tree.length < 1000000) {d : Nd} {kv : EV} (hk : Bv m b tv hv d kv) (hpk : ∀ c, P c -> gz kv c) (Gs : d.kids.length < 1000000000) : ∃ m', run U ay [.ptr b 0, .agg (wi d kv)] m = some (.ret (.int .i64 (st.gO d)) m') /\ Rd m' b tg l (st.put d) P /\ Kp m m' P := by
 rw [bX (by simp [ey])]
 generalize hL : exec (UT B K) (aH.loop cb) = L
 have hg := h.g
 have hb := h.lt
 have Gq : BE kv (ext m [.cells (wi d kv) 5 aW false]) = some (.val (.int .i64 (d.kids.length : Int)) (ext m [.cells (wi d kv) 5 aW false])) := by
  rcases hk.o.is with ⟨rfl, q, _⟩ | ⟨kb, cap, t, rfl, _⟩
  ·rw [q]; rfl
  ·rfl
 unfold wi at *
 simp +contextual -implicitDefEqProofs (maxSteps := 1000000) (maxDischargeDepth := 8) only [ey, Gq, aq, aa, implies_true, simprocAttr]
 subst hL;generalize hX : exec _ (.loop cb) _ _ = X
 have h1 := h.NY (st' := st) rfl rfl (qN.ext (ys := [.cells [.int .i64 d.kind, kv, .int .i64 d.n, .str d.s, .int .i64 d.pos] 5 aW false]) hg hb)
 have Kt : Bv (ext m [.cells [.int .i64 d.kind, kv, .int .i64 d.n, .str d.s, .int .i64 d.pos] 5 aW false]) b tv hv d kv := ⟨hk.o.ext _, hk.f, hk.nl, hk.z⟩
 have xu : (ext m [.cells [.int .i64 d.kind, kv, .int .i64 d.n, .str d.s, .int .i64 d.pos] 5 aW false]).get (nb m.next 0) = .cells [.int .i64 d.kind, kv, .int .i64 d.n, .str d.s, .int .i64 d.pos] 5 aW false := by rw [aK rfl (by simp)]; rfl
 obtain ⟨o, rfl, fr', rfl, f0, f5, f3, fd⟩ := hZ hX (Qk (v3 := .ptr (nb m.next 0) 0) h1 hH (hk.o.ext _) Gs (by rw [h.hl]; omega) (by simp only [ap, Nat.reduceBEq ]) (by simp only [ap, Nat.reduceBEq ]) (by simp only [ap, Nat.reduceBEq ]) (by simp only [ap, Nat.reduceBEq ]) (by simp only [ap, Nat.reduceBEq ]) (by simp only [ap, Nat.reduceBEq ]) (by simp only [ap, Nat.reduceBEq ]))
 clear hX;have hB1 := hb
 generalize pD : ext m [.cells [.int .i64 d.kind, kv, .int .i64 d.n, .str d.s, .int .i64 d.pos] 5 aW false] = M1 at *
 have Sv : M1.next = nb m.next 1 := by rw [<- pD, aM]; rfl
 have kp1 : Kp m M1 P := ⟨by rw [Sv]; exact bE, fun c hc => by rw [<- pD, aL (h.p c hc).1]⟩
 have hg1 := h1.g
 have AP := h1.lt
 have VN : nb m.next 0 < M1.next := by rw [Sv]; unfold nb; simp
 by_cases hi : 200 < lL st.high d.kids
 ·have xr : (200 : Int) < (lL st.high d.kids : Int) := by omega
  obtain ⟨m2, e2, u2⟩ := u7 h1.g h1.lt 4 d.pos
  have im : ¬ (st.fail 4 d.pos).fe = 0 := by
   unfold RS.fail; split
   ·simp
   ·assumption
  have OQ : st.nh d = st.fail 4 d.pos := if_pos hi
  have hp : st.put d = st.fail 4 d.pos := by rw [RS.put, OQ, if_neg im]
  have hr : st.gO d = -1 := by rw [RS.gO, OQ, if_neg im]
  have h2 := h1.NY (st' := st.fail 4 d.pos) (by unfold RS.fail; split <;> rfl) (by unfold RS.fail; split <;> rfl) u2
  have hf := lf h2.g h2.lt
  have kp2 := kp1.trans (h1.kp u2)
  rw [hp, hr];generalize st.fail 4 d.pos = st2 at *
  simp +contextual -implicitDefEqProofs (maxSteps := 1000000) (maxDischargeDepth := 8) only [f0, f5, f3, fd, xr, xu, hg1, AP, VN, e2, hf, im, fA, aq, aa, implies_true, simprocAttr]
  exact ⟨_, rfl, ⟨_, _, _, h2.NY rfl rfl (qN.bump h2.g)⟩, kp2.trans (h2.kp (qN.bump h2.g))⟩
 ·have xr : ¬ (200 : Int) < (lL st.high d.kids : Int) := by omega
  have OQ : st.nh d = st := if_neg hi
  have hf := lf h1.g h1.lt
  by_cases im : st.fe = 0
  ·have hp : st.put d = { st with tree := st.tree ++ [d], high := st.high ++ [lL st.high d.kids] } := by rw [RS.put, OQ, if_pos im]
   have hr : st.gO d = (st.tree.length : Int) := by rw [RS.gO, OQ, if_pos im]
   rw [hp, hr];rw [eB im] at hf;simp +contextual -implicitDefEqProofs (maxSteps := 1000000) (maxDischargeDepth := 8) only [f0, f5, f3, fd, xr, xu, hg1, AP, VN, hf, aq, aa, implies_true, simprocAttr]
   generalize hA : fP _ aW 5 tv _ = A
   generalize ti : Mem.mk (nb M1.next 22) _ = D1 at hA ⊢
   have tK : D1.next = nb M1.next 22 := by rw [<- ti]
   have EM : ∀ c, c < M1.next -> D1.get c = M1.get c := fun c hc => by
    rw [<- ti];exact (aL (m := Mem.mk (nb M1.next 0 + 7) (bump (bump M1 0) 22).gB) (by show c < nb M1.next 0 + 7; unfold nb; omega)).trans rfl
   have HW : D1.get (nb (nb M1.next 0 + 7) 0) = .cells [.int .i64 d.kind, kv, .int .i64 d.n, .str d.s, .int .i64 d.pos] 5 aW false := by
    rw [<- ti];exact (aK (m := Mem.mk (nb M1.next 0 + 7) (bump (bump M1 0) 22).gB) rfl (by simp)).trans rfl
   clear ti;have YM : jz D1 tv (Ip xs) xs.length 5 (b + 1) := h1.t.gF (by rw [tK]; exact bE) fun c hc _ _ => EM c hc
   have ho2 : jz D1 hv (So st.high) st.high.length 1 (b + 1) := h1.h.gF (by rw [tK]; exact bE) fun c hc _ _ => EM c hc
   have Tk : xs.length = st.tree.length := by rw [<- h.x, List.length_map]
   obtain ⟨a1, o1⟩ := gT (e := aW) YM (by rw [tK]; unfold nb; omega) (rl (cap := some 1) HW rfl) rfl (by decide) (by unfold room; omega)
   rw [a1] at hA;subst hA;have X3 : (grow D1 tv aW 5 (Ip xs ++ [.int .i64 d.kind, kv, .int .i64 d.n, .str d.s, .int .i64 d.pos])).next = nb M1.next 23 := by rw [iL, tK, e6]
   have X2 : ∀ c, c < D1.next -> gz tv c -> (grow D1 tv aW 5 (Ip xs ++ [.int .i64 d.kind, kv, .int .i64 d.n, .str d.s, .int .i64 d.pos])).get c = D1.get c := fun c hc ho => lN hc ho
   generalize grow D1 tv aW 5 _ = G1 at *
   have hbt : gz tv b := YM.lt (.inr (Nat.lt_succ_self _))
   have SA : b < D1.next := by rw [tK]; unfold nb; omega
   have VG : G1.get b = .cells (aZ tg l st tv hv) 7 ai false := by rw [X2 b SA hbt, EM b AP, hg1]
   have abk : D1.get b = .cells (aZ tg l st tv hv) 7 ai false := by rw [EM b AP, hg1]
   have ei : GX (some hv) hv = true := na (by rcases ho2.is with ⟨rfl, _⟩ | ⟨_, _, _, rfl, _⟩ <;> rfl)
   simp +contextual -implicitDefEqProofs (maxSteps := 1000000) (maxDischargeDepth := 8) only [f0, f5, f3, fd, VG, abk, tK, X3, e6, ei, aq, aa, implies_true, simprocAttr]
   generalize hA : fP _ bn 1 hv _ = A
   generalize TA : Mem.mk (nb M1.next 23) _ = D2 at hA ⊢
   have PG : D2.next = nb M1.next 23 := by rw [<- TA]
   have WN : ∀ c, c ≠ nb M1.next 0 + 14 -> D2.get c = G1.get c := fun c hc => by
    rw [<- TA];exact ((fm (m := Mem.mk (nb M1.next 0 + 14) G1.gB)).trans (if_neg hc)).trans rfl
   have d2g : D2.get (nb (nb M1.next 0 + 14) 0) = .cells [.int .i64 (lL st.high d.kids : Int)] 1 bn false := by
    rw [<- TA];exact ((fm (m := Mem.mk (nb M1.next 0 + 14) G1.gB)).trans (if_pos rfl)).trans rfl
   clear TA;have WC : ∀ c, c < M1.next -> c ≠ nb M1.next 0 + 14 /\ c < D1.next := fun c hc => by rw [tK]; unfold nb; omega
   have hold : ∀ c, c < M1.next -> gz tv c -> D2.get c = M1.get c := fun c hc ho => by rw [WN c (WC c hc).1, X2 c (WC c hc).2 ho, EM c hc]
   have ho3 : jz D2 hv (So st.high) st.high.length 1 (b + 1) := h1.h.gF (by rw [PG]; exact bE) fun c hc _ ho => hold c hc (BP fun q => ho (h1.a c q))
   obtain ⟨a2, o2⟩ := gT (e := bn) ho3 (by rw [PG]; unfold nb; omega) (rl (cap := some 1) d2g rfl) rfl (by decide) (by unfold room; rw [h.hl]; omega)
   rw [a2] at hA;subst hA;have g2n : (grow D2 hv bn 1 (So st.high ++ [.int .i64 (lL st.high d.kids : Int)])).next = nb M1.next 24 := by rw [iL, PG, e6]
   have g2o : ∀ c, c < D2.next -> gz hv c -> (grow D2 hv bn 1 (So st.high ++ [.int .i64 (lL st.high d.kids : Int)])).get c = D2.get c := fun c hc ho => lN hc ho
   generalize grow D2 hv bn 1 _ = G2 at *
   have hbh : gz hv b := h1.h.lt (.inr (Nat.lt_succ_self _))
   have hg3 : G2.get b = .cells (aZ tg l st tv hv) 7 ai false := by rw [g2o b (by rw [PG]; unfold nb; omega) hbh, hold b AP hbt, hg1]
   have hw : IntKind.i64.wrap (((xs.length + 1 : Nat) : Int) - 1) = (st.tree.length : Int) := by rw [wrap_i64 (by omega) (by omega)]; omega
   have hall : ∀ c, c < M1.next -> c ≠ b -> gz tv c -> gz hv c -> ∀ B, (G2.set b B).get c = M1.get c := fun c hc iQ HG XY B => by
    rw [az iQ, g2o c (by rw [PG]; unfold nb; omega) XY, hold c hc HG]
   simp +contextual -implicitDefEqProofs (maxSteps := 1000000) (maxDischargeDepth := 8) only [f0, f5, f3, fd, hg3, g2n, PG, tK, e6, hw, aq, aa, implies_true, simprocAttr]
   generalize YW : Mem.set _ b (.cells [.fz tg 4 (mr l), .int .i64 (st.pos : Int), .int .i64 st.deep, .slice (nb M1.next 22) 0 (xs.length + 1) none, .slice (nb M1.next 23) 0 (st.high.length + 1) none, .int .i64 st.fe, .int .i64 st.fp] 7 ai false) = M3
   have Wk : M3.next = nb M1.next 24 := by rw [<- YW, cf, cf, g2n]
   have m3b : M3.get b = .cells [.fz tg 4 (mr l), .int .i64 (st.pos : Int), .int .i64 st.deep, .slice (nb M1.next 22) 0 (xs.length + 1) none, .slice (nb M1.next 23) 0 (st.high.length + 1) none, .int .i64 st.fe, .int .i64 st.fp] 7 ai false := by rw [<- YW, bK]
   have m3o : ∀ c, c ≠ b -> M3.get c = G2.get c := fun c hc => by rw [<- YW, az hc, az hc]
   clear YW;have UE : ∀ c, c < M1.next -> UQ b tv hv c -> M3.get c = M1.get c := fun c hc hf => by
    rw [m3o c hf.ne, <- hall c hc hf.ne hf.t hf.h .dead, az hf.ne]
   have uh : ∀ c, c < M1.next -> c ≠ b -> UQ b (.slice (nb M1.next 22) 0 (xs.length + 1) none) (.slice (nb M1.next 23) 0 (st.high.length + 1) none) c := fun c hc iQ => ⟨iQ, gz.of (by unfold nb; omega), gz.of (by unfold nb; omega)⟩
   have XC : ∀ (k n c : Nat), ¬ gz (.slice (nb M1.next k) 0 n none) c -> c = nb M1.next k := fun k n c q => BP fun w => q (gz.of w)
   have XJ : ∀ (d : Nd) (kv : EV), Bv M1 b tv hv d kv -> Bv M3 b (.slice (nb M1.next 22) 0 (xs.length + 1) none) (.slice (nb M1.next 23) 0 (st.high.length + 1) none) d kv := fun d kv q =>
    ⟨q.o.gF (by rw [Wk]; exact bE) fun c hc _ ho => UE c hc (q.f c ho), fun c ho => uh c (q.o.Qx ho).2 (q.f c ho).ne, q.nl, q.z⟩
   refine ⟨M3, rfl, ⟨.slice (nb M1.next 22) 0 (xs.length + 1) none, .slice (nb M1.next 23) 0 (st.high.length + 1) none, xs ++ [⟨d, kv⟩], ?_⟩, kp1.trans ⟨by rw [Wk]; exact bE, fun c hc => UE c (h1.p c hc).1 (h1.p c hc).2⟩⟩
   refine ⟨m3b, by rw [Wk]; unfold nb; omega, ?_, ?_, ?_, ?_, ?_, ?_, ?_, ?_⟩
   ·rw [Qv, ja]
    rw [tK, e6] at o1;refine o1.gF (by rw [X3, Wk]; unfold nb; omega) fun c hc nv ho => ?_
    rw [XC _ _ _ ho, m3o _ (by unfold nb; omega), g2o _ (by rw [PG]; unfold nb; omega) (h1.h.lt (.inl bE)), WN _ (by unfold nb; omega)]
   ·rw [ja]
    rw [PG, e6] at o2;have e1 : So (st.high ++ [lL st.high d.kids]) = So st.high ++ [.int .i64 (lL st.high d.kids : Int)] := by simp [So]
    rw [e1];exact o2.gF (by rw [g2n, Wk]; exact fh _) fun c hc nv ho => m3o c (by omega)
   ·intro c q
    rw [XC _ _ _ q];exact gz.of (by unfold nb; omega)
   ·rw [List.map_append, h.x]; rfl
   ·rw [ja, ja, h.hl]; rfl
   ·intro x hx
    rcases uy.1 hx with hx | hx
    ·exact XJ _ _ (h1.k x hx)
    ·rw [Ar.1 hx]; exact XJ _ _ Kt
   ·exact fun c hc => ⟨by have := (h1.p c hc).1; rw [Wk]; unfold nb; omega, uh c (h1.p c hc).1 (h1.p c hc).2.ne⟩
   ·intro c hc x hx
    rcases uy.1 hx with hx | hx
    ·exact h1.pk c hc x hx
    ·rw [Ar.1 hx]; exact hpk c hc
  ·have hp : st.put d = st := by rw [RS.put, OQ, if_neg im]
   have hr : st.gO d = -1 := by rw [RS.gO, OQ, if_neg im]
   rw [hp, hr];simp +contextual -implicitDefEqProofs (maxSteps := 1000000) (maxDischargeDepth := 8) only [f0, f5, f3, fd, xr, xu, hg1, AP, VN, hf, im, fA, aq, aa, implies_true, simprocAttr]
   exact ⟨_, rfl, ⟨_, _, _, h1.NY rfl rfl (qN.bump h1.g)⟩, kp1.trans (h1.kp (qN.bump h1.g))⟩
theorem SW {Q : Nat -> Prop} (h : Rd m b tg l st Q) (hH : ∀ x ∈ st.high, x <= 200) (Lx : st.tree.length < 1000000) {d : Nd} {kv : EV} (ho : jz m kv (is d.kids) d.kids.length 1 0) (hp : ∀ c, ¬ gz kv c -> Q c) (hq : ∀ c, P c -> Q c /\ gz kv c) (XD : d.nl = d.kids.isEmpty) (hz : d.kids = [] -> kv = .ae) (Gs : d.kids.length < 1000000000) : ∃ m', run U ay [.ptr b 0, .agg [.int .i64 d.kind, kv, .int .i64 d.n, .str d.s, .int .i64 d.pos]] m = some (.ret (.int .i64 (st.gO d)) m') /\ Rd m' b tg l (st.put d) P /\ Kp m m' P := by
 obtain ⟨tv, hv, xs, h⟩ := h
 exact Qj (h.more fun c hc => .inl (hq c hc).1) hH Lx ⟨ho, fun c hc => (h.p c (hp c hc)).2, XD, hz⟩ (fun c hc => (hq c hc).2) Gs
end
end
section
def gL.bg : gL -> Nat
 | .expr => 4 | .lR _ => 3 | .kV _ _ _ => 0 | .front => 2 | .atom => 1 | .mI _ => 1 | .inner _ _ => 0 | .args => 0 | .lU _ => 5
structure bS (l : List Tok) : Prop where
 pos : 0 < l.length
 lt : l.length < 1000000
 last : (l.getD (l.length - 1) ⟨0, [], 0, 0⟩).kind = 0
structure ez (l : List Tok) (st : RS) : Prop where
 p : st.pos < l.length
 t : st.tree.length <= st.pos
 d : st.deep <= (st.pos : Int)
 d0 : 0 <= st.deep
 h : ∀ x ∈ st.high, x <= 200
structure Gr (l : List Tok) (st s1 : RS) : Prop where
 p : st.pos <= s1.pos
 pl : s1.pos < l.length
 t : s1.tree.length + st.pos <= st.tree.length + s1.pos
 d : s1.deep + (st.pos : Int) <= st.deep + (s1.pos : Int)
 d0 : st.deep <= s1.deep
 f : s1.fe = 0 -> st.fe = 0
 h : (∀ x ∈ st.high, x <= 200) -> ∀ x ∈ s1.high, x <= 200
theorem Gr.refl {l : List Tok} {st : RS} (h : st.pos < l.length) : Gr l st st := ⟨fh _, h, fh _, Int.le_refl _, Int.le_refl _, id, id⟩
theorem Gr.trans {l : List Tok} {a b c : RS} (h : Gr l a b) (h' : Gr l b c) : Gr l a c :=
 ⟨pJ h.p h'.p, h'.pl, by have := h.t; have := h'.t; omega, by have := h.d; have := h'.d; omega, by have := h.d0; have := h'.d0; omega, fun q => h.f (h'.f q), fun q => h'.h (h.h q)⟩
theorem Gr.ok {l : List Tok} {a b : RS} (h : Gr l a b) (o : ez l a) : ez l b :=
 ⟨h.pl, by have := h.t; have := o.t; omega, by have := h.d; have := o.d; omega, by have := h.d0; have := o.d0; omega, h.h o.h⟩
section
variable {l : List Tok} {st s1 : RS}
theorem qc (ht : bS l) (hp : st.pos < l.length) (hk : (st.now l).kind ≠ 0) : st.pos + 1 < l.length := by
 refine BP fun q => hk ?_
 have : min st.pos (l.length - 1) = l.length - 1 := by omega
 unfold RS.now; rw [this]; exact ht.last
theorem is_lt (ht : bS l) (hp : st.pos < l.length) {s : bZ} (h : st.is l s) : st.pos + 1 < l.length := qc ht hp (by have := h.2.1; omega)
theorem Gr.next (h : st.pos + 1 < l.length) : Gr l st st.next := ⟨Nat.le_succ _, h, by simp only [RS.next]; omega, by simp only [RS.next]; omega, Int.le_refl _, id, id⟩
theorem Gr.fail (h : st.pos < l.length) {e p : Int} (he : e ≠ 0) : Gr l st (st.fail e p) := by
 unfold RS.fail; split
 ·exact ⟨fh _, h, fh _, Int.le_refl _, Int.le_refl _, fun q => absurd q he, id⟩
 ·exact .refl h
theorem eg {e p : Int} (he : e ≠ 0) : (st.fail e p).fe ≠ 0 := by
 unfold RS.fail; split
 ·exact he
 ·assumption
theorem cU {e p : Int} : (st.fail e p).pos = st.pos /\ (st.fail e p).deep = st.deep /\ (st.fail e p).tree = st.tree /\ (st.fail e p).high = st.high := by
 unfold RS.fail; split <;> exact ⟨rfl, rfl, rfl, rfl⟩
theorem Gr.open (h : st.pos + 1 < l.length) {p : Int} : Gr l st (st.next.open p) := by
 unfold RS.open
 split
 ·obtain ⟨a1, a2, a3, a4⟩ := cU (st := { st.next with deep := st.next.deep + 1 }) (e := 4) (p := p)
  exact ⟨by rw [a1]; exact Nat.le_succ _, by rw [a1]; exact h, by rw [a1, a3]; simp only [RS.next]; omega, by rw [a1, a2]; simp only [RS.next]; omega, by rw [a2]; simp only [RS.next]; omega, fun q => absurd q (eg (by decide)), fun q => by rw [a4]; exact q⟩
 ·exact ⟨Nat.le_succ _, h, by simp only [RS.next]; omega, by simp only [RS.next]; omega, by simp only [RS.next]; omega, id, id⟩
theorem lx {p : Int} : (st.open p).pos = st.pos /\ (st.open p).deep = st.deep + 1 /\ (st.open p).tree = st.tree := by
 unfold RS.open
 split
 ·obtain ⟨a1, a2, a3, a4⟩ := cU (st := { st with deep := st.deep + 1 }) (e := 4) (p := p)
  exact ⟨a1, a2, a3⟩
 ·exact ⟨rfl, rfl, rfl⟩
theorem Gr.put (h : Gr l st s1) (h1 : s1.tree.length + st.pos + 1 <= st.tree.length + s1.pos) {d : Nd} : Gr l st (s1.put d) := by
 unfold RS.put RS.nh;by_cases h2 : 200 < lL s1.high d.kids
 ·rw [if_pos h2, if_neg (eg (by decide))]
  exact h.trans (.fail h.pl (by decide))
 ·rw [if_neg h2]
  split
  ·refine ⟨h.p, h.pl, by simp only [ja, List.length_singleton]; omega, h.d, h.d0, h.f, fun q x hx => ?_⟩
   rcases uy.1 hx with hx | hx
   ·exact h.h q x hx
   ·rw [Ar.1 hx]; omega
  ·exact h
theorem Gr.close (h : Gr l st s1) (h1 : st.deep + 1 <= s1.deep) : Gr l st s1.close := ⟨h.p, h.pl, h.t, by have := h.d; simp only [RS.close]; omega, by simp only [RS.close]; omega, h.f, h.h⟩
theorem Gr.want (ht : bS l) (h : st.pos < l.length) {s : bZ} : Gr l st (st.want l s) := by
 unfold RS.want; split
 ·rename_i q; exact .next (is_lt ht h q)
 ·exact .fail h (by decide)
theorem rf {s : bZ} : (st.want l s).deep = st.deep /\ (st.want l s).tree = st.tree := by
 unfold RS.want; split
 ·exact ⟨rfl, rfl⟩
 ·exact ⟨cU.2.1, cU.2.2.1⟩
def gL.TZ : gL -> List Int -> Prop
 | .args, r => r.length <= 9
 | .lU _, r => r.length <= 9
 | _, r => r.length = 1
def gL.may : gL -> Prop
 | .lU out => out.length <= 8
 | _ => True
def gL.more (l : List Tok) (st s1 : RS) : gL -> Prop
 | .inner a _ => st.is l a -> st.pos < s1.pos /\ s1.tree.length + st.pos + 1 <= st.tree.length + s1.pos
 | _ => True
end
theorem go_ok {l : List Tok} (ht : bS l) : ∀ (k : Nat) (c : gL) (st : RS), st.pos < l.length -> 8 * (l.length - st.pos) + c.bg < k -> c.may -> ∃ s1 r, jk l k c st = some (s1, r) /\ Gr l st s1 /\ c.TZ r /\ c.more l st s1 := by
 intro k
 induction k with
 | zero => intro c st hp hk; omega
 | succ k ih =>
  intro c st hp hk hm
  cases c with
  | expr =>
   obtain ⟨s1, r, e, g, a, _⟩ := ih (.lR 1) st hp (by simp only [gL.bg] at *; omega) trivial
   refine ⟨_, _, by simp only [jk, e, Option.bind_some]; rfl, g, ?_, trivial⟩
   simp only [gL.TZ] at *
   split
   ·exact a
   ·rfl
  | lR least =>
   obtain ⟨s1, r, e, g, a, _⟩ := ih .front st hp (by simp only [gL.bg] at *; omega) trivial
   obtain ⟨s2, r2, e2, g2, a2, _⟩ := ih (.kV least 6 (r.headD 0)) s1 g.pl (by have := g.p; simp only [gL.bg] at *; omega) trivial
   exact ⟨_, _, by simp only [jk, e, e2, Option.bind_some], g.trans g2, a2, trivial⟩
  | kV least nO left =>
   simp only [jk];by_cases hc : st.fe = 0 /\ ¬ ((((st.now l).kind ≠ 4 \/ (mw (st.now l).text).2 = 0) \/ (mw (st.now l).text).1 < least) \/ nO < (mw (st.now l).text).1)
   ·rw [if_pos hc]
    have hn := qc ht hp (by have := hc.2; omega)
    have gn := Gr.next hn
    obtain ⟨s1, r, e, g, a, _⟩ := ih (.lR ((mw (st.now l).text).1 + 1)) st.next hn (by simp only [gL.bg, RS.next] at *; omega) trivial
    have g1 := gn.trans g
    have g2 := g1.put (by have := g.t; simp only [RS.next] at this; omega) (d := nd 5 [left, r.headD 0] (mw (st.now l).text).2 [] (st.now l).pos)
    obtain ⟨s2, r2, e2, g3, a2, _⟩ := ih (.kV least (if (mw (st.now l).text).1 = 3 then (mw (st.now l).text).1 - 1 else (mw (st.now l).text).1) (s1.gO (nd 5 [left, r.headD 0] (mw (st.now l).text).2 [] (st.now l).pos))) (s1.put (nd 5 [left, r.headD 0] (mw (st.now l).text).2 [] (st.now l).pos)) g2.pl (by have := g2.p; have := g.p; have hq : (s1.put (nd 5 [left, r.headD 0] (mw (st.now l).text).2 [] (st.now l).pos)).pos = s1.pos := (by unfold RS.put RS.nh; split <;> split <;> first | rfl | exact cU.1); simp only [gL.bg, RS.next] at *; omega) trivial
    exact ⟨_, _, by simp only [e, e2, Option.bind_some], g2.trans g3, a2, trivial⟩
   ·rw [if_neg hc]
    exact ⟨_, _, rfl, .refl hp, rfl, trivial⟩
  | front =>
   simp only [jk];have one : ∀ (s : bZ) (kind : Int), st.is l s -> ∃ s1 r, (if (st.next.open (st.now l).pos).fe = 0 then (jk l k .front (st.next.open (st.now l).pos)).bind fun (s1, r) => some (s1.close.put (nd kind r 0 [] (st.now l).pos), [s1.close.gO (nd kind r 0 [] (st.now l).pos)]) else some (st.next.open (st.now l).pos, [-1])) = some (s1, r) /\ Gr l st s1 /\ gL.front.TZ r /\ gL.front.more l st s1 := by
    intro s kind hs
    have hn := is_lt ht hp hs
    have go := Gr.open hn (p := ((st.now l).pos : Int))
    obtain ⟨o1, o2, o3⟩ := lx (st := st.next) (p := ((st.now l).pos : Int))
    split
    ·obtain ⟨s1, r, e, g, a, _⟩ := ih .front (st.next.open (st.now l).pos) go.pl (by rw [o1]; simp only [gL.bg, RS.next] at *; omega) trivial
     have g1 := (go.trans g).close (by have := g.d0; rw [o2] at this; simp only [RS.next] at this; exact this)
     refine ⟨_, _, by simp only [e, Option.bind_some]; rfl, g1.put ?_, by rfl, trivial⟩
     have := g.t; rw [o1, o3] at this; simp only [RS.next, RS.close] at *; omega
    ·exact ⟨_, _, rfl, go, rfl, trivial⟩
   by_cases h1 : st.is l [45]
   ·rw [if_pos h1]; exact one _ _ h1
   ·rw [if_neg h1]
    by_cases h2 : st.is l [33]
    ·rw [if_pos h2]; exact one _ _ h2
    ·rw [if_neg h2]
     obtain ⟨s1, r, e, g, a, _⟩ := ih .atom st hp (by simp only [gL.bg] at *; omega) trivial
     obtain ⟨s2, r2, e2, g2, a2, _⟩ := ih (.mI (r.headD 0)) s1 g.pl (by have := g.p; simp only [gL.bg] at *; omega) trivial
     exact ⟨_, _, by simp only [e, e2, Option.bind_some], g.trans g2, a2, trivial⟩
  | atom =>
   simp only [jk];have lay : ∀ d : Nd, st.pos + 1 < l.length -> Gr l st (st.next.put d) := fun d hn => (Gr.next hn).put (by simp only [RS.next]; omega)
   by_cases h0 : st.fe = 0
   ·rw [if_neg (not_not_intro h0)]
    by_cases h1 : st.is l [40]
    ·rw [if_pos h1]
     obtain ⟨s1, r, e, g, a, _⟩ := ih (.inner [40] [41]) st hp (by simp only [gL.bg] at *; omega) trivial
     exact ⟨_, _, e, g, a, trivial⟩
    ·rw [if_neg h1]
     by_cases h2 : (st.now l).kind = 2
     ·rw [if_pos h2]; exact ⟨_, _, rfl, lay _ (qc ht hp (by omega)), rfl, trivial⟩
     ·rw [if_neg h2]
      by_cases h3 : (st.now l).kind = 1
      ·rw [if_pos h3]
       have hn := qc ht hp (by omega)
       by_cases h4 : st.next.is l [40]
       ·rw [if_pos h4]
        obtain ⟨s1, r, e, g, a, _⟩ := ih .args st.next hn (by simp only [gL.bg, RS.next] at *; omega) trivial
        refine ⟨_, _, by simp only [e, Option.bind_some]; rfl, ((Gr.next hn).trans g).put ?_, by rfl, trivial⟩
        have := g.t; simp only [RS.next] at this; omega
       ·rw [if_neg h4]; exact ⟨_, _, rfl, lay _ hn, rfl, trivial⟩
      ·rw [if_neg h3]
       by_cases h5 : st.is l [116, 114, 117, 101]
       ·rw [if_pos h5]; exact ⟨_, _, rfl, lay _ (is_lt ht hp h5), rfl, trivial⟩
       ·rw [if_neg h5]
        by_cases h6 : st.is l [102, 97, 108, 115, 101]
        ·rw [if_pos h6]; exact ⟨_, _, rfl, lay _ (is_lt ht hp h6), rfl, trivial⟩
        ·rw [if_neg h6]
         by_cases h7 : st.is l [110, 105, 108]
         ·rw [if_pos h7]; exact ⟨_, _, rfl, lay _ (is_lt ht hp h7), rfl, trivial⟩
         ·rw [if_neg h7]
          have Xe : ∀ (s : bZ) (f : List Int -> Nd), st.is l s -> ∃ s1 r, ((jk l k (.inner [40] [41]) st.next).bind fun (s1, r) => some (s1.put (f r), [s1.gO (f r)])) = some (s1, r) /\ Gr l st s1 /\ gL.atom.TZ r /\ gL.atom.more l st s1 := by
           intro s f hs
           have hn := is_lt ht hp hs
           obtain ⟨s1, r, e, g, a, _⟩ := ih (.inner [40] [41]) st.next hn (by simp only [gL.bg, RS.next] at *; omega) trivial
           refine ⟨_, _, by simp only [e, Option.bind_some]; rfl, ((Gr.next hn).trans g).put ?_, by rfl, trivial⟩
           have := g.t; simp only [RS.next] at this; omega
          by_cases h8 : st.is l [108, 101, 110]
          ·rw [if_pos h8]; exact Xe _ (fun r => nd 9 r 0 [] (st.now l).pos) h8
          ·rw [if_neg h8]
           by_cases h9 : st.is l [110, 101, 119]
           ·rw [if_pos h9]; exact Xe _ (fun r => nd 10 r 0 [] (st.now l).pos) h9
           ·rw [if_neg h9]
            exact ⟨_, _, rfl, .fail hp (by decide), rfl, trivial⟩
   ·rw [if_pos h0]
    exact ⟨_, _, rfl, .refl hp, rfl, trivial⟩
  | mI left =>
   simp only [jk];by_cases h1 : st.is l [91]
   ·rw [if_pos h1]
    obtain ⟨s1, r, e, g, a, mo⟩ := ih (.inner [91] [93]) st hp (by simp only [gL.bg] at *; omega) trivial
    obtain ⟨m1, m2⟩ := mo h1
    have g1 := g.put (by omega) (d := nd 8 (left :: r) 0 [] (st.now l).pos)
    obtain ⟨s2, r2, e2, g2, a2, _⟩ := ih (.mI (s1.gO (nd 8 (left :: r) 0 [] (st.now l).pos))) (s1.put (nd 8 (left :: r) 0 [] (st.now l).pos)) g1.pl (by have hq : (s1.put (nd 8 (left :: r) 0 [] (st.now l).pos)).pos = s1.pos := (by unfold RS.put RS.nh; split <;> split <;> first | rfl | exact cU.1); simp only [gL.bg] at *; omega) trivial
    exact ⟨_, _, by simp only [e, e2, Option.bind_some], g1.trans g2, a2, trivial⟩
   ·rw [if_neg h1]
    exact ⟨_, _, rfl, .refl hp, rfl, trivial⟩
  | inner a z =>
   simp only [jk];by_cases h1 : st.is l a
   ·rw [if_pos h1]
    have hn := is_lt ht hp h1
    have go := Gr.open hn (p := ((st.now l).pos : Int))
    obtain ⟨o1, o2, o3⟩ := lx (st := st.next) (p := ((st.now l).pos : Int))
    split
    ·obtain ⟨s1, r, e, g, ar, _⟩ := ih .expr (st.next.open (st.now l).pos) go.pl (by rw [o1]; simp only [gL.bg, RS.next] at *; omega) trivial
     have gw := Gr.want ht g.pl (s := z)
     obtain ⟨w1, w2⟩ := rf (st := s1) (l := l) (s := z)
     have g1 := ((go.trans g).trans gw).close (by have := g.d0; rw [o2] at this; rw [w1]; simp only [RS.next] at this; exact this)
     refine ⟨_, _, by simp only [e, Option.bind_some]; rfl, g1, ?_, fun _ => ?_⟩
     ·simp only [gL.TZ] at *
      split
      ·exact ar
      ·rfl
     ·have h3 := g.t; have h4 := g.p; have h5 := gw.p
      rw [o1, o3] at h3; rw [o1] at h4; simp only [RS.next, RS.close] at *
      rw [w2]; omega
    ·refine ⟨_, _, rfl, go, rfl, fun _ => ?_⟩
     rw [o1, o3]; simp only [RS.next]; omega
   ·rw [if_neg h1]
    exact ⟨_, _, rfl, .fail hp (by decide), rfl, fun q => absurd q h1⟩
  | args =>
   simp only [jk];by_cases h1 : st.is l [40]
   ·rw [if_pos h1]
    have hn := is_lt ht hp h1
    have go := Gr.open hn (p := ((st.now l).pos : Int))
    obtain ⟨o1, o2, o3⟩ := lx (st := st.next) (p := ((st.now l).pos : Int))
    have fin : ∀ (s1 : RS), Gr l (st.next.open (st.now l).pos) s1 -> Gr l st (s1.want l [41]).close := by
     intro s1 g
     have gw := Gr.want ht g.pl (s := [41])
     obtain ⟨w1, w2⟩ := rf (st := s1) (l := l) (s := [41])
     exact ((go.trans g).trans gw).close (by have := g.d0; rw [o2] at this; rw [w1]; simp only [RS.next] at this; exact this)
    split
    ·by_cases h2 : (st.next.open (st.now l).pos).is l [41]
     ·rw [if_pos h2]
      exact ⟨_, _, rfl, fin _ (.refl go.pl), lu _, trivial⟩
     ·rw [if_neg h2]
      obtain ⟨s1, r, e, g, a, _⟩ := ih (.lU []) (st.next.open (st.now l).pos) go.pl (by rw [o1]; simp only [gL.bg, RS.next] at *; omega) (lu _)
      exact ⟨_, _, by simp only [e, Option.bind_some], fin _ g, a, trivial⟩
    ·exact ⟨_, _, rfl, go, lu _, trivial⟩
   ·rw [if_neg h1]
    exact ⟨_, _, rfl, .fail hp (by decide), lu _, trivial⟩
  | lU out =>
   simp only [jk];have hm : out.length <= 8 := hm
   have g0 : Gr l st (if out.length = 8 then st.fail 3 (st.now l).pos else st) := by
    split
    ·exact .fail hp (by decide)
    ·exact .refl hp
   have p0 : (if out.length = 8 then st.fail 3 (st.now l).pos else st).pos = st.pos := by
    split
    ·exact cU.1
    ·rfl
   have f0 : (if out.length = 8 then st.fail 3 (st.now l).pos else st).fe = 0 -> out.length < 8 := by
    split
    ·exact fun q => absurd q (eg (by decide))
    ·intro _; omega
   generalize (if out.length = 8 then st.fail 3 (st.now l).pos else st) = s0 at *
   obtain ⟨s1, r, e, g, a, _⟩ := ih .expr s0 g0.pl (by rw [p0]; simp only [gL.bg] at *; omega) trivial
   have a : r.length = 1 := a
   simp only [e, Option.bind_some];by_cases h1 : s1.is l [44]
   ·rw [if_pos h1]
    have hn := is_lt ht g.pl h1
    obtain ⟨s2, r2, e2, g2, a2, _⟩ := ih (.lU (out ++ r)) s1.next hn (by have := g.p; simp only [gL.bg, RS.next] at *; omega) (by
     show (out ++ r).length <= 8
     rw [ja, a];have := f0 (g.f h1.1)
     omega)
    exact ⟨_, _, e2, (g0.trans g).trans ((Gr.next hn).trans g2), a2, trivial⟩
   ·rw [if_neg h1]
    exact ⟨_, _, rfl, g0.trans g, by show (out ++ r).length <= 9; rw [ja, a]; omega, trivial⟩
def opsL : List (Int × Int) := [(1, 1), (2, 2), (3, 3), (3, 4), (3, 5), (3, 6), (3, 7), (3, 8), (4, 9), (4, 10), (4, 11), (4, 12), (5, 13), (5, 14), (5, 15), (5, 16), (0, 0)]
theorem Qp (s : bZ) : mw s ∈ opsL := by
 unfold mw;by_cases h : s = [124, 124]
 ·rw [if_pos h]; decide
 rw [if_neg h];clear h;by_cases h : s = [38, 38]
 ·rw [if_pos h]; decide
 rw [if_neg h];clear h;by_cases h : s = [61, 61]
 ·rw [if_pos h]; decide
 rw [if_neg h];clear h;by_cases h : s = [33, 61]
 ·rw [if_pos h]; decide
 rw [if_neg h];clear h;by_cases h : s = [60]
 ·rw [if_pos h]; decide
 rw [if_neg h];clear h;by_cases h : s = [60, 61]
 ·rw [if_pos h]; decide
 rw [if_neg h];clear h;by_cases h : s = [62]
 ·rw [if_pos h]; decide
 rw [if_neg h];clear h;by_cases h : s = [62, 61]
 ·rw [if_pos h]; decide
 rw [if_neg h];clear h;by_cases h : s = [43]
 ·rw [if_pos h]; decide
 rw [if_neg h];clear h;by_cases h : s = [45]
 ·rw [if_pos h]; decide
 rw [if_neg h];clear h;by_cases h : s = [43, 37]
 ·rw [if_pos h]; decide
 rw [if_neg h];clear h;by_cases h : s = [45, 37]
 ·rw [if_pos h]; decide
 rw [if_neg h];clear h;by_cases h : s = [42]
 ·rw [if_pos h]; decide
 rw [if_neg h];clear h;by_cases h : s = [47]
 ·rw [if_pos h]; decide
 rw [if_neg h];clear h;by_cases h : s = [37]
 ·rw [if_pos h]; decide
 rw [if_neg h];clear h;by_cases h : s = [42, 37]
 ·rw [if_pos h]; decide
 rw [if_neg h];clear h
 decide
theorem Mv (s : bZ) : 0 <= (mw s).1 /\ (mw s).1 <= 5 /\ 0 <= (mw s).2 /\ (mw s).2 <= 16 := by
 have key : ∀ p ∈ opsL, 0 <= p.1 /\ p.1 <= 5 /\ 0 <= p.2 /\ p.2 <= 16 := by decide
 exact key _ (Qp s)
end
section
def Pr (P : Nat -> Prop) (n n' : Nat) : Nat -> Prop := fun c => P c \/ (n <= c /\ c < n')
theorem jz.Vd {m : Mem} {v : EV} {cs : List EV} {n esz lo : Nat} (h : jz m v cs n esz lo) : jz m v cs n esz 0 := by
 refine ⟨?_, h.len⟩
 rcases h.is with h | ⟨b, cap, t, rfl, h1, h2, h3, h4⟩
 ·exact .inl h
 ·exact .inr ⟨b, cap, t, rfl, lu _, h2, h3, h4⟩
section
variable {m M : Mem} {b tg : Nat} {l : List Tok} {st : RS} {P Q : Nat -> Prop}
theorem Rd.lt (h : Rd m b tg l st P) : b < m.next := by obtain ⟨tv, hv, xs, h⟩ := h; exact h.lt
theorem Rd.bO (h : Rd m b tg l st P) (hq : ∀ c, Q c -> P c) : Rd m b tg l st Q := by
 obtain ⟨tv, hv, xs, h⟩ := h; exact ⟨tv, hv, xs, h.more fun c hc => .inl (hq c hc)⟩
theorem Rd.grown (h : Rd m b tg l st P) (hn : m.next <= M.next) (hk : ∀ c, c < m.next -> M.get c = m.get c) : Rd M b tg l st (Pr P m.next M.next) := by
 obtain ⟨tv, hv, xs, h⟩ := h
 have u : qN m M b (.cells (aZ tg l st tv hv) 7 ai false) := ⟨hn, by rw [hk b h.lt]; exact h.g, fun c hc _ => hk c hc⟩
 exact ⟨tv, hv, xs, (h.NY rfl rfl u).more fun c hc => hc.elim .inl fun q => .inr ⟨q.2, h.fresh q.1, h.RG q.1⟩⟩
theorem Rd.same (h : Rd m b tg l st P) (hn : m.next <= M.next) (hk : ∀ c, c < m.next -> M.get c = m.get c) : Rd M b tg l st P := (h.grown hn hk).bO fun c hc => .inl hc
theorem da {ys : List fQ} (h : Rd m b tg l st P) : Rd (ext m ys) b tg l st P := h.same (by rw [aM]; exact bE) fun c hc => aL hc
theorem ak {k : Nat} (h : Rd m b tg l st P) : Rd (bump m k) b tg l st P := h.same (by rw [bz]; exact bE) fun c hc => rfl
theorem Rd.kp (h : Rd m b tg l st P) (hn : m.next <= M.next) (hk : ∀ c, c < m.next -> M.get c = m.get c) : Kp m M P := by
 obtain ⟨tv, hv, xs, h⟩ := h; exact ⟨hn, fun c hc => hk c (h.p c hc).1⟩
theorem Rd.box (h : Rd m b tg l st P) (n : Nat) (ys : List fQ) : Rd (ext (bump m n) ys) b tg l st (Pr P m.next (nb m.next (n + ys.length))) := by
 have := h.grown (M := ext (bump m n) ys) (by rw [aM, bz, e6]; exact bE) fun c hc => aL (m := bump m n) (by rw [bz]; exact mn hc bE)
 rw [aM, bz, e6] at this;exact this
theorem Vg (h : Rd m b tg l st P) (n : Nat) (ys : List fQ) : Kp m (ext (bump m n) ys) P := h.kp (by rw [aM, bz, e6]; exact bE) fun c hc => aL (m := bump m n) (by rw [bz]; exact mn hc bE)
theorem Rd.H3 (h : Rd m b tg l st P) (ys : List fQ) : Rd (ext m ys) b tg l st (Pr P m.next (nb m.next ys.length)) := by
 have := h.grown (M := ext m ys) (by rw [aM]; exact bE) fun c hc => aL hc
 rw [aM] at this;exact this
theorem lI (h : Rd m b tg l st P) (ys : List fQ) : Kp m (ext m ys) P := h.kp (by rw [aM]; exact bE) fun c hc => aL hc
theorem Cl {m : Mem} {cs : List EV} {n e : Nat} (h : cs.length = n) : jz (ext m [.cells cs 1 e false]) (.slice (nb m.next 0) 0 n (some n)) cs n 1 0 :=
 ⟨.inr ⟨nb m.next 0, some n, e, rfl, lu _, by rw [aM]; unfold nb; simp, by rw [aK rfl (by simp)]; rfl, .inr rfl⟩, by omega⟩
theorem cj {bb o n c : Nat} {cap : Option Nat} (h : ¬ gz (.slice bb o n cap) c) : c = bb := BP fun w => h (gz.of w)
theorem Rd.mb (h : Rd m b tg l st P) {c : Nat} (hc : P c) : c < m.next := by obtain ⟨tv, hv, xs, h⟩ := h; exact (h.p c hc).1
theorem nU {n i j : Nat} (h : i < j) : Pr P n (nb n j) (nb n i) := .inr ⟨bE, by unfold nb; omega⟩
theorem aQ {k : Nat} (h : Rd m b tg l st P) : Kp m (bump m k) P := h.kp (by rw [bz]; exact bE) fun _ _ => rfl
theorem Lm {ys : List fQ} (h : Rd m b tg l st P) : Kp m (ext m ys) P := h.kp (by rw [aM]; exact bE) fun c hc => aL hc
theorem ez.U1 (o : ez l st) (ht : bS l) {tv hv : EV} : Kv b tg l st tv hv := ⟨ht.pos, by have := ht.lt; omega, by have := ht.lt; have := o.p; omega, by have := ht.lt; have := o.p; have := o.d; have := o.d0; omega⟩
section
variable (ht : bS l) (o : ez l st)
include ht o
theorem jE : ∀ M : Mem, Rd M b tg l st P -> run U kj [.ptr b 0] M = some (.ret (.agg [.int .i64 ((st.now l).kind : Int), .str (st.now l).text, .int .i64 ((st.now l).n : Int), .int .i64 ((st.now l).pos : Int)]) (bump M 19)) := fun M h => by
 obtain ⟨tv, hv, xs, h⟩ := h; exact (o.U1 ht (tv := tv) (hv := hv)).token M h.g h.lt
theorem Vj : ∀ (M : Mem) (s : bZ), Rd M b tg l st P -> run U mD [.ptr b 0, .str s] M = some (.ret (bo (st.is l s)) (bump M 20)) := fun M s h => by
 obtain ⟨tv, hv, xs, h⟩ := h; exact (o.U1 ht (tv := tv) (hv := hv)).is M s h.g h.lt
end
theorem JH : ∀ M : Mem, Rd M b tg l st P -> run U jg [.ptr b 0] M = some (.ret (bo (st.fe = 0)) (bump M 0)) := fun M h => by
 obtain ⟨tv, hv, xs, h⟩ := h; exact lf h.g h.lt
variable {X : Option Fin}
theorem JL (h : Rd m b tg l st P) {e p : Int} (hX : run U dR [.ptr b 0, .int .i64 e, .int .i64 p] m = X) : ∃ m', X = some (.ret (.tuple []) m') /\ Rd m' b tg l (st.fail e p) P /\ Kp m m' P := by
 obtain ⟨tv, hv, xs, h⟩ := h
 obtain ⟨m', e', u⟩ := u7 h.g h.lt e p
 exact ⟨m', hX.symm.trans e', ⟨_, _, _, h.NY cU.2.2.1 cU.2.2.2 u⟩, h.kp u⟩
theorem oU (ht : bS l) (o : ez l st) (h : Rd m b tg l st P) {s : bZ} (hX : run U aT [.ptr b 0, .str s] m = X) : ∃ m', X = some (.ret (bo (st.is l s)) m') /\ Rd m' b tg l (st.skip l s) P /\ Kp m m' P := by
 obtain ⟨tv, hv, xs, h⟩ := h
 obtain ⟨m', e', u⟩ := IF (o.U1 ht) h.g h.lt s
 exact ⟨m', hX.symm.trans e', ⟨_, _, _, h.NY (by unfold RS.skip; split <;> rfl) (by unfold RS.skip; split <;> rfl) u⟩, h.kp u⟩
theorem nT (ht : bS l) (o : ez l st) (h : Rd m b tg l st P) {s : bZ} (hX : run U aO [.ptr b 0, .str s] m = X) : ∃ m', X = some (.ret (bo (st.is l s)) m') /\ Rd m' b tg l (st.want l s) P /\ Kp m m' P := by
 obtain ⟨tv, hv, xs, h⟩ := h
 obtain ⟨m', e', u⟩ := PJ (o.U1 ht) h.g h.lt s
 have q : (st.want l s).tree = st.tree /\ (st.want l s).high = st.high := by
  unfold RS.want; split
  ·exact ⟨rfl, rfl⟩
  ·exact cU.2.2
 exact ⟨m', hX.symm.trans e', ⟨_, _, _, h.NY q.1 q.2 u⟩, h.kp u⟩
theorem IT (ht : bS l) (o : ez l st) (h : Rd m b tg l st P) {p : Int} (hX : run U eE [.ptr b 0, .int .i64 p] m = X) : ∃ m', X = some (.ret (bo ((st.open p).fe = 0)) m') /\ Rd m' b tg l (st.open p) P /\ Kp m m' P := by
 obtain ⟨tv, hv, xs, h⟩ := h
 obtain ⟨m', e', u⟩ := Qq (o.U1 ht) h.g h.lt p
 have q : (st.open p).tree = st.tree /\ (st.open p).high = st.high := by
  unfold RS.open; split
  ·exact (cU (st := { st with deep := st.deep + 1 })).2.2
  ·exact ⟨rfl, rfl⟩
 exact ⟨m', hX.symm.trans e', ⟨_, _, _, h.NY q.1 q.2 u⟩, h.kp u⟩
theorem A2 (ht : bS l) (o : ez l st) (h : Rd m b tg l st P) (hX : run U dw [.ptr b 0] m = X) : ∃ m', X = some (.ret (.tuple []) m') /\ Rd m' b tg l st.close P /\ Kp m m' P := by
 obtain ⟨tv, hv, xs, h⟩ := h
 obtain ⟨m', e', u⟩ := Ph (o.U1 ht) h.g h.lt
 exact ⟨m', hX.symm.trans e', ⟨_, _, _, h.NY rfl rfl u⟩, h.kp u⟩
theorem pG (ht : bS l) (o : ez l st) (h : Rd m b tg l st Q) {kind n p : Int} {s : bZ} {kids : List Int} {kv : EV} (Gs : kids.length < 1000000) (ho : jz m kv (is kids) kids.length 1 0) (hp : ∀ c, ¬ gz kv c -> Q c) (hq : ∀ c, P c -> Q c /\ gz kv c) (hz : kids = [] -> kv = .ae) (hX : run U ay [.ptr b 0, .agg [.int .i64 kind, kv, .int .i64 n, .str s, .int .i64 p]] m = X) : ∃ m', X = some (.ret (.int .i64 (st.gO (nd kind kids n s p))) m') /\ Rd m' b tg l (st.put (nd kind kids n s p)) P /\ Kp m m' P := by
 obtain ⟨m', e', r, k⟩ := SW (d := nd kind kids n s p) h o.h (by have := o.t; have := o.p; have := ht.lt; omega) ho hp hq rfl hz (by show kids.length < _; omega)
 exact ⟨m', hX.symm.trans e', r, k⟩
end
def Cc : List bZ := [[124, 124], [38, 38], [61, 61], [33, 61], [60], [60, 61], [62], [62, 61], [43], [45], [43, 37], [45, 37], [42], [47], [37], [42, 37]]
theorem U5 (s : bZ) : bA B K Lf [.str s] = some (.agg [.int .i64 (mw s).1, .int .i64 (mw s).2]) := by
 have Ex : s ∈ Cc \/ s ∉ Cc := Classical.em _
 rcases Ex with h | h
 ·simp only [Cc, oQ, List.not_mem_nil, or_false] at h
  rcases h with rfl | rfl | rfl | rfl | rfl | rfl | rfl | rfl | rfl | rfl | rfl | rfl | rfl | rfl | rfl | rfl
  all_goals exact Bf 20 fun _ => by kernel_rfl
 ·simp only [Cc, oQ, List.not_mem_nil, or_false, not_or] at h
  obtain ⟨h0, h1, h2, h3, h4, h5, h6, h7, h8, h9, zm, CG, FH, TC, h14, h15⟩ := h
  rw [dQ (by simp [jU])]
  have ho : mw s = (0, 0) := by simp only [mw, if_neg h0, if_neg h1, if_neg h2, if_neg h3, if_neg h4, if_neg h5, if_neg h6, if_neg h7, if_neg h8, if_neg h9, if_neg zm, if_neg CG, if_neg FH, if_neg TC, if_neg h14, if_neg h15]
  rw [ho];simp -implicitDefEqProofs (maxSteps := 1000000) only [jU, h0, h1, h2, h3, h4, h5, h6, h7, h8, h9, zm, CG, FH, TC, h14, h15, fA, aq, aa, reduceIte, reduceCtorEq, Nat.reduceEqDiff, Nat.reduceBEq, Nat.reduceAdd, Int.reduceLT, Int.reduceLE, Int.reduceEq, Int.reduceToNat, Int.reduceNeg, Nat.reduceLeDiff, Int.reducePow, implies_true, UInt8.reduceToNat, Int.reduceSub, Int.reduceAdd, Nat.reduceLT, Nat.reduceMul, Nat.reduceSub, Nat.reduceBNe]
end
section
def q9 (l : List Tok) (tg f : Nat) (av : List EV) (k : Nat) (c : gL) : Prop := ∀ (st : RS) (m : Mem) (b : Nat) (P : Nat -> Prop) (s1 : RS) (r : List Int) (X : Option Fin), ez l st -> 8 * (l.length - st.pos) + c.bg < k -> jk l k c st = some (s1, r) -> Rd m b tg l st P -> run U f (.ptr b 0 :: av) m = X -> ∃ m', X = some (.ret (.int .i64 (r.headD 0)) m') /\ Rd m' b tg l s1 P /\ Kp m m' P
theorem jI {r : List Int} (h : r.length = 1) : ∃ x, r = [x] := by
 match r, h with
 | [x], _ => exact ⟨x, rfl⟩
section
variable {l : List Tok} {tg : Nat} (ht : bS l) {k : Nat}
include ht
theorem O4 (ih : q9 l tg eX [.int .i64 1] k (.lR 1)) : q9 l tg aU [] (k + 1) .expr := by
 intro st m b P s1 r X o hk bM h hX
 have nH : 8 * (l.length - st.pos) + (gL.lR 1).bg < k := by simp only [gL.bg] at *; omega
 obtain ⟨s2, r2, e, g, a, _⟩ := go_ok ht k (.lR 1) st o.p nH trivial
 obtain ⟨x, rfl⟩ := jI a
 simp only [jk, e, Option.bind_some, bc, eM] at bM;obtain ⟨rfl, rfl⟩ := bM
 rw [bX (by simp [dZ])] at hX
 simp +contextual -implicitDefEqProofs (maxSteps := 1000000) (maxDischargeDepth := 8) only [dZ, aq, aa, implies_true, simprocAttr] at hX
 generalize hC : run U eX _ m = C at hX
 obtain ⟨m1, rfl, h1, k1⟩ := ih st m b P _ _ _ o nH e h hC
 have hf := JH (b := b) (tg := tg) (l := l) (st := s2) (P := P)
 by_cases im : s2.fe = 0
 ·simp +contextual -implicitDefEqProofs (maxSteps := 1000000) (maxDischargeDepth := 8) only [hf, h1, im, da, ak, aq, aa, implies_true, simprocAttr] at hX
  subst hX;simp only [im, if_true];exact ⟨_, rfl, ak h1, k1.trans (aQ h1)⟩
 ·simp +contextual -implicitDefEqProofs (maxSteps := 1000000) (maxDischargeDepth := 8) only [hf, h1, im, fA, da, ak, aq, aa, implies_true, simprocAttr] at hX
  subst hX;simp only [im, if_false];exact ⟨_, rfl, ak h1, k1.trans (aQ h1)⟩
theorem Lu {a z : bZ} (ih : q9 l tg aU [] k .expr) : q9 l tg cu [.str a, .str z] (k + 1) (.inner a z) := by
 intro st m b P s1 r X o hk bM h hX
 rw [bX (by simp [dE])] at hX
 have hT := jE (b := b) (tg := tg) (P := P) ht o
 simp +contextual -implicitDefEqProofs (maxSteps := 1000000) (maxDischargeDepth := 8) only [dE, hT, h, da, ak, aq, aa, implies_true, simprocAttr] at hX
 generalize hC : run U aO _ _ = C at hX
 obtain ⟨m1, rfl, h1, k1⟩ := nT ht o (ak h) hC
 clear hC;have k1 : Kp m m1 P := (aQ h).trans k1
 by_cases ha : st.is l a
 ·have hn := is_lt ht o.p ha
  have hw : st.want l a = st.next := by unfold RS.want; rw [if_pos ha]
  rw [hw] at h1;have on : ez l st.next := (Gr.next hn).ok o
  rw [eB ha] at hX;simp +contextual -implicitDefEqProofs (maxSteps := 1000000) (maxDischargeDepth := 8) only [aq, aa, implies_true, simprocAttr] at hX
  generalize hC : run U eE _ _ = C at hX
  obtain ⟨m2, rfl, h2, k2⟩ := IT ht on h1 hC
  clear hC;have go := Gr.open hn (p := ((st.now l).pos : Int))
  have oo := go.ok o
  obtain ⟨o1, o2, o3⟩ := lx (st := st.next) (p := ((st.now l).pos : Int))
  simp only [jk, if_pos ha] at bM;by_cases hf : (st.next.open (st.now l).pos).fe = 0
  ·rw [if_pos hf] at bM
   rw [eB hf] at hX;have nH : 8 * (l.length - (st.next.open (st.now l).pos).pos) + gL.expr.bg < k := by rw [o1]; simp only [gL.bg, RS.next] at *; omega
   obtain ⟨s2, r2, e, g, ar, _⟩ := go_ok ht k .expr _ go.pl nH trivial
   obtain ⟨x, rfl⟩ := jI ar
   simp only [e, Option.bind_some, bc, eM] at bM;obtain ⟨rfl, rfl⟩ := bM
   simp +contextual -implicitDefEqProofs (maxSteps := 1000000) (maxDischargeDepth := 8) only [aq, aa, implies_true, simprocAttr] at hX
   generalize hC : run U aU _ _ = C at hX
   obtain ⟨m3, rfl, h3, k3⟩ := ih _ _ _ _ _ _ _ oo nH e h2 hC
   clear hC;have W8 := g.ok oo
   simp +contextual -implicitDefEqProofs (maxSteps := 1000000) (maxDischargeDepth := 8) only [aq, aa, implies_true, simprocAttr] at hX
   generalize hC : run U aO _ _ = C at hX
   obtain ⟨m4, rfl, h4, k4⟩ := nT ht W8 h3 hC
   clear hC;have o4 := (Gr.want ht W8.p (s := z)).ok W8
   simp +contextual -implicitDefEqProofs (maxSteps := 1000000) (maxDischargeDepth := 8) only [aq, aa, implies_true, simprocAttr] at hX
   generalize hC : run U dw _ _ = C at hX
   obtain ⟨m5, rfl, h5, k5⟩ := A2 ht o4 h4 hC
   clear hC;have hfi := JH (b := b) (tg := tg) (l := l) (st := (s2.want l z).close) (P := P)
   have oN : (s2.want l z).close.fe = (s2.want l z).fe := rfl
   have kk := (((k1.trans k2).trans k3).trans k4).trans k5
   have k6 := aQ (k := 0) h5
   by_cases im : (s2.want l z).fe = 0
   ·simp +contextual -implicitDefEqProofs (maxSteps := 1000000) (maxDischargeDepth := 8) only [hfi, h5, oN, im, fY, da, ak, aq, aa, implies_true, simprocAttr] at hX
    subst hX;simp only [im, if_true];exact ⟨_, rfl, ak h5, kk.trans k6⟩
   ·simp +contextual -implicitDefEqProofs (maxSteps := 1000000) (maxDischargeDepth := 8) only [hfi, h5, oN, im, fA, da, ak, aq, aa, implies_true, simprocAttr] at hX
    subst hX;simp only [im, if_false];exact ⟨_, rfl, ak h5, kk.trans k6⟩
  ·rw [if_neg hf] at bM
   rw [eR hf] at hX;simp only [bc, eM] at bM;obtain ⟨rfl, rfl⟩ := bM
   simp +contextual -implicitDefEqProofs (maxSteps := 1000000) (maxDischargeDepth := 8) only [aq, aa, implies_true, simprocAttr] at hX
   subst hX;exact ⟨_, rfl, h2, k1.trans k2⟩
 ·have hw : st.want l a = st.fail 8 (st.now l).pos := by unfold RS.want; rw [if_neg ha]
  rw [hw] at h1;simp only [jk, if_neg ha, bc, eM] at bM;obtain ⟨rfl, rfl⟩ := bM
  rw [eR ha] at hX;simp +contextual -implicitDefEqProofs (maxSteps := 1000000) (maxDischargeDepth := 8) only [aq, aa, implies_true, simprocAttr] at hX
  subst hX;exact ⟨_, rfl, h1, k1⟩
end
end
section
section
variable {l : List Tok} {tg : Nat} (ht : bS l) {k : Nat}
include ht
theorem LG (Jp : q9 l tg eo [] k .front) (Lv : q9 l tg jh [] k .atom) (ih3 : ∀ left, q9 l tg ki [.int .i64 left] k (.mI left)) : q9 l tg eo [] (k + 1) .front := by
 intro st m b P s1 r X o hk bM h hX
 rw [bX (by simp [dB])] at hX
 have hT := jE (b := b) (tg := tg) (P := P) ht o
 have bt := h.lt
 simp +contextual -implicitDefEqProofs (maxSteps := 1000000) (maxDischargeDepth := 8) only [dB, hT, h, da, ak, aq, aa, implies_true, simprocAttr] at hX
 have h0 := h.box 19 [.cells [.int .i64 ((st.now l).kind : Int), .str (st.now l).text, .int .i64 ((st.now l).n : Int), .int .i64 ((st.now l).pos : Int)] 4 aB false]
 have k0 := Vg h 19 [.cells [.int .i64 ((st.now l).kind : Int), .str (st.now l).text, .int .i64 ((st.now l).n : Int), .int .i64 ((st.now l).pos : Int)] 4 aB false]
 have p0 : Pr P m.next (nb m.next (19 + 1)) (nb m.next 19) := nU (by decide)
 have b0 : (ext (bump m 19) [.cells [.int .i64 ((st.now l).kind : Int), .str (st.now l).text, .int .i64 ((st.now l).n : Int), .int .i64 ((st.now l).pos : Int)] 4 aB false]).get (nb m.next 19) = .cells [.int .i64 ((st.now l).kind : Int), .str (st.now l).text, .int .i64 ((st.now l).n : Int), .int .i64 ((st.now l).pos : Int)] 4 aB false := by
  rw [<- Nat.add_zero 19, <- e6];exact (aK (m := bump m 19) (i := 0) rfl (by simp)).trans rfl
 generalize hC : run U aT _ _ = C at hX
 obtain ⟨m1, rfl, h1, k1⟩ := oU ht o h0 hC
 clear hC;have b1 := (k1.k _ p0).trans b0
 have n1 : (ext (bump m 19) [fQ.dead]).next <= m1.next := by have := k1.n; rw [aM] at this ⊢; exact this
 by_cases ha : st.is l [45]
 ·skip
  have hn := is_lt ht o.p ha
  have hw : st.skip l [45] = st.next := by unfold RS.skip; rw [if_pos ha]
  rw [hw] at h1;have on : ez l st.next := (Gr.next hn).ok o
  rw [eB ha] at hX;simp +contextual -implicitDefEqProofs (maxSteps := 1000000) (maxDischargeDepth := 8) only [b1, aq, aa, implies_true, simprocAttr] at hX
  generalize hC : run U eE _ _ = C at hX
  obtain ⟨m2, rfl, h2, k2⟩ := IT ht on h1 hC
  clear hC;have b2 := (k2.k _ p0).trans b1
  have go := Gr.open hn (p := ((st.now l).pos : Int))
  have oo := go.ok o
  obtain ⟨o1, o2, o3⟩ := lx (st := st.next) (p := ((st.now l).pos : Int))
  simp only [jk, if_pos ha] at bM;by_cases hf : (st.next.open (st.now l).pos).fe = 0
  ·rw [if_pos hf] at bM
   rw [eB hf] at hX;have nH : 8 * (l.length - (st.next.open (st.now l).pos).pos) + gL.front.bg < k := by rw [o1]; simp only [gL.bg, RS.next] at *; omega
   obtain ⟨s2, r2, e, g, ar, _⟩ := go_ok ht k .front _ go.pl nH trivial
   obtain ⟨x, rfl⟩ := jI ar
   simp only [e, Option.bind_some, bc, eM] at bM;obtain ⟨rfl, rfl⟩ := bM
   simp +contextual -implicitDefEqProofs (maxSteps := 1000000) (maxDischargeDepth := 8) only [aq, aa, implies_true, simprocAttr] at hX
   generalize hC : run U eo _ _ = C at hX
   obtain ⟨m3, rfl, h3, k3⟩ := Jp _ _ _ _ _ _ _ oo nH e h2 hC
   clear hC;have b3 := (k3.k _ p0).trans b2
   have U7 := g.ok oo
   simp +contextual -implicitDefEqProofs (maxSteps := 1000000) (maxDischargeDepth := 8) only [aq, aa, implies_true, simprocAttr] at hX
   generalize hC : run U dw _ _ = C at hX
   obtain ⟨m4, rfl, h4, k4⟩ := A2 ht U7 h3 hC
   clear hC;have b4 := (k4.k _ p0).trans b3
   have o4 : ez l s2.close := ((go.trans g).close (by have := g.d0; rw [o2] at this; simp only [RS.next] at this; exact this)).ok o
   have l4 : nb m.next 19 < m4.next := mn (show nb m.next 19 < (ext (bump m 19) [fQ.dead]).next by rw [aM, bz, e6]; unfold nb; simp) (pJ n1 (pJ k2.n (pJ k3.n k4.n)))
   simp +contextual -implicitDefEqProofs (maxSteps := 1000000) (maxDischargeDepth := 8) only [b4, l4, aq, aa, implies_true, simprocAttr] at hX
   generalize hC : run U ay _ _ = C at hX
   obtain ⟨m5, rfl, h5, k5⟩ := pG ht o4 (h4.H3 _) (kids := [x]) (by simp) (Cl (by rfl)) (fun c hc => by rw [cj hc]; exact nU (by simp)) (fun c hc => ⟨.inl hc, gz.of (by have := h4.mb hc; unfold nb; omega)⟩) (by simp) hC
   clear hC;simp +contextual -implicitDefEqProofs (maxSteps := 1000000) (maxDischargeDepth := 8) only [aq, aa, implies_true, simprocAttr] at hX
   subst hX;refine ⟨_, rfl, (h5.bO fun c hc => .inl hc), ?_⟩
   exact (k0.trans (((((k1.trans k2).trans k3).trans k4).trans (lI h4 _)).bO fun c hc => .inl hc)).trans (k5.bO fun c hc => .inl hc)
  ·rw [if_neg hf] at bM
   rw [eR hf] at hX;simp only [bc, eM] at bM;obtain ⟨rfl, rfl⟩ := bM
   simp +contextual -implicitDefEqProofs (maxSteps := 1000000) (maxDischargeDepth := 8) only [aq, aa, implies_true, simprocAttr] at hX
   subst hX;exact ⟨_, rfl, h2.bO fun c hc => .inl hc, k0.trans ((k1.trans k2).bO fun c hc => .inl hc)⟩
 ·have hw : st.skip l [45] = st := by unfold RS.skip; rw [if_neg ha]
  rw [hw] at h1;rw [eR ha] at hX;simp +contextual -implicitDefEqProofs (maxSteps := 1000000) (maxDischargeDepth := 8) only [aq, aa, implies_true, simprocAttr] at hX
  have Q0 := k1
  have Tt := ha
  clear ha;generalize hC : run U aT _ _ = C at hX
  obtain ⟨fR, rfl, h1, k1⟩ := oU ht o h1 hC
  clear hC;have b1 := (k1.k _ p0).trans b1
  have k1 := Q0.trans k1
  have n1 : (ext (bump m 19) [fQ.dead]).next <= fR.next := by have := k1.n; rw [aM] at this ⊢; exact this
  by_cases ha : st.is l [33]
  ·skip
   have hn := is_lt ht o.p ha
   have hw : st.skip l [33] = st.next := by unfold RS.skip; rw [if_pos ha]
   rw [hw] at h1;have on : ez l st.next := (Gr.next hn).ok o
   rw [eB ha] at hX;simp +contextual -implicitDefEqProofs (maxSteps := 1000000) (maxDischargeDepth := 8) only [b1, aq, aa, implies_true, simprocAttr] at hX
   generalize hC : run U eE _ _ = C at hX
   obtain ⟨m2, rfl, h2, k2⟩ := IT ht on h1 hC
   clear hC;have b2 := (k2.k _ p0).trans b1
   have go := Gr.open hn (p := ((st.now l).pos : Int))
   have oo := go.ok o
   obtain ⟨o1, o2, o3⟩ := lx (st := st.next) (p := ((st.now l).pos : Int))
   simp only [jk, if_neg Tt, if_pos ha] at bM;by_cases hf : (st.next.open (st.now l).pos).fe = 0
   ·rw [if_pos hf] at bM
    rw [eB hf] at hX;have nH : 8 * (l.length - (st.next.open (st.now l).pos).pos) + gL.front.bg < k := by rw [o1]; simp only [gL.bg, RS.next] at *; omega
    obtain ⟨s2, r2, e, g, ar, _⟩ := go_ok ht k .front _ go.pl nH trivial
    obtain ⟨x, rfl⟩ := jI ar
    simp only [e, Option.bind_some, bc, eM] at bM;obtain ⟨rfl, rfl⟩ := bM
    simp +contextual -implicitDefEqProofs (maxSteps := 1000000) (maxDischargeDepth := 8) only [aq, aa, implies_true, simprocAttr] at hX
    generalize hC : run U eo _ _ = C at hX
    obtain ⟨m3, rfl, h3, k3⟩ := Jp _ _ _ _ _ _ _ oo nH e h2 hC
    clear hC;have b3 := (k3.k _ p0).trans b2
    have U7 := g.ok oo
    simp +contextual -implicitDefEqProofs (maxSteps := 1000000) (maxDischargeDepth := 8) only [aq, aa, implies_true, simprocAttr] at hX
    generalize hC : run U dw _ _ = C at hX
    obtain ⟨m4, rfl, h4, k4⟩ := A2 ht U7 h3 hC
    clear hC;have b4 := (k4.k _ p0).trans b3
    have o4 : ez l s2.close := ((go.trans g).close (by have := g.d0; rw [o2] at this; simp only [RS.next] at this; exact this)).ok o
    have l4 : nb m.next 19 < m4.next := mn (show nb m.next 19 < (ext (bump m 19) [fQ.dead]).next by rw [aM, bz, e6]; unfold nb; simp) (pJ n1 (pJ k2.n (pJ k3.n k4.n)))
    simp +contextual -implicitDefEqProofs (maxSteps := 1000000) (maxDischargeDepth := 8) only [b4, l4, aq, aa, implies_true, simprocAttr] at hX
    generalize hC : run U ay _ _ = C at hX
    obtain ⟨m5, rfl, h5, k5⟩ := pG ht o4 (h4.H3 _) (kids := [x]) (by simp) (Cl (by rfl)) (fun c hc => by rw [cj hc]; exact nU (by simp)) (fun c hc => ⟨.inl hc, gz.of (by have := h4.mb hc; unfold nb; omega)⟩) (by simp) hC
    clear hC;simp +contextual -implicitDefEqProofs (maxSteps := 1000000) (maxDischargeDepth := 8) only [aq, aa, implies_true, simprocAttr] at hX
    subst hX;refine ⟨_, rfl, (h5.bO fun c hc => .inl hc), ?_⟩
    exact (k0.trans (((((k1.trans k2).trans k3).trans k4).trans (lI h4 _)).bO fun c hc => .inl hc)).trans (k5.bO fun c hc => .inl hc)
   ·rw [if_neg hf] at bM
    rw [eR hf] at hX;simp only [bc, eM] at bM;obtain ⟨rfl, rfl⟩ := bM
    simp +contextual -implicitDefEqProofs (maxSteps := 1000000) (maxDischargeDepth := 8) only [aq, aa, implies_true, simprocAttr] at hX
    subst hX;exact ⟨_, rfl, h2.bO fun c hc => .inl hc, k0.trans ((k1.trans k2).bO fun c hc => .inl hc)⟩
  ·have hw : st.skip l [33] = st := by unfold RS.skip; rw [if_neg ha]
   rw [hw] at h1;rw [eR ha] at hX;simp +contextual -implicitDefEqProofs (maxSteps := 1000000) (maxDischargeDepth := 8) only [aq, aa, implies_true, simprocAttr] at hX
   simp only [jk, if_neg Tt, if_neg ha] at bM;have nH : 8 * (l.length - st.pos) + gL.atom.bg < k := by simp only [gL.bg] at *; omega
   obtain ⟨s2, r2, e, g, ar, _⟩ := go_ok ht k .atom _ o.p nH trivial
   obtain ⟨x, rfl⟩ := jI ar
   simp only [e, Option.bind_some, List.headD_cons] at bM;generalize hC : run U jh _ _ = C at hX
   obtain ⟨m2, rfl, h2, k2⟩ := Lv _ _ _ _ _ _ _ o nH e h1 hC
   clear hC;simp +contextual -implicitDefEqProofs (maxSteps := 1000000) (maxDischargeDepth := 8) only [List.headD_cons, aq, aa, implies_true, simprocAttr] at hX
   generalize hC : run U ki _ _ = C at hX
   obtain ⟨m3, rfl, h3, k3⟩ := ih3 x _ _ _ _ _ _ _ (g.ok o) (by have := g.p; simp only [gL.bg] at *; omega) bM h2 hC
   clear hC;simp +contextual -implicitDefEqProofs (maxSteps := 1000000) (maxDischargeDepth := 8) only [aq, aa, implies_true, simprocAttr] at hX
   subst hX;exact ⟨_, rfl, h3.bO fun c hc => .inl hc, k0.trans (((k1.trans k2).trans k3).bO fun c hc => .inl hc)⟩
end
end
section
def Pv (P : Nat -> Prop) (v : EV) : Nat -> Prop := fun c => P c \/ ¬ gz v c
theorem Rd.grow {m : Mem} {b tg : Nat} {l : List Tok} {st : RS} {P : Nat -> Prop} {v : EV} {e n : Nat} {cs : List EV} (h : Rd m b tg l st (Pv P v)) (hP : ∀ c, P c -> gz v c) : Rd (grow m v e 1 cs) b tg l st (Pv P (.slice (nb m.next 0) 0 n none)) := by
 obtain ⟨tv, hv, xs, h⟩ := h
 have hn : m.next <= (Ev.grow m v e 1 cs).next := by rw [iL]; exact bE
 have hold : ∀ c, c < m.next -> gz v c -> (Ev.grow m v e 1 cs).get c = m.get c := fun c hc ho => lN hc ho
 have hv : ∀ c, (¬ gz v c) -> UQ b tv hv c /\ ∀ x ∈ xs, gz x.kv c := fun c hc => ⟨(h.p c (.inr hc)).2, h.pk c (.inr hc)⟩
 have Wx : ∀ c, (UQ b tv _ c -> (∀ x ∈ xs, gz x.kv c) -> False) -> gz v c := fun c q => BP fun w => q (hv c w).1 (hv c w).2
 refine ⟨tv, _, xs, ?_, mn h.lt hn, ?_, ?_, h.a, h.x, h.hl, ?_, ?_, ?_⟩
 ·rw [hold b h.lt (Wx b fun f _ => f.ne rfl)]; exact h.g
 ·exact h.t.gF hn fun c hc _ ho => hold c hc (Wx c fun f _ => ho f.t)
 ·exact h.h.gF hn fun c hc _ ho => hold c hc (Wx c fun f _ => ho f.h)
 ·exact fun x hx => ⟨(h.k x hx).o.gF hn fun c hc _ ho => hold c hc (Wx c fun _ f => ho (f x hx)), (h.k x hx).f, (h.k x hx).nl, (h.k x hx).z⟩
 ·rintro c (hc | hc)
  ·exact ⟨mn (h.p c (.inl hc)).1 hn, (h.p c (.inl hc)).2⟩
  ·rw [cj hc]
   exact ⟨by rw [iL]; unfold nb; simp, h.fresh (fh _)⟩
 ·rintro c (hc | hc)
  ·exact h.pk c (.inl hc)
  ·rw [cj hc]
   exact h.RG (fh _)
def Ib (l : List Tok) (tg k : Nat) : Prop := ∀ (left : Int) (st : RS) (fr : Fr) (m : Mem) (b : Nat) (P : Nat -> Prop) (s1 : RS) (r : List Int) (X : Option Out), ez l st -> 8 * (l.length - st.pos) + (gL.mI left).bg < k -> jk l k (.mI left) st = some (s1, r) -> Rd m b tg l st P -> fr.get 0 = .ptr b 0 -> fr.get 1 = .int .i64 left -> fr.defers = [] -> exec U (.loop dh) fr m = X -> ∃ fr' m', X = some (.exit 0 fr' m') /\ fr'.get 1 = .int .i64 (r.headD 0) /\ fr'.defers = [] /\ Rd m' b tg l s1 P /\ Kp m m' P
section
variable {l : List Tok} {tg : Nat} (ht : bS l) {k : Nat}
include ht
theorem LS (Jp : q9 l tg cu [.str [91], .str [93]] k (.inner [91] [93])) (Lv : Ib l tg k) : Ib l tg (k + 1) := by
 intro left st fr m b P s1 r X o hk bM h h0 h1 hd hX
 rw [eP] at hX;generalize hL : exec U (.loop dh) = L at hX
 have hI := Vj (b := b) (tg := tg) (P := P) ht o
 by_cases ha : st.is l [91]
 ·have hT := jE (b := b) (tg := tg) (P := P) ht o
  simp +contextual -implicitDefEqProofs (maxSteps := 1000000) (maxDischargeDepth := 8) only [dh, h0, h1, hd, hI, hT, h, ha, fY, da, ak, aq, aa, implies_true, simprocAttr] at hX
  simp only [jk, if_pos ha] at bM;have nH : 8 * (l.length - st.pos) + (gL.inner [91] [93]).bg < k := by simp only [gL.bg] at *; omega
  obtain ⟨s2, r2, e, g, ar, mo⟩ := go_ok ht k (.inner [91] [93]) st o.p nH trivial
  obtain ⟨fR, Sp⟩ := mo ha
  obtain ⟨x, rfl⟩ := jI ar
  simp only [e, Option.bind_some] at bM;generalize hC : run U cu _ _ = C at hX
  obtain ⟨m1, rfl, r1, k1⟩ := Jp _ _ _ _ _ _ _ o nH e (ak (ak h)) hC
  clear hC;have k1 := ((aQ h).trans (aQ (ak h))).trans k1
  have o2 := g.ok o
  have EA : eA 2 [EV.int .i64 0] = [EV.int .i64 0, EV.int .i64 0] := rfl
  simp +contextual -implicitDefEqProofs (maxSteps := 1000000) (maxDischargeDepth := 8) only [h0, h1, EA, cm, fG, List.headD_cons, aq, aa, implies_true, simprocAttr] at hX
  generalize hC : run U ay _ _ = C at hX
  obtain ⟨m5, rfl, h5, k5⟩ := pG (P := P) (kids := [left, x]) ht o2 (r1.H3 _) (by simp) (Cl (by rfl)) (fun c hc => by rw [cj hc]; exact nU (by simp)) (fun c hc => ⟨.inl hc, gz.of (by have := r1.mb hc; unfold nb; omega)⟩) (by simp) hC
  clear hC;simp +contextual -implicitDefEqProofs (maxSteps := 1000000) (maxDischargeDepth := 8) only [aq, aa, implies_true, simprocAttr] at hX
  subst hL;have k5 := (k1.trans (lI r1 _)).trans k5
  have g1 := g.put (by omega) (d := nd 8 [left, x] 0 [] (st.now l).pos)
  obtain ⟨fr', m', rfl, f1, fd, h6, k6⟩ := Lv _ _ _ _ _ _ _ _ _ (g1.ok o) (by
   have hq : (s2.put (nd 8 [left, x] 0 [] (st.now l).pos)).pos = s2.pos := (by unfold RS.put RS.nh; split <;> split <;> first | rfl | exact cU.1)
   have := o.p; have := g.pl
   simp only [gL.bg] at *; omega) bM h5 (by simp only [h0, ap, Nat.reduceBEq ]) (by simp only [ap, Nat.reduceBEq ]) (by simp only [hd, ap, Nat.reduceBEq ]) hX
  exact ⟨fr', m', rfl, f1, fd, h6, k5.trans k6⟩
 ·simp +contextual -implicitDefEqProofs (maxSteps := 1000000) (maxDischargeDepth := 8) only [dh, h0, h1, hd, hI, h, ha, fA, da, ak, aq, aa, implies_true, simprocAttr] at hX
  simp only [jk, if_neg ha, bc, eM] at bM;obtain ⟨rfl, rfl⟩ := bM
  subst hX;exact ⟨_, _, rfl, by simp only [h1, List.headD_cons, ap, Nat.reduceBEq ], by simp only [hd, ap, Nat.reduceBEq ], ak h, aQ h⟩
omit ht in
theorem LR (h : Ib l tg k) (left : Int) : q9 l tg ki [.int .i64 left] k (.mI left) := by
 intro st m b P s1 r X o hk bM hr hX
 rw [bX (by simp [dD])] at hX
 generalize hL : exec (UT B K) (aH.loop dh) = L
 simp +contextual -implicitDefEqProofs (maxSteps := 1000000) (maxDischargeDepth := 8) only [dD, aq, aa, implies_true, simprocAttr] at hX
 subst hL;generalize hC : exec _ (.loop dh) _ _ = C at hX
 obtain ⟨fr', m', rfl, f1, fd, h6, k6⟩ := h _ _ _ _ _ _ _ _ _ o hk bM hr (by simp only [ap, Nat.reduceBEq ]) (by simp only [ap, Nat.reduceBEq ]) (by simp only [ap, Nat.reduceBEq ]) hC
 simp +contextual -implicitDefEqProofs (maxSteps := 1000000) (maxDischargeDepth := 8) only [f1, fd, aq, aa, implies_true, simprocAttr] at hX
 subst hX;exact ⟨_, rfl, h6, k6⟩
end
end
section
def Ic (l : List Tok) (tg k : Nat) : Prop := ∀ (out : List Int) (v : EV) (st : RS) (fr : Fr) (m : Mem) (b n0 : Nat) (P : Nat -> Prop) (s1 : RS) (r : List Int) (X : Option Out), ez l st -> 8 * (l.length - st.pos) + (gL.lU out).bg < k -> out.length <= 8 -> st.fe = 0 -> jk l k (.lU out) st = some (s1, r) -> Rd m b tg l st (Pv P v) -> (∀ c, P c -> c < n0) -> n0 <= m.next -> jz m v (is out) out.length 1 n0 -> fr.get 0 = .ptr b 0 -> fr.get 4 = v -> fr.get 5 = .bool true -> fr.defers = [] -> exec U (.loop aF) fr m = X -> ∃ fr' m' v', X = some (.exit 0 fr' m') /\ fr'.get 0 = .ptr b 0 /\ fr'.get 4 = v' /\ fr'.defers = [] /\ jz m' v' (is r) r.length 1 n0 /\ Rd m' b tg l s1 (Pv P v') /\ Kp m m' P /\ r ≠ []
theorem jz.kp {m m' : Mem} {v : EV} {cs : List EV} {n esz lo : Nat} {P : Nat -> Prop} (h : jz m v cs n esz lo) (k : Kp m m' P) (hp : ∀ c, ¬ gz v c -> P c) : jz m' v cs n esz lo := h.gF k.n fun c _ _ ho => k.k c (hp c ho)
theorem CB {r : List Int} {x : Int} : is (r ++ [x]) = is r ++ [.int .i64 x] := by simp [is]
section
variable {l : List Tok} {tg : Nat} (ht : bS l) {k : Nat}
include ht
theorem Pt (Jp : q9 l tg aU [] k .expr) (Lv : Ic l tg k) : Ic l tg (k + 1) := by
 intro out v st fr m b n0 P s1 r X o hk ho8 im bM h hP uu dJ h0 h4 h5 hd hX
 rw [eP] at hX;generalize hL : exec U (.loop aF) = L at hX
 have hF := JH (b := b) (tg := tg) (l := l) (st := st) (P := Pv P v)
 have hlen : ∀ M, BE v M = some (.val (.int .i64 (out.length : Int)) M) := fun M => by
  rcases dJ.is with ⟨rfl, q, _⟩ | ⟨kb, cap, t, rfl, _⟩
  ·rw [q]; rfl
  ·rfl
 have h8 : ((out.length : Int) = 8) = (out.length = 8) := propext (by omega)
 by_cases YY : out.length = 8
 ·have hT := jE (b := b) (tg := tg) (P := Pv P v) ht o
  simp +contextual -implicitDefEqProofs (maxSteps := 1000000) (maxDischargeDepth := 8) only [aF, h0, h4, h5, hd, hF, hT, h, im, hlen, h8, YY, fY, da, ak, aq, aa, implies_true, simprocAttr] at hX
  generalize hC : run U dR _ _ = C at hX
  obtain ⟨m9, rfl, RD, k9⟩ := JL (ak (ak h)) hC
  clear hC;have KP := ((aQ h).trans (aQ (ak h))).trans k9
  have oo : ez l (st.fail 3 (st.now l).pos) := (Gr.fail o.p (by decide)).ok o
  have p0 : (st.fail 3 (st.now l).pos).pos = st.pos := cU.1
  have f0 : (st.fail 3 (st.now l).pos).fe = 0 -> out.length < 8 := fun q => absurd q (eg (by decide))
  simp only [jk, if_pos YY] at bM;generalize st.fail 3 (st.now l).pos = S0 at *
  simp +contextual -implicitDefEqProofs (maxSteps := 1000000) (maxDischargeDepth := 8) only [h0, h4, aq, aa, implies_true, simprocAttr] at hX
  obtain ⟨s2, r2, e, g, ar, _⟩ := go_ok ht k .expr S0 oo.p (by rw [p0]; simp only [gL.bg] at *; omega) trivial
  obtain ⟨x, rfl⟩ := jI ar
  simp only [e, Option.bind_some] at bM;generalize hC : run U aU _ _ = C at hX
  obtain ⟨m1, rfl, h1, k1⟩ := Jp _ _ _ _ _ _ _ oo (by rw [p0]; simp only [gL.bg] at *; omega) e RD hC
  clear hC;have k1 := KP.trans k1
  have o2 := g.ok oo
  have Et := dJ.kp k1 fun c hc => .inr hc
  obtain ⟨ha, kA⟩ := gT (e := bn) (Et.ext [.cells [.int .i64 x] 1 bn false]) (by rw [aM]; have := k1.n; unfold nb; omega) (xA rfl) rfl (by decide) (by unfold room; omega)
  have Rc := Rd.grow (e := bn) (n := out.length + 1) (cs := is out ++ [.int .i64 x]) (da (ys := [.cells [.int .i64 x] 1 bn false]) h1) fun c hc => dJ.lt (.inr (hP c hc))
  have Fk : Kp (ext m1 [.cells [.int .i64 x] 1 bn false]) (grow (ext m1 [.cells [.int .i64 x] 1 bn false]) v 3 1 (is out ++ [.int .i64 x])) P := ⟨by rw [iL]; exact bE, fun c hc => lN ((da (ys := [.cells [.int .i64 x] 1 bn false]) h1).mb (.inl hc)) (dJ.lt (.inr (hP c hc)))⟩
  have k2 := ((k1.trans (Lm h1)).bO fun c hc => .inl hc).trans Fk
  generalize hG : grow _ v bn 1 _ = M2 at ha kA Rc Fk k2
  clear hG Fk;rw [aM, e6] at ha kA Rc;simp +contextual -implicitDefEqProofs (maxSteps := 1000000) (maxDischargeDepth := 8) only [h0, ha, List.headD_cons, aq, aa, implies_true, simprocAttr] at hX
  generalize hC : run U aT _ _ = C at hX
  obtain ⟨m3, rfl, h3, k3⟩ := oU ht o2 Rc hC
  clear hC;have mf : jz m3 (.slice (nb m1.next ([fQ.cells [EV.int .i64 x] 1 bn false].length + 0)) 0 (out.length + 1) none) (is (out ++ [x])) (out ++ [x]).length 1 n0 := by rw [CB, ja]; exact kA.kp k3 fun c hc => .inr hc
  have k3 := k2.trans (k3.bO fun c hc => .inl hc)
  by_cases hc : s2.is l [44]
  ·rw [if_pos hc] at bM
   have hn := is_lt ht o2.p hc
   have hw : s2.skip l [44] = s2.next := by unfold RS.skip; rw [if_pos hc]
   rw [hw] at h3;rw [eB hc] at hX;simp +contextual -implicitDefEqProofs (maxSteps := 1000000) (maxDischargeDepth := 8) only [aq, aa, implies_true, simprocAttr] at hX
   subst hL;have Vw := f0 (g.f hc.1)
   obtain ⟨fr', m', v', rfl, q0, q4, qd, qo, qr, qk, qz⟩ := Lv (out ++ [x]) _ _ _ _ _ n0 P _ _ _ ((Gr.next hn).ok o2) (by have := g.p; simp only [gL.bg, RS.next] at *; omega) (by rw [ja]; exact Vw) hc.1 bM h3 hP (pJ uu k3.n) mf (by simp only [h0, ap, Nat.reduceBEq ]) (by simp only [ap, Nat.reduceBEq ]; rfl) (by simp only [ap, Nat.reduceBEq ]) (by simp only [hd, ap, Nat.reduceBEq ]) hX
   exact ⟨fr', m', v', rfl, q0, q4, qd, qo, qr, k3.trans qk, qz⟩
  ·rw [if_neg hc] at bM
   simp only [bc, eM] at bM;obtain ⟨rfl, rfl⟩ := bM
   have hw : s2.skip l [44] = s2 := by unfold RS.skip; rw [if_neg hc]
   rw [hw] at h3;rw [eR hc] at hX;simp +contextual -implicitDefEqProofs (maxSteps := 1000000) (maxDischargeDepth := 8) only [aq, aa, implies_true, simprocAttr] at hX
   subst hL;rw [eP] at hX;generalize exec U (.loop aF) = L at hX
   simp +contextual -implicitDefEqProofs (maxSteps := 1000000) (maxDischargeDepth := 8) only [aF, h0, hd, aq, aa, implies_true, simprocAttr] at hX
   subst hX;exact ⟨_, _, _, rfl, by simp only [h0, ap, Nat.reduceBEq ], by simp only [ap, Nat.reduceBEq ]; rfl, by simp only [hd, ap, Nat.reduceBEq ], mf, h3, k3, by simp⟩
 ·simp +contextual -implicitDefEqProofs (maxSteps := 1000000) (maxDischargeDepth := 8) only [aF, h0, h4, h5, hd, hF, h, im, hlen, h8, YY, fY, fA, da, ak, aq, aa, implies_true, simprocAttr] at hX
  have RD := ak (k := 0) h
  have KP := aQ (k := 0) h
  have oo := o
  have p0 : st.pos = st.pos := rfl
  have f0 : st.fe = 0 -> out.length < 8 := fun _ => by omega
  simp only [jk, if_neg YY] at bM;obtain ⟨s2, r2, e, g, ar, _⟩ := go_ok ht k .expr st oo.p (by rw [p0]; simp only [gL.bg] at *; omega) trivial
  obtain ⟨x, rfl⟩ := jI ar
  simp only [e, Option.bind_some] at bM;generalize hC : run U aU _ _ = C at hX
  obtain ⟨m1, rfl, h1, k1⟩ := Jp _ _ _ _ _ _ _ oo (by rw [p0]; simp only [gL.bg] at *; omega) e RD hC
  clear hC;have k1 := KP.trans k1
  have o2 := g.ok oo
  have Et := dJ.kp k1 fun c hc => .inr hc
  obtain ⟨ha, kA⟩ := gT (e := bn) (Et.ext [.cells [.int .i64 x] 1 bn false]) (by rw [aM]; have := k1.n; unfold nb; omega) (xA rfl) rfl (by decide) (by unfold room; omega)
  have Rc := Rd.grow (e := bn) (n := out.length + 1) (cs := is out ++ [.int .i64 x]) (da (ys := [.cells [.int .i64 x] 1 bn false]) h1) fun c hc => dJ.lt (.inr (hP c hc))
  have Fk : Kp (ext m1 [.cells [.int .i64 x] 1 bn false]) (grow (ext m1 [.cells [.int .i64 x] 1 bn false]) v 3 1 (is out ++ [.int .i64 x])) P := ⟨by rw [iL]; exact bE, fun c hc => lN ((da (ys := [.cells [.int .i64 x] 1 bn false]) h1).mb (.inl hc)) (dJ.lt (.inr (hP c hc)))⟩
  have k2 := ((k1.trans (Lm h1)).bO fun c hc => .inl hc).trans Fk
  generalize hG : grow _ v bn 1 _ = M2 at ha kA Rc Fk k2
  clear hG Fk;rw [aM, e6] at ha kA Rc;simp +contextual -implicitDefEqProofs (maxSteps := 1000000) (maxDischargeDepth := 8) only [h0, ha, List.headD_cons, aq, aa, implies_true, simprocAttr] at hX
  generalize hC : run U aT _ _ = C at hX
  obtain ⟨m3, rfl, h3, k3⟩ := oU ht o2 Rc hC
  clear hC;have mf : jz m3 (.slice (nb m1.next ([fQ.cells [EV.int .i64 x] 1 bn false].length + 0)) 0 (out.length + 1) none) (is (out ++ [x])) (out ++ [x]).length 1 n0 := by rw [CB, ja]; exact kA.kp k3 fun c hc => .inr hc
  have k3 := k2.trans (k3.bO fun c hc => .inl hc)
  by_cases hc : s2.is l [44]
  ·rw [if_pos hc] at bM
   have hn := is_lt ht o2.p hc
   have hw : s2.skip l [44] = s2.next := by unfold RS.skip; rw [if_pos hc]
   rw [hw] at h3;rw [eB hc] at hX;simp +contextual -implicitDefEqProofs (maxSteps := 1000000) (maxDischargeDepth := 8) only [aq, aa, implies_true, simprocAttr] at hX
   subst hL;have Vw := f0 (g.f hc.1)
   obtain ⟨fr', m', v', rfl, q0, q4, qd, qo, qr, qk, qz⟩ := Lv (out ++ [x]) _ _ _ _ _ n0 P _ _ _ ((Gr.next hn).ok o2) (by have := g.p; simp only [gL.bg, RS.next] at *; omega) (by rw [ja]; exact Vw) hc.1 bM h3 hP (pJ uu k3.n) mf (by simp only [h0, ap, Nat.reduceBEq ]) (by simp only [ap, Nat.reduceBEq ]; rfl) (by simp only [ap, Nat.reduceBEq ]) (by simp only [hd, ap, Nat.reduceBEq ]) hX
   exact ⟨fr', m', v', rfl, q0, q4, qd, qo, qr, k3.trans qk, qz⟩
  ·rw [if_neg hc] at bM
   simp only [bc, eM] at bM;obtain ⟨rfl, rfl⟩ := bM
   have hw : s2.skip l [44] = s2 := by unfold RS.skip; rw [if_neg hc]
   rw [hw] at h3;rw [eR hc] at hX;simp +contextual -implicitDefEqProofs (maxSteps := 1000000) (maxDischargeDepth := 8) only [aq, aa, implies_true, simprocAttr] at hX
   subst hL;rw [eP] at hX;generalize exec U (.loop aF) = L at hX
   simp +contextual -implicitDefEqProofs (maxSteps := 1000000) (maxDischargeDepth := 8) only [aF, h0, hd, aq, aa, implies_true, simprocAttr] at hX
   subst hX;exact ⟨_, _, _, rfl, by simp only [h0, ap, Nat.reduceBEq ], by simp only [ap, Nat.reduceBEq ]; rfl, by simp only [hd, ap, Nat.reduceBEq ], mf, h3, k3, by simp⟩
def NL (l : List Tok) (tg k : Nat) : Prop := ∀ (st : RS) (m : Mem) (b : Nat) (P : Nat -> Prop) (s1 : RS) (r : List Int) (X : Option Fin), ez l st -> 8 * (l.length - st.pos) + gL.args.bg < k -> jk l k .args st = some (s1, r) -> Rd m b tg l st P -> run U lb [.ptr b 0] m = X -> ∃ m' v, X = some (.ret v m') /\ jz m' v (is r) r.length 1 m.next /\ Rd m' b tg l s1 (Pv P v) /\ Kp m m' P /\ (r = [] -> v = .ae)
omit ht in
theorem Rd.pv {m : Mem} {b : Nat} {st : RS} {P : Nat -> Prop} (h : Rd m b tg l st P) : Rd m b tg l st (Pv P .ae) := h.bO fun c hc => hc.elim id fun q => absurd gz.nil q
theorem Ps (ih : Ic l tg k) : NL l tg (k + 1) := by
 intro st m b P s1 r X o hk bM h hX
 rw [bX (by simp [ct])] at hX
 generalize hL : exec (UT B K) (aH.loop aF) = L at hX
 have hT := jE (b := b) (tg := tg) (P := P) ht o
 simp +contextual -implicitDefEqProofs (maxSteps := 1000000) (maxDischargeDepth := 8) only [ct, hT, h, da, ak, aq, aa, implies_true, simprocAttr] at hX
 generalize hC : run U aO _ _ = C at hX
 obtain ⟨m1, rfl, h1, k1⟩ := nT ht o (ak h) hC
 clear hC;have k1 : Kp m m1 P := (aQ h).trans k1
 by_cases ha : st.is l [40]
 ·have hn := is_lt ht o.p ha
  have hw : st.want l [40] = st.next := by unfold RS.want; rw [if_pos ha]
  rw [hw] at h1;have on : ez l st.next := (Gr.next hn).ok o
  rw [eB ha] at hX;simp +contextual -implicitDefEqProofs (maxSteps := 1000000) (maxDischargeDepth := 8) only [aq, aa, implies_true, simprocAttr] at hX
  generalize hC : run U eE _ _ = C at hX
  obtain ⟨m2, rfl, h2, k2⟩ := IT ht on h1 hC
  clear hC;have k2 := k1.trans k2
  have go := Gr.open hn (p := ((st.now l).pos : Int))
  have oo := go.ok o
  obtain ⟨o1, o2, o3⟩ := lx (st := st.next) (p := ((st.now l).pos : Int))
  simp only [jk, if_pos ha] at bM;by_cases hf : (st.next.open (st.now l).pos).fe = 0
  ·rw [if_pos hf] at bM
   rw [eB hf] at hX;have nH : 8 * (l.length - (st.next.open (st.now l).pos).pos) + (gL.lU []).bg < k := by rw [o1]; simp only [gL.bg, RS.next] at *; omega
   generalize st.next.open (st.now l).pos = so at *
   have hI := Vj (b := b) (tg := tg) (P := P) ht oo
   by_cases hb : so.is l [41]
   ·rw [if_pos hb] at bM
    simp only [Option.bind_some, bc, eM] at bM;obtain ⟨rfl, rfl⟩ := bM
    simp +contextual -implicitDefEqProofs (maxSteps := 1000000) (maxDischargeDepth := 8) only [hI, h2, hb, fY, aq, aa, implies_true, simprocAttr] at hX
    subst hL;generalize hC : exec _ (.loop aF) _ _ = C at hX
    rw [eP] at hC;generalize exec U (.loop aF) = L at hC
    simp +contextual -implicitDefEqProofs (maxSteps := 1000000) (maxDischargeDepth := 8) only [aF, aq, aa, implies_true, simprocAttr] at hC
    subst hC;simp +contextual -implicitDefEqProofs (maxSteps := 1000000) (maxDischargeDepth := 8) only [aq, aa, implies_true, simprocAttr] at hX
    generalize hC : run U aO _ _ = C at hX
    obtain ⟨m4, rfl, h4, k4⟩ := nT ht oo (ak h2) hC
    clear hC;have o4 := (Gr.want ht oo.p (s := [41])).ok oo
    have k4 := (k2.trans (aQ h2)).trans k4
    simp +contextual -implicitDefEqProofs (maxSteps := 1000000) (maxDischargeDepth := 8) only [aq, aa, implies_true, simprocAttr] at hX
    generalize hC : run U dw _ _ = C at hX
    obtain ⟨m5, rfl, h5, k5⟩ := A2 ht o4 h4 hC
    clear hC;simp +contextual -implicitDefEqProofs (maxSteps := 1000000) (maxDischargeDepth := 8) only [aq, aa, implies_true, simprocAttr] at hX
    subst hX;exact ⟨_, _, rfl, ⟨.inl ⟨rfl, rfl, rfl⟩, rfl⟩, h5.pv, k4.trans k5, fun _ => rfl⟩
   ·rw [if_neg hb] at bM
    obtain ⟨s2, r2, e, g, a, _⟩ := go_ok ht k (.lU []) so go.pl nH (lu _)
    simp only [e, Option.bind_some, bc, eM] at bM;obtain ⟨rfl, rfl⟩ := bM
    simp +contextual -implicitDefEqProofs (maxSteps := 1000000) (maxDischargeDepth := 8) only [hI, h2, hb, fA, aq, aa, implies_true, simprocAttr] at hX
    subst hL;generalize hC : exec _ (.loop aF) _ _ = C at hX
    obtain ⟨fr', m3, v, rfl, q0, q4, qd, qo, qr, qk, qz⟩ := ih [] .ae so _ _ b m.next P _ _ _ oo nH (lu _) hf e (ak h2).pv (fun c hc => h.mb hc) (by rw [bz]; exact pJ k2.n bE) ⟨.inl ⟨rfl, rfl, rfl⟩, rfl⟩ (by simp only [ap, Nat.reduceBEq ]) (by simp only [ap, Nat.reduceBEq ]) (by simp only [ap, Nat.reduceBEq ]) (by simp only [ap, Nat.reduceBEq ]) hC
    clear hC;have k3 := (k2.trans (aQ h2)).trans qk
    have U7 := g.ok oo
    simp +contextual -implicitDefEqProofs (maxSteps := 1000000) (maxDischargeDepth := 8) only [q0, q4, qd, aq, aa, implies_true, simprocAttr] at hX
    generalize hC : run U aO _ _ = C at hX
    obtain ⟨m4, rfl, h4, k4⟩ := nT ht U7 qr hC
    clear hC;have o4 := (Gr.want ht U7.p (s := [41])).ok U7
    have w4 := qo.kp k4 fun c hc => .inr hc
    have k4 := k3.trans (k4.bO fun c hc => .inl hc)
    simp +contextual -implicitDefEqProofs (maxSteps := 1000000) (maxDischargeDepth := 8) only [q0, q4, qd, aq, aa, implies_true, simprocAttr] at hX
    generalize hC : run U dw _ _ = C at hX
    obtain ⟨m5, rfl, h5, k5⟩ := A2 ht o4 h4 hC
    clear hC;have w5 := w4.kp k5 fun c hc => .inr hc
    simp +contextual -implicitDefEqProofs (maxSteps := 1000000) (maxDischargeDepth := 8) only [q0, q4, qd, aq, aa, implies_true, simprocAttr] at hX
    subst hX;exact ⟨_, _, rfl, w5, h5, k4.trans (k5.bO fun c hc => .inl hc), fun q => absurd q qz⟩
  ·rw [if_neg hf] at bM
   rw [eR hf] at hX;simp only [bc, eM] at bM;obtain ⟨rfl, rfl⟩ := bM
   simp +contextual -implicitDefEqProofs (maxSteps := 1000000) (maxDischargeDepth := 8) only [aq, aa, implies_true, simprocAttr] at hX
   subst hX;exact ⟨_, _, rfl, ⟨.inl ⟨rfl, rfl, rfl⟩, rfl⟩, h2.pv, k2, fun _ => rfl⟩
 ·have hw : st.want l [40] = st.fail 8 (st.now l).pos := by unfold RS.want; rw [if_neg ha]
  rw [hw] at h1;simp only [jk, if_neg ha, bc, eM] at bM;obtain ⟨rfl, rfl⟩ := bM
  rw [eR ha] at hX;simp +contextual -implicitDefEqProofs (maxSteps := 1000000) (maxDischargeDepth := 8) only [aq, aa, implies_true, simprocAttr] at hX
  subst hX;exact ⟨_, _, rfl, ⟨.inl ⟨rfl, rfl, rfl⟩, rfl⟩, h1.pv, k1, fun _ => rfl⟩
theorem GI (ih : NL l tg k) {s : bZ} {p : Int} {st : RS} {m : Mem} {b : Nat} {P : Nat -> Prop} {s1 : RS} {r : List Int} {X : Option Fin} (o : ez l st) (hk : 8 * (l.length - st.pos) + gL.args.bg < k) (bM : jk l k .args st = some (s1, r)) (h : Rd m b tg l st P) (hX : run U ji [.ptr b 0, .str s, .int .i64 p] m = X) : ∃ m', X = some (.ret (.int .i64 (s1.gO (nd 11 r 0 s p))) m') /\ Rd m' b tg l (s1.put (nd 11 r 0 s p)) P /\ Kp m m' P := by
 obtain ⟨s2, r2, e, g, a, _⟩ := go_ok ht k .args st o.p hk trivial
 rw [bM] at e;obtain ⟨rfl, rfl⟩ := eM _ _ _ _ ▸ pE e
 rw [bX (by simp [ed])] at hX
 simp +contextual -implicitDefEqProofs (maxSteps := 1000000) (maxDischargeDepth := 8) only [ed, aq, aa, implies_true, simprocAttr] at hX
 generalize hC : run U lb _ _ = C at hX
 obtain ⟨m1, v, rfl, qo, q1, k1, qz⟩ := ih _ _ _ _ _ _ _ o hk bM h hC
 clear hC;have Wt : v.cells = some [v] := by rcases qo.is with ⟨rfl, _⟩ | ⟨_, _, _, rfl, _⟩ <;> rfl
 simp +contextual -implicitDefEqProofs (maxSteps := 1000000) (maxDischargeDepth := 8) only [Wt, aq, aa, implies_true, simprocAttr] at hX
 generalize hC : run U ay _ _ = C at hX
 obtain ⟨m5, rfl, h5, k5⟩ := pG (P := P) (kids := r) ht (g.ok o) q1 (by have : r.length <= 9 := a; omega) qo.Vd (fun c hc => .inr hc) (fun c hc => ⟨.inl hc, qo.lt (.inr (h.mb hc))⟩) qz hC
 clear hC;simp +contextual -implicitDefEqProofs (maxSteps := 1000000) (maxDischargeDepth := 8) only [aq, aa, implies_true, simprocAttr] at hX
 subst hX;exact ⟨_, rfl, h5, k1.trans k5⟩
end
end
end Go.Proofs.YtdiccmapankckaaDoor.Ev
