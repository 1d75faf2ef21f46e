/- PTk, PEr2, EvLive, EvCard, WPt. -/
import Derived.LaidMore
import Derived.Lib.LaidTab
import Derived.Test.YtdiccmapankckaaDoorMj
set_option linter.unusedSimpArgs false
set_option linter.unusedVariables false
set_option linter.unusedSectionVars false
set_option linter.defProp false
set_option maxRecDepth 20000
set_option maxHeartbeats 8000000
namespace Go.Proofs.YtdiccmapankckaaDoor.Ev
open Go
section
def o6 : bK := [9, 35, 125, 10]
def eH (l : List Tok) : bK := (l.map fun t => t.text ++ o6).flatten
theorem Eu (l : List Tok) (t : Tok) : eH (l ++ [t]) = eH l ++ (t.text ++ o6) := by simp [eH]
theorem Ew (t : Tok) (l : List Tok) : eH (t :: l) = t.text ++ 9 :: 35 :: 125 :: 10 :: eH l := by simp [eH, o6]
theorem AM {p : Int -> Prop} [DecidablePred p] (h : ¬ p 9) {rest : bK} : ∀ s : bK, lead p (s.take (lead p s) ++ 9 :: rest) = lead p s
 | [] => by
  have e : lead p [] = 0 := rfl
  rw [e, List.take_nil, List.nil_append, lead];exact if_neg h
 | c :: s => by
  by_cases hc : p (cI c)
  ·rw [lead, if_pos hc, Nat.add_comm, List.take_succ_cons, List.cons_append, lead, if_pos hc, AM h s, Nat.add_comm]
  ·rw [lead, if_neg hc, List.take_zero, List.nil_append, lead]
   exact if_neg h
theorem DO {rest : bK} (s : bK) : bG (s.take (bG s) ++ 9 :: rest) = bG s := by
 cases s with
 | nil => simp only [bG, List.take_zero, List.nil_append]; exact if_neg (by decide)
 | cons c s =>
  by_cases hc : bX (cI c)
  ·have e : ∀ t, bG (c :: t) = 1 + lead (fun n => bX n \/ aN n) t := fun t => if_pos hc
   rw [e, Nat.add_comm, List.take_succ_cons, List.cons_append, e, AM (by decide) s, Nat.add_comm]
  ·have e : bG (c :: s) = 0 := if_neg hc
   rw [e, List.take_zero, List.nil_append, bG];exact if_neg (by decide)
theorem KO (c : UInt8) : [c, 9] ∉ xB := by
 intro h
 simp [xB] at h
theorem KY {rest : bK} {s : bK} (h : eC s ≠ 0) : eC (s.take (eC s) ++ 9 :: rest) = eC s := by
 by_cases h2 : 2 <= s.length /\ s.take 2 ∈ xB
 ·have e : eC s = 2 := if_pos h2
  have hl : (s.take 2).length = 2 := by rw [List.length_take]; omega
  rw [e];unfold eC;rw [if_pos ⟨by rw [jz, hl]; omega, by rw [List.take_append_of_le_length (by omega), PX (by omega)]; exact h2.2⟩]
 ·have e : eC s = if ∃ c ∈ OJ, s[0]? = some c then 1 else 0 := if_neg h2
  by_cases h1 : ∃ c ∈ OJ, s[0]? = some c
  ·rw [if_pos h1] at e
   obtain ⟨c, hc, hs⟩ := h1
   cases s with
   | nil => simp at hs
   | cons a s =>
    simp only [List.getElem?_cons_zero, bf] at hs;subst hs;rw [e, List.take_succ_cons, List.take_zero, List.cons_append, List.nil_append];unfold eC;have n2 : ¬ (2 <= (a :: 9 :: rest).length /\ (a :: 9 :: rest).take 2 ∈ xB) := fun q => KO a q.2
    rw [if_neg n2, if_pos ⟨a, hc, rfl⟩]
  ·rw [if_neg h1] at e; exact absurd e h
theorem Jj {s rest : bK} {p q : Nat} {t : Tok} (hs : s ≠ []) (h : ki s p = .ok t) : ki (t.text ++ 9 :: rest) q = .ok ⟨t.kind, t.text, t.n, q⟩ := by
 have hl := List.length_pos_iff.2 hs
 obtain ⟨g1, g2, g3, g4⟩ := lF hl h
 have Pe : 0 < (t.text ++ 9 :: rest).length := by rw [jz]; omega
 have h0 : (t.text ++ 9 :: rest)[0] = s[0] := by
  have e : (t.text ++ 9 :: rest)[0]? = s[0]? := by
   rw [BC g1, g4, List.getElem?_take, if_pos g1]
  rw [nc Pe, nc hl] at e;exact pH e
 have ld := kH aN s
 have lw := rf s
 have ls := yF hl
 have tk : ∀ n, n <= s.length -> (s.take n ++ 9 :: rest).take n = s.take n := fun n hn => by
  rw [List.take_append_of_le_length (by rw [List.length_take]; omega), PX (by rw [List.length_take]; omega)]
 rw [mS Pe, h0];rw [mS hl] at h;by_cases h1 : aN (cI s[0])
 ·rw [if_pos h1] at h ⊢
  unfold BJ at h
  cases hn : qV 0 (s.take (lead aN s)) with
  | none => rw [hn] at h; cases h
  | some n =>
   rw [hn] at h; cases h
   simp only
   rw [AM (p := aN) (by decide), tk _ ld, BJ, hn]
 ·rw [if_neg h1] at h ⊢
  by_cases h2 : 0 < bG s /\ s.take (bG s) ∈ iw
  ·rw [if_pos h2] at h; cases h
   simp only
   rw [DO, tk _ lw, if_pos h2]
  ·rw [if_neg h2] at h
   by_cases h3 : 32 < bG s
   ·rw [if_pos h3] at h; cases h
   ·rw [if_neg h3] at h
    by_cases h4 : 0 < bG s
    ·rw [if_pos h4] at h; cases h
     simp only
     rw [DO, tk _ lw, if_neg h2, if_neg h3, if_pos h4]
    ·rw [if_neg h4] at h
     by_cases h5 : eC s = 0
     ·rw [if_pos h5] at h; cases h
     ·rw [if_neg h5] at h; cases h
      simp only
      have Tl : ¬ bX (cI s[0]) := by
       intro q
       cases s with
       | nil => exact absurd rfl hs
       | cons c s =>
        have e : bG (c :: s) = 1 + lead (fun n => bX n \/ aN n) s := if_pos q
        omega
      have hw0 : bG (s.take (eC s) ++ 9 :: rest) = 0 := by
       cases hx : s.take (eC s) ++ 9 :: rest with
       | nil => rfl
       | cons c r =>
        have : c = s[0] := by
         have e := h0
         simp only [hx] at e;exact e
        subst this;exact if_neg Tl
      rw [hw0, KY h5, tk _ ls, if_neg (by omega), if_neg (by omega), if_neg (by omega), if_neg h5]
theorem QI {c : UInt8} {s : bK} (h : ¬ ∃ a ∈ KZ, cI c = cI a) : eC (c :: s) = 0 := by
 refine AF fun x hx q => h ?_
 have : ∀ x ∈ nL, ∃ a ∈ KZ, x[0]? = some a := by decide
 obtain ⟨a, ha, Vu⟩ := this x hx
 obtain ⟨q1, q2⟩ := q
 refine ⟨a, ha, ?_⟩
 cases x with
 | nil => simp at Vu
 | cons b x =>
  simp only [List.getElem?_cons_zero, bf] at Vu;subst Vu;simp only [List.length_cons, List.take_succ_cons, List.cons.injEq] at q2;rw [q2.1]
theorem Ji {s : bK} {p : Nat} {t : Tok} (hs : s ≠ []) (h : ki s p = .ok t) (rest : bK) : bA false (t.text ++ rest) = 0 := by
 have hl := List.length_pos_iff.2 hs
 obtain ⟨g1, g2, g3, g4⟩ := lF hl h
 cases s with
 | nil => exact absurd rfl hs
 | cons c s =>
  have Ye : cZ (cI c) \/ cI c = 35 -> False := by
   intro q
   have hnd : ¬ aN (cI c) := by unfold aN; unfold cZ at q; omega
   have Tl : ¬ bX (cI c) := by unfold bX; unfold cZ at q; omega
   have hw : bG (c :: s) = 0 := if_neg Tl
   have hsg : eC (c :: s) = 0 := by
    refine QI ?_
    have : ∀ a ∈ KZ, ¬ (cZ (cI a) \/ cI a = 35) := by decide
    rintro ⟨a, ha, e⟩
    rw [e] at q;exact this a ha q
   rw [mS hl] at h;simp only [List.getElem_cons_zero] at h;rw [if_neg hnd, hw, hsg, if_neg (by omega), if_neg (by omega), if_neg (by omega), if_pos rfl] at h
   cases h
  cases ht : t.text with
  | nil => rw [ht] at g1; simp at g1
  | cons a r =>
   have : a = c := by
    rw [ht] at g4;simp only [List.length_cons, List.take_succ_cons, List.cons.injEq] at g4;exact g4.1
   subst this;rw [List.cons_append, bA];refine if_pos ⟨?_, fun q => Ye (.inl q)⟩
   split
   ·rfl
   ·rw [if_neg (fun q => Ye (.inr q))]
theorem OA (s : bK) : bA false (9 :: 35 :: 125 :: 10 :: s) = 4 + bA false s := by
 have e : bA false (9 :: 35 :: 125 :: 10 :: s) = 1 + (1 + (1 + (1 + bA false s))) := rfl
 omega
theorem Bf : ∀ (k : Nat) (s : bK) (p : Nat) (l : List Tok), fD k s p = .ok l -> ∀ (k' q : Nat), (eH l ++ o6).length < k' -> ∃ l', fD k' ((eH l ++ o6).drop (bA false (eH l ++ o6))) (q + bA false (eH l ++ o6)) = .ok l' /\ l'.map Tok.er = l.map Tok.er
 | 0, s, p, l, h, _, _, _ => by simp only [fD] at h; cases h
 | k + 1, [], p, l, h, k', q, hk => by
  simp only [fD] at h; cases h
  cases k' with
  | zero => omega
  | succ k' => exact ⟨[], rfl, rfl⟩
 | k + 1, c :: s, p, l, h, 0, q, hk => by omega
 | k + 1, c :: s, p, l, h, k' + 1, q, hk => by
  rw [sy (by simp)] at h
  cases ho : ki (c :: s) p with
  | bad e q => rw [ho] at h; cases h
  | ok t =>
   rw [ho] at h;simp only at h
   obtain ⟨g1, g2, g3, g4⟩ := lF (by simp) ho
   cases hr : fD k (((c :: s).drop t.text.length).drop (bA false ((c :: s).drop t.text.length))) (p + t.text.length + bA false ((c :: s).drop t.text.length)) with
   | bad e q => rw [hr] at h; cases h
   | ok l2 =>
    rw [hr] at h; cases h
    have e0 : eH (t :: l2) ++ o6 = t.text ++ 9 :: 35 :: 125 :: 10 :: (eH l2 ++ o6) := by rw [Ew]; simp
    rw [e0] at hk ⊢
    rw [Ji (by simp) ho, List.drop_zero];simp only [Nat.add_zero];simp only [jz, List.length_cons] at hk;obtain ⟨l', h1, h2⟩ := Bf k _ _ l2 hr k' (q + t.text.length + 4) (by rw [jz]; omega)
    refine ⟨⟨t.kind, t.text, t.n, q⟩ :: l', ?_, by simp only [List.map_cons, h2]; rfl⟩
    rw [sy (by simp), Jj (by simp) ho];have e1 : (t.text ++ 9 :: 35 :: 125 :: 10 :: (eH l2 ++ o6)).drop t.text.length = 9 :: 35 :: 125 :: 10 :: (eH l2 ++ o6) := List.drop_left
    simp only
    rw [e1, OA, Nat.add_comm 4];have e4 : List.drop (bA false (eH l2 ++ o6) + 4) (9 :: 35 :: 125 :: 10 :: (eH l2 ++ o6)) = List.drop (bA false (eH l2 ++ o6)) (eH l2 ++ o6) := rfl
    have e3 : q + t.text.length + (bA false (eH l2 ++ o6) + 4) = q + t.text.length + 4 + bA false (eH l2 ++ o6) := by omega
    rw [e4, e3, h1]; rfl
theorem xn : ∀ (k : Nat) (s : bK) (p : Nat) (l : List Tok), fD k s p = .ok l -> (eH l).length <= 5 * s.length
 | 0, s, p, l, h => by simp only [fD] at h; cases h
 | k + 1, [], p, l, h => by simp only [fD] at h; cases h; exact fy _
 | k + 1, c :: s, p, l, h => by
  rw [sy (by simp)] at h
  cases ho : ki (c :: s) p with
  | bad e q => rw [ho] at h; cases h
  | ok t =>
   rw [ho] at h;simp only at h
   obtain ⟨g1, g2, g3, g4⟩ := lF (by simp) ho
   cases hr : fD k (((c :: s).drop t.text.length).drop (bA false ((c :: s).drop t.text.length))) (p + t.text.length + bA false ((c :: s).drop t.text.length)) with
   | bad e q => rw [hr] at h; cases h
   | ok l2 =>
    rw [hr] at h; cases h
    have ih := xn k _ _ l2 hr
    rw [uy, uy] at ih;simp only [Ew, jz, List.length_cons] at *
    omega
theorem OZ {s : bK} {l : List Tok} (hs : s.length <= 1000) (h : ta s = .ok l) : (eH l).length <= 5004 /\ ∃ l', ta (eH l) = .ok l' /\ l'.map Tok.er = l.map Tok.er := by
 unfold ta at h;rw [if_neg (by omega)] at h
 cases hr : fD (s.length + 1) (s.drop (bA false s)) (bA false s) with
 | bad e q => rw [hr] at h; cases h
 | ok l2 =>
  rw [hr] at h
  cases h
  have hle := xn _ _ _ _ hr
  rw [uy] at hle;have e0 : eH (l2 ++ [⟨0, [], 0, s.length⟩]) = eH l2 ++ o6 := by rw [Eu]; rfl
  rw [e0];have hlen : (eH l2 ++ o6).length <= 5004 := by rw [jz]; show _ + 4 <= _; omega
  refine ⟨hlen, ?_⟩
  obtain ⟨l', h1, h2⟩ := Bf _ _ _ _ hr ((eH l2 ++ o6).length + 1) 0 (by omega)
  rw [Nat.zero_add] at h1;refine ⟨l' ++ [⟨0, [], 0, (eH l2 ++ o6).length⟩], ?_, by simp only [List.map_append, h2]; rfl⟩
  unfold ta;rw [if_neg (by omega), h1]; rfl
end
section
theorem MI {l : List Tok} : jk (l.map Tok.er) = (jk l).er := by
 have h := Wc (l := l) (8 * l.length + 5) (.rR []) .start
 have e : RS.start.er = RS.start := rfl
 rw [e] at h;unfold jk;rw [List.length_map, h]
 cases lR l (8 * l.length + 5) (.rR []) .start with
 | none => rfl
 | some x => exact vg (d := nd 26 x.2 0 [] 0)
theorem OG {l l' : List Tok} (h : l'.map Tok.er = l.map Tok.er) : (jk l').fe = (jk l).fe /\ (jk l').tree.map Nd.er = (jk l).tree.map Nd.er := by
 have e : (jk l').er = (jk l).er := by rw [<- MI, <- MI, h]
 have h1 : (jk l').er.fe = (jk l).er.fe := by rw [e]
 have h2 : (jk l').er.tree = (jk l).er.tree := by rw [e]
 exact ⟨h1, h2⟩
theorem O6 (a b : List Tok) : eH (a ++ b) = eH a ++ eH b := by simp [eH]
theorem FM (l : List Tok) (i : Nat) : (eH (l.take i)).length <= (eH l).length := by
 have := O6 (l.take i) (l.drop i)
 rw [List.take_append_drop] at this;rw [this, jz]; omega
end
section
def Sc (m : Mem) : Prop := ∀ b cs e t ro, m.get b = .cells cs e t ro -> b < m.next
theorem in_live {n0 : Nat} {bs : List uo} (hl : (∀ p ∈ globs, p.1 < n0) /\ ∀ g l, tabl g = some l -> g < n0) : Sc (gK n0 bs) := by
 intro b cs e t ro h
 refine Gb fun q => ?_
 have : (gK n0 bs).next = n0 + bs.length := rfl
 rw [Ey hl (by omega)] at h
 cases h
end
section
open Go Go.Deep
def GFact (w : World) (g : Nat) (l : List (List UInt8)) : Prop :=
 ∃ (arr : Array Value) (e : TypeId) (fz : Nat × Nat) (de off cap : Nat) (Fc : Array Value) (e2 : TypeId) (Yq : Nat × Nat),
  w.heap[g]? = some (.cells arr e fz) /\ arr.toList = [.slice (some ⟨de, off, none⟩) l.length cap] /\ l.length <= cap /\
  w.heap[de]? = some (.cells Fc e2 Yq) /\ off + l.length <= Fc.size /\ ∀ (j : Nat) (s : List UInt8), l[j]? = some s -> ∃ b, Fc[off + j]? = some (.string b) /\ b.data.toList = s
theorem gfact_of {H : Type} {enc : TypeId × Value -> H} {P : Program} {w : World} {base : Nat} {sp : Nat -> Bool} {held : Bool} {g : Nat} {t e : TypeId} {name : String} {l : List (List UInt8)} {fuel : Nat} {p : List MemPlace} {cs : Array Value} {D : DataW H} (iM : l ≠ []) (hD : D = .slice (l.map fun s => .lit (.string s)) [])
  (hg : P.globalNamed name = some g) (ht : P.underlying t = some (.slice e)) (hc : P.cellsOf e = 1) (he : P.underlying e = some .string) (hv : w.var? P name = some cs)
  (hd : DataW.trod enc P w base sp held fuel t cs.toList = some (D, p)) : GFact w g l := by
 subst hD;obtain ⟨a, cap, h1, h2, h3⟩ := open_row ht hc hd
 rw [List.length_map] at h1 h2;have JP : ∀ i s, l[i]? = some s -> ∃ b, w.cell? (a.add i) = some (.string b) /\ b.data.toList = s := by
  intro i s hs
  obtain ⟨v, n, q, hv1, Vw⟩ := h3 i (.lit (.string s)) (by rw [List.getElem?_map, hs]; rfl)
  obtain ⟨b, hb, hx, _⟩ := DataW.trod_string he Vw
  simp only [List.cons.injEq, and_true] at hb;subst hb;refine ⟨b, hv1, ?_⟩
  simp only [eO, DataW.lit.injEq, Lit.string.injEq] at hx;exact hx.1.symm
 have dx : 0 < l.length := List.length_pos_iff.2 iM
 obtain ⟨de, off, Fc, e2, Yq, rfl, rQ⟩ : ∃ de off arr ty fz, a = ⟨de, off, none⟩ /\ w.heap[de]? = some (.cells arr ty fz) := by
  obtain ⟨b, hv, _⟩ := JP 0 l[0] (nc dx)
  have hv : w.cell? a = some (.string b) := hv
  obtain ⟨de, off, spot⟩ := a
  unfold World.cell? at hv
  split at hv
  ·rename_i c t z hh
   cases spot with
   | none => exact ⟨de, off, c, t, z, rfl, hh⟩
   | some x => simp at hv
  ·cases hv
 have PU : ∀ n, w.cell? ⟨de, off + n, none⟩ = Fc[off + n]? := fun n => by unfold World.cell?; simp [rQ]
 have lQ : ∀ (j : Nat) (s : List UInt8), l[j]? = some s -> ∃ b, Fc[off + j]? = some (.string b) /\ b.data.toList = s := by
  intro j s hs
  obtain ⟨b, hb, Yd⟩ := JP j s hs
  rw [CF, PU] at hb;exact ⟨b, hb, Yd⟩
 have hle : off + l.length <= Fc.size := by
  obtain ⟨b, hb, _⟩ := lQ (l.length - 1) _ (nc (by omega))
  have := (Array.getElem?_eq_some_iff.1 hb).1
  omega
 unfold World.var? at hv
 rw [hg] at hv;simp only [Option.bind_some] at hv
 split at hv
 ·rename_i c t' z hh
  cases hv
  exact ⟨_, _, _, de, off, cap, Fc, e2, Yq, hh, h1, h2, rQ, hle, lQ⟩
 ·cases hv
def ad5 (w : World) (g : Nat) (l : List (List UInt8)) (B : uo) : Prop := B.cs = l.map .str /\ B.esz = 1 /\
 (∃ (arr : Array Value) (e : TypeId) (fz : Nat × Nat) (cap : Nat), w.heap[g]? = some (.cells arr e fz) /\ arr.toList = [.slice (some ⟨B.de, B.off, none⟩) l.length cap] /\ l.length <= cap) /\
 ∃ (arr : Array Value) (e : TypeId) (fz : Nat × Nat), w.heap[B.de]? = some (.cells arr e fz) /\ arr.size = B.total /\ B.off + l.length <= B.total /\ ∀ (j : Nat) (s : List UInt8), l[j]? = some s -> ∃ b, arr[B.off + j]? = some (.string b) /\ b.data.toList = s
theorem UN {w : World} : ∀ gs : List (Nat × List (List UInt8)), (∀ p ∈ gs, GFact w p.1 p.2) -> ∃ bk : List uo, bk.length = gs.length /\ ∀ (j g : Nat) (l : List (List UInt8)), gs[j]? = some (g, l) -> ∃ B, bk[j]? = some B /\ ad5 w g l B
 | [], _ => ⟨[], rfl, fun j g l h => by simp at h⟩
 | (g, l) :: gs, h => by
  obtain ⟨bk, h1, h2⟩ := UN gs fun p hp => h p (by simp [hp])
  obtain ⟨arr, e, fz, de, off, cap, Fc, e2, Yq, a1, a2, a3, a4, a5, a6⟩ := h (g, l) (by simp)
  refine ⟨⟨de, off, Fc.size, 1, l.map .str⟩ :: bk, by simp [h1], fun j g' l' hj => ?_⟩
  cases j with
  | zero =>
   simp only [List.getElem?_cons_zero, bf, eO] at hj;obtain ⟨rfl, rfl⟩ := hj
   exact ⟨_, rfl, rfl, rfl, ⟨arr, e, fz, cap, a1, a2, a3⟩, Fc, e2, Yq, a4, rfl, a5, a6⟩
  | succ j => exact h2 j g' l' (by simpa using hj)
theorem args_card {w : World} {n0 : Nat} {ka : List Sh} {vs : List Value} (hg : (∀ p ∈ globs, GFact w p.1 p.2) /\ ∀ g l, tabl g = some l -> TFact w g l) (hl : (∀ p ∈ globs, p.1 < n0) /\ ∀ g l, tabl g = some l -> g < n0) (h : DecVs w n0 ka vs) :
  ∃ (bs : List uo) (es : List EV) (ds : List Dt), Wo w n0 bs /\ IF w n0 bs /\ fx (kf n0 bs) es vs /\ sg (gK n0 bs) ka es ds := by
 obtain ⟨bk, AU, Pg⟩ := UN globs hg.1
 obtain ⟨k, ds, h⟩ := h
 obtain ⟨es, bs, h1, h2⟩ := h bk.length
 obtain ⟨c1, c2, c3⟩ := h2 (bk ++ bs) (fun i _ => by rw [FA (by omega)]; congr 1; omega)
 refine ⟨bk ++ bs, es, ds, fun i B hB => ?_, ⟨hl, hg.2, fun j g l hj => ?_⟩, c1, c3⟩
 ·by_cases hi : i < bk.length
  ·rw [BC hi] at hB
   obtain ⟨⟨g, l⟩, Rw⟩ : ∃ p, globs[i]? = some p := ⟨_, nc (by omega)⟩
   obtain ⟨B', Tx, q1, q2, q3, arr, e, fz, q4, q5, q6, q7⟩ := Pg i g l Rw
   rw [hB] at Tx; cases Tx
   refine ⟨arr, e, fz, q4, q5, by rw [q1, List.length_map]; exact q6, fun j v hj => ?_⟩
   rw [q1, List.getElem?_map] at hj;obtain ⟨s, hs, rfl⟩ := j8.1 hj
   obtain ⟨b, hb, rfl⟩ := q7 j s hs
   exact ⟨_, hb, .str _, rfl⟩
  ·rw [FA (by omega)] at hB
   exact c2 _ B hB
 ·obtain ⟨B, hB, q1, q2, ⟨arr, e, fz, cap, q3, q4, q5⟩, _⟩ := Pg j g l hj
  have bn := (uz.1 hB).1
  have Tx : (bk ++ bs)[j]? = some B := by rw [BC bn]; exact hB
  have uh : arr.size = 1 := by rw [<- Array.length_toList, q4]; rfl
  exact ⟨⟨arr, e, fz, _, q3, uh, by rw [<- Array.getElem?_toList, q4]; rfl, JC Tx rfl rfl q5 fun _ => rfl, rfl⟩, B, Tx, q1, q2⟩
theorem KT (l : List (List UInt8)) : (lc l).flatten = l.map .str := by
 induction l with
 | nil => rfl
 | cons s l ih => show (([EV.str s] :: lc l).flatten) = _; rw [List.flatten_cons, ih]; rfl
theorem glob_still {w : World} {n0 : Nat} {bs : List uo} (h : IF w n0 bs) : mG (still (gK n0 bs)) := by
 refine ⟨fun g l hg => ?_, fun g l hg => ?_⟩
 case refine_2 =>
  have bn := h.1.2 g l hg
  have hn : (gK n0 bs).next = n0 + bs.length := rfl
  show (if g < (gK n0 bs).next then some ((gK n0 bs).get g) else none) = _
  rw [if_pos (by rw [hn]; omega), AP bn]
  have hf := tt (b := g) globs 0
  have hgn := (h.2.1 g l hg).1
  unfold FW at hgn;rw [hgn] at hf;rw [Option.map_eq_none_iff.1 hf, hg]
  rfl
 have hf := tt (b := g) globs 0
 unfold FW at hg;rw [hg] at hf;obtain ⟨⟨p, l'⟩, hp, zl⟩ := j8.1 hf
 simp only at zl
 subst zl
 have h2 := (zo _ _ hp).2
 rw [Nat.sub_zero] at h2;have bn := h.1.1 _ (List.mem_of_getElem? h2)
 obtain ⟨_, B, hB, q1, q2⟩ := h.2.2 p g l' h2
 have m1 : (gK n0 bs).get g = .cells [.slice (n0 + p) 0 l'.length none] 1 0 true := by rw [AP bn, hp]; rfl
 have m2 : (gK n0 bs).get (n0 + p) = .cells (l'.map .str) 1 0 true := by rw [Ez hB, q1, q2]
 have IN := (uz.1 hB).1
 have hn : (gK n0 bs).next = n0 + bs.length := rfl
 have s1 : (still (gK n0 bs)).gQ g = some (.cells [.slice (n0 + p) 0 l'.length none] 1 0 true) := by
  show (if g < (gK n0 bs).next then some ((gK n0 bs).get g) else none) = _
  rw [if_pos (by rw [hn]; omega), m1]
 have s2 : (still (gK n0 bs)).gQ (n0 + p) = some (.cells (l'.map .str) 1 0 true) := by
  show (if n0 + p < (gK n0 bs).next then some ((gK n0 bs).get (n0 + p)) else none) = _
  rw [if_pos (by rw [hn]; omega), m2]
 have self : ∀ (θ : cF) (x : List (List UInt8)), dT θ (x.map .str) (x.map .str) := fun θ x => by
  induction x with
  | nil => exact .nil
  | cons s x ih => exact .cons (.str s) ih
 have hlen : (lc l').length = l'.length := by simp [lc]
 refine .fI (.mk (off := 0) s1 (by simp) (by simp) (.cons ?_ .nil)) (by simp) (by simp)
 have := SV.fz (θ := (still (gK n0 bs)).low) (t := 0) (esz := 1) (els := lc l') (b := n0 + p) (off := 0) (cap := none) (.mk s2 (by simp [lc]) (by simp [hlen]) (by
  rw [KT, List.drop_zero, hlen, Nat.mul_one, PX (by simp)]; exact self _ l')) (.inl rfl) (fun c hc => by cases hc)
 rw [hlen] at this;exact this
end
section
theorem Ku {a b c : List UInt8} (h : a.length + b.length <= 4294967296) (e : a ++ b = c) : ei .add (.str a) (.str b) = some (.str c) := by rw [TR, Be h, e]; rfl
theorem FG {A : List Int} {t t' : Nat} {nl nl' : Bool} (hl : A.length < 1000000000) {m0 : Mem} {fr : Fr} (h0 : fr.get 0 = row nl t 1 (ints A)) (h1 : fr.get 1 = row nl' t' 1 (ints A)) (h5 : fr.get 5 = .int .i64 0) (hd : fr.defers = []) :
  ∃ o, exec U (.loop eN) fr m0 = some o /\ ∃ fr' m', o = .exit 0 fr' m' /\ fr'.defers = [] := by
 refine iE (σ := Nat) (fun i fr m => i <= A.length /\ fr.get 0 = row nl t 1 (ints A) /\ fr.get 1 = row nl' t' 1 (ints A) /\ fr.get 5 = .int .i64 (i : Int) /\ fr.defers = []) (fun i => A.length - i) _ ?_ 0 fr m0 ⟨ml _, h0, h1, h5, hd⟩
 rintro i fr m ⟨hi, h0, h1, h5, hd⟩
 generalize hX : exec U eN fr m = X
 by_cases bn : i < A.length
 ·have hc : (i : Int) < (A.length : Int) := by omega
  have hg : A[i]? = some A[i] := nc bn
  have ug := cQ (i := i) (by omega)
  simp +contextual -implicitDefEqProofs (maxSteps := 1000000) (maxDischargeDepth := 8) only [eN, h0, h1, h5, hd, hc, hg, bn, ug, b9, Re, Ex, ax, ab, implies_true, simprocAttr] at hX
  subst hX;exact eR (i + 1) (by omega) ⟨bn, by simp only [h0, aq, Nat.reduceBEq ], by simp only [h1, aq, Nat.reduceBEq ], by simp only [aq, Nat.reduceBEq ], by simp only [hd, aq, Nat.reduceBEq ]⟩
 ·have hc : ¬ ((i : Int) < (A.length : Int)) := by omega
  simp +contextual -implicitDefEqProofs (maxSteps := 1000000) (maxDischargeDepth := 8) only [eN, h0, h1, h5, hd, hc, Ex, ax, ab, implies_true, simprocAttr] at hX
  subst hX;exact eS ⟨_, _, rfl, by simp only [hd, aq, Nat.reduceBEq ]⟩
theorem I7 {A : List Int} {t t' : Nat} {nl nl' : Bool} (hl : A.length < 1000000000) : cR B K BK [row nl t 1 (ints A), row nl' t' 1 (ints A)] = some (.bool true) := by
 rw [eE (by simp [fo])]
 generalize hL : exec (UT B K) (aE.loop eN) = L
 simp +contextual -implicitDefEqProofs (maxSteps := 1000000) (maxDischargeDepth := 8) only [fo, Ex, ax, ab, implies_true, simprocAttr]
 subst hL;generalize hX : exec _ (.loop eN) _ _ = X
 obtain ⟨o, rfl, fr', m', rfl, hd⟩ := iD hX (FG (A := A) (nl := nl) (t := t) (nl' := nl') (t' := t') hl (by simp only [aq, Nat.reduceBEq ]) (by simp only [aq, Nat.reduceBEq ]) (by simp only [aq, Nat.reduceBEq ]) (by simp only [aq, Nat.reduceBEq ]))
 simp +contextual -implicitDefEqProofs (maxSteps := 1000000) (maxDischargeDepth := 8) only [hd, ax, ab, implies_true, simprocAttr]
theorem Ed {A A' : List Nd} {t t' : Nat} (hA : A'.map Nd.er = A.map Nd.er) (hl : A.length < 1000000000) (hk : ∀ d ∈ A, d.kids.length < 1000000000) {m0 : Mem} {fr : Fr} (h0 : fr.get 0 = .fz t 5 (Lo A)) (h1 : fr.get 1 = .fz t' 5 (Lo A')) (h5 : fr.get 5 = .int .i64 0) (hd : fr.defers = []) :
  ∃ o, exec U (.loop cP) fr m0 = some o /\ ∃ fr' m', o = .exit 0 fr' m' /\ fr'.defers = [] := by
 have hlen : A'.length = A.length := by have := congrArg List.length hA; rwa [List.length_map, List.length_map] at this
 refine iE (σ := Nat) (fun i fr m => i <= A.length /\ fr.get 0 = .fz t 5 (Lo A) /\ fr.get 1 = .fz t' 5 (Lo A') /\ fr.get 5 = .int .i64 (i : Int) /\ fr.defers = []) (fun i => A.length - i) _ ?_ 0 fr m0 ⟨ml _, h0, h1, h5, hd⟩
 rintro i fr m ⟨hi, h0, h1, h5, hd⟩
 generalize hX : exec U cP fr m = X
 by_cases bn : i < A.length
 ·have hc : (i : Int) < (A.length : Int) := by omega
  have VI : i < A'.length := by omega
  have hg : A[i]? = some A[i] := nc bn
  have uA : A'[i]? = some A'[i] := nc VI
  have ug := cQ (i := i) (by omega)
  have Nk : A'[i].er = A[i].er := by
   have := congrArg (fun l => l[i]?) hA
   simp only [List.getElem?_map, hg, uA, Option.map_some, bf] at this;exact this
  have rO := hk _ (Mv bn)
  have c1 : A'[i].kind = A[i].kind := by have := congrArg Nd.kind Nk; exact this
  have c2 : A'[i].kids = A[i].kids := by have := congrArg Nd.kids Nk; exact this
  have c3 : A'[i].n = A[i].n := by have := congrArg Nd.n Nk; exact this
  have c4 : A'[i].s = A[i].s := by have := congrArg Nd.s Nk; exact this
  generalize A[i] = d at *
  generalize A'[i] = d' at *
  have hs := I7 (A := d.kids) (t := 1) (t' := 2) (nl := d.nl) (nl' := d'.nl) rO
  simp +contextual -implicitDefEqProofs (maxSteps := 1000000) (maxDischargeDepth := 8) only [cP, h0, h1, h5, hd, hc, hg, uA, bn, VI, hlen, ug, c1, c2, c3, c4, hs, Nd.cells, b9, S3, HA, ax, ab, implies_true, simprocAttr] at hX
  subst hX;exact eR (i + 1) (by omega) ⟨bn, by simp only [h0, aq, Nat.reduceBEq ], by simp only [h1, aq, Nat.reduceBEq ], by simp only [aq, Nat.reduceBEq ], by simp only [hd, aq, Nat.reduceBEq ]⟩
 ·have hc : ¬ ((i : Int) < (A.length : Int)) := by omega
  simp +contextual -implicitDefEqProofs (maxSteps := 1000000) (maxDischargeDepth := 8) only [cP, h0, h1, h5, hd, hc, HA, ax, ab, implies_true, simprocAttr] at hX
  subst hX;exact eS ⟨_, _, rfl, by simp only [hd, aq, Nat.reduceBEq ]⟩
theorem Hj {A A' : List Nd} {t t' : Nat} (hA : A'.map Nd.er = A.map Nd.er) (hl : A.length < 1000000000) (hk : ∀ d ∈ A, d.kids.length < 1000000000) : cR B K rG [.fz t 5 (Lo A), .fz t' 5 (Lo A')] = some (.bool true) := by
 have hlen : A'.length = A.length := by have := congrArg List.length hA; rwa [List.length_map, List.length_map] at this
 rw [eE (by simp [dA])]
 generalize hL : exec (UT B K) (aE.loop cP) = L
 simp +contextual -implicitDefEqProofs (maxSteps := 1000000) (maxDischargeDepth := 8) only [dA, HA, hlen, ax, ab, implies_true, simprocAttr]
 subst hL;generalize hX : exec _ (.loop cP) _ _ = X
 obtain ⟨o, rfl, fr', m', rfl, hd⟩ := iD hX (Ed (A := A) (A' := A') (t := t) (t' := t') hA hl hk (by simp only [aq, Nat.reduceBEq ]) (by simp only [aq, Nat.reduceBEq ]) (by simp only [aq, Nat.reduceBEq ]) (by simp only [aq, Nat.reduceBEq ]))
 simp +contextual -implicitDefEqProofs (maxSteps := 1000000) (maxDischargeDepth := 8) only [hd, ax, ab, implies_true, simprocAttr]
theorem FF : cR B K rG [.ae, .ae] = some (.bool true) := by
 rw [eE (by simp [dA])]
 generalize hL : exec (UT B K) (aE.loop cP) = L
 simp +contextual -implicitDefEqProofs (maxSteps := 1000000) (maxDischargeDepth := 8) only [dA, ax, ab, implies_true, simprocAttr]
 subst hL;rw [eB];simp +contextual -implicitDefEqProofs (maxSteps := 1000000) (maxDischargeDepth := 8) only [cP, ax, ab, implies_true, simprocAttr]
theorem Oo {l : List Tok} (hl : l.length < 1000000) (hj : (eH l).length <= 1000000) {fr : Fr} {m0 : Mem} {t : Nat} (h3 : fr.get 3 = .fz t 4 (jD l)) (h5 : fr.get 5 = .str []) (h6 : fr.get 6 = .int .i64 0) (hd : fr.defers = []) :
  ∃ o, exec U (.loop dZ) fr m0 = some o /\ ∃ fr', o = .exit 0 fr' m0 /\ fr'.get 5 = .str (eH l) /\ fr'.get 0 = fr.get 0 /\ fr'.get 4 = fr.get 4 /\ fr'.defers = [] := by
 refine iE (σ := Nat) (fun i f m => m = m0 /\ i <= l.length /\ f.get 3 = .fz t 4 (jD l) /\ f.get 5 = .str (eH (l.take i)) /\ f.get 6 = .int .i64 (i : Int) /\ f.defers = [] /\ f.get 0 = fr.get 0 /\ f.get 4 = fr.get 4) (fun i => l.length - i) _ ?_ 0 fr m0
  ⟨rfl, ml _, h3, h5, h6, hd, rfl, rfl⟩
 rintro i f m ⟨rfl, hi, h3, h5, h6, hd, k0, k4⟩
 generalize hX : exec U dZ f m = X
 by_cases bn : i < l.length
 ·have hc : (i : Int) < (l.length : Int) := by omega
  have hti : l[i]? = some l[i] := nc bn
  have hw := cQ (i := i) (by omega)
  have e1 : eH (l.take (i + 1)) = eH (l.take i) ++ l[i].text ++ o6 := by
   rw [List.take_add_one, hti];exact (Eu _ _).trans (List.append_assoc _ _ _).symm
  have hle := FM l (i + 1)
  generalize l[i] = t at *
  have c1 := Ku (a := eH (l.take i)) (b := t.text) (by rw [e1, jz, jz] at hle; omega) rfl
  have c2 := Ku (a := eH (l.take i) ++ t.text) (b := [9, 35, 125, 10]) (by rw [e1, jz] at hle; show _ + o6.length <= _; omega) e1.symm
  simp +contextual -implicitDefEqProofs (maxSteps := 1000000) (maxDischargeDepth := 8) only [dZ, h3, h5, h6, hd, hc, hw, hti, bn, c1, c2, IV, AB, b9, Tok.cells, ax, ab, implies_true, simprocAttr] at hX
  subst hX;exact eR (i + 1) (by omega) ⟨rfl, by omega, by simp only [h3, aq, Nat.reduceBEq ], by simp only [aq, Nat.reduceBEq ], by simp only [aq, Nat.reduceBEq ], by simp only [hd, aq, Nat.reduceBEq ], by simp only [k0, aq, Nat.reduceBEq ], by simp only [k4, aq, Nat.reduceBEq ]⟩
 ·have hc : ¬ (i : Int) < (l.length : Int) := by omega
  obtain rfl : i = l.length := by omega
  rw [List.take_length] at h5;simp +contextual -implicitDefEqProofs (maxSteps := 1000000) (maxDischargeDepth := 8) only [dZ, h3, h6, hd, hc, AB, ax, ab, implies_true, simprocAttr] at hX
  subst hX;exact eS ⟨_, rfl, by simp only [h5, aq, Nat.reduceBEq ], by simp only [k0, aq, Nat.reduceBEq ], by simp only [k4, aq, Nat.reduceBEq ], by simp only [hd, aq, Nat.reduceBEq ]⟩
theorem BG {s : bK} : cR B K lJ [.str s] = some (.bool true) := by
 rw [eE (by simp [cC])]
 generalize hL0 : exec (UT B K) (aE.loop dZ) = L0
 have Y7 : ∀ M, run U 8 [] M = some (.ret (.bool true) M) := fun M => K5
 by_cases h6 : 1000 < s.length
 ·have hc : (1000 : Int) < (s.length : Int) := by omega
  simp +contextual -implicitDefEqProofs (maxSteps := 1000000) (maxDischargeDepth := 8) only [cC, hc, Y7, ax, ab, implies_true, simprocAttr]
 ·have hc : ¬ (1000 : Int) < (s.length : Int) := by omega
  have WO := Oq (s := s) (by omega)
  have Ut := Gl (s := s) (by omega) (fun l h => (Er h).1) (fun e p h => HM h)
  unfold Ht at Ut
  cases hx : ta s with
  | bad e p =>
   have he := HM hx
   have iM : ¬ ((e : Int) = 0) := by omega
   rw [hx] at WO;simp only [BM] at WO;generalize hX : TC _ = X
   simp +contextual -implicitDefEqProofs (maxSteps := 1000000) (maxDischargeDepth := 8) only [cC, hc, Y7, WO, iM, ax, ab, implies_true, simprocAttr] at hX
   exact hX.symm
  | ok l =>
   obtain ⟨ht, hg, VJ⟩ := Er hx
   rw [hx] at WO Ut;simp only [BM] at WO Ut;obtain ⟨Zf, l', Nc, her⟩ := OZ (by omega) hx
   obtain ⟨sfe, Xf⟩ := OG her
   have HU := Gl (s := eH l) (by omega) (fun l h => (Er h).1) (fun e p h => HM h)
   unfold Ht at HU
   rw [Nc] at HU
   simp only at HU
   obtain ⟨pa, pb⟩ := SQ ht hg
   generalize jk l = pf at *
   generalize jk l' = pf' at *
   unfold MJ at Ut HU
   rw [sfe] at HU
   generalize hX : TC _ = X
   simp +contextual -implicitDefEqProofs (maxSteps := 1000000) (maxDischargeDepth := 8) only [cC, hc, WO, ax, ab, implies_true, simprocAttr] at hX
   subst hL0;generalize hC : exec _ (.loop dZ) _ _ = C at hX
   obtain ⟨o, rfl, fr', rfl, f5, f0, f4, fd⟩ := iD hC (Oo (l := l) (t := 0) (by omega) (by omega) (by simp only [aq, Nat.reduceBEq ]) (by simp only [aq, Nat.reduceBEq ]) (by simp only [aq, Nat.reduceBEq ]) (by simp only [aq, Nat.reduceBEq ]))
   clear hC;simp only [aq, Nat.reduceBEq ] at f0 f4;by_cases ji : pf.fe = 0
   ·rw [if_pos ji] at Ut HU
    have hP := pa ji
    have LN := Hj (t := 1) (t' := 2) Xf (by have := hP.small; omega) (fun d hd => by have h1 := (Q6 hd).length_le; have h2 := hP.whole.1.2.2.1; have := hP.small; omega)
    simp +contextual -implicitDefEqProofs (maxSteps := 1000000) (maxDischargeDepth := 8) only [f0, f5, f4, fd, Ut, HU, LN, Y7, ax, ab, implies_true, simprocAttr] at hX
    exact hX.symm
   ·rw [if_neg ji] at Ut HU
    have LN := FF
    simp +contextual -implicitDefEqProofs (maxSteps := 1000000) (maxDischargeDepth := 8) only [f0, f5, f4, fd, Ut, HU, LN, Y7, ax, ab, implies_true, simprocAttr] at hX
    exact hX.symm
theorem parseTokens_run {m : Mem} {es : List EV} {ds : List Dt} (hm : Sc m) (hg : mG (still m)) (h : sg m [.str] es ds) : ∃ m', run T lJ es m = some (.ret (.bool true) m') := by
 obtain ⟨us, hu, hl⟩ := Q4 aco (f := lJ) (F := cC) (cf.has (T := B)) hm h rfl hg
 obtain ⟨e, d, q9, vj, rfl, _, h1, hu⟩ := hu.one
 obtain rfl := hu.none
 obtain ⟨s, rfl, _⟩ := We h1
 exact hl BG
end
end Go.Proofs.YtdiccmapankckaaDoor.Ev
