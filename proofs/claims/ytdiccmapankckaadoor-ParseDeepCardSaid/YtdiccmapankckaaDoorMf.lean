/- EvRec, EvArgs, EvIn, EvFzIn, EvSlice, EvRow, EvUp, EvS, EvA, EvLoop, EvIx, EvA0, EvU. -/
import Derived.WideShapes
import Derived.Deep.Slices
import Derived.Test.YtdiccmapankckaaDoorMe
set_option linter.unusedSimpArgs false
set_option linter.unusedVariables false
set_option linter.unusedSectionVars false
set_option linter.defProp false
set_option maxRecDepth 20000
set_option maxHeartbeats 8000000
namespace Go.Proofs.YtdiccmapankckaaDoor.Ev
open Go
section
def PT (T : Nat -> Option iz) (K : Nat -> Nat) (P : Nat -> List EV -> Option EV) (f : Nat) : Option iz := match K f with
 | 0 => T f
 | 1 => some (.spec (kf (P f)))
 | _ => some (.spec (ke (P f)))
noncomputable def PF (T : Nat -> Option iz) (K : Nat -> Nat) : Nat -> Nat -> List EV -> Option EV
 | 0, _, _ => none
 | k + 1, f, eQ => match T f with
  | some (.go F) => qI (PT T K (PF T K k)) F eQ
  | _ => none
noncomputable def bA (T : Nat -> Option iz) (K : Nat -> Nat) (f : Nat) (eQ : List EV) : Option EV := Sq fun k => PF T K k f eQ
noncomputable def UT (T : Nat -> Option iz) (K : Nat -> Nat) : Nat -> Option iz := PT T K (bA T K)
def Y3 (P P' : Nat -> List EV -> Option EV) : Prop := ∀ f eQ V, P f eQ = some V -> P' f eQ = some V
theorem Of {g g' : List EV -> Option EV} (h : ∀ eQ V, g eQ = some V -> g' eQ = some V) {args : List EV} {m : Mem} {r : Fin} (e : kf g args m = some r) : kf g' args m = some r := by
 unfold kf at e ⊢
 cases hf : cB deep m args with
 | none => simp [hf] at e
 | some eQ =>
  simp only [hf] at e ⊢
  cases hv : g (gy 1 eQ) with
  | none => simp [hv] at e
  | some V => rw [h _ _ hv]; simp only [hv] at e ⊢; exact e
theorem Oe {g g' : List EV -> Option EV} (h : ∀ eQ V, g eQ = some V -> g' eQ = some V) {args : List EV} {m : Mem} {r : Fin} (e : ke g args m = some r) : ke g' args m = some r := by
 unfold ke at e ⊢
 cases hc : fK args <;> simp only [hc, cond_true, cond_false, reduceCtorEq] at e ⊢
 cases hf : cB deep m args with
 | none => simp [hf] at e
 | some eQ =>
  simp only [hf] at e ⊢
  cases hv : g (gy 1 eQ) with
  | none => simp [hv] at e
  | some V => rw [h _ _ hv]; simp only [hv] at e ⊢; exact e
theorem E9 {T : Nat -> Option iz} {K : Nat -> Nat} {P P' : Nat -> List EV -> Option EV} (h : Y3 P P') : ∀ n, nR (aS (PT T K P) n) (aS (PT T K P') n)
 | 0 => fun f a m r e => by simp [aS] at e
 | n + 1 => fun f a m r e => by
  simp only [aS] at e ⊢
  rcases hK : K f with _ | _ | q <;> simp only [PT, hK] at e ⊢
  ·cases hT : T f with
   | none => simp [hT] at e
   | some x =>
    simp only [hT] at e ⊢
    cases x with
    | go F => simp only [iq] at e ⊢; exact oP (E9 h n) (fh _) e
    | ext g => exact e
    | pure g => exact e
    | spec g => exact e
    | NA F D => simp only [iq] at e ⊢; exact EL (E9 h n) (fh _) e
  ·simp only [iq] at e ⊢; exact Of (h f) e
  ·simp only [iq] at e ⊢; exact Oe (h f) e
theorem J7 {T1 T2 : Nat -> Option iz} (h : ∀ n, nR (aS T1 n) (aS T2 n)) {F : ax} {eQ : List EV} {V : EV} (e : qI T1 F eQ = some V) : qI T2 F eQ = some V := by
 obtain ⟨n, v, m, hb, hf⟩ := A3 e
 exact Ae (oP (h n) (fh _) hb) hf
theorem NM {T : Nat -> Option iz} {K : Nat -> Nat} : ∀ k, Y3 (PF T K k) (PF T K (k + 1))
 | 0 => fun f eQ V e => by simp [PF] at e
 | k + 1 => fun f eQ V e => by
  simp only [PF] at e ⊢
  cases hT : T f with
  | none => simp [hT] at e
  | some x =>
   cases x with
   | go F => simp only [hT] at e ⊢; exact J7 (E9 (NM k)) e
   | ext g => simp [hT] at e
   | pure g => simp [hT] at e
   | spec g => simp [hT] at e
   | NA F D => simp [hT] at e
theorem NN {T : Nat -> Option iz} {K : Nat -> Nat} {k k' : Nat} (h : k <= k') : Y3 (PF T K k) (PF T K k') := by
 induction h with
 | refl => exact fun _ _ _ e => e
 | step _ ih => exact fun f eQ V e => NM _ f eQ V (ih f eQ V e)
theorem S7 {T : Nat -> Option iz} {K : Nat -> Nat} {f : Nat} {eQ : List EV} : Fa fun k => PF T K k f eQ := fun _ _ _ h e => NN h f eQ _ e
theorem mv {T : Nat -> Option iz} {K : Nat -> Nat} {f : Nat} {eQ : List EV} {V : EV} : bA T K f eQ = some V ↔ ∃ k, PF T K k f eQ = some V := qj S7
section
variable {c : Call} {ck : Nat -> Call} (hm : ∀ k k', k <= k' -> nR (ck k) (ck k')) (hc : ∀ f a m r, c f a m = some r -> ∃ k, ck k f a m = some r)
include hm hc
theorem EK {fv : EV} {a : List EV} {m : Mem} {r : Fin} (e : fM c fv a m = some r) : ∃ k, fM (ck k) fv a m = some r := by
 cases fv <;> simp only [fM, reduceCtorEq] at e ⊢
 exact hc _ _ _ _ e
theorem rU : ∀ (ops : List aY) (fr : Fr) (m : Mem) (r : Out), gQ c ops fr m = some r -> ∃ k, gQ (ck k) ops fr m = some r
 | [], fr, m, r, e => ⟨0, e⟩
 | o :: ops, fr, m, r, e => by
  simp only [gQ] at e ⊢
  cases hw : bf fr o.guard with
  | none => simp [hw] at e
  | some b =>
  cases b with
  | false => simp only [hw] at e ⊢; exact rU ops _ _ _ e
  | true =>
   simp only [hw] at e ⊢
   cases ho : o.op with
   | val op =>
    simp only [ho] at e ⊢
    cases hv : aA fr.eval op m with
    | none => simp [hv] at e
    | some q => obtain ⟨v, m1⟩ := q; simp only [hv] at e ⊢; exact rU ops _ _ _ e
   | call f args =>
    simp only [ho] at e ⊢
    cases hv : fM c (fr.eval f) (args.map fr.eval) m with
    | none => simp [hv] at e
    | some q =>
     obtain ⟨k1, h1⟩ := EK hm hc hv
     cases q with
     | ret v m1 =>
      simp only [hv] at e;obtain ⟨k2, h2⟩ := rU ops _ _ _ e
      refine ⟨max k1 k2, ?_⟩
      rw [wI (hm k1 _ (Nat.le_max_left _ _)) h1];exact pn (hm k2 _ (Nat.le_max_right _ _)) _ _ _ _ h2
     | gD v m1 => simp only [hv] at e; exact ⟨k1, by rw [h1]; exact e⟩
   | panic x => simp only [ho] at e ⊢; exact ⟨0, e⟩
   | defer f args =>
    simp only [ho] at e ⊢
    split at e
    ·rename_i hx
     obtain ⟨k, h⟩ := rU ops _ _ _ e
     exact ⟨k, h⟩
    ·cases e
theorem jN {chk : List (Nat × Nat)} {B0 : Nat} : ∀ (ops : List aY) (i : Nat) (fr : Fr) (m : Mem) (sn : List (Nat × Mem)) (se : List Seen) (r : Out), dG c chk B0 ops i fr m sn se = some r -> ∃ k, dG (ck k) chk B0 ops i fr m sn se = some r
 | [], i, fr, m, sn, se, r, e => ⟨0, e⟩
 | o :: ops, i, fr, m, sn, se, r, e => by
  simp only [dG] at e ⊢
  cases hw : bf fr o.guard with
  | none => simp [hw] at e
  | some b =>
  cases b with
  | false => simp only [hw] at e ⊢; exact jN ops _ _ _ _ _ _ e
  | true =>
   simp only [hw] at e ⊢
   cases ho : o.op with
   | val op =>
    simp only [ho] at e ⊢
    split at e
    ·cases hv : aA fr.eval op m with
     | none => simp [hv] at e
     | some q => obtain ⟨v, m1⟩ := q; simp only [hv] at e ⊢; exact jN ops _ _ _ _ _ _ e
    ·cases hv : aA fr.eval op ⟨B0 + i, m.gB⟩ with
     | none => simp [hv] at e
     | some q => obtain ⟨v, m1⟩ := q; simp only [hv] at e ⊢; exact jN ops _ _ _ _ _ _ e
    ·split at e
     ·rename_i agg x _
      cases hl : m.load agg (fr.eval x) with
      | none => simp [hl] at e
      | some v =>
       simp only [hl] at e ⊢
       cases hf : Gk (fr.eval x) <;> simp only [hf, cond_true, cond_false] at e ⊢
       ·cases hk : bG chk i agg (fr.eval x) v sn <;> simp only [hk, cond_true, cond_false, reduceCtorEq] at e ⊢
        exact jN ops _ _ _ _ _ _ e
       ·cases hk : dL chk i m.next sn <;> simp only [hk, cond_true, cond_false, reduceCtorEq] at e ⊢
        exact jN ops _ _ _ _ _ _ e
     ·cases e
    ·rename_i h0 h1 h2
     cases hv : aA fr.eval op m with
     | none => simp [hv] at e
     | some q =>
      obtain ⟨v, m1⟩ := q
      simp only [hv] at e ⊢
      cases hk : aX chk i m1 se <;> simp only [hk, cond_true, cond_false, reduceCtorEq] at e ⊢
      exact jN ops _ _ _ _ _ _ e
   | call f args =>
    simp only [ho] at e ⊢
    cases hv : fM c (fr.eval f) (args.map fr.eval) m with
    | none => simp [hv] at e
    | some q =>
     obtain ⟨k1, h1⟩ := EK hm hc hv
     cases q with
     | ret v m1 =>
      simp only [hv] at e
      cases hk : aX chk i m1 se <;> simp only [hk, cond_true, cond_false, reduceCtorEq] at e
      obtain ⟨k2, h2⟩ := jN ops _ _ _ _ _ _ e
      refine ⟨max k1 k2, ?_⟩
      rw [wI (hm k1 _ (Nat.le_max_left _ _)) h1];simp only [hk, cond_true];exact jv (hm k2 _ (Nat.le_max_right _ _)) _ _ _ _ _ _ _ h2
     | gD v m1 => simp [hv] at e
   | panic x => simp [ho] at e
   | defer f args => simp [ho] at e
theorem Jh {n : Nat} {a : aH} (ha : ∀ fr m r, ao c n a fr m = some r -> ∃ k, ao (ck k) n a fr m = some r) : ∀ (j : Nat) (fr : Fr) (m : Mem) (r : Out), iter (ao c n a) j fr m = some r -> ∃ k, iter (ao (ck k) n a) j fr m = some r
 | 0, fr, m, r, e => by simp [iter] at e
 | j + 1, fr, m, r, e => by
  simp only [iter] at e ⊢
  cases hb : ao c n a fr m with
  | none => simp [hb] at e
  | some o =>
   obtain ⟨k1, h1⟩ := ha _ _ _ hb
   simp only [hb] at e
   cases o with
   | norm fT m1 =>
    obtain ⟨k2, h2⟩ := Jh ha j fT m1 r e
    refine ⟨max k1 k2, ?_⟩
    rw [eY (hm k1 _ (Nat.le_max_left k1 k2)) (fh _) _ _ _ _ h1];exact zb (fun fr m r e => eY (hm k2 _ (Nat.le_max_right k1 k2)) (fh _) _ _ _ _ e) j j (fh _) _ _ _ h2
   | exit id fT m1 => exact ⟨k1, by rw [h1]; exact e⟩
   | ret fT m1 => exact ⟨k1, by rw [h1]; exact e⟩
   | gD v fT m1 => exact ⟨k1, by rw [h1]; exact e⟩
theorem jm {n : Nat} : ∀ (x : aH) (fr : Fr) (m : Mem) (r : Out), ao c n x fr m = some r -> ∃ k, ao (ck k) n x fr m = some r
 | .skip, fr, m, r, e => ⟨0, e⟩
 | .ret, fr, m, r, e => ⟨0, e⟩
 | .exit id, fr, m, r, e => ⟨0, e⟩
 | .region ops, fr, m, r, e => by simp only [ao] at e ⊢; exact rU hm hc _ _ _ _ e
 | .draw ops chk, fr, m, r, e => by simp only [ao] at e ⊢; exact jN hm hc _ _ _ _ _ _ _ e
 | .seq a b, fr, m, r, e => by
  simp only [ao] at e ⊢
  cases ha : ao c n a fr m with
  | none => simp [ha] at e
  | some o =>
   obtain ⟨k1, h1⟩ := jm a _ _ _ ha
   simp only [ha] at e
   cases o with
   | norm fT m1 =>
    obtain ⟨k2, h2⟩ := jm b _ _ _ e
    refine ⟨max k1 k2, ?_⟩
    rw [eY (hm k1 _ (Nat.le_max_left k1 k2)) (fh _) _ _ _ _ h1];exact eY (hm k2 _ (Nat.le_max_right k1 k2)) (fh _) _ _ _ _ h2
   | exit id fT m1 => exact ⟨k1, by rw [h1]; exact e⟩
   | ret fT m1 => exact ⟨k1, by rw [h1]; exact e⟩
   | gD v fT m1 => exact ⟨k1, by rw [h1]; exact e⟩
 | .cond x a b, fr, m, r, e => by
  simp only [ao] at e ⊢
  split at e
  ·rename_i t _
   cases t <;> simp only [cond_true, cond_false] at e ⊢
   ·exact jm b _ _ _ e
   ·exact jm a _ _ _ e
  ·cases e
 | .block id a, fr, m, r, e => by
  simp only [ao] at e ⊢
  cases ha : ao c n a fr m with
  | none => simp [ha] at e
  | some o =>
   obtain ⟨k1, h1⟩ := jm a _ _ _ ha
   simp only [ha] at e;exact ⟨k1, by rw [h1]; exact e⟩
 | .loop a, fr, m, r, e => by
  simp only [ao] at e ⊢
  exact Jh hm hc (fun fr m r => jm a fr m r) n fr m r e
theorem xS {n : Nat} {F : ax} {args : List EV} {m : Mem} {r : Fin} (e : dr c n F args m = some r) : ∃ k, dr (ck k) n F args m = some r := by
 unfold dr at e ⊢
 cases hl : args.length.ble F.ntmps <;> simp only [hl, cond_true, cond_false, reduceCtorEq] at e ⊢
 cases Ku : ao c n F.body ⟨cJ args 0 .leaf, []⟩ m with
 | none => simp [Ku] at e
 | some o =>
  obtain ⟨k, h⟩ := jm hm hc _ _ _ _ Ku
  simp only [Ku] at e;exact ⟨k, by rw [h]; exact e⟩
theorem JN {n d : Nat} {F : ax} {args : List EV} {u : Option EV} {m r : Mem} (e : fC c n d F args u m = some r) : ∃ k, fC (ck k) n d F args u m = some r := by
 unfold fC at e ⊢
 cases hl : args.length.ble F.ntmps <;> simp only [hl, cond_true, cond_false, reduceCtorEq] at e ⊢
 cases Ku : ao c n F.body (Fr.set ⟨cJ args 0 .leaf, []⟩ d (u.getD .aC)) m with
 | none => simp [Ku] at e
 | some o =>
  obtain ⟨k, h⟩ := jm hm hc _ _ _ _ Ku
  simp only [Ku] at e;exact ⟨k, by rw [h]; exact e⟩
theorem lg {n : Nat} {rs : List lV} {D : List (Nat × Option Nat × ax)} {fr : Fr} : ∀ (ds : List (Nat × List EV)) (u : Option EV) (m : Mem) (r : Fin), cN c n rs D fr ds u m = some r -> ∃ k, cN (ck k) n rs D fr ds u m = some r
 | [], none, m, r, e => ⟨0, e⟩
 | [], some v, m, r, e => ⟨0, e⟩
 | (g, args) :: ds, u, m, r, e => by
  simp only [cN] at e ⊢
  cases hd : mh g D with
  | none => simp [hd] at e
  | some q =>
   obtain ⟨b, F⟩ := q
   cases b with
   | some d =>
    simp only [hd] at e ⊢
    cases hb : fC c n d F args u m with
    | none => simp [hb] at e
    | some m1 =>
     simp only [hb] at e;obtain ⟨k1, h1⟩ := JN hm hc hb
     obtain ⟨k2, h2⟩ := lg ds none m1 r e
     refine ⟨max k1 k2, ?_⟩
     rw [xT (hm _ _ (Nat.le_max_left k1 k2)) (fh _) h1];exact ib (hm _ _ (Nat.le_max_right k1 k2)) (fh _) _ _ _ _ h2
   | none =>
    simp only [hd] at e ⊢
    cases hb : dr c n F args m with
    | none => simp [hb] at e
    | some fin =>
     simp only [hb] at e;obtain ⟨k1, h1⟩ := xS hm hc hb
     have AT : ∀ {u2 : Option EV} {m2 : Mem}, (∃ k, cN (ck k) n rs D fr ds u2 m2 = some r) -> ∃ k2, dr (ck k2) n F args m = some fin /\ cN (ck k2) n rs D fr ds u2 m2 = some r := fun ⟨k2, h2⟩ =>
      ⟨max k1 k2, oP (hm _ _ (Nat.le_max_left k1 k2)) (fh _) h1, ib (hm _ _ (Nat.le_max_right k1 k2)) (fh _) _ _ _ _ h2⟩
     cases fin with
     | ret v m1 =>
      obtain ⟨k2, g1, g2⟩ := AT (lg ds u m1 r e)
      exact ⟨k2, by simp only [g1]; exact g2⟩
     | gD v m1 =>
      cases u with
      | none =>
       obtain ⟨k2, g1, g2⟩ := AT (lg ds (some v) m1 r e)
       exact ⟨k2, by simp only [g1]; exact g2⟩
      | some x => cases e
theorem JO {n : Nat} {F : ax} {D : List (Nat × Option Nat × ax)} {args : List EV} {m : Mem} {r : Fin} (e : jn c n F D args m = some r) : ∃ k, jn (ck k) n F D args m = some r := by
 unfold jn at e ⊢
 cases hl : args.length.ble F.ntmps <;> simp only [hl, cond_true, cond_false, reduceCtorEq] at e ⊢
 cases Ku : ao c n F.body ⟨cJ args 0 .leaf, []⟩ m with
 | none => simp [Ku] at e
 | some o =>
  obtain ⟨k1, h1⟩ := jm hm hc _ _ _ _ Ku
  simp only [Ku] at e;have AT : ∀ {fr : Fr} {ds : List (Nat × List EV)} {u2 : Option EV} {m2 : Mem}, (∃ k, cN (ck k) n F.results D fr ds u2 m2 = some r) -> ∃ k2, ao (ck k2) n F.body ⟨cJ args 0 .leaf, []⟩ m = some o /\ cN (ck k2) n F.results D fr ds u2 m2 = some r := fun ⟨k2, h2⟩ =>
   ⟨max k1 k2, eY (hm _ _ (Nat.le_max_left k1 k2)) (fh _) _ _ _ _ h1, ib (hm _ _ (Nat.le_max_right k1 k2)) (fh _) _ _ _ _ h2⟩
  cases o with
  | exit id fr m1 => cases e
  | norm fr m1 =>
   obtain ⟨k2, g1, g2⟩ := AT (lg hm hc _ _ _ _ e)
   exact ⟨k2, by simp only [g1]; exact g2⟩
  | ret fr m1 =>
   obtain ⟨k2, g1, g2⟩ := AT (lg hm hc _ _ _ _ e)
   exact ⟨k2, by simp only [g1]; exact g2⟩
  | gD v fr m1 =>
   obtain ⟨k2, g1, g2⟩ := AT (lg hm hc _ _ _ _ e)
   exact ⟨k2, by simp only [g1]; exact g2⟩
end
section
variable {T : Nat -> Option iz} {K : Nat -> Nat}
theorem V5 (k : Nat) : Y3 (PF T K k) (bA T K) := fun _ _ _ e => mv.2 ⟨k, e⟩
theorem R9 : ∀ (n f : Nat) (a : List EV) (m : Mem) (r : Fin), aS (UT T K) n f a m = some r -> ∃ k, aS (PT T K (PF T K k)) n f a m = some r
 | 0, f, a, m, r, e => by simp [aS] at e
 | n + 1, f, a, m, r, e => by
  have ih := R9 n
  simp only [aS] at e ⊢
  rcases hK : K f with _ | _ | q <;> simp only [UT, PT, hK] at e ⊢
  ·cases hT : T f with
   | none => simp [hT] at e
   | some x =>
    simp only [hT] at e ⊢
    cases x with
    | go F =>
     simp only [iq] at e ⊢
     exact xS (c := aS (UT T K) n) (ck := fun k => aS (PT T K (PF T K k)) n) (fun k k' h => E9 (NN h) n) ih e
    | ext g => exact ⟨0, e⟩
    | pure g => exact ⟨0, e⟩
    | spec g => exact ⟨0, e⟩
    | NA F D =>
     simp only [iq] at e ⊢
     exact JO (c := aS (UT T K) n) (ck := fun k => aS (PT T K (PF T K k)) n) (fun k k' h => E9 (NN h) n) ih e
  ·simp only [iq] at e ⊢
   unfold kf at e ⊢
   cases hf : cB deep m a with
   | none => simp [hf] at e
   | some eQ =>
    simp only [hf] at e ⊢
    cases hv : bA T K f (gy 1 eQ) with
    | none => simp [hv] at e
    | some V =>
     obtain ⟨k, hk⟩ := mv.1 hv
     simp only [hv] at e;exact ⟨k, by simp only [hk]; exact e⟩
  ·simp only [iq] at e ⊢
   unfold ke at e ⊢
   cases oN : fK a <;> simp only [oN, cond_true, cond_false, reduceCtorEq] at e ⊢
   cases hf : cB deep m a with
   | none => simp [hf] at e
   | some eQ =>
    simp only [hf] at e ⊢
    cases hv : bA T K f (gy 1 eQ) with
    | none => simp [hv] at e
    | some V =>
     obtain ⟨k, hk⟩ := mv.1 hv
     simp only [hv] at e;exact ⟨k, by simp only [hk]; exact e⟩
theorem D7 {f : Nat} {F : ax} (hT : T f = some (.go F)) {eQ : List EV} : bA T K f eQ = qI (UT T K) F eQ := by
 refine db fun V => ⟨fun h => ?_, fun h => ?_⟩
 ·obtain ⟨k, hk⟩ := mv.1 h
  cases k with
  | zero => simp [PF] at hk
  | succ k =>
   simp only [PF, hT] at hk;exact J7 (E9 (V5 k)) hk
 ·obtain ⟨n, v, m, hb, hf⟩ := A3 h
  obtain ⟨k, hk⟩ := xS (c := aS (UT T K) n) (ck := fun k => aS (PT T K (PF T K k)) n) (fun k k' h => E9 (NN h) n) (R9 n) hb
  refine mv.2 ⟨k + 1, ?_⟩
  simp only [PF, hT];exact Ae hk hf
theorem Sd {T0 : Nat -> Option iz} (hT : ∀ f e, T f = some e -> hJ T0 f e) {P : Nat -> List EV -> Option EV} (hP : ∀ f, K f ≠ 0 -> hJ T0 f (.spec (kf (P f))) /\ hJ T0 f (.spec (ke (P f)))) : ∀ f e, PT T K P f = some e -> hJ T0 f e := by
 intro f e h
 unfold PT at h
 split at h
 ·exact hT f e h
 ·rename_i hk; cases h; exact (hP f (by omega)).1
 ·rename_i hk _; cases h; exact (hP f (by omega)).2
theorem rB {T0 : Nat -> Option iz} {f : Nat} {g : List EV -> Option EV} (h : ∀ eQ, g eQ = none) : hJ T0 f (.spec (kf g)) /\ hJ T0 f (.spec (ke g)) := by
 constructor
 ·intro θ m m' args aw fin _ _ e
  unfold kf at e
  split at e
  ·rw [h] at e; cases e
  ·cases e
 ·intro θ m m' args aw fin _ _ e
  unfold ke at e
  cases oN : fK args <;> simp only [oN, cond_true, cond_false, reduceCtorEq] at e
  split at e
  ·rw [h] at e; cases e
  ·cases e
theorem Mb {T0 : Nat -> Option iz} (hT : ∀ f e, T f = some e -> hJ T0 f e) : ∀ k f, hJ T0 f (.spec (kf (PF T K k f))) /\ hJ T0 f (.spec (ke (PF T K k f)))
 | 0, f => rB fun eQ => rfl
 | k + 1, f => by
  have ih := Sd (K := K) hT fun f _ => Mb hT k f
  cases he : T f with
  | none => exact rB fun eQ => by simp only [PF, he]
  | some e =>
   cases e with
   | go F =>
    have hE := hT f _ he
    have hp : ∀ eQ V, PF T K (k + 1) f eQ = some V -> qI (PT T K (PF T K k)) F eQ = some V := fun eQ V h => by simpa only [PF, he] using h
    obtain ⟨F0, h1, h2, rfl⟩ := hE
    exact ⟨F8 ih h1 h2 hp, Og ih h1 h2 hp⟩
   | ext g => exact rB fun eQ => by simp only [PF, he]
   | pure g => exact rB fun eQ => by simp only [PF, he]
   | spec g => exact rB fun eQ => by simp only [PF, he]
   | NA F D => exact rB fun eQ => by simp only [PF, he]
theorem Od {T0 : Nat -> Option iz} (hT : ∀ f e, T f = some e -> hJ T0 f e) (f : Nat) : hJ T0 f (.spec (kf (bA T K f))) /\ hJ T0 f (.spec (ke (bA T K f))) := by
 constructor
 ·intro θ m m' args aw fin hg ha e
  unfold kf at e
  split at e
  ·rename_i eQ hf
   cases hv : bA T K f (gy 1 eQ) with
   | none => rw [hv] at e; cases e
   | some V =>
    obtain ⟨k, hk⟩ := mv.1 hv
    refine (Mb (K := K) hT k f).1 θ m m' args aw fin hg ha ?_
    unfold kf;rw [hf]; simp only [hk]; rw [hv] at e; exact e
  ·cases e
 ·intro θ m m' args aw fin hg ha e
  unfold ke at e
  cases oN : fK args <;> simp only [oN, cond_true, cond_false, reduceCtorEq] at e
  split at e
  ·rename_i eQ hf
   cases hv : bA T K f (gy 1 eQ) with
   | none => rw [hv] at e; cases e
   | some V =>
    obtain ⟨k, hk⟩ := mv.1 hv
    refine (Mb (K := K) hT k f).2 θ m m' args aw fin hg ha ?_
    unfold ke;rw [oN, hf]; simp only [hk, cond_true]; rw [hv] at e; exact e
  ·cases e
theorem V4 {T0 : Nat -> Option iz} (hT : ∀ f e, T f = some e -> hJ T0 f e) : ∀ f e, UT T K f = some e -> hJ T0 f e := Sd hT fun f _ => Od hT f
end
theorem TK {T : Nat -> Option iz} {f : Nat} {g : List EV -> Option EV} (hf : T f = some (.ext g)) (hg : ∀ args v, g args = some v -> fq args = true /\ Flat v = true) : hJ T f (.ext g) := by
 intro θ m m' args aw v nP ha h
 obtain ⟨h1, h2⟩ := hg args v h
 have := ha.flat h1
 subst this;exact ⟨θ, .ret v m', by rw [G7 hf, h]; rfl, .ret (SV.of_flat h2) nP, .refl _ _ _⟩
open Classical in
noncomputable def kz (T : Nat -> Option iz) (F : ax) (args : List EV) (m : Mem) : Option Fin := if args.length <= F.ntmps then
 match sR F (exec T F.body ⟨cJ args 0 .leaf, []⟩ m) with
 | some (.ret v m1) => if Flat v = true /\ m.next <= m1.next /\ ∀ b, b < m.next -> m1.get b = m.get b then some (.ret v ⟨m1.next, m.gB⟩) else none
 | _ => none else none
theorem QL {T0 T1 : Nat -> Option iz} (h1 : ∀ f e, T1 f = some e -> hJ T0 f e) {f : Nat} {F : ax} (hT : T0 f = some (.go F)) (ee : ly F = true) : hJ T0 f (.spec (kz T1 F.sub)) := by
 intro θ m m' args aw fin hg ha h
 unfold kz at h
 split at h
 ·rename_i hl
  cases hr : sR F.sub (exec T1 F.sub.body ⟨cJ args 0 .leaf, []⟩ m) with
  | none => simp [hr] at h
  | some q =>
   cases q with
   | gD v m1 => simp [hr] at h
   | ret v m1 =>
    simp only [hr] at h
    split at h
    ·rename_i hc
     obtain ⟨hf, hn, hk⟩ := hc
     simp only [bc] at h;subst h;have hb : ∃ n, dr (aS T1 n) n F.sub args m = some (.ret v m1) := by
      cases hx : exec T1 F.sub.body ⟨cJ args 0 .leaf, []⟩ m with
      | none => simp [hx, sR] at hr
      | some o =>
       obtain ⟨n, hn⟩ := cg.1 hx
       refine ⟨n, ?_⟩
       rw [hx] at hr;simp only [dr, A8 hl, cond_true, hn]
       cases o <;> exact hr
     obtain ⟨n, hb⟩ := hb
     obtain ⟨θ', JJ, e, hs, ei⟩ := EZ (C6 h1 n) n hT ee hb hg ha
     cases hs with
     | @ret _ v' _ fR hv hg1 =>
      have := hv.flat hf
      subst this;have hd : ∀ b, m.next <= b -> m.get b = .dead := fun b hb => by
       refine hg.cl b ?_
       cases hr : θ.hU b with
       | none => rfl
       | some c => have := (hg.ok.hU b c hr).1; omega
      have lM : ∀ b, (⟨m1.next, m.gB⟩ : Mem).get b = m.get b := fun b => rfl
      refine ⟨θ', _, e, .ret (SV.of_flat hf) ⟨⟨⟨fun b c Rt => ?_, fun b It => ?_⟩, hg1.gN⟩, hg1.ok, hg1.Fl⟩, ⟨ei.ext, ei.hU, ei.gN, ei.n1, ei.n2, ei.rG⟩⟩
      ·rw [lM]
       by_cases bt : b < m.next
       ·rw [<- hk b bt]; exact hg1.c9 b c Rt
       ·rw [hd b (by omega)]; trivial
      ·rw [lM]
       by_cases bt : b < m.next
       ·rw [<- hk b bt]; exact hg1.cl b It
       ·exact hd b (by omega)
    ·cases h
 ·cases h
end
section
structure ul where
 c9 : Nat
 off : Nat
 total : Nat
 esz : Nat
 cs : List EV
def KC (l : List Int) : List EV := l.map (.int .u64)
def HH (b : Nat) : Nat := match tabl b with | some l => l.length | none => match FI b with | some _ => 1 | none => 0
def ka (n0 : Nat) (bs : List ul) : ep := fun b => if b < n0 then some ⟨b, 0, HH b, 1, true⟩ else (bs[b - n0]?).map fun B => ⟨B.c9, B.off, B.total, B.esz, true⟩
def Mk : List ul -> Nat -> Tr fQ -> Tr fQ
 | [], _, t => t
 | B :: r, i, t => Mk r (i + 1) (t.set i (.cells B.cs B.esz 0 true))
def PU : List (Nat × List Int) -> Tr fQ
 | [] => .leaf
 | (g, l) :: r => (PU r).set g (.cells (KC l) 1 0 true)
theorem Ix {b : Nat} : ∀ ts : List (Nat × List Int), (PU ts).get b = (tabIn ts b).map fun l => .cells (KC l) 1 0 true
 | [] => by simp only [PU, tabIn, Tr.zp, Option.map_none]
 | (g, l) :: r => by
  simp only [PU, tabIn];rw [Tr.bW];by_cases h : b = g
  ·rw [if_pos h, if_pos h]; rfl
  ·rw [if_neg h, if_neg h]; exact Ix r
def Rx (n0 : Nat) : List (Nat × List (List UInt8)) -> Nat -> Tr fQ
 | [], _ => PU WT
 | (g, l) :: r, j => (Rx n0 r (j + 1)).set g (.cells [.slice (n0 + j) 0 l.length none] 1 0 true)
def u0 : List (Nat × List (List UInt8)) -> Nat -> Nat -> Option (Nat × List (List UInt8))
 | [], _, _ => none
 | (g, l) :: r, j, b => if b = g then some (j, l) else u0 r (j + 1) b
theorem EB {n0 : Nat} : ∀ (gs : List (Nat × List (List UInt8))) (j b : Nat), (Rx n0 gs j).get b = (match u0 gs j b with | some p => some (.cells [.slice (n0 + p.1) 0 p.2.length none] 1 0 true) | none => (tabl b).map fun l => .cells (KC l) 1 0 true)
 | [], _, b => by simp only [Rx, u0, Ix, tabl]
 | (g, l) :: r, j, b => by
  simp only [Rx, u0];rw [Tr.bW];by_cases h : b = g
  ·rw [if_pos h, if_pos h]
  ·rw [if_neg h, if_neg h]; exact EB r (j + 1) b
theorem tl {b : Nat} : ∀ (gs : List (Nat × List (List UInt8))) (j : Nat), (u0 gs j b).map (·.2) = HI gs b
 | [], _ => rfl
 | (g, l) :: r, j => by
  simp only [u0, HI];by_cases h : b = g
  ·rw [if_pos h, if_pos h]; rfl
  ·rw [if_neg h, if_neg h]; exact tl r (j + 1)
theorem zo {b p : Nat} {l : List (List UInt8)} : ∀ (gs : List (Nat × List (List UInt8))) (j : Nat), u0 gs j b = some (p, l) -> j <= p /\ gs[p - j]? = some (b, l)
 | [], _, h => by cases h
 | (g, x) :: r, j, h => by
  simp only [u0] at h;by_cases e : b = g
  ·rw [if_pos e] at h; cases h; subst e; exact ⟨fh _, by rw [Nat.sub_self]; rfl⟩
  ·rw [if_neg e] at h
   obtain ⟨h1, h2⟩ := zo r (j + 1) h
   refine ⟨by omega, ?_⟩
   rw [show p - j = (p - (j + 1)) + 1 by omega]; exact h2
def gG (n0 : Nat) (bs : List ul) : Mem := ⟨n0 + bs.length, Mk bs n0 (Rx n0 globs 0)⟩
theorem vD : ∀ (bs : List ul) (i : Nat) (t : Tr fQ) (b : Nat), (Mk bs i t).get b = if i <= b /\ b < i + bs.length then (bs[b - i]?).map (fun B => .cells B.cs B.esz 0 true) else t.get b
 | [], i, t, b => by rw [if_neg (fun h => by have := h.2; simp at this; omega)]; rfl
 | B :: bs, i, t, b => by
  simp only [Mk];rw [vD bs (i + 1) _ b, Tr.bW];by_cases h : b = i
  ·subst h
   rw [if_neg (by omega), if_pos rfl, if_pos (by simp)];simp
  ·by_cases h2 : i + 1 <= b /\ b < i + 1 + bs.length
   ·rw [if_pos h2, if_pos (by simp; omega), show b - i = (b - (i + 1)) + 1 by omega]
    simp
   ·rw [if_neg h2, if_neg h, if_neg (by simp; omega)]
theorem Eo {n0 : Nat} {bs : List ul} {i : Nat} {B : ul} (h : bs[i]? = some B) : (gG n0 bs).get (n0 + i) = .cells B.cs B.esz 0 true := by
 have bt := (rc.1 h).1
 unfold Mem.get gG;simp only
 rw [vD, if_pos (by omega), show n0 + i - n0 = i by omega, h]
 rfl
theorem AL {n0 : Nat} {bs : List ul} {b : Nat} (h : b < n0) : (gG n0 bs).get b = (match u0 globs 0 b with | some p => some (fQ.cells [.slice (n0 + p.1) 0 p.2.length none] 1 0 true) | none => (tabl b).map fun l => .cells (KC l) 1 0 true).getD .dead := by
 unfold Mem.get gG;simp only
 rw [vD, if_neg (by omega), EB]
theorem En {n0 : Nat} {bs : List ul} {b : Nat} (hl : (∀ p ∈ globs, p.1 < n0) /\ ∀ g l, tabl g = some l -> g < n0) (h : n0 + bs.length <= b) : (gG n0 bs).get b = .dead := by
 unfold Mem.get gG;simp only
 rw [vD, if_neg (by omega), EB]
 cases hf : u0 globs 0 b with
 | none =>
  cases ht : tabl b with
  | none => rfl
  | some l => have := hl.2 _ _ ht; omega
 | some p =>
  obtain ⟨p, l⟩ := p
  have h2 := (zo _ _ hf).2
  have := hl.1 _ (List.mem_of_getElem? h2)
  omega
theorem Jm {n0 : Nat} {bs : List ul} {i : Nat} {B : ul} (h : bs[i]? = some B) : ka n0 bs (n0 + i) = some ⟨B.c9, B.off, B.total, B.esz, true⟩ := by
 unfold ka;rw [if_neg (by omega), show n0 + i - n0 = i by omega, h]
 rfl
theorem Jl {n0 : Nat} {bs : List ul} : ∀ b L, ka n0 bs b = some L -> L.ro = true := by
 intro b L h
 unfold ka at h
 split at h
 ·cases h; rfl
 ·obtain ⟨B, _, rfl⟩ := j6.1 h; rfl
def V6 (w : World) (n0 : Nat) (bs : List ul) : Prop := ∀ (i : Nat) (B : ul), bs[i]? = some B -> ∃ (arr : Array Value) (e : TypeId) (fz : Nat × Nat), w.heap[B.c9]? = some (.cells arr e fz) /\ arr.size = B.total /\ B.off + B.cs.length <= B.total /\
 ∀ (j : Nat) (v : EV), B.cs[j]? = some v -> ∃ v', arr[B.off + j]? = some v' /\ VR (ka n0 bs) v v' /\ v'.oneCell' = true
def TFact (w : World) (g : Nat) (l : List Int) : Prop := FI g = none /\ ∃ (arr : Array Value) (e : TypeId) (fz : Nat × Nat), w.heap[g]? = some (.cells arr e fz) /\ arr.toList = l.map (Value.int .u64)
def Ii (w : World) (n0 : Nat) (bs : List ul) : Prop := ((∀ p ∈ globs, p.1 < n0) /\ ∀ g l, tabl g = some l -> g < n0) /\ (∀ g l, tabl g = some l -> TFact w g l) /\ ∀ (j g : Nat) (l : List (List UInt8)), globs[j]? = some (g, l) ->
 (∃ (arr : Array Value) (e : TypeId) (fz : Nat × Nat) (v' : Value), w.heap[g]? = some (.cells arr e fz) /\ arr.size = 1 /\ arr[0]? = some v' /\ VR (ka n0 bs) (.slice (n0 + j) 0 l.length none) v' /\ v'.oneCell' = true) /\
 ∃ B, bs[j]? = some B /\ B.cs = l.map .str /\ B.esz = 1
theorem aaP {w : World} {n0 : Nat} {bs : List ul} (h : V6 w n0 bs) (hg : Ii w n0 bs) : R w.heap.size (ka n0 bs) (gG n0 bs) w := by
 have R0 : ∀ b L, ka n0 bs b = some L -> (b < n0 /\ L = ⟨b, 0, HH b, 1, true⟩) \/ ∃ i B, b = n0 + i /\ bs[i]? = some B := by
  intro b L hb
  unfold ka at hb
  split at hb
  ·cases hb; exact .inl ⟨‹_›, rfl⟩
  ·obtain ⟨B, hB, rfl⟩ := j6.1 hb
   exact .inr ⟨b - n0, B, by omega, hB⟩
 refine ⟨fun b L hb => ?_, fun b L hb => ?_, fun b c L L' h1 _ _ _ h5 => ?_, fh _, fun b hb => En hg.1 hb⟩
 ·rcases R0 b L hb with ⟨bt, _⟩ | ⟨i, B, rfl, hB⟩
  ·show b < n0 + bs.length; omega
  ·have := (rc.1 hB).1; show n0 + i < n0 + bs.length; omega
 ·rcases R0 b L hb with ⟨bt, rfl⟩ | ⟨i, B, rfl, hB⟩
  ·rw [AL bt]
   cases hf : u0 globs 0 b with
   | none =>
    cases ht : tabl b with
    | none => trivial
    | some l =>
     obtain ⟨hgn, arr, e, fz, h1, h2⟩ := hg.2.1 b l ht
     have uf : arr.size = l.length := by rw [<- Array.length_toList, h2, List.length_map]
     have Xo : HH b = l.length := by unfold HH; rw [ht]
     refine ⟨arr, e, fz, h1, by rw [Xo]; exact uf, rfl, rfl, by rw [Xo]; show 0 + (KC l).length <= l.length; simp [KC], fun i v hv => ?_, (fun e => by cases e), fun _ => (Array.getElem?_eq_some_iff.1 h1).1⟩
     unfold KC at hv;rw [List.getElem?_map] at hv;obtain ⟨n, hn, rfl⟩ := j6.1 hv
     refine ⟨.int .u64 n, ?_, .int _ _, rfl⟩
     rw [<- Array.getElem?_toList, h2, List.getElem?_map, show 0 + i = i by omega, hn]; rfl
   | some p =>
    obtain ⟨p, l⟩ := p
    have h2 := (zo _ _ hf).2
    rw [Nat.sub_zero] at h2;obtain ⟨⟨arr, e, fz, v', h1, h3, h4, h5, h6⟩, _⟩ := hg.2.2 p b l h2
    have ht : HH b = 1 := by
     have := tl (b := b) globs 0
     rw [hf] at this;have tn : tabl b = none := by
      cases e : tabl b with
      | none => rfl
      | some l' => have := (hg.2.1 b l' e).1; unfold FI at this; simp_all
     unfold HH FI;rw [tn, <- this]; rfl
    refine ⟨arr, e, fz, h1, by rw [ht]; exact h3, rfl, rfl, by show 0 + 1 <= HH b; rw [ht]; exact fh _, fun i v hv => ?_, (fun e => by cases e), fun _ => (Array.getElem?_eq_some_iff.1 h1).1⟩
    cases i with
    | zero => simp only [List.getElem?_cons_zero, bc] at hv; subst hv; exact ⟨v', h4, h5, h6⟩
    | succ i => simp at hv
  ·rw [Eo hB]
   rw [Jm hB] at hb
   cases hb
   obtain ⟨arr, e, fz, h1, h2, h3, h4⟩ := h i B hB
   exact ⟨arr, e, fz, h1, h2, rfl, rfl, h3, h4, (fun e => by cases e), fun _ => (Array.getElem?_eq_some_iff.1 h1).1⟩
 ·rw [Jl b L h1] at h5; cases h5
theorem aaQ {n0 : Nat} {bs : List ul} {G : List Nat} (h : ∀ g, G.contains g = true -> g < n0) : jt G (ka n0 bs) := fun g hg => ⟨⟨g, 0, HH g, 1, true⟩, by unfold ka; rw [if_pos (h g hg)], rfl, rfl, fun l hl => by unfold HH; simp only [hl]⟩
theorem Jk {n0 : Nat} {bs : List ul} {i : Nat} {B : ul} (h : bs[i]? = some B) {a : Addr} (hb : a.block = B.c9) (hs : a.spot = none) {len cap : Nat} (hl : len <= cap) (ho : 0 < len -> a.off = B.off) : VR (ka n0 bs) (.slice (n0 + i) 0 len none) (.slice (some a) len cap) := by
 obtain ⟨c9, off, spot⟩ := a
 cases hs; cases hb
 exact .slice (Jm h) hl (fun hh => by have := ho hh; simpa using this) (fun e => by cases e)
theorem law_walk {P : Program} {G : List Nat} (iv : P.follows .mixedOrders = true) {T : Nat -> Option iz} (hT : ∀ f e, T f = some e -> Ki P G f e) {f : Nat} {F : ax} (hf : T f = some (.go F)) {n0 : Nat} (hG : ∀ g, G.contains g = true -> g < n0)
  {w : World} {bs : List ul} (hb : V6 w n0 bs) (Rq : Ii w n0 bs) {args : List EV} {aw : Array Value} (hv : ft (ka n0 bs) args aw.toList) {b : Bool} {m' : Mem} (h : run T f args (gG n0 bs) = some (.ret (.bool b) m')) :
  Calls P f aw w fun e w' => e = .returned (.bool b) /\ Go.RowKit.Below w.heap.size w w' := by
 obtain ⟨k, hk⟩ := mQ.1 h
 exact OF iv hT hf hk (aaP hb Rq) (aaQ hG) (fun b L h _ => Jl b L h) hv
end
section
open Go Go.Deep
inductive Sh where
 | int (k : IntKind)
 | bool
 | str
 | slice (e : TypeId) (esz : Nat) (s : Sh)
 | struct (l : List Sh)
inductive Dt where
 | int (n : Int)
 | bool (b : Bool)
 | str (s : List UInt8)
 | list (l : List Dt)
 | Za (l : List Dt)
mutual
inductive Pw (m : Mem) : Sh -> List EV -> Dt -> Prop
 | int {k : IntKind} {n : Int} (h : (Lit.int k n).wf = true) : Pw m (.int k) [.int k n] (.int n)
 | bool (b : Bool) : Pw m .bool [.bool b] (.bool b)
 | str {s : List UInt8} (h : s.length <= maxLen) : Pw m .str [.str s] (.str s)
 | nil {e esz : Nat} {s : Sh} : Pw m (.slice e esz s) [.ae] (.list [])
 | empty {e esz b off : Nat} {s : Sh} : Pw m (.slice e esz s) [.slice b off 0 (some 0)] (.list [])
 | slice {e esz b : Nat} {s : Sh} {ess : List (List EV)} {ds : List Dt} (hl : ds.length <= maxLen) (hm : m.get b = .cells ess.flatten esz 0 true) (h : Ma m (List.replicate ds.length s) ess ds) : Pw m (.slice e esz s) [.slice b 0 ds.length none] (.list ds)
 | struct {j7 : List Sh} {ess : List (List EV)} {ds : List Dt} (h : Ma m j7 ess ds) : Pw m (.struct j7) ess.flatten (.Za ds)
inductive Ma (m : Mem) : List Sh -> List (List EV) -> List Dt -> Prop
 | nil : Ma m [] [] []
 | cons {s : Sh} {es : List EV} {d : Dt} {j7 : List Sh} {ess : List (List EV)} {ds : List Dt} (h : Pw m s es d) (hs : Ma m j7 ess ds) : Ma m (s :: j7) (es :: ess) (d :: ds)
end
section
variable {P : Program} {w : World} {H : Type} {enc : TypeId × Value -> H} {base : Nat} {held : Bool} {n0 : Nat}
def Y5 (w : World) (ρ : ep) (B : ul) : Prop := ∃ (arr : Array Value) (e : TypeId) (fz : Nat × Nat), w.heap[B.c9]? = some (.cells arr e fz) /\ arr.size = B.total /\ B.off + B.cs.length <= B.total /\
 ∀ (j : Nat) (v : EV), B.cs[j]? = some v -> ∃ v', arr[B.off + j]? = some v' /\ VR ρ v v' /\ v'.oneCell' = true
def Sc (all : List ul) (s : Nat) (bs : List ul) : Prop := ∀ i, i < bs.length -> all[s + i]? = bs[i]?
def Mg (w : World) (n0 : Nat) (sh : Sh) (cs : List Value) : Prop :=
 ∃ (k : Nat) (d : Dt), ∀ s, ∃ (es : List EV) (bs : List ul), bs.length = k /\ es.length = cs.length /\ ∀ all, Sc all s bs ->
  ft (ka n0 all) es cs /\ (∀ c ∈ cs, c.oneCell' = true) /\ (∀ (i : Nat) (B : ul), bs[i]? = some B -> Y5 w (ka n0 all) B) /\ Pw (gG n0 all) sh es d
def Mf (w : World) (n0 : Nat) (j7 : List Sh) (css : List (List Value)) : Prop :=
 ∃ (k : Nat) (ds : List Dt), ds.length = j7.length /\ ∀ s, ∃ (ess : List (List EV)) (bs : List ul), bs.length = k /\ ess.flatten.length = css.flatten.length /\ ∀ all, Sc all s bs ->
  ft (ka n0 all) ess.flatten css.flatten /\ (∀ c ∈ css.flatten, c.oneCell' = true) /\ (∀ (i : Nat) (B : ul), bs[i]? = some B -> Y5 w (ka n0 all) B) /\ Ma (gG n0 all) j7 ess ds
theorem Sc.left {all bs cs : List ul} {s : Nat} (h : Sc all s (bs ++ cs)) : Sc all s bs := fun i hi => by
 rw [h i (by simp; omega), A9 hi]
theorem Sc.right {all bs cs : List ul} {s : Nat} (h : Sc all s (bs ++ cs)) : Sc all (s + bs.length) cs := fun i hi => by
 have := h (bs.length + i) (by simp; omega)
 rw [Nat.add_assoc, this, BO (by omega)]; congr 1; omega
theorem Mf.nil : Mf w n0 [] [] := ⟨0, [], rfl, fun s => ⟨[], [], rfl, rfl, fun all _ => ⟨.nil, by simp, by simp, .nil⟩⟩⟩
theorem Mf.cons {sh : Sh} {cs : List Value} {j7 : List Sh} {css : List (List Value)} (h : Mg w n0 sh cs) (hs : Mf w n0 j7 css) : Mf w n0 (sh :: j7) (cs :: css) := by
 obtain ⟨k, d, h⟩ := h
 obtain ⟨k2, ds, hl, hs⟩ := hs
 refine ⟨k + k2, d :: ds, by simp [hl], fun s => ?_⟩
 obtain ⟨es, bs, h1, h2, h3⟩ := h s
 obtain ⟨ess, bs2, g1, g2, g3⟩ := hs (s + k)
 refine ⟨es :: ess, bs ++ bs2, by simp [h1, g1], by simp [h2, g2], fun all hp => ?_⟩
 obtain ⟨a1, a2, a3, a4⟩ := h3 all hp.left
 obtain ⟨b1, b2, b3, b4⟩ := g3 all (by rw [<- h1]; exact hp.right)
 refine ⟨?_, ?_, ?_, .cons a4 b4⟩
 ·rw [List.flatten_cons, List.flatten_cons]; exact a1.append b1
 ·intro c hc
  rw [List.flatten_cons, uy] at hc;rcases hc with hc | hc
  ·exact a2 c hc
  ·exact b2 c hc
 ·intro i B hB
  by_cases hi : i < bs.length
  ·rw [A9 hi] at hB; exact a3 i B hB
  ·rw [BO (by omega)] at hB; exact b3 _ B hB
def iM (ok : Sh -> TypeId -> Bool) (size : TypeId -> Nat) : List Sh -> List Field -> Nat -> Nat -> Bool
 | [], [], off, total => off.beq total
 | s :: j7, g :: gs, off, total => g.offset.beq off && (ok s g.type && iM ok size j7 gs (off + size g.type) total)
 | _, _, _, _ => false
def shOk (P : Program) : Nat -> Sh -> TypeId -> Bool
 | 0, _, _ => false
 | n + 1, sh, t => match sh, P.underlying t with
  | .int k, some (.int k') => (bY k).beq (bY k')
  | .bool, some .bool => true
  | .str, some .string => true
  | .slice e esz s, some (.slice e') => e.beq e' && ((P.cellsOf e).beq esz && (Nat.ble 1 esz && shOk P n s e))
  | .struct l, some (.struct gs) => iM (shOk P n) P.cellsOf l gs.toList 0 (P.cellsOf t)
  | _, _ => false
theorem Bn {ok : Sh -> TypeId -> Bool} {size : TypeId -> Nat} {cs : List Value} : ∀ (j7 : List Sh) (gs : List Field) (off : Nat), iM ok size j7 gs off cs.length = true -> off <= cs.length ->
  cs.drop off = (gs.map fun g => (cs.drop g.offset).take (size g.type)).flatten
 | [], [], off, h, hl => by
  have := aR h
  subst this; simp
 | s :: j7, g :: gs, off, h, hl => by
  simp only [iM, pC] at h;obtain ⟨h1, h2, h3⟩ := h
  have e := aR h1
  have hle : off + size g.type <= cs.length := by
   revert h3
   generalize off + size g.type = o
   clear h1 h2 e hl
   induction gs generalizing j7 o with
   | nil => intro h3; cases j7 <;> simp only [iM] at h3; exact Nat.le_of_eq (aR h3); cases h3
   | cons g' gs ih =>
    intro h3
    cases j7 with
    | nil => simp [iM] at h3
    | cons s' j7 =>
     simp only [iM, pC] at h3;have := ih j7 _ h3.2.2
     omega
  have ih := Bn j7 gs (off + size g.type) h3 hle
  rw [List.map_cons, List.flatten_cons, <- ih, e];rw [<- List.drop_drop, List.take_append_drop]
 | [], _ :: _, _, h, _ => by simp [iM] at h
 | _ :: _, [], _, h, _ => by simp [iM] at h
theorem Br {cs : List Value} {size : TypeId -> Nat} {ok : Sh -> TypeId -> Bool} : ∀ (j7 : List Sh) (gs : List Field) (off total : Nat), iM ok size j7 gs off total = true ->
  (∀ (s : Sh) (g : Field), g ∈ gs -> ok s g.type = true -> Mg w n0 s ((cs.drop g.offset).take (size g.type))) -> Mf w n0 j7 (gs.map fun g => (cs.drop g.offset).take (size g.type))
 | [], [], _, _, _, _ => .nil
 | s :: j7, g :: gs, off, total, h, hd => by
  simp only [iM, pC] at h;rw [List.map_cons];exact .cons (hd s g (by simp) h.2.1) (Br j7 gs _ total h.2.2 fun s' g' hg => hd s' g' (by simp [hg]))
 | [], _ :: _, _, _, h, _ => by simp [iM] at h
 | _ :: _, [], _, _, h, _ => by simp [iM] at h
theorem zD {α : Type} {sz : Nat} : ∀ {css : List (List α)}, (∀ c ∈ css, c.length = sz) -> css.flatten.length = css.length * sz
 | [], _ => by simp
 | c :: css, h => by
  rw [List.flatten_cons, ja, zD fun c hc => h c (by simp [hc]), h c (by simp), List.length_cons, Nat.add_mul]; omega
theorem JG {α : Type} {sz : Nat} : ∀ {css : List (List α)}, (∀ c ∈ css, c.length = sz) -> ∀ (q p : Nat), p < sz -> css.flatten[q * sz + p]? = (css[q]?).bind fun c => c[p]?
 | [], _, q, p, _ => by simp
 | c :: css, h, q, p, hp => by
  have hc := h c (by simp)
  rw [List.flatten_cons]
  cases q with
  | zero => rw [Nat.zero_mul, Nat.zero_add, A9 (by omega)]; simp
  | succ q =>
   have ih := JG (css := css) (fun c hc => h c (by simp [hc])) q p hp
   rw [BO (by rw [hc, Nat.add_mul]; omega), show (q + 1) * sz + p - c.length = q * sz + p by rw [hc, Nat.add_mul]; omega, ih]
   simp
theorem Cy (b o n : Nat) : (⟨b, o, none⟩ : Addr).add n = ⟨b, o + n, none⟩ := Addr.add_lit b o n
theorem JV {a : Addr} {sz len : Nat} {s : Sh} (hd : ∀ i, i < len -> ∃ lQ, w.cells? base (a.add (i * sz)) sz = some lQ /\ Mg w n0 s lQ) : ∀ (r i : Nat), i + r = len ->
  ∃ css : List (List Value), css.length = r /\ (∀ q, q < r -> ∃ lQ, css[q]? = some lQ /\ w.cells? base (a.add ((i + q) * sz)) sz = some lQ) /\ Mf w n0 (List.replicate r s) css
 | 0, i, _ => ⟨[], rfl, fun q hq => by omega, .nil⟩
 | r + 1, i, h => by
  obtain ⟨lQ, h1, h2⟩ := hd i (by omega)
  obtain ⟨css, g1, g2, g3⟩ := JV hd r (i + 1) (by omega)
  refine ⟨lQ :: css, by simp [g1], fun q hq => ?_, .cons h2 g3⟩
  cases q with
  | zero => exact ⟨lQ, rfl, h1⟩
  | succ q =>
   obtain ⟨c, c1, c2⟩ := g2 q (by omega)
   exact ⟨c, by simpa using c1, by rw [show i + (q + 1) = i + 1 + q by omega]; exact c2⟩
theorem Pe {a : Addr} {e sz len cap : Nat} {s : Sh} (uf : 1 <= sz) (LA : len <= cap) (YT : cap <= maxLen) (HD : cap ≠ 0) (hd : ∀ i, i < cap -> ∃ lQ, w.cells? base (a.add (i * sz)) sz = some lQ /\ Mg w n0 s lQ) :
  Mg w n0 (.slice e sz s) [.slice (some a) len cap] := by
 have Jz : ∀ i, i < cap -> ∀ p, p < sz -> ∃ v, w.cell? ((a.add (i * sz)).add p) = some v := by
  intro i hi p hp
  obtain ⟨lQ, h1, _⟩ := hd i hi
  obtain ⟨_, h2, h3⟩ := World.cells?_some h1
  exact ⟨lQ[p]'(by omega), by rw [h3 p hp, mZ]⟩
 obtain ⟨c9, off, arr, ty, fz, rfl, rM⟩ : ∃ c9 off arr ty fz, a = ⟨c9, off, none⟩ /\ w.heap[c9]? = some (.cells arr ty fz) := by
  obtain ⟨v, hv⟩ := Jz 0 (by omega) 0 (by omega)
  rw [Nat.zero_mul] at hv;have hv : w.cell? a = some v := hv
  obtain ⟨c9, off, spot⟩ := a
  unfold World.cell? at hv
  split at hv
  ·rename_i c t z hh
   cases spot with
   | none => exact ⟨c9, off, c, t, z, rfl, hh⟩
   | some x => simp at hv
  ·cases hv
 have PD : ∀ n, w.cell? ⟨c9, off + n, none⟩ = arr[off + n]? := fun n => by unfold World.cell?; simp [rM]
 obtain ⟨css, g1, g2, kin, ds, Ez, g3⟩ := JV (w := w) (n0 := n0) (base := base) (fun i hi => hd i (mn hi LA)) len 0 (by omega)
 have oN : ∀ c ∈ css, c.length = sz := by
  intro c hc
  obtain ⟨q, hq⟩ := List.getElem?_of_mem hc
  have hql : q < len := by have := (rc.1 hq).1; omega
  obtain ⟨lQ, h1, h2⟩ := g2 q hql
  rw [hq] at h1; cases h1
  exact (World.cells?_some h2).2.1
 have FE : css.flatten.length = len * sz := by rw [zD oN, g1]
 have lM : ∀ j v, css.flatten[j]? = some v -> arr[off + j]? = some v := by
  intro j v hj
  have hjl : j < len * sz := by have := (rc.1 hj).1; omega
  have hp : j % sz < sz := Nat.mod_lt _ (by omega)
  have hq : j / sz < len := Nat.div_lt_of_lt_mul (by rw [Nat.mul_comm]; exact hjl)
  have Tu : j / sz * sz + j % sz = j := Nat.div_add_mod' j sz
  rw [<- Tu, JG oN _ _ hp] at hj;obtain ⟨lQ, h1, h2⟩ := g2 _ hq
  rw [h1] at hj;obtain ⟨_, _, h3⟩ := World.cells?_some h2
  have h4 := h3 _ hp
  rw [Nat.zero_add, Cy, Cy, Nat.add_assoc, Tu, PD] at h4;rw [h4]; exact hj
 have hle : off + len * sz <= arr.size := by
  rcases Nat.eq_zero_or_pos (len * sz) with h0 | h0
  ·obtain ⟨v, hv⟩ := Jz 0 (by omega) 0 (by omega)
   have SB := PD 0
   rw [Nat.add_zero] at SB;simp only [Cy, Nat.zero_mul, Nat.add_zero] at hv;rw [SB] at hv;have := (Array.getElem?_eq_some_iff.1 hv).1
   omega
  ·obtain ⟨v, hv⟩ : ∃ v, css.flatten[len * sz - 1]? = some v := ⟨_, mZ (by omega)⟩
   have := (Array.getElem?_eq_some_iff.1 (lM _ _ hv)).1
   omega
 rw [List.length_replicate] at Ez;refine ⟨kin + 1, .list ds, fun st => ?_⟩
 obtain ⟨ess, bs, b1, b2, b3⟩ := g3 (st + 1)
 let B : ul := ⟨c9, off, arr.size, sz, ess.flatten⟩
 refine ⟨[.slice (n0 + st) 0 len none], B :: bs, by simp [b1], rfl, fun all hp => ?_⟩
 have hB : all[st]? = some B := by have := hp 0 (by simp); simpa using this
 obtain ⟨c1, c2, c3, c4⟩ := b3 all (by have := Sc.right (bs := [B]) hp; simpa using this)
 refine ⟨.cons (Jk hB rfl rfl LA fun _ => rfl) .nil, by simp [Value.oneCell'], fun i C hC => ?_, ?_⟩
 ·cases i with
  | succ i => exact c3 i C (by simpa using hC)
  | zero =>
   simp at hC; subst hC
   refine ⟨arr, ty, fz, rM, rfl, by show off + ess.flatten.length <= arr.size; omega, fun j v hj => ?_⟩
   obtain ⟨v', h1, h2⟩ := c1.get j v hj
   exact ⟨v', lM j v' h1, h2, c2 v' (List.mem_of_getElem? h1)⟩
 ·have h1 := Eo (n0 := n0) hB
  have h2 := Pw.slice (m := gG n0 all) (e := e) (b := n0 + st) (s := s) (ds := ds) (pJ (Nat.le_of_eq Ez) (pJ LA YT)) h1 (by rw [Ez]; exact c4)
  rw [Ez] at h2;exact h2
theorem HV (n0 : Nat) : ∀ (K : Nat) (sh : Sh) (t : TypeId) (fuel : Nat) (cs : List Value) (x : DataW H × List MemPlace), shOk P K sh t = true -> DataW.trod enc P w base (fun _ => true) held fuel t cs = some x -> Mg w n0 sh cs
 | 0, _, _, _, _, _, h, _ => by simp [shOk] at h
 | K + 1, sh, t, fuel, cs, x, h, hx => by
  simp only [shOk] at h
  split at h
  ·rename_i k k' hu
   obtain rfl := jL h
   obtain ⟨n, rfl, _, hw⟩ := DataW.trod_int hu hx
   exact ⟨0, .int n, fun s => ⟨[.int k n], [], rfl, rfl, fun all _ => ⟨.cons (.int _ _) .nil, by simp [Value.oneCell'], by simp, .int hw⟩⟩⟩
  ·rename_i hu
   obtain ⟨b, rfl, _⟩ := DataW.trod_bool hu hx
   exact ⟨0, .bool b, fun s => ⟨[.bool b], [], rfl, rfl, fun all _ => ⟨.cons (.bool _) .nil, by simp [Value.oneCell'], by simp, .bool b⟩⟩⟩
  ·rename_i hu
   obtain ⟨b, rfl, _, hm⟩ := DataW.trod_string hu hx
   exact ⟨0, .str b.data.toList, fun s => ⟨[.str b.data.toList], [], rfl, rfl, fun all _ => ⟨.cons (.str _) .nil, by simp [Value.oneCell'], by simp, .str (by simpa using hm)⟩⟩⟩
  ·rename_i e esz s e' hu
   simp only [pC] at h;obtain ⟨h1, h2, h3, h4⟩ := h
   have := aR h1; subst this
   have := aR h2; subst this
   have dO : 1 <= P.cellsOf e := qP h3
   rcases open_slice hu hx with ⟨rfl, _⟩ | ⟨a, len, cap, m, n, D, Pl, rfl, hb, LA, YT, hm, _, Ey⟩
   ·exact ⟨0, .list [], fun s => ⟨[.ae], [], rfl, rfl, fun all _ => ⟨.cons .ae .nil, by simp [Value.oneCell'], by simp, .nil⟩⟩⟩
   ·simp only [if_true] at hm
    subst hm;by_cases HD : m = 0
    ·subst HD
     obtain rfl : len = 0 := by omega
     exact ⟨0, .list [], fun s => ⟨[.slice 0 0 0 (some 0)], [], rfl, rfl, fun all _ => ⟨.cons .gJ .nil, by simp [Value.oneCell'], by simp, .empty⟩⟩⟩
    ·exact Pe dO LA YT HD fun i hi => by
      obtain ⟨lQ, h5, h6⟩ := Ey i hi
      exact ⟨lQ, h5, HV n0 K s e n lQ _ h4 h6⟩
  ·rename_i l gs hu
   obtain ⟨xs, n, _, _, hlen, Tk, hf⟩ := DataW.trod_struct hu hx
   rw [<- hlen] at h;have hD := Br (w := w) (n0 := n0) (cs := cs) l gs.toList 0 cs.length h fun s g hg ee => by
    obtain ⟨i, hi⟩ := List.getElem?_of_mem hg
    have xr : gs[i]? = some g := by simpa using hi
    have bt : i < xs.length := by have := (Array.getElem?_eq_some_iff.1 xr).1; omega
    have h1 := hf i g xr
    rw [mZ bt] at h1;exact HV n0 K s g.type n _ _ ee h1
   have FE := Bn l gs.toList 0 h (lu _)
   rw [List.drop_zero] at FE;obtain ⟨k, ds, _, hs⟩ := hD
   refine ⟨k, .Za ds, fun s => ?_⟩
   obtain ⟨ess, bs, h1, h2, h3⟩ := hs s
   rw [<- FE] at h2 h3;refine ⟨ess.flatten, bs, h1, h2, fun all hp => ?_⟩
   obtain ⟨c1, c2, c3, c4⟩ := h3 all hp
   exact ⟨c1, c2, c3, .struct c4⟩
  ·cases h
def Sb (m : Mem) (sh : Sh) (e : EV) (d : Dt) : Prop := match sh with
 | .struct l => ∃ cs, e = .agg cs /\ Pw m (.struct l) cs d
 | sh => Pw m sh [e] d
inductive sa (m : Mem) : List Sh -> List EV -> List Dt -> Prop
 | nil : sa m [] [] []
 | cons {s : Sh} {e : EV} {d : Dt} {j7 : List Sh} {es : List EV} {ds : List Dt} (h : Sb m s e d) (hs : sa m j7 es ds) : sa m (s :: j7) (e :: es) (d :: ds)
def DecV (w : World) (n0 : Nat) (sh : Sh) (v : Value) : Prop :=
 ∃ (k : Nat) (d : Dt), ∀ s, ∃ (e : EV) (bs : List ul), bs.length = k /\ ∀ all, Sc all s bs ->
  VR (ka n0 all) e v /\ (∀ (i : Nat) (B : ul), bs[i]? = some B -> Y5 w (ka n0 all) B) /\ Sb (gG n0 all) sh e d
def DecVs (w : World) (n0 : Nat) (j7 : List Sh) (vs : List Value) : Prop :=
 ∃ (k : Nat) (ds : List Dt), ∀ s, ∃ (es : List EV) (bs : List ul), bs.length = k /\ ∀ all, Sc all s bs ->
  ft (ka n0 all) es vs /\ (∀ (i : Nat) (B : ul), bs[i]? = some B -> Y5 w (ka n0 all) B) /\ sa (gG n0 all) j7 es ds
theorem DecVs.nil : DecVs w n0 [] [] := ⟨0, [], fun s => ⟨[], [], rfl, fun all _ => ⟨.nil, by simp, .nil⟩⟩⟩
theorem DecVs.cons {sh : Sh} {v : Value} {j7 : List Sh} {vs : List Value} (h : DecV w n0 sh v) (hs : DecVs w n0 j7 vs) : DecVs w n0 (sh :: j7) (v :: vs) := by
 obtain ⟨k, d, h⟩ := h
 obtain ⟨k2, ds, hs⟩ := hs
 refine ⟨k + k2, d :: ds, fun s => ?_⟩
 obtain ⟨e, bs, h1, h3⟩ := h s
 obtain ⟨es, bs2, g1, g3⟩ := hs (s + k)
 refine ⟨e :: es, bs ++ bs2, by simp [h1, g1], fun all hp => ?_⟩
 obtain ⟨a1, a3, a4⟩ := h3 all hp.left
 obtain ⟨b1, b3, b4⟩ := g3 all (by rw [<- h1]; exact hp.right)
 refine ⟨.cons a1 b1, ?_, .cons a4 b4⟩
 intro i B hB
 by_cases hi : i < bs.length
 ·rw [A9 hi] at hB; exact a3 i B hB
 ·rw [BO (by omega)] at hB; exact b3 _ B hB
theorem Mg.one {sh : Sh} {v : Value} (hn : ∀ l, sh ≠ .struct l) (h : Mg w n0 sh [v]) : DecV w n0 sh v := by
 obtain ⟨k, d, h⟩ := h
 refine ⟨k, d, fun s => ?_⟩
 obtain ⟨es, bs, h1, h2, h3⟩ := h s
 obtain ⟨e, rfl⟩ : ∃ e, es = [e] := by
  match es, h2 with
  | [e], _ => exact ⟨e, rfl⟩
 refine ⟨e, bs, h1, fun all hp => ?_⟩
 obtain ⟨c1, c2, c3, c4⟩ := h3 all hp
 cases c1 with
 | cons hv _ =>
 refine ⟨hv, c3, ?_⟩
 unfold Sb
 cases sh with
 | struct l => exact absurd rfl (hn l)
 | _ => exact c4
theorem Mg.agg {l : List Sh} {cs : Array Value} (h : Mg w n0 (.struct l) cs.toList) : DecV w n0 (.struct l) (.agg cs) := by
 obtain ⟨k, d, h⟩ := h
 refine ⟨k, d, fun s => ?_⟩
 obtain ⟨es, bs, h1, h2, h3⟩ := h s
 refine ⟨.agg es, bs, h1, fun all hp => ?_⟩
 obtain ⟨c1, c2, c3, c4⟩ := h3 all hp
 exact ⟨.agg c1 c2, c3, es, rfl, c4⟩
theorem dec_val {K : Nat} {sh : Sh} {t : TypeId} {v : Value} {r : Go.Reach} {b0 : Nat} {d : DataW H} {p : List MemPlace} (h : shOk P K sh t = true) (hval : Value.okWide P w r b0 t v) (hx : DataW.Trod enc P w base (fun _ => true) held t v d p) : DecV w n0 sh v := by
 obtain ⟨fuel, hf⟩ := hx
 have hD := HV (w := w) n0 K sh t fuel _ _ h hf
 cases K with
 | zero => simp [shOk] at h
 | succ K =>
 simp only [shOk] at h
 split at h
 ·rename_i k k' hu
  refine Mg.one (by intro l e; cases e) ?_
  simp only [Value.okWide, hu, Cell.okWide] at hval
  cases v <;> simp only [Cell.ok, hu] at hval
  exact hD
 ·rename_i hu
  refine Mg.one (by intro l e; cases e) ?_
  simp only [Value.okWide, hu, Cell.okWide] at hval
  cases v <;> simp only [Cell.ok, hu] at hval
  exact hD
 ·rename_i hu
  refine Mg.one (by intro l e; cases e) ?_
  simp only [Value.okWide, hu, Cell.okWide] at hval
  cases v <;> simp only [Cell.ok, hu] at hval
  exact hD
 ·rename_i e esz s e' hu
  refine Mg.one (by intro l e; cases e) ?_
  simp only [Value.okWide, hu, Cell.okWide] at hval
  cases v <;> simp only [Cell.ok, hu] at hval
  exact hD
 ·rename_i l gs hu
  simp only [Value.okWide, hu] at hval;obtain ⟨cs, rfl, _, _⟩ := hval
  exact Mg.agg hD
 ·cases h
theorem wf_u8 {n : Int} (h : (Lit.int .u8 n).wf = true) : 0 <= n /\ n < 256 := by
 simp [Lit.wf, IntKind.min, IntKind.max, IntKind.signed, IntKind.bits] at h; omega
theorem sa.one {m : Mem} {s : Sh} {j7 : List Sh} {es : List EV} {ds : List Dt} (h : sa m (s :: j7) es ds) : ∃ e d qZ vc, es = e :: qZ /\ ds = d :: vc /\ Sb m s e d /\ sa m j7 qZ vc := by
 cases h with | cons h hs => exact ⟨_, _, _, _, rfl, rfl, h, hs⟩
theorem sa.none {m : Mem} {es : List EV} {ds : List Dt} (h : sa m [] es ds) : es = [] /\ ds = [] := by
 cases h; exact ⟨rfl, rfl⟩
end
end
section
mutual
inductive Fz : Sh -> List EV -> Dt -> Prop
 | int {k : IntKind} {n : Int} (h : (Lit.int k n).wf = true) : Fz (.int k) [.int k n] (.int n)
 | bool (b : Bool) : Fz .bool [.bool b] (.bool b)
 | str {s : List UInt8} (h : s.length <= maxLen) : Fz .str [.str s] (.str s)
 | nil {e esz : Nat} {s : Sh} : Fz (.slice e esz s) [.ae] (.list [])
 | slice {e esz : Nat} {s : Sh} {els : List (List EV)} {ds : List Dt} (hl : ds.length <= maxLen) (h : UP (List.replicate ds.length s) els ds) : Fz (.slice e esz s) [.fz 0 esz els] (.list ds)
 | struct {j7 : List Sh} {els : List (List EV)} {ds : List Dt} (h : UP j7 els ds) : Fz (.struct j7) els.flatten (.Za ds)
inductive UP : List Sh -> List (List EV) -> List Dt -> Prop
 | nil : UP [] [] []
 | cons {s : Sh} {es : List EV} {d : Dt} {j7 : List Sh} {els : List (List EV)} {ds : List Dt} (h : Fz s es d) (hs : UP j7 els ds) : UP (s :: j7) (es :: els) (d :: ds)
end
mutual
def DW : Sh -> Nat
 | .struct l => Cd l
 | _ => 1
def Cd : List Sh -> Nat
 | [] => 0
 | s :: l => DW s + Cd l
end
mutual
def F5 : Sh -> Bool
 | .slice _ esz s => (DW s).beq esz && F5 s
 | .struct l => sP l
 | _ => true
def sP : List Sh -> Bool
 | [] => true
 | s :: l => F5 s && sP l
end
def still (m : Mem) : cD := ⟨fun _ => none, fun _ => none, fun c => if c < m.next then some (m.get c) else none⟩
section
variable {m : Mem}
mutual
theorem Ng : ∀ {s : Sh} {es : List EV} {d : Dt}, Fz s es d -> es.length = DW s
 | _, _, _, .int _ => rfl
 | _, _, _, .bool _ => rfl
 | _, _, _, .str _ => rfl
 | _, _, _, .nil => rfl
 | _, _, _, .slice _ _ => rfl
 | _, _, _, .struct h => by simp only [DW]; exact JE h
theorem JE : ∀ {j7 : List Sh} {els : List (List EV)} {ds : List Dt}, UP j7 els ds -> els.flatten.length = Cd j7
 | _, _, _, .nil => rfl
 | _, _, _, .cons h hs => by simp only [Cd, List.flatten_cons, ja, Ng h, JE hs]
end
theorem Nf {s : Sh} : ∀ {n : Nat} {els : List (List EV)} {ds : List Dt}, UP (List.replicate n s) els ds -> els.length = n /\ ds.length = n /\ ∀ el ∈ els, el.length = DW s
 | 0, els, ds, h => by rw [List.replicate_zero] at h; cases h; exact ⟨rfl, rfl, fun el Ey => by cases Ey⟩
 | n + 1, els, ds, h => by
  rw [List.replicate_succ] at h
  cases h with
  | cons h hs =>
   obtain ⟨h1, h2, h3⟩ := Nf hs
   refine ⟨by simp [h1], by simp [h2], fun el Ey => ?_⟩
   rcases oQ.1 Ey with rfl | Ey
   ·exact Ng h
   ·exact h3 el Ey
theorem dP.TY {θ : cD} {x x' : List EV} (h : dP θ x x') : x'.length = x.length := h.length.symm
mutual
theorem AD (hm : ∀ b cs e t ro, m.get b = .cells cs e t ro -> b < m.next) : ∀ {s : Sh} {es : List EV} {d : Dt}, Pw m s es d -> F5 s = true -> ∃ us, Fz s us d /\ dP (still m) us es
 | _, _, _, .int h, _ => ⟨_, .int h, .cons (.int _ _) .nil⟩
 | _, _, _, .bool b, _ => ⟨_, .bool b, .cons (.bool _) .nil⟩
 | _, _, _, .str h, _ => ⟨_, .str h, .cons (.str _) .nil⟩
 | _, _, _, .nil, _ => ⟨_, .nil, .cons .ae .nil⟩
 | _, _, _, .empty (s := s) (esz := esz), _ => ⟨[.fz 0 esz []], .slice (ds := []) (lu _) .nil, .cons (.BK (.inl rfl)) .nil⟩
 | _, _, _, .slice (esz := esz) (b := b) (ess := ess) (ds := ds) (s := s) hl hb h, hf => by
  simp only [F5, pC] at hf;have uf := aR hf.1
  obtain ⟨els, h1, h2⟩ := Hb hm h (by
   have : ∀ n, sP (List.replicate n s) = true := fun n => by
    induction n with
    | zero => rfl
    | succ n ih => simp only [List.replicate_succ, sP, hf.2, ih, Bool.and_self]
   exact this _)
  obtain ⟨g1, g2, g3⟩ := Nf h1
  have hlen : els.flatten.length = els.length * esz := zD (fun el Ey => (g3 el Ey).trans uf)
  have XI : ess.flatten.length = els.length * esz := by rw [h2.TY, hlen]
  have ei : (still m).gN b = some (.cells ess.flatten esz 0 true) := by
   show (if b < m.next then some (m.get b) else none) = _
   rw [if_pos (hm _ _ _ _ _ hb), hb]
  refine ⟨[.fz 0 esz els], .slice hl h1, .cons ?_ .nil⟩
  have := SV.fz (θ := still m) (t := 0) (cap := none) (.mk (off := 0) ei (fun el Ey => (g3 el Ey).trans uf) (by omega) (by
   rw [List.drop_zero, <- XI, List.take_length]; exact h2)) (.inl rfl) (fun c hc => by cases hc)
  rw [g1] at this; exact this
 | _, _, _, .struct h, hf => by
  obtain ⟨els, h1, h2⟩ := Hb hm h (by simpa only [F5] using hf)
  exact ⟨_, .struct h1, h2⟩
theorem Hb (hm : ∀ b cs e t ro, m.get b = .cells cs e t ro -> b < m.next) : ∀ {j7 : List Sh} {ess : List (List EV)} {ds : List Dt}, Ma m j7 ess ds -> sP j7 = true -> ∃ els, UP j7 els ds /\ dP (still m) els.flatten ess.flatten
 | _, _, _, .nil, _ => ⟨_, .nil, .nil⟩
 | _, _, _, .cons h hs, hf => by
  simp only [sP, pC] at hf;obtain ⟨us, h1, h2⟩ := AD hm h hf.1
  obtain ⟨els, h3, h4⟩ := Hb hm hs hf.2
  exact ⟨us :: els, .cons h1 h3, by rw [List.flatten_cons, List.flatten_cons]; exact h2.append h4⟩
end
def Yw (sh : Sh) (v : EV) (d : Dt) : Prop := match sh with
 | .struct l => ∃ cs, v = .agg cs /\ Fz (.struct l) cs d
 | sh => Fz sh [v] d
inductive FT : List Sh -> List EV -> List Dt -> Prop
 | nil : FT [] [] []
 | cons {s : Sh} {v : EV} {d : Dt} {j7 : List Sh} {vs : List EV} {ds : List Dt} (h : Yw s v d) (hs : FT j7 vs ds) : FT (s :: j7) (v :: vs) (d :: ds)
theorem FT.one {s : Sh} {j7 : List Sh} {es : List EV} {ds : List Dt} (h : FT (s :: j7) es ds) : ∃ e d qZ vc, es = e :: qZ /\ ds = d :: vc /\ Yw s e d /\ FT j7 qZ vc := by
 cases h with | cons h hs => exact ⟨_, _, _, _, rfl, rfl, h, hs⟩
theorem FT.none {es : List EV} {ds : List Dt} (h : FT [] es ds) : es = [] := by cases h; rfl
theorem SU (hm : ∀ b cs e t ro, m.get b = .cells cs e t ro -> b < m.next) {s : Sh} {e : EV} {d : Dt} (h : Sb m s e d) (hf : F5 s = true) : ∃ u, Yw s u d /\ SV (still m) u e := by
 have one : ∀ {us : List EV} {e : EV}, dP (still m) us [e] -> ∃ u, us = [u] /\ SV (still m) u e := by
  intro us e h
  cases h with
  | cons h hs => cases hs; exact ⟨_, rfl, h⟩
 cases s with
 | struct l =>
  obtain ⟨cs, rfl, h⟩ := h
  obtain ⟨us, h1, h2⟩ := AD hm h hf
  exact ⟨.agg us, ⟨us, rfl, h1⟩, .agg h2⟩
 | int k => obtain ⟨us, h1, h2⟩ := AD hm h hf; obtain ⟨u, rfl, h3⟩ := one h2; exact ⟨u, h1, h3⟩
 | bool => obtain ⟨us, h1, h2⟩ := AD hm h hf; obtain ⟨u, rfl, h3⟩ := one h2; exact ⟨u, h1, h3⟩
 | str => obtain ⟨us, h1, h2⟩ := AD hm h hf; obtain ⟨u, rfl, h3⟩ := one h2; exact ⟨u, h1, h3⟩
 | slice a b c => obtain ⟨us, h1, h2⟩ := AD hm h hf; obtain ⟨u, rfl, h3⟩ := one h2; exact ⟨u, h1, h3⟩
theorem IK (hm : ∀ b cs e t ro, m.get b = .cells cs e t ro -> b < m.next) : ∀ {j7 : List Sh} {es : List EV} {ds : List Dt}, sa m j7 es ds -> sP j7 = true -> ∃ us, FT j7 us ds /\ dP (still m) us es
 | _, _, _, .nil, _ => ⟨[], .nil, .nil⟩
 | _, _, _, .cons h hs, hf => by
  simp only [sP, pC] at hf;obtain ⟨u, h1, h2⟩ := SU hm h hf.1
  obtain ⟨us, h3, h4⟩ := IK hm hs hf.2
  exact ⟨u :: us, .cons h1 h3, .cons h2 h4⟩
theorem QT {T B : Nat -> Option iz} {K : Nat -> Nat} (hT : ∀ f e, B f = some e -> hJ T f e) {f : Nat} {F : ax} (hF : B f = some (.go F)) (hm : ∀ b cs e t ro, m.get b = .cells cs e t ro -> b < m.next) {j7 : List Sh} {es : List EV} {ds : List Dt} (h : sa m j7 es ds) (hf : sP j7 = true) (Rq : mJ (still m)) :
  ∃ us, FT j7 us ds /\ (bA B K f (gy 1 us) = some (.bool true) -> ∃ m', run T f es m = some (.ret (.bool true) m')) := by
 obtain ⟨us, h1, h2⟩ := IK hm h hf
 refine ⟨us, h1, fun hp => ?_⟩
 obtain ⟨F0, VQ, VP, rfl⟩ := hT f _ hF
 rw [D7 hF] at hp;obtain ⟨v', m1, fR, θ, e, _, _, hv⟩ := pure_run (V4 hT) VQ VP hp (m' := m) (tg := P1 es) (S := (still m).gN) (fun b B hb => by
  have BJ : (if b < m.next then some (m.get b) else none) = some B := hb
  by_cases q : b < m.next
  ·rw [if_pos q] at BJ; cases BJ; exact ⟨rfl, q⟩
  ·rw [if_neg q] at BJ; cases BJ) (BU us es 1 (DP es) h2) (Rq.down ⟨fun _ _ h => (by simp [cD.low] at h), fun _ _ h => (by simp [cD.low] at h), fun _ _ h => h⟩)
 have := hv.flat rfl
 subst this;exact ⟨fR, e⟩
theorem RC {k : IntKind} {e : EV} {d : Dt} (h : Yw (.int k) e d) : ∃ n, e = .int k n /\ (Lit.int k n).wf = true := by
 unfold Yw at h; cases h with | int hw => exact ⟨_, rfl, hw⟩
end
end
section
structure jz (m : Mem) (v : EV) (cs : List EV) (n esz lo : Nat) : Prop where
 is : (v = .ae /\ n = 0 /\ cs = []) \/ ∃ b cap t, v = .slice b 0 n cap /\ lo <= b /\ b < m.next /\ m.get b = .cells cs esz t false /\ (cap = none \/ cap = some n)
 len : cs.length = n * esz
def gz (v : EV) (c : Nat) : Prop := ∀ b o n cap, v = .slice b o n cap -> c ≠ b
theorem gz.nil {c : Nat} : gz .ae c := fun _ _ _ _ h => by cases h
theorem gz.of {b o n c : Nat} {cap : Option Nat} (h : c ≠ b) : gz (.slice b o n cap) c := fun _ _ _ _ e => by cases e; exact h
theorem Cg {m : Mem} {b n esz e t : Nat} {cs : List EV} {ro : Bool} (hb : m.get b = .cells cs e t ro) (hl : cs.length = n * esz) : m.row b 0 (n * esz) = some cs := by
 by_cases h : n * esz = 0
 ·rw [h, Mem.ng]; rw [h] at hl; rw [List.eq_nil_of_length_eq_zero hl]
 ·rw [Mem.pX h]; unfold Mem.G9
  rw [hb]
  show (bif (0 + n * esz).ble cs.length then some ((cs.drop 0).take (n * esz)) else none) = _
  rw [A8 (by omega)];simp [<- hl]
theorem jz.source {m : Mem} {v : EV} {cs : List EV} {n esz lo : Nat} (h : jz m v cs n esz lo) : m.source esz v = some (n, cs) := by
 rcases h.is with ⟨rfl, rfl, rfl⟩ | ⟨b, cap, t, rfl, h1, h2, h3, h4⟩
 ·rfl
 ·show (m.row b 0 (n * esz)).map (fun cs => (n, cs)) = _
  rw [Cg h3 h.len]; rfl
theorem jz.mono {m m' : Mem} {v : EV} {cs : List EV} {n esz lo : Nat} (h : jz m v cs n esz lo) (hn : m.next <= m'.next) (hk : ∀ c, c < m.next -> m'.get c = m.get c) : jz m' v cs n esz lo := by
 refine ⟨?_, h.len⟩
 rcases h.is with h | ⟨b, cap, t, rfl, h1, h2, h3, h4⟩
 ·exact .inl h
 ·exact .inr ⟨b, cap, t, rfl, h1, by omega, by rw [hk b h2]; exact h3, h4⟩
theorem jz.ext {m : Mem} {v : EV} {cs : List EV} {n esz lo : Nat} (h : jz m v cs n esz lo) (xs : List fQ) : jz (ext m xs) v cs n esz lo := h.mono (by rw [aM]; exact bE) fun c hc => aL hc
theorem xA {m : Mem} {vs : List EV} {e esz : Nat} (h : vs.length = esz) : (Ev.ext m [.cells vs esz e false]).source esz (.slice (nb m.next 0) 0 1 (some 1)) = some (1, vs) := by
 have hg : (Ev.ext m [.cells vs esz e false]).get (nb m.next 0) = .cells vs esz e false := by rw [aK rfl (by simp)]; rfl
 show ((Ev.ext m [.cells vs esz e false]).row (nb m.next 0) 0 (1 * esz)).map (fun cs => (1, cs)) = _
 rw [Cg hg (by omega)]; rfl
def grow (m : Mem) (v : EV) (e esz : Nat) (cs : List EV) : Mem := match v with
 | .slice b _ _ none => (m.new (.cells cs esz e false)).set b .dead
 | _ => m.new (.cells cs esz e false)
theorem iL {m : Mem} {v : EV} {e esz : Nat} {cs : List EV} : (grow m v e esz cs).next = nb m.next 1 := by
 unfold grow; split <;> rfl
theorem lN {m : Mem} {v : EV} {e esz c : Nat} {cs : List EV} (hc : c < m.next) (ho : gz v c) : (grow m v e esz cs).get c = m.get c := by
 unfold grow
 split
 ·rename_i b o n
  rw [az (ho b o n none rfl), fm, if_neg (by omega)]
 ·rw [fm, if_neg (by omega)]
theorem gT {m : Mem} {v x : EV} {cs xs : List EV} {n k esz e lo : Nat} (h : jz m v cs n esz lo) (nv : lo <= m.next) (hx : m.source esz x = some (k, xs)) (Tk : xs.length = k * esz) (hk : k ≠ 0) (hr : n + k <= room) :
  fP m e esz v x = some (.slice (nb m.next 0) 0 (n + k) none, grow m v e esz (cs ++ xs)) /\ jz (grow m v e esz (cs ++ xs)) (.slice (nb m.next 0) 0 (n + k) none) (cs ++ xs) (n + k) esz lo := by
 have hlen : (cs ++ xs).length = (n + k) * esz := by rw [ja, h.len, Tk, Nat.add_mul]
 have own : ∀ b', b' ≠ m.next -> jz ((m.new (.cells (cs ++ xs) esz e false)).set b' .dead) (.slice (nb m.next 0) 0 (n + k) none) (cs ++ xs) (n + k) esz lo := fun b' BJ =>
  ⟨.inr ⟨m.next, none, e, rfl, nv, by rw [cf, js]; omega, by rw [az (fun q => BJ q.symm), fm, if_pos rfl], .inl rfl⟩, hlen⟩
 have W1 : jz (m.new (.cells (cs ++ xs) esz e false)) (.slice (nb m.next 0) 0 (n + k) none) (cs ++ xs) (n + k) esz lo :=
  ⟨.inr ⟨m.next, none, e, rfl, nv, by rw [js]; omega, by rw [fm, if_pos rfl], .inl rfl⟩, hlen⟩
 rcases h.is with ⟨rfl, rfl, rfl⟩ | ⟨b, cap, t, rfl, h1, h2, h3, h4⟩
 ·refine ⟨?_, W1⟩
  unfold fP;rw [hx];simp only [jP hk, cond_false, A8 (show k <= room by omega), cond_true, List.nil_append, Nat.zero_add, grow, nb, Nat.add_zero]
 ·have Fy := Cg h3 h.len
  rcases h4 with rfl | rfl
  ·refine ⟨?_, own b (by omega)⟩
   unfold fP;rw [hx];simp only [jP hk, cond_false, A8 hr, cond_true, Fy, h3, dM, grow, nb, Nat.add_zero]
  ·refine ⟨?_, W1⟩
   have hf : (n + k).ble n = false := by
    cases hb : (n + k).ble n with
    | false => rfl
    | true => have := qP hb; omega
   unfold fP;rw [hx];simp only [jP hk, cond_false, A8 hr, cond_true, Fy, hf, grow, nb, Nat.add_zero]
theorem rl {m : Mem} {b e esz : Nat} {vs : List EV} {ro : Bool} (hb : m.get b = .cells vs esz e ro) (h : vs.length = esz) {cap : Option Nat} : m.source esz (.slice b 0 1 cap) = some (1, vs) := by
 show (m.row b 0 (1 * esz)).map (fun cs => (1, cs)) = _
 rw [Cg hb (by omega)]; rfl
theorem jz.lt {m : Mem} {v : EV} {cs : List EV} {n esz lo c : Nat} (h : jz m v cs n esz lo) (hc : m.next <= c \/ c < lo) : gz v c := by
 rcases h.is with ⟨rfl, _⟩ | ⟨b, cap, t, rfl, h1, h2, _⟩
 ·exact gz.nil
 ·exact gz.of (by omega)
theorem jz.gF {m m' : Mem} {v : EV} {cs : List EV} {n esz lo : Nat} (h : jz m v cs n esz lo) (hn : m.next <= m'.next) (hk : ∀ c, c < m.next -> lo <= c -> ¬ gz v c -> m'.get c = m.get c) : jz m' v cs n esz lo := by
 refine ⟨?_, h.len⟩
 rcases h.is with h | ⟨b, cap, t, rfl, h1, h2, h3, h4⟩
 ·exact .inl h
 ·exact .inr ⟨b, cap, t, rfl, h1, by omega, by rw [hk b h2 h1 (fun q => q b 0 n cap rfl rfl)]; exact h3, h4⟩
end
section
def row (nl : Bool) (t e : Nat) (els : List (List EV)) : EV := bif nl && els.isEmpty then .ae else .fz t e els
theorem vV (nl : Bool) (t e : Nat) (els : List (List EV)) : (row nl t e els = .ae /\ els = []) \/ row nl t e els = .fz t e els := by
 unfold row
 cases nl
 ·exact .inr rfl
 ·cases els with
  | nil => exact .inl ⟨rfl, rfl⟩
  | cons a l => exact .inr rfl
section
variable {m : Mem} {nl : Bool} {t e : Nat} {els : List (List EV)} {ρ : aV -> EV}
def BE (v : EV) (m : Mem) : Option R1 := match v with
 | .ae => some (.val (.int .i64 0) m)
 | .slice _ _ n _ => some (.val (.int .i64 (n : Int)) m)
 | .fz _ _ els => some (.val (.int .i64 (els.length : Int)) m)
 | _ => none
@[congr] theorem Vf {v v' : EV} (h : v = v') : BE v m = BE v' m := by rw [h]
theorem wE {x : aV} : aA ρ (.len x) m = BE (ρ x) m := rfl
theorem y8 : BE .ae m = some (.val (.int .i64 0) m) := rfl
theorem s6 {b off n : Nat} {c : Option Nat} : BE (.slice b off n c) m = some (.val (.int .i64 (n : Int)) m) := rfl
theorem Cz : BE (.fz t e els) m = some (.val (.int .i64 (els.length : Int)) m) := rfl
theorem y7 : BE (row nl t e els) m = some (.val (.int .i64 (els.length : Int)) m) := by
 rcases vV nl t e els with ⟨h, rfl⟩ | h <;> rw [h] <;> rfl
def AE (o : Option Nat) (k : Nat -> EV) (m : Mem) : Option R1 := match o with
 | some i => some (.val (k i) m)
 | none => none
theorem wa {i : Nat} {k : Nat -> EV} : AE (some i) k m = some (.val (k i) m) := rfl
@[congr] theorem U4 {o o' : Option Nat} {k : Nat -> EV} (h : o = o') : AE o k m = AE o' k m := by rw [h]
def xK (e : Nat) (x i : EV) (m : Mem) : Option R1 := match x with
 | .slice b off len _ => AE (idx len i) (fun j => .ptr b (off + j * e)) m
 | .fz _ f els => bif f.beq e then AE (idx els.length i) (fun j => .fF f els j 0) m else none
 | _ => none
@[congr] theorem Tj {x x' i i' : EV} (h : x = x') (h' : i = i') : xK e x i m = xK e x' i' m := by rw [h, h']
theorem qy {x i : aV} : aA ρ (.eu e x i) m = xK e (ρ x) (ρ i) m := rfl
theorem ot {b off n : Nat} {c : Option Nat} {i : EV} : xK e (.slice b off n c) i m = AE (idx n i) (fun j => .ptr b (off + j * e)) m := rfl
theorem rI {i : EV} : xK e (.fz t e els) i m = AE (idx els.length i) (fun j => .fF e els j 0) m := by
 simp only [xK, Nat.beq_refl, cond_true]
theorem te {i : EV} : xK e (row nl t e els) i m = AE (idx els.length i) (fun j => .fF e els j 0) m := by
 rcases vV nl t e els with ⟨h, rfl⟩ | h
 ·rw [h]
  show none = AE (idx 0 i) _ m
  have : idx 0 i = none := by unfold idx; split <;> rfl
  rw [this]; rfl
 ·rw [h]; exact rI
def Xb (agg : Option Nat) (o : Option (List EV)) (k : Nat) : Option EV := match o with
 | some el => partOf agg el k
 | none => none
@[congr] theorem Wl {agg : Option Nat} {o o' : Option (List EV)} {k : Nat} (h : o = o') : Xb agg o k = Xb agg o' k := by rw [h]
theorem za {agg : Option Nat} {el : List EV} {k : Nat} : Xb agg (some el) k = partOf agg el k := rfl
theorem wo {agg : Option Nat} {i k : Nat} : m.load agg (.fF e els i k) = Xb agg els[i]? k := by
 simp only [Mem.load, Xb]; cases els[i]? <;> rfl
def abH (off : Nat) (x : EV) (m : Mem) : Option R1 := match x with
 | .ptr b o => some (.val (.ptr b (o + off)) m)
 | .fF e els i k => some (.val (.fF e els i (k + off)) m)
 | _ => none
theorem rk : m.source e (.fz t e els) = some (els.length, els.flatten) := by simp only [Mem.source, Nat.beq_refl, cond_true]
theorem sM : m.source e (row nl t e els) = some (els.length, els.flatten) := by
 rcases vV nl t e els with ⟨h, rfl⟩ | h
 ·rw [h]; rfl
 ·rw [h]; exact rk
theorem z9 : (EV.fz t e els).cells = some [.fz t e els] := rfl
theorem wQ : (row nl t e els).cells = some [row nl t e els] := by
 rcases vV nl t e els with ⟨h, rfl⟩ | h <;> rw [h] <;> rfl
theorem tS {i k : Nat} : (EV.fF e els i k).cells = some [.fF e els i k] := rfl
theorem Nx : eH (.aJ 4) (.fz t e els) .ae = some false := rfl
theorem Nu : eH (.aJ 4) .ae (.fz t e els) = some false := rfl
theorem Np : eH (.aJ 4) (row nl t e els) .ae = some (nl && els.isEmpty) := by
 unfold row; cases nl && els.isEmpty <;> rfl
def Bh (nl : Bool) (e : Nat) (els : List (List EV)) (lo : Option EV) (h : Option Nat) (m : Mem) : Option R1 := match h with
 | some h => AE (au lo 0 h) (fun l => row nl 0 e ((els.take h).drop l)) m
 | none => none
@[congr] theorem Uh {lo : Option EV} {h h' : Option Nat} (q : h = h') : Bh nl e els lo h m = Bh nl e els lo h' m := by rw [q]
theorem sV {lo : Option EV} {h : Nat} : Bh nl e els lo (some h) m = AE (au lo 0 h) (fun l => row nl 0 e ((els.take h).drop l)) m := rfl
theorem FK {x : aV} {lo hi : Option aV} (hx : ρ x = row nl t e els) : aA ρ (.uG e x lo hi none) m = Bh (nl && els.isEmpty) e els (lo.map ρ) (au (hi.map ρ) els.length els.length) m := by
 have hf : (nl && els.isEmpty) = false -> ρ x = .fz t e els := by
  intro h; rw [hx]; unfold row; rw [h]; rfl
 cases hn : nl && els.isEmpty with
 | true =>
  obtain ⟨rfl, hE⟩ := Bool.and_eq_true_iff.1 hn
  have : els = [] := List.isEmpty_iff.1 hE
  subst this;have PA : ρ x = .ae := hx
  simp only [aA, PA, Option.map_none, py, List.length_nil]
  cases h1 : au (hi.map ρ) 0 0 with
  | none => rfl
  | some h =>
   have h0 : h = 0 := by
    have := EX h1 (fh 0)
    omega
   subst h0;simp only [Bh, AE]
   cases h2 : au (lo.map ρ) 0 0 with
   | none => rfl
   | some l => simp [row]
 | false =>
  simp only [aA, hf hn, Nat.beq_refl, cond_true]
  cases h1 : au (hi.map ρ) els.length els.length with
  | none => rfl
  | some h =>
   simp only [Bh, AE]
   cases h2 : au (lo.map ρ) 0 h with
   | none => rfl
   | some l => simp [row]
def uF (e : Nat) (v : EV) (lo hi mx : Option EV) (m : Mem) : Option R1 := match v with
  | .ae => match au mx 0 0, au hi 0 0, au lo 0 0 with
   | some _, some _, some _ => some (.val .ae m)
   | _, _, _ => none
  | .slice b off len (some c) => gl m (eh e b off len (some c) lo hi mx)
  | .slice b off len none => match m.get b with
   | .cells _ f _ _ => bif f.beq e then gl m (eh e b off len none lo hi mx) else none
   | _ => none
  | .fz _ f els => match mx with
   | none => bif f.beq e then
     match au hi els.length els.length with
     | some h => match au lo 0 h with
      | some l => some (.val (.fz 0 f ((els.take h).drop l)) m)
      | none => none
     | none => none
    else none
   | some _ => none
  | _ => none
@[congr] theorem Ug {v v' : EV} {lo Eg hi xr mx Ed : Option EV} (h : v = v') (h1 : lo = Eg) (h2 : hi = xr) (h3 : mx = Ed) : uF e v lo hi mx m = uF e v' Eg xr Ed m := by rw [h, h1, h2, h3]
theorem po {x : aV} {lo hi mx : Option aV} : aA ρ (.uG e x lo hi mx) m = uF e (ρ x) (lo.map ρ) (hi.map ρ) (mx.map ρ) m := by
 simp only [aA, uF]
 cases ρ x <;> try rfl
 ·rename_i b off len cap
  cases cap
  ·simp only; cases m.get b <;> rfl
  ·rfl
 ·cases mx <;> rfl
theorem vS {lo hi : Option EV} : uF e .ae lo hi none m = (match au hi 0 0, au lo 0 0 with
   | some _, some _ => some (.val .ae m)
   | _, _ => none) := by
 simp only [uF, py]; cases au hi 0 0 <;> cases au lo 0 0 <;> rfl
theorem sN {b off len c : Nat} {lo hi mx : Option EV} : uF e (.slice b off len (some c)) lo hi mx m = gl m (eh e b off len (some c) lo hi mx) := rfl
def Wg (e b off len : Nat) (lo hi mx : Option EV) (m : Mem) (B : fQ) : Option R1 := match B with
 | .cells _ f _ _ => bif f.beq e then gl m (eh e b off len none lo hi mx) else none
 | _ => none
@[congr] theorem Wf {b off len : Nat} {lo hi mx : Option EV} {B B' : fQ} (h : B = B') : Wg e b off len lo hi mx m B = Wg e b off len lo hi mx m B' := by rw [h]
theorem sO {b off len : Nat} {lo hi mx : Option EV} : uF e (.slice b off len none) lo hi mx m = Wg e b off len lo hi mx m (m.get b) := by
 simp only [uF, Wg]
theorem vT {b off len t : Nat} {lo hi mx : Option EV} {cs : List EV} {ro : Bool} : Wg e b off len lo hi mx m (.cells cs e t ro) = gl m (eh e b off len none lo hi mx) := by simp only [Wg, Nat.beq_refl, cond_true]
theorem rn {lo hi : Option EV} : uF e (row nl t e els) lo hi none m = Bh (nl && els.isEmpty) e els lo (au hi els.length els.length) m := by
 have := FK (m := m) (nl := nl) (t := t) (e := e) (els := els) (ρ := fun o => match o with | .tmp 0 => row nl t e els | .tmp 1 => lo.getD .undef | .tmp _ => hi.getD .undef | .const x => x) (x := .tmp 0) (lo := lo.map fun _ => .tmp 1) (hi := hi.map fun _ => .tmp 2) rfl
 rw [po] at this
 cases lo <;> cases hi <;> exact this
theorem yA {lo hi : Option EV} : uF e (.fz t e els) lo hi none m = Bh false e els lo (au hi els.length els.length) m := by
 have := rn (m := m) (nl := false) (t := t) (e := e) (els := els) (lo := lo) (hi := hi)
 exact this
def lX (m : Mem) (v : EV) : Option EV := oO (cB 7 m) m v
def HJ (m : Mem) (l : List EV) : Option (List EV) := cB deep m l
def RY (a : Option EV) (b : Option (List EV)) : Option (List EV) := match a, b with
 | some a, some b => some (a :: b)
 | _, _ => none
theorem tL {a : EV} {b : List EV} : RY (some a) (some b) = some (a :: b) := rfl
theorem zB : HJ m [] = some [] := rfl
theorem wA {v : EV} {l : List EV} : HJ m (v :: l) = RY (lX m v) (HJ m l) := by
 show jl (cB 7 m) m (v :: l) = _
 simp only [jl]
 show _ = RY (oO (cB 7 m) m v) (jl (cB 7 m) m l)
 cases oO (cB 7 m) m v <;> cases jl (cB 7 m) m l <;> rfl
theorem tp : lX m .undef = some .undef := rfl
theorem wz {b : Bool} : lX m (.bool b) = some (.bool b) := rfl
theorem C7 {p : Prop} : lX m (bo p) = some (bo p) := rfl
theorem zy {k : IntKind} {n : Int} : lX m (.int k n) = some (.int k n) := rfl
theorem zw {s : List UInt8} : lX m (.str s) = some (.str s) := rfl
theorem mT : lX m .ae = some .ae := rfl
theorem qm : lX m .bL = some .bL := rfl
theorem mU : lX m .aC = some .aC := rfl
theorem zz : lX m (.fz t e els) = some (.fz 0 e els) := by simp only [lX, oO]
theorem zx : lX m (row nl t e els) = some (row nl 0 e els) := by
 unfold row; cases nl && els.isEmpty
 ·exact zz
 ·rfl
theorem zA {x : List EV} : lX m (.agg x) = (HJ m x).map .agg := by simp only [lX, oO]; rfl
theorem tq {x : List EV} : lX m (.tuple x) = (HJ m x).map .tuple := by simp only [lX, oO]; rfl
mutual
def plain : EV -> Bool
 | .ptr _ _ | .slice _ _ _ _ | .map _ | .fF _ _ _ _ => false
 | .fz t _ _ => t.beq 0
 | .func _ x y => jd x && jd y
 | .iface _ v => plain v
 | .agg x | .tuple x => jd x
 | _ => true
def jd : List EV -> Bool
 | [] => true
 | v :: l => plain v && jd l
end
mutual
theorem Gy {F : List EV -> Option (List EV)} : ∀ {v : EV}, plain v = true -> oO F m v = some v
 | .undef, _ | .bool _, _ | .int _ _, _ | .str _, _ | .bL, _ | .ae, _ | .bB, _ | .aN, _ | .aC, _ => by simp only [oO]
 | .ptr _ _, h | .slice _ _ _ _, h | .map _, h | .fF _ _ _ _, h => by simp [plain] at h
 | .fz t e els, h => by simp only [plain] at h; rw [aR h]; simp only [oO]
 | .func f x y, h => by
  simp only [plain, pC] at h;simp only [oO, kQ h.1, kQ h.2]
 | .iface t v, h => by simp only [oO, Gy (v := v) (by simpa only [plain] using h), Option.map_some]
 | .agg x, h => by simp only [oO, kQ (l := x) (by simpa only [plain] using h), Option.map_some]
 | .tuple x, h => by simp only [oO, kQ (l := x) (by simpa only [plain] using h), Option.map_some]
theorem kQ {F : List EV -> Option (List EV)} : ∀ {l : List EV}, jd l = true -> jl F m l = some l
 | [], _ => rfl
 | v :: l, h => by
  simp only [jd, pC] at h;simp only [jl, Gy h.1, kQ h.2]
end
theorem xm : ∀ {a b : List EV}, jd (a ++ b) = (jd a && jd b)
 | [], b => by simp [jd]
 | v :: a, b => by simp only [List.cons_append, jd, xm (a := a), Bool.and_assoc]
theorem oZ : ∀ {els : List (List EV)}, (∀ el ∈ els, jd el = true) -> jd els.flatten = true
 | [], _ => rfl
 | el :: els, h => by rw [List.flatten_cons, xm, h el (by simp), oZ fun x hx => h x (by simp [hx])]; rfl
theorem mW : ∀ {els : List (List EV)}, (∀ el ∈ els, el.length = e) -> chunk e els.length els.flatten = els
 | [], _ => rfl
 | el :: els, h => by
  have he := h el (by simp)
  rw [List.length_cons, List.flatten_cons, chunk, List.take_append_of_le_length (by omega), List.drop_append_of_le_length (by omega), <- he, List.take_length, List.drop_length, List.nil_append, he, mW fun x hx => h x (by simp [hx])]
theorem mH {b ty : Nat} {cap : Option Nat} {ro : Bool} (hb : m.get b = .cells els.flatten e ty ro) (hl : ∀ el ∈ els, el.length = e) (hp : ∀ el ∈ els, jd el = true) (hc : Ab cap els.length = true) : lX m (.slice b 0 els.length cap) = some (.fz 0 e els) := by
 have hlen : els.flatten.length = els.length * e := zD hl
 simp only [lX, oO, hb, hc, cond_true, A8 (show 0 + els.length * e <= els.flatten.length by omega), List.drop_zero];rw [<- hlen, List.take_length]
 show (jl (cB 6 m) m els.flatten).map _ = _
 rw [kQ (oZ hp), Option.map_some, mW hl]
theorem tN : closed (row nl t e els) = true := by
 unfold row; cases nl && els.isEmpty <;> rfl
theorem qD : fK [] = true := rfl
theorem oD {v : EV} {l : List EV} : fK (v :: l) = (closed v && fK l) := by simp only [fK]
theorem wN : closed (.fz t e els) = true := rfl
theorem tO {k : IntKind} {n : Int} : closed (.int k n) = true := rfl
theorem qE {b : Bool} : closed (.bool b) = true := rfl
theorem wO {p : Prop} : closed (bo p) = true := rfl
theorem tM {s : List UInt8} : closed (.str s) = true := rfl
theorem kF : closed .ae = true := rfl
theorem tP {x : List EV} : closed (.agg x) = fK x := by simp only [closed]
theorem oE {x : List EV} : closed (.tuple x) = fK x := by simp only [closed]
theorem Am {k : IntKind} {n : Int} : Flat (.int k n) = true := rfl
theorem w7 {b : Bool} : Flat (.bool b) = true := rfl
theorem DA {p : Prop} : Flat (bo p) = true := rfl
theorem Al {s : List UInt8} : Flat (.str s) = true := rfl
theorem An {x : List EV} : Flat (.agg x) = fq x := by simp only [Flat]
theorem ua {x : List EV} : Flat (.tuple x) = fq x := by simp only [Flat]
theorem wB : fq [] = true := rfl
theorem tt {v : EV} {l : List EV} : fq (v :: l) = (Flat v && fq l) := by simp only [fq]
def GW (i : Nat) (v : EV) : EV := match v with
 | .fz _ e els => .fz i e els
 | v => v
theorem pQ {i : Nat} : gy i [] = [] := rfl
theorem ob {i : Nat} {v : EV} {l : List EV} : gy i (v :: l) = GW i v :: gy (i + 1) l := rfl
theorem BV {i : Nat} : GW i (.fz t e els) = .fz i e els := rfl
theorem yp {i : Nat} : GW i (row nl t e els) = row nl i e els := by
 unfold row; cases nl && els.isEmpty <;> rfl
theorem yq {i : Nat} {k : IntKind} {n : Int} : GW i (.int k n) = .int k n := rfl
theorem vE {i : Nat} {b : Bool} : GW i (.bool b) = .bool b := rfl
theorem BW {i : Nat} {p : Prop} : GW i (bo p) = bo p := rfl
theorem yo {i : Nat} {s : List UInt8} : GW i (.str s) = .str s := rfl
theorem mP {i : Nat} : GW i .ae = .ae := rfl
theorem yr {i : Nat} {x : List EV} : GW i (.agg x) = .agg x := rfl
def W0 (o : Option EV) (m : Mem) : Option Fin := match o with
 | some V => bif Flat V then some (.ret V m) else none
 | none => none
@[congr] theorem Wi {o o' : Option EV} (h : o = o') : W0 o m = W0 o' m := by rw [h]
theorem yO {V : EV} (h : Flat V = true) : W0 (some V) m = some (.ret V m) := by simp only [W0, h, cond_true]
def YE (o : Option EV) (m : Mem) : Option Fin := match o with
 | some V => some (.ret V ⟨m.next + 1, m.gB⟩)
 | none => none
@[congr] theorem Wh {o o' : Option EV} (h : o = o') : YE o m = YE o' m := by rw [h]
theorem yN {V : EV} : YE (some V) m = some (.ret V (bump m 1)) := rfl
def J0 (g : List EV -> Option EV) (o : Option (List EV)) : Option EV := match o with
 | some eQ => g (gy 1 eQ)
 | none => none
@[congr] theorem UJ {g : List EV -> Option EV} {o o' : Option (List EV)} (h : o = o') : J0 g o = J0 g o' := by rw [h]
theorem tU {g : List EV -> Option EV} {eQ : List EV} : J0 g (some eQ) = g (gy 1 eQ) := rfl
end
class cC (T : Nat -> Option iz) (f : Nat) (F : outParam ax) : Prop where
 has : T f = some (.go F)
section
variable {T : Nat -> Option iz} {K : Nat -> Nat} {m : Mem}
class fL (K : Nat -> Nat) (f : Nat) : Prop where
 s : K f = 1
class Ke (K : Nat -> Nat) (f : Nat) : Prop where
 s : K f = 2
class dm (K : Nat -> Nat) (f : Nat) : Prop where
 s : K f = 0
theorem G6 {f : Nat} [h : fL K f] {args : List EV} : run (UT T K) f args m = W0 (J0 (bA T K f) (HJ m args)) m := by
 rw [ru (g := kf (bA T K f)) (by unfold UT PT; rw [h.s]; rfl)]
 unfold kf HJ
 cases cB deep m args <;> rfl
theorem G5 {f : Nat} [h : Ke K f] {args : List EV} : run (UT T K) f args m = bif fK args then YE (J0 (bA T K f) (HJ m args)) m else none := by
 rw [ru (g := ke (bA T K f)) (by unfold UT PT; rw [h.s]; rfl)]
 unfold ke HJ
 cases fK args
 ·rfl
 ·cases cB deep m args <;> rfl
theorem bX {f : Nat} {F : ax} [h : dm K f] [hF : cC T f F] {args : List EV} (hn : args.length <= F.ntmps) : run (UT T K) f args m = pF F.results (exec (UT T K) F.body (aa args 0 ph) m) :=
 Mn (by unfold UT PT; rw [h.s]; exact hF.has) hn
theorem D4 {f : Nat} {g : List EV -> Mem -> Option Fin} [h : dm K f] (hg : T f = some (.spec g)) {args : List EV} : run (UT T K) f args m = g args m :=
 ru (by unfold UT PT; rw [h.s]; exact hg)
theorem y5 {F : ax} {args : List EV} {v : EV} {k : Nat} {m1 : Mem} (hl : args.length <= F.ntmps) (h : pF F.results (exec T F.body (aa args 0 ph) m) = some (.ret v m1)) (hf : Flat v = true) (hn : m1.next = nb m.next k) (hk : Aj m m1) : kz T F args m = some (.ret v (bump m k)) := by
 unfold kz;rw [if_pos hl, Ha];rw [show (⟨cJ args 0 .leaf, []⟩ : Fr) = aa args 0 ph by unfold ph; rw [Ag], h]
 simp only
 rw [if_pos ⟨hf, by rw [hn]; exact bE, hk⟩, hn]
 rfl
noncomputable def UF (o : Option Fin) : Option EV := match o with
 | some (.ret v m) => lX m v
 | _ => none
@[congr] theorem WK {o o' : Option Fin} (h : o = o') : UF o = UF o' := by rw [h]
theorem zC {v : EV} : UF (some (.ret v m)) = lX m v := rfl
open Classical in
noncomputable def Sr (p : Prop) (a b : Option EV) : Option EV := if p then a else b
theorem HK {p : Prop} {a b : Option Fin} : UF (iF p a b) = Sr p (UF a) (UF b) := by unfold iF Sr; split <;> rfl
theorem MP {p : Prop} {a b : Option EV} (h : p) : Sr p a b = a := if_pos h
theorem MQ {p : Prop} {a b : Option EV} (h : ¬ p) : Sr p a b = b := if_neg h
@[congr] theorem Wo {p q : Prop} {a a' b b' : Option EV} (h : p = q) (ha : q -> a = a') (hb : ¬ q -> b = b') : Sr p a b = Sr q a' b' := by
 subst h; unfold Sr; split
 ·exact ha ‹_›
 ·exact hb ‹_›
theorem dQ {f : Nat} {F : ax} [h : cC T f F] {eQ : List EV} (hn : eQ.length <= F.ntmps) : bA T K f eQ = UF (pF F.results (exec (UT T K) F.body (aa eQ 0 ph) bR)) := by
 rw [D7 h.has];unfold qI;rw [A8 hn, cond_true, Ha];rw [show (⟨cJ eQ 0 .leaf, []⟩ : Fr) = aa eQ 0 ph by unfold ph; rw [Ag]]
 cases pF F.results (exec (UT T K) F.body (aa eQ 0 ph) bR) with
 | none => rfl
 | some fin =>
  cases fin with
  | gD v m => rfl
  | ret v m =>
   simp only [zC]
   show (match jl (cB 7 m) m [v] with | some [V] => some V | _ => none) = oO (cB 7 m) m v
   simp only [jl]
   cases oO (cB 7 m) m v <;> rfl
end
end
section
def T3 (g : List EV -> Option EV) : Prop := ∀ args v, g args = some v -> fq args = true /\ Flat v = true
def adn : iz -> Prop
 | .go F => Ga F = true
 | .ext g | .pure g => T3 g
 | .spec _ => False
 | .NA _ _ => False
theorem Bw : ∀ args v, gh args = some v -> fq args = true /\ Flat v = true := by
 intro args v h
 unfold gh at h
 split at h
 ·cases h; exact ⟨rfl, rfl⟩
 ·cases h
theorem aG {T : Nat -> Option iz} {f : Nat} {F : ax} (he : T f = some (.go F)) (h : Ga F = true) : hJ T f (.go F) := ⟨F, he, S1 h, (Ol h).symm⟩
theorem Nz {T : Nat -> Option iz} {f : Nat} {F F1 : ax} (he : T f = some (.go F)) (h : ly F = true) (hs : F1 = F.sub) : hJ T f (.go F1) := ⟨F, he, h, hs⟩
theorem Kx {T B : Nat -> Option iz} (h : ∀ f e, B f = some e -> hJ T f e) {g : Nat} {e0 : iz} (h0 : hJ T g e0) : ∀ f e, up B g e0 f = some e -> hJ T f e := by
 intro f e he
 unfold up at he
 cases hb : f.beq g <;> simp only [hb, cond_true, cond_false] at he
 ·exact h f e he
 ·cases he; rw [aR hb]; exact h0
theorem uA {T B : Nat -> Option iz} (h : ∀ f e, B f = some e -> hJ T f e) {f : Nat} {F1 : ax} (hB : B f = some (.go F1)) : ∀ g e, up B f (.spec (kz B F1)) g = some e -> hJ T g e := by
 obtain ⟨F, hT, ee, rfl⟩ := h f _ hB
 exact Kx h (QL h hT ee)
theorem NP {T B : Nat -> Option iz} (h : ∀ f e, B f = some e -> hJ T f e) {f : Nat} {F1 : ax} (hB : B f = some (.go F1)) {k : Nat} (hw : isTrue (aS B k f [] bR) = true) : hJ T f (.pure Mi) := by
 obtain ⟨F, hT, ee, rfl⟩ := h f _ hB
 obtain ⟨m1, hm⟩ := OK hw
 cases k with
 | zero => simp [aS] at hm
 | succ k =>
  simp only [aS, hB, iq] at hm;have hb : qI B F.sub [] = some (.bool true) := Ae hm (by rfl)
  have hp := F8 h hT ee (g := fun eQ => match eQ with | [] => some (.bool true) | _ => none) (fun eQ V hv => by
   cases eQ with
   | nil => cases hv; exact hb
   | cons a eQ => cases hv)
  intro θ m m' args aw v hg ha hx
  unfold Mi at hx
  split at hx
  ·cases hx
   exact hp θ m m' [] aw (.ret (.bool true) m) hg ha (by rfl)
  ·cases hx
theorem Ml {T : Nat -> Option iz} {f : Nat} {F : ax} [h : cC T f F] {args : List EV} {m : Mem} (hn : args.length <= F.ntmps) : run T f args m = pF F.results (exec T F.body (aa args 0 ph) m) := Mn h.has hn
def Vc (f : Nat) : List Nat -> Bool
 | [] => false
 | a :: l => bif a.beq f then true else Vc f l
end
section
/- (*balustrade/lex.scanner).next -/
def bj : ax :=
 ⟨73,
 (.seq
 (.region [iV 2 (.ab (kI 0))])
 (.seq
 (.draw [iV 8 (.ab (tm 0)),
 iV 9 (.cw (tm 8)),
 iV 10 (.aj 0 (tm 9)),
 iV 11 (.load none (tm 10)),
 iV 12 (.ab (tm 0)),
 iV 13 (.cw (tm 12)),
 iV 14 (.aj 1 (tm 13)),
 iV 15 (.load none (tm 14)),
 iV 16 (.jF (tm 11) (some (tm 15)) none),
 iV 3 (.alloc 9 [(.str [])]),
 iN (.store 1 (tm 3) (tm 16))] [])
 (.seq
 (.seq
 (.region [iV 17 (.load none (tm 3)),
 iV 18 (.gp (tm 17) (kI 0)),
 iC 19 48 [(tm 18)]])
 (.block 0
 (.seq
 (.region [iV 21 (.eq false (.aJ 1) (tm 19) (kI 1)),
 iV 20 (.ab (tm 21))])
 (.cond (.tmp 20)
 (.draw [iV 22 (.ab (tm 0)),
 iV 23 (.cw (tm 22)),
 iV 24 (.aj 1 (tm 23)),
 iV 25 (.load none (tm 24)),
 iV 26 (.load none (tm 3)),
 iV 27 (.bD 3 1 1 [(.int .i64 0)] [(0, (kI 1))]),
 iC 28 49 [(tm 26), (tm 27)],
 iV 29 (.bin .add (tm 25) (tm 28)),
 iV 30 (.cw (tm 22)),
 iV 31 (.aj 1 (tm 30)),
 iN (.store 1 (tm 31) (tm 29))] [(3, 6)])
 (.seq
 (.region [iV 33 (.eq false (.aJ 1) (tm 19) (kI 2)),
 iV 32 (.ab (tm 33))])
 (.cond (.tmp 32)
 (.seq
 (.region [iV 35 (.load none (tm 3)),
 iC 36 50 [(tm 35), (kS [10])],
 iV 34 (.ab (tm 36)),
 iV 37 (.extract (tm 34) 0),
 iV 38 (.extract (tm 34) 1),
 iV 39 (.extract (tm 34) 2),
 iV 4 (.ab (tm 37)),
 iV 5 (.ab (tm 38)),
 iV 6 (.ab (tm 39))])
 (.region [iV 40 (.ab (tm 0)),
 iV 41 (.cw (tm 40)),
 iV 42 (.aj 1 (tm 41)),
 iV 43 (.load none (tm 42)),
 iV 44 (.ab (tm 4)),
 iV 45 (.eG (tm 44)),
 iV 46 (.bin .add (tm 43) (tm 45)),
 iV 47 (.cw (tm 40)),
 iV 48 (.aj 1 (tm 47)),
 iN (.store 1 (tm 48) (tm 46))]))
 (.seq
 (.region [iV 50 (.eq false (.aJ 1) (tm 19) (kI 3)),
 iV 49 (.ab (tm 50))])
 (.cond (.tmp 49)
 (.seq
 (.region [iV 51 (.ab (tm 0)),
 iV 52 (.load none (tm 3)),
 iC 53 51 [(tm 51), (tm 52)],
 iV 2 (.ab (tm 53))])
 .ret)
 (.seq
 (.region [iV 55 (.eq false (.aJ 1) (tm 19) (kI 4)),
 iV 54 (.ab (tm 55))])
 (.cond (.tmp 54)
 (.seq
 (.region [iV 56 (.ab (tm 0)),
 iV 57 (.load none (tm 3)),
 iC 58 52 [(tm 56), (tm 57)],
 iV 2 (.ab (tm 58))])
 .ret)
 (.seq
 (.region [iV 60 (.eq false (.aJ 1) (tm 19) (kI 5)),
 iV 59 (.ab (tm 60))])
 (.cond (.tmp 59)
 (.seq
 (.region [iV 61 (.load none (.const (VV L_lex_signs))),
 iV 62 (.BD 54 [] [(tm 3)]),
 iC 63 53 [(tm 61), (tm 62)],
 iV 7 (.ab (tm 63))])
 (.seq
 (.seq
 (.region [iV 64 (.ab (tm 7)),
 iV 65 (.bin .lss (tm 64) (kI 0))])
 (.cond (.tmp 65)
 (.seq
 (.region [iV 2 (.ab (kI 6))])
 .ret)
 .skip))
 (.region [iV 66 (.ab (tm 0)),
 iV 67 (.load none (.const (VV L_lex_signs))),
 iV 68 (.ab (tm 7)),
 iV 69 (.eu 1 (tm 67) (tm 68)),
 iV 70 (.load none (tm 69)),
 iV 71 (.eG (tm 70)),
 iC 72 28 [(tm 66), (kI 4), (tm 71), (kI 0)]])))
 (.seq
 (.region [iV 2 (.ab (kI 6))])
 .ret)))))))))))))
 (.seq
 (.region [iV 2 (.ab (kI 0))])
 .ret)))),
 [.tmp 2]⟩
theorem WW : bj = gx.sub := by kernel_rfl
/- balustrade/lex.Word -/
def pz : ax :=
 ⟨6,
 (.seq
 (.region [iV 2 (.ab (.const (.bool false)))])
 (.seq
 (.region [iV 3 (.load none (.const (VV L_lex_words))),
 iV 4 (.ab (tm 0)),
 iC 5 79 [(tm 3), (tm 4)],
 iV 2 (.ab (tm 5))])
 .ret)),
 [.tmp 2]⟩
theorem WV : pz = pA.sub := by kernel_rfl
end
section
def T5 : Bt :=
 (.node 57 (.go dX) (.node 32 (.go bU) (.node 18 (.go cr) (.node 12 (.go fV) (.node 7 (.go gW) (.node 6 (.go eT) (.node 3 (.go dv) .leaf .leaf) .leaf) (.node 10 (.go gd) (.node 8 (.go lm) .leaf .leaf) .leaf)) (.node 15 (.go bl) (.node 14 (.go bC) (.node 13 (.go jV) .leaf .leaf) .leaf) (.node 17 (.go dl) (.node 16 (.go cz) .leaf .leaf) .leaf))) (.node 27 (.go bj) (.node 21 (.go dY) (.node 20 (.go bm) (.node 19 (.go ey) .leaf .leaf) .leaf) (.node 23 (.go mL) (.node 22 (.go iY) .leaf .leaf) .leaf)) (.node 30 (.go di) (.node 29 (.go bq) (.node 28 (.go ev) .leaf .leaf) .leaf) (.node 31 (.go cH) .leaf .leaf)))) (.node 45 (.go gY) (.node 38 (.go gX) (.node 35 (.go cq) (.node 34 (.go cZ) (.node 33 (.go dA) .leaf .leaf) .leaf) (.node 37 (.go bi) (.node 36 (.go lh) .leaf .leaf) .leaf)) (.node 41 (.go mM) (.node 40 (.go mK) (.node 39 (.go lp) .leaf .leaf) .leaf) (.node 43 (.go iZ) .leaf .leaf))) (.node 52 (.go c6) (.node 49 (.go ll) (.node 48 (.go g9) (.node 46 (.go jS) .leaf .leaf) .leaf) (.node 51 (.go cG) (.node 50 (.go fZ) .leaf .leaf) .leaf)) (.node 55 (.go dy) (.node 54 (.go c7) (.node 53 (.go bT) .leaf .leaf) .leaf) (.node 56 (.go dj) .leaf .leaf))))) (.node 81 (.go dz) (.node 69 (.go cL) (.node 63 (.go gU) (.node 60 (.go dF) (.node 59 (.go ca) (.node 58 (.go dk) .leaf .leaf) .leaf) (.node 62 (.go jT) (.node 61 (.go iX) .leaf .leaf) .leaf)) (.node 66 (.go lj) (.node 65 (.go jQ) (.node 64 (.go li) .leaf .leaf) .leaf) (.node 68 (.go dx) (.node 67 (.go lk) .leaf .leaf) .leaf))) (.node 75 (.go jR) (.node 72 (.go aP) (.node 71 (.go pz) (.node 70 (.go bp) .leaf .leaf) .leaf) (.node 74 (.go cX) (.node 73 (.go gb) .leaf .leaf) .leaf)) (.node 79 (.go b9) (.node 77 (.go dT) (.node 76 (.go aE) .leaf .leaf) .leaf) (.node 80 (.go dU) .leaf .leaf)))) (.node 92 (.ext gh) (.node 87 (.go fc) (.node 84 (.go fg) (.node 83 (.go cY) (.node 82 (.go cW) .leaf .leaf) .leaf) (.node 86 (.go ff) (.node 85 (.go dV) .leaf .leaf) .leaf)) (.node 90 (.go ed) (.node 89 (.go e9) (.node 88 (.go dZ) .leaf .leaf) .leaf) (.node 91 (.go dE) .leaf .leaf))) (.node 99 (.go bH) (.node 96 (.go cK) (.node 95 (.go bd) (.node 94 (.go cR) .leaf .leaf) .leaf) (.node 98 (.go ct) (.node 97 (.go dC) .leaf .leaf) .leaf)) (.node 102 (.go dD) (.node 101 (.go jU) (.node 100 (.go dB) .leaf .leaf) .leaf) (.node 103 (.go bQ) .leaf .leaf))))))
def A00 : Nat -> Option iz := T5.find
theorem VY : ∀ f e, A00 f = some e -> hJ T f e := Bt.C8 (t := T5)
 ⟨(aG (F := dX) acA (by kernel_rfl)), ⟨(aG (F := bU) acW (by kernel_rfl)), ⟨(aG (F := cr) ac7 (by kernel_rfl)), ⟨(aG (F := fV) adf (by kernel_rfl)), ⟨(aG (F := gW) at7 (by kernel_rfl)), ⟨(aG (F := eT) at6 (by kernel_rfl)), ⟨(aG (F := dv) at3 (by kernel_rfl)), trivial, trivial⟩, trivial⟩, ⟨(aG (F := gd) adg (by kernel_rfl)), ⟨(aG (F := lm) at8 (by kernel_rfl)), trivial, trivial⟩, trivial⟩⟩, ⟨(aG (F := bl) ada (by kernel_rfl)), ⟨(aG (F := bC) adb (by kernel_rfl)), ⟨(aG (F := jV) ade (by kernel_rfl)), trivial, trivial⟩, trivial⟩, ⟨(aG (F := dl) ac8 (by kernel_rfl)), ⟨(aG (F := cz) ac9 (by kernel_rfl)), trivial, trivial⟩, trivial⟩⟩⟩, ⟨(Nz (F := gx) ac1 (by kernel_rfl) WW), ⟨(aG (F := dY) ac4 (by kernel_rfl)), ⟨(aG (F := bm) ac5 (by kernel_rfl)), ⟨(aG (F := ey) ac6 (by kernel_rfl)), trivial, trivial⟩, trivial⟩, ⟨(aG (F := mL) ac2 (by kernel_rfl)), ⟨(aG (F := iY) ac3 (by kernel_rfl)), trivial, trivial⟩, trivial⟩⟩, ⟨(aG (F := di) acY (by kernel_rfl)), ⟨(aG (F := bq) acZ (by kernel_rfl)), ⟨(aG (F := ev) ac0 (by kernel_rfl)), trivial, trivial⟩, trivial⟩, ⟨(aG (F := cH) acX (by kernel_rfl)), trivial, trivial⟩⟩⟩⟩, ⟨(aG (F := gY) acL (by kernel_rfl)), ⟨(aG (F := gX) acQ (by kernel_rfl)), ⟨(aG (F := cq) acT (by kernel_rfl)), ⟨(aG (F := cZ) acU (by kernel_rfl)), ⟨(aG (F := dA) acV (by kernel_rfl)), trivial, trivial⟩, trivial⟩, ⟨(aG (F := bi) acR (by kernel_rfl)), ⟨(aG (F := lh) acS (by kernel_rfl)), trivial, trivial⟩, trivial⟩⟩, ⟨(aG (F := mM) acN (by kernel_rfl)), ⟨(aG (F := mK) acO (by kernel_rfl)), ⟨(aG (F := lp) acP (by kernel_rfl)), trivial, trivial⟩, trivial⟩, ⟨(aG (F := iZ) acM (by kernel_rfl)), trivial, trivial⟩⟩⟩, ⟨(aG (F := c6) acF (by kernel_rfl)), ⟨(aG (F := ll) acI (by kernel_rfl)), ⟨(aG (F := g9) acJ (by kernel_rfl)), ⟨(aG (F := jS) acK (by kernel_rfl)), trivial, trivial⟩, trivial⟩, ⟨(aG (F := cG) acG (by kernel_rfl)), ⟨(aG (F := fZ) acH (by kernel_rfl)), trivial, trivial⟩, trivial⟩⟩, ⟨(aG (F := dy) acC (by kernel_rfl)), ⟨(aG (F := c7) acD (by kernel_rfl)), ⟨(aG (F := bT) acE (by kernel_rfl)), trivial, trivial⟩, trivial⟩, ⟨(aG (F := dj) acB (by kernel_rfl)), trivial, trivial⟩⟩⟩⟩⟩, ⟨(aG (F := dz) aca (by kernel_rfl)), ⟨(aG (F := cL) acn (by kernel_rfl)), ⟨(aG (F := gU) acu (by kernel_rfl)), ⟨(aG (F := dF) acx (by kernel_rfl)), ⟨(aG (F := ca) acy (by kernel_rfl)), ⟨(aG (F := dk) acz (by kernel_rfl)), trivial, trivial⟩, trivial⟩, ⟨(aG (F := jT) acv (by kernel_rfl)), ⟨(aG (F := iX) acw (by kernel_rfl)), trivial, trivial⟩, trivial⟩⟩, ⟨(aG (F := lj) acq (by kernel_rfl)), ⟨(aG (F := jQ) acr (by kernel_rfl)), ⟨(aG (F := li) acs (by kernel_rfl)), trivial, trivial⟩, trivial⟩, ⟨(aG (F := dx) aco (by kernel_rfl)), ⟨(aG (F := lk) acp (by kernel_rfl)), trivial, trivial⟩, trivial⟩⟩⟩, ⟨(aG (F := jR) acg (by kernel_rfl)), ⟨(aG (F := aP) acj (by kernel_rfl)), ⟨(Nz (F := pA) ack (by kernel_rfl) WV), ⟨(aG (F := bp) acm (by kernel_rfl)), trivial, trivial⟩, trivial⟩, ⟨(aG (F := cX) ach (by kernel_rfl)), ⟨(aG (F := gb) aci (by kernel_rfl)), trivial, trivial⟩, trivial⟩⟩, ⟨(aG (F := b9) acd (by kernel_rfl)), ⟨(aG (F := dT) ace (by kernel_rfl)), ⟨(aG (F := aE) acf (by kernel_rfl)), trivial, trivial⟩, trivial⟩, ⟨(aG (F := dU) acb (by kernel_rfl)), trivial, trivial⟩⟩⟩⟩, ⟨(TK abZ Bw), ⟨(aG (F := fc) ab4 (by kernel_rfl)), ⟨(aG (F := fg) ab7 (by kernel_rfl)), ⟨(aG (F := cY) ab8 (by kernel_rfl)), ⟨(aG (F := cW) ab9 (by kernel_rfl)), trivial, trivial⟩, trivial⟩, ⟨(aG (F := ff) ab5 (by kernel_rfl)), ⟨(aG (F := dV) ab6 (by kernel_rfl)), trivial, trivial⟩, trivial⟩⟩, ⟨(aG (F := ed) ab1 (by kernel_rfl)), ⟨(aG (F := e9) ab2 (by kernel_rfl)), ⟨(aG (F := dZ) ab3 (by kernel_rfl)), trivial, trivial⟩, trivial⟩, ⟨(aG (F := dE) ab0 (by kernel_rfl)), trivial, trivial⟩⟩⟩, ⟨(aG (F := bH) abT (by kernel_rfl)), ⟨(aG (F := cK) abW (by kernel_rfl)), ⟨(aG (F := bd) abX (by kernel_rfl)), ⟨(aG (F := cR) abY (by kernel_rfl)), trivial, trivial⟩, trivial⟩, ⟨(aG (F := ct) abU (by kernel_rfl)), ⟨(aG (F := dC) abV (by kernel_rfl)), trivial, trivial⟩, trivial⟩⟩, ⟨(aG (F := dD) Yp (by kernel_rfl)), ⟨(aG (F := jU) Yq (by kernel_rfl)), ⟨(aG (F := dB) Yr (by kernel_rfl)), trivial, trivial⟩, trivial⟩, ⟨(aG (F := bQ) Yo (by kernel_rfl)), trivial, trivial⟩⟩⟩⟩⟩⟩
end
section
def Fb {σ : Type} (I : σ -> Fr -> Mem -> Prop) (lt : σ -> Prop) (Q : Out -> Prop) (o : Option Out) : Prop := match o with
 | some (.norm fr m) => ∃ s, lt s /\ I s fr m
 | some o => Q o
 | none => False
theorem ia {T : Nat -> Option iz} {c : aH} {σ : Type} (I : σ -> Fr -> Mem -> Prop) (μ : σ -> Nat) (Q : Out -> Prop) (h : ∀ s fr m, I s fr m -> Fb I (fun s' => μ s' < μ s) Q (exec T c fr m)) : ∀ s fr m, I s fr m -> ∃ o, exec T (.loop c) fr m = some o /\ Q o := by
 intro s
 generalize hn : μ s = n
 induction n using Nat.strongRecOn generalizing s with
 | _ n ih =>
  intro fr m hI
  have hw := h s fr m hI
  rw [eP]
  cases he : exec T c fr m with
  | none => rw [he] at hw; exact hw.elim
  | some o =>
   rw [he] at hw
   cases o with
   | norm fT m1 => obtain ⟨s1, h1, h2⟩ := hw; exact ih (μ s1) (by omega) s1 rfl fT m1 h2
   | exit id fT m1 => exact ⟨_, rfl, hw⟩
   | ret fT m1 => exact ⟨_, rfl, hw⟩
   | gD v fT m1 => exact ⟨_, rfl, hw⟩
section
variable {σ : Type} {I : σ -> Fr -> Mem -> Prop} {lt : σ -> Prop} {Q : Out -> Prop}
theorem ud {p : Prop} {a b : Option Out} (h1 : p -> Fb I lt Q a) (h2 : ¬ p -> Fb I lt Q b) : Fb I lt Q (iF p a b) := by
 by_cases h : p
 ·rw [AM h]; exact h1 h
 ·rw [AN h]; exact h2 h
theorem et {fr : Fr} {m : Mem} (s : σ) (h : lt s) (hI : I s fr m) : Fb I lt Q (some (.norm fr m)) := ⟨s, h, hI⟩
theorem fi {id : Nat} {fr : Fr} {m : Mem} (h : Q (.exit id fr m)) : Fb I lt Q (some (.exit id fr m)) := h
theorem kl {fr : Fr} {m : Mem} (h : Q (.ret fr m)) : Fb I lt Q (some (.ret fr m)) := h
end
theorem hZ {T : Nat -> Option iz} {c : aH} {fr : Fr} {m : Mem} {X : Option Out} (hX : exec T (.loop c) fr m = X) {Q : Out -> Prop} (h : ∃ o, exec T (.loop c) fr m = some o /\ Q o) : ∃ o, X = some o /\ Q o := by
 rw [hX] at h; exact h
def Ym (e esz len : Nat) (o : Option (List EV)) (m : Mem) : Option R1 := match o with
 | some cs => some (.val (.slice (nb m.next 0) 0 len (some len)) (ext m [.cells cs esz e false]))
 | none => none
@[congr] theorem WO {e esz len : Nat} {o o' : Option (List EV)} {m : Mem} (h : o = o') : Ym e esz len o m = Ym e esz len o' m := by rw [h]
theorem fG {e esz len : Nat} {cs : List EV} {m : Mem} : Ym e esz len (some cs) m = some (.val (.slice (nb m.next 0) 0 len (some len)) (ext m [.cells cs esz e false])) := rfl
theorem cm {ρ : aV -> EV} {m : Mem} {e esz len : Nat} {zero : List EV} {parts : List (Nat × aV)} : aA ρ (.bD e esz len zero parts) m = Ym e esz len (fw (eA len zero) (parts.map fun p => (p.1 * esz, esz, ρ p.2))) m := by
 simp only [aA, Ym]
 cases fw (eA len zero) (parts.map fun p => (p.1 * esz, esz, ρ p.2)) <;> rfl
def UM (call : Call) (n : Nat) (F : ax) (eQ : List EV) : Option EV := match dr call n F eQ bR with
 | some (.ret v m) => lX m v
 | _ => none
theorem Bf {T : Nat -> Option iz} {K : Nat -> Nat} {f : Nat} {F : ax} [h : cC T f F] {eQ : List EV} {V : EV} (n : Nat) (hb : ∀ call : Call, UM call n F eQ = some V) : bA T K f eQ = some V := by
 rw [D7 h.has];have hb := hb (aS (UT T K) n)
 unfold UM at hb
 cases he : dr (aS (UT T K) n) n F eQ bR with
 | none => rw [he] at hb; cases hb
 | some fin =>
  rw [he] at hb
  cases fin with
  | gD v m => cases hb
  | ret v m =>
   refine Ae he ?_
   have BJ : oO (cB 7 m) m v = some V := hb
   show jl (cB 7 m) m [v] = some [V]
   simp only [jl, BJ]
theorem jz.oO {m : Mem} {v : EV} {els : List (List EV)} {n e lo : Nat} (h : jz m v els.flatten n e lo) (hn : els.length = n) (hl : ∀ el ∈ els, el.length = e) (hp : ∀ el ∈ els, jd el = true) : ∃ nl, lX m v = some (row nl 0 e els) := by
 rcases h.is with ⟨rfl, rfl, h3⟩ | ⟨b, cap, t, rfl, h1, h2, h3, h4⟩
 ·have : els = [] := List.eq_nil_of_length_eq_zero hn
  subst this;exact ⟨true, rfl⟩
 ·subst hn
  refine ⟨false, ?_⟩
  rw [mH h3 hl hp (by rcases h4 with rfl | rfl <;> simp [Ab])]
  simp [row]
theorem jz.TF {m : Mem} {v : EV} {els : List (List EV)} {n e lo : Nat} (h : jz m v els.flatten n e lo) (hn : els.length = n) (h0 : 0 < n) (hl : ∀ el ∈ els, el.length = e) (hp : ∀ el ∈ els, jd el = true) : lX m v = some (.fz 0 e els) := by
 rcases h.is with ⟨rfl, rfl, h3⟩ | ⟨b, cap, t, rfl, h1, h2, h3, h4⟩
 ·omega
 ·subst hn
  exact mH h3 hl hp (by rcases h4 with rfl | rfl <;> simp [Ab])
theorem Vn {p q r : Prop} : Sr p (some (bo q)) (some (bo r)) = some (bo ((p /\ q) \/ (¬ p /\ r))) := by
 by_cases h : p
 ·rw [MP h]; exact congrArg some (Af ⟨fun x => .inl ⟨h, x⟩, fun x => x.elim (fun y => y.2) (fun y => absurd h y.1)⟩)
 ·rw [MQ h]; exact congrArg some (Af ⟨fun x => .inr ⟨h, x⟩, fun x => x.elim (fun y => absurd y.1 h) (fun y => y.2)⟩)
theorem Vm {p r : Prop} : Sr p (some (.bool false)) (some (bo r)) = some (bo (¬ p /\ r)) := by
 by_cases h : p
 ·rw [MP h]; exact congrArg some (rR fun x => x.1 h)
 ·rw [MQ h]; exact congrArg some (Af ⟨fun x => ⟨h, x⟩, fun x => x.2⟩)
theorem eW {p q : Prop} (h : p ↔ q) : some (bo p) = some (bo q) := congrArg some (Af h)
theorem aI {a b : Prop} (x : a) (y : b) : a /\ b := And.intro x y
def Kq := aI @lO <| aI @nz <| aI @uI <| aI @uJ <| aI @oX <| aI @zG <| aI @eval_const <| aI @wg <| aI @wh <| aI @yS <| aI @su <| aI @vC <| aI @sx <| aI @vA <| aI @sy <| aI @s9 <| aI @wu <| aI @ta <| aI @G0 <| aI @G3 <| aI @yG <| aI @vW <| aI @yH <| aI (@eq_self.{1}) <| aI @Ci <| aI @Ch <| aI @Co <| aI @Cn <| aI @Cp <| aI @Dy <| aI @Dn <| aI @Dr <| aI @Dq <| aI @Dp <| aI @Dx <| aI @H5 <| aI @Dm <| aI @tV <| aI @Ds <| aI @Du <| aI @Dv <| aI @Dw <| aI @qM <| aI @qK <| aI @qL <| aI @qJ <| aI @eq_int <| aI @GR <| aI @HX <| (@u9)
def Ko := aI @nA <| aI @rS <| aI @va <| aI @rT <| aI @pj <| aI @tw <| aI @uK <| aI @rA <| aI @my <| aI (@Option.map_some.{0,0}) <| aI (@Option.map_none.{0,0}) <| aI (@List.map_cons.{0,0}) <| aI (@List.map_nil.{0,0}) <| aI @wW <| aI @mY <| aI @fY <| aI @fA <| aI @CH <| aI @zn <| aI @NE <| aI @vz <| aI @vw <| aI @zq <| aI @CO <| aI @CP <| aI @CI <| aI @CJ <| aI @zu <| aI @C4 <| aI @C5 <| aI @CY <| aI @CZ <| aI @wb <| aI @qa <| aI @oK <| aI (@List.nil_append.{0}) <| aI (@List.append_nil.{0}) <| aI (@List.cons_append.{0}) <| aI @tD <| aI @yK <| aI @Ck <| aI @vZ <| aI @yJ <| aI @Hc <| aI @Hd <| aI @vq <| aI @HN <| aI @HM <| aI @ym <| (@y9)
def Km := aI @yl <| aI @yn <| aI @Cj <| aI @not_true_eq_false <| aI @not_false_eq_true <| aI @and_true <| aI @true_and <| aI @and_false <| aI @false_and <| aI @or_true <| aI @true_or <| aI @or_false <| aI @false_or <| aI @Classical.not_not <| aI @Bool.false_bne <| aI @Bool.true_bne <| aI @Bool.false_xor <| aI @Bool.true_xor <| aI @zI <| aI @tH <| aI @wD <| aI @tA <| aI @tE <| aI @zN <| aI @Db <| aI @Da <| aI @wG <| aI @tF <| aI @wC <| aI @ow <| aI @tB <| aI @tC <| aI @tG <| aI @zL <| aI @mV <| aI @qw <| aI @qx <| aI @qq <| aI @qp <| aI @qA <| aI @qu <| aI @ou <| aI @oz <| aI @qt <| aI @qv <| aI @zM <| aI @zK <| aI @zJ <| aI @qB <| (@wF)
def Kl := aI @TT <| aI @TU <| aI @MW <| aI @MX <| aI @MY <| aI @MZ <| aI @CK <| aI @CL <| aI @CM <| aI @CN <| aI @M8 <| aI @Na <| aI @Nb <| aI @Nc <| aI @C0 <| aI @C1 <| aI @C2 <| aI @C3 <| aI @sS <| aI @sT <| aI @vX <| aI @vY <| aI @Dg <| aI @Dh <| aI @Dd <| aI @Df <| aI @Nl <| aI @Ny <| aI @Nm <| aI @Nw <| aI @yc <| aI @yd <| aI @DX <| aI @DY <| aI @u4 <| aI @decide_true <| aI @decide_false <| aI @Bool.not_true <| aI @Bool.not_false <| aI (@cond_true.{1}) <| aI (@cond_false.{1}) <| aI @Int.cast_ofNat_Int <| aI @Hi <| aI @C9 <| aI @e6 <| aI @aM <| aI @cf <| aI @bK <| aI @az <| (@aL)
def Kk := aI @aK <| aI @ql <| aI @wm <| aI @wv <| aI @v8 <| aI @v7 <| aI @sA <| aI @yu <| aI @ya <| aI @vo <| aI @oW <| aI @pW <| aI @nf <| aI @wT <| aI @tT <| aI @Aa <| aI @wP <| aI @oG <| aI @wR <| aI @lS <| aI @qG <| aI @oH <| aI @wS <| aI @mX <| aI @tR <| aI @lT <| aI @qH <| aI @wU <| aI @rP <| aI @rQ <| aI @pi <| aI @wH <| aI @wV <| aI @qC <| aI @qn <| aI @gP <| aI @bz <| aI @yB <| aI @wq <| aI @MC <| aI @Hk <| aI @ME <| aI @HO <| aI @Dc <| aI @zO <| aI @wJ <| aI @wY <| aI @tX <| aI @H9 <| (@Ia)
def Kj := aI @Ah <| aI @yF <| aI @yI <| aI (@List.length_cons.{0}) <| aI (@List.length_nil.{0}) <| aI @Nat.zero_add <| aI @Nat.add_zero <| aI (@List.take_succ_cons.{0}) <| aI (@List.take_zero.{0}) <| aI (@List.take_nil.{0}) <| aI (@List.drop_succ_cons.{0}) <| aI (@List.drop_zero.{0}) <| aI (@List.drop_nil.{0}) <| aI (@List.getElem?_cons_zero.{0}) <| aI (@List.getElem?_cons_succ.{0}) <| aI (@List.getElem?_nil.{0}) <| aI (@Option.getD_some.{0}) <| aI (@List.set_cons_zero.{0}) <| aI (@List.set_cons_succ.{0}) <| aI @fh <| aI (@ne_eq.{1}) <| aI @Bool.or_true <| aI @Bool.or_false <| aI @Bool.true_or <| aI @Bool.false_or <| aI @Bool.and_true <| aI @Bool.true_and <| aI @Bool.and_false <| aI @Bool.false_and <| aI @Nq <| aI @Ns <| aI @Nt <| aI @Nn <| aI @Nr <| aI @De <| aI @oA <| aI @oB <| (@vi)
def zz6 := aI @BX <| aI @vP <| aI @B9 <| aI @vO <| aI @sK <| aI @vG <| aI @vJ <| aI @Ca <| aI @GZ <| aI @GY <| aI @vL <| aI @yx <| aI @vK <| aI @pS <| aI @vH <| aI @yv <| aI @vI <| aI @vN <| aI @B7 <| aI @vM <| aI @od <| aI @sG <| aI @sH <| aI @sC <| aI @sB <| aI @sI <| aI @sE <| aI @pR <| aI @pT <| aI @B6 <| aI @sD <| aI @sF <| aI @B8 <| aI @BZ <| aI @BY <| aI @sL <| aI @yy <| aI @yw <| aI @sJ <| aI @pV <| aI @og <| aI @pU <| aI @tu <| aI @zQ <| aI @sv <| aI @jM <| aI @AW <| aI @AV <| aI @vB <| (@Dl)
def zz7 := aI @z7 <| aI @yz <| aI @vR <| aI @yM <| aI @v9 <| aI @vF <| aI @na <| aI @Cs <| aI @uM <| aI @Ct <| aI @uN <| aI @rV <| aI @wL <| aI @zP <| aI @Di <| aI @rW <| aI @wM <| aI @yE <| aI @Dk <| aI @Dj <| aI @zV <| aI @zU <| aI @zT <| aI @zS <| aI @tJ <| aI @tI <| aI @CW <| aI @CX <| aI @M4 <| aI @M5 <| aI @M6 <| aI @M7 <| aI @zt <| aI @CQ <| aI @CR <| aI @CS <| aI @CT <| aI @CU <| aI @CV <| aI @vv <| aI @BT <| aI @yj <| aI @yg <| aI @pM <| aI @yh <| aI @mN <| aI @sl <| aI @pN <| aI @yi <| (@oa)
def zz8 := aI @mO <| aI @sj <| aI @yk <| aI @sk <| aI @ss <| aI @vu <| aI @vt <| aI @si <| aI @CD <| aI @zd <| aI @Cr <| aI @yR <| aI @Nat.beq_refl <| aI @wE <| aI @y8 <| aI @s6 <| aI @Cz <| aI @y7 <| aI @wa <| aI @qy <| aI @ot <| aI @rI <| aI @te <| aI @za <| aI @wo <| aI @rk <| aI @sM <| aI @z9 <| aI @wQ <| aI @tS <| aI @Nx <| aI @Nu <| aI @Np <| aI @sV <| aI @tL <| aI @zB <| aI @wA <| aI @tp <| aI @wz <| aI @C7 <| aI @zy <| aI @zw <| aI @mT <| aI @qm <| aI @mU <| aI @zz <| aI @zx <| aI @zA <| aI @tq <| (@tN)
def zz9 := aI @qD <| aI @oD <| aI @wN <| aI @tO <| aI @qE <| aI @wO <| aI @tM <| aI @kF <| aI @tP <| aI @oE <| aI @pQ <| aI @ob <| aI @BV <| aI @yp <| aI @yq <| aI @vE <| aI @BW <| aI @yo <| aI @mP <| aI @yr <| aI @yO <| aI @yN <| aI @tU <| aI @G6 <| aI @G5 <| aI @zC <| aI @HK <| aI @Am <| aI @w7 <| aI @DA <| aI @Al <| aI @An <| aI @ua <| aI @wB <| aI @tt <| aI @Bool.and_self <| aI (@List.getElem?_map.{0,0}) <| aI (@List.length_map.{0,0}) <| aI @po <| aI @vS <| aI @sN <| aI @sO <| aI @vT <| aI @rn <| aI @yA <| (@List.isEmpty_nil.{0})
def ap := aI @u4 <| aI @DX <| aI @DY <| aI @oX <| aI @lO <| aI @nz <| aI @uI <| (@uJ)
def aq := aI Kq <| aI Ko <| aI Km <| aI Kl <| aI Kk <| aI Kj <| aI zz6 <| aI zz7 <| aI zz8 <| (zz9)
end
section
def BQ : List EV -> Option EV
 | [.str s, .str [c]] => some (.int .i64 (Go.Lib.indexByte s c))
 | _ => none
instance : cC T dq cy := ⟨rfl⟩
instance : cC T eV aE := ⟨rfl⟩
theorem Te {m : Mem} {s : List UInt8} {c : UInt8} : run T eV [.str s, .int .u8 (c.toNat : Int)] m = some (.ret (.int .i64 (Go.Lib.indexByte s c)) m) := by
 rw [Ml (by simp [aE])]
 have h : ∀ m : Mem, run T gm [.str s, .int .u8 (c.toNat : Int)] m = some (.ret (.int .i64 (Go.Lib.indexByte s c)) m) := fun m => by
  rw [G7 (g := gh) rfl];simp [gh]
 simp +contextual -implicitDefEqProofs (maxSteps := 1000000) (maxDischargeDepth := 8) only [aE, h, aa, lO, nz, uI, uJ, oX, zG, eval_const, wg, wh, yS, su, vC, sx, vA, sy, s9, wu, ta, G0, G3, yG, vW, yH, eq_self, Ci, Ch, Co, Cn, Cp, Dy, Dn, Dr, Dq, Dp, Dx, H5, Dm, tV, Ds, Du, Dv, Dw, qM, qK, qL, qJ, eq_int, GR, HX, u9, nA, rS, va, rT, pj, tw, uK, rA, my, Option.map_some, Option.map_none, List.map_cons, List.map_nil, wW, mY, fY, fA, CH, zn, NE, vz, vw, zq, CO, CP, CI, CJ, zu, C4, C5, CY, CZ, wb, qa, oK, List.nil_append, List.append_nil, List.cons_append, tD, yK, Ck, vZ, yJ, Hc, Hd, vq, HN, HM, ym, y9, yl, yn, Cj, not_true_eq_false, not_false_eq_true, and_true, true_and, and_false, false_and, or_true, true_or, or_false, false_or, Classical.not_not, Bool.false_bne, Bool.true_bne, Bool.false_xor, Bool.true_xor, zI, tH, wD, tA, tE, zN, Db, Da, wG, tF, wC, ow, tB, tC, tG, zL, mV, qw, qx, qq, qp, qA, qu, ou, oz, qt, qv, zM, zK, zJ, qB, wF, TT, TU, MW, MX, MY, MZ, CK, CL, CM, CN, M8, Na, Nb, Nc, C0, C1, C2, C3, sS, sT, vX, vY, Dg, Dh, Dd, Df, Nl, Ny, Nm, Nw, yc, yd, DX, DY, u4, decide_true, decide_false, Bool.not_true, Bool.not_false, cond_true, cond_false, implies_true, Int.cast_ofNat_Int, Hi, C9, e6, aM, cf, bK, az, aL, aK, ql, wm, wv, v8, v7, sA, yu, ya, vo, oW, pW, nf, wT, tT, Aa, wP, oG, wR, lS, qG, oH, wS, mX, tR, lT, qH, wU, rP, rQ, pi, wH, wV, qC, qn, gP, bz, yB, wq, MC, Hk, ME, HO, Dc, zO, wJ, wY, tX, H9, Ia, Ah, yF, yI, List.length_cons, List.length_nil, Nat.zero_add, Nat.add_zero, List.take_succ_cons, List.take_zero, List.take_nil, List.drop_succ_cons, List.drop_zero, List.drop_nil, List.getElem?_cons_zero, List.getElem?_cons_succ, List.getElem?_nil, Option.getD_some, List.set_cons_zero, List.set_cons_succ, fh, ne_eq, Bool.or_true, Bool.or_false, Bool.true_or, Bool.false_or, Bool.and_true, Bool.true_and, Bool.and_false, Bool.false_and, Nq, Ns, Nt, Nn, Nr, De, oA, oB, vi, BX, vP, B9, vO, sK, vG, vJ, Ca, GZ, GY, vL, yx, vK, pS, vH, yv, vI, vN, B7, vM, od, sG, sH, sC, sB, sI, sE, pR, pT, B6, sD, sF, B8, BZ, BY, sL, yy, yw, sJ, pV, og, pU, tu, zQ, sv, jM, AW, AV, vB, Dl, z7, yz, vR, yM, v9, vF, na, Cs, uM, Ct, uN, rV, wL, zP, Di, rW, wM, yE, Dk, Dj, zV, zU, zT, zS, tJ, tI, CW, CX, M4, M5, M6, M7, zt, CQ, CR, CS, CT, CU, CV, vv, BT, yj, yg, pM, yh, mN, sl, pN, yi, oa, mO, sj, yk, sk, ss, vu, vt, si, CD, zd, Cr, yR, Nat.beq_refl, wE, y8, s6, Cz, y7, wa, qy, ot, rI, te, za, wo, rk, sM, z9, wQ, tS, Nx, Nu, Np, sV, tL, zB, wA, tp, wz, C7, zy, zw, mT, qm, mU, zz, zx, zA, tq, tN, qD, oD, wN, tO, qE, wO, tM, kF, tP, oE, pQ, ob, BV, yp, yq, vE, BW, yo, mP, yr, yO, yN, tU, G6, G5, zC, HK, Am, w7, DA, Al, An, ua, wB, tt, Bool.and_self, List.getElem?_map, List.length_map, po, vS, sN, sO, vT, rn, yA, Option.map_none, List.isEmpty_nil, simprocAttr]
theorem Tg {m : Mem} {s : List UInt8} {c : UInt8} : run T dq [.str s, .str [c]] m = some (.ret (.int .i64 (Go.Lib.indexByte s c)) m) := by
 rw [Ml (by simp [cy])]
 generalize hL : exec T (aH.loop iu) = L
 have hi : idx 1 (.int .i64 0) = some 0 := rfl
 by_cases hs : [c] = s
 ·simp +contextual -implicitDefEqProofs (maxSteps := 1000000) (maxDischargeDepth := 8) only [cy, hs, hi, aa, lO, nz, uI, uJ, oX, zG, eval_const, wg, wh, yS, su, vC, sx, vA, sy, s9, wu, ta, G0, G3, yG, vW, yH, eq_self, Ci, Ch, Co, Cn, Cp, Dy, Dn, Dr, Dq, Dp, Dx, H5, Dm, tV, Ds, Du, Dv, Dw, qM, qK, qL, qJ, eq_int, GR, HX, u9, nA, rS, va, rT, pj, tw, uK, rA, my, Option.map_some, Option.map_none, List.map_cons, List.map_nil, wW, mY, fY, fA, CH, zn, NE, vz, vw, zq, CO, CP, CI, CJ, zu, C4, C5, CY, CZ, wb, qa, oK, List.nil_append, List.append_nil, List.cons_append, tD, yK, Ck, vZ, yJ, Hc, Hd, vq, HN, HM, ym, y9, yl, yn, Cj, not_true_eq_false, not_false_eq_true, and_true, true_and, and_false, false_and, or_true, true_or, or_false, false_or, Classical.not_not, Bool.false_bne, Bool.true_bne, Bool.false_xor, Bool.true_xor, zI, tH, wD, tA, tE, zN, Db, Da, wG, tF, wC, ow, tB, tC, tG, zL, mV, qw, qx, qq, qp, qA, qu, ou, oz, qt, qv, zM, zK, zJ, qB, wF, TT, TU, MW, MX, MY, MZ, CK, CL, CM, CN, M8, Na, Nb, Nc, C0, C1, C2, C3, sS, sT, vX, vY, Dg, Dh, Dd, Df, Nl, Ny, Nm, Nw, yc, yd, DX, DY, u4, decide_true, decide_false, Bool.not_true, Bool.not_false, cond_true, cond_false, implies_true, Int.cast_ofNat_Int, Hi, C9, e6, aM, cf, bK, az, aL, aK, ql, wm, wv, v8, v7, sA, yu, ya, vo, oW, pW, nf, wT, tT, Aa, wP, oG, wR, lS, qG, oH, wS, mX, tR, lT, qH, wU, rP, rQ, pi, wH, wV, qC, qn, gP, bz, yB, wq, MC, Hk, ME, HO, Dc, zO, wJ, wY, tX, H9, Ia, Ah, yF, yI, List.length_cons, List.length_nil, Nat.zero_add, Nat.add_zero, List.take_succ_cons, List.take_zero, List.take_nil, List.drop_succ_cons, List.drop_zero, List.drop_nil, List.getElem?_cons_zero, List.getElem?_cons_succ, List.getElem?_nil, Option.getD_some, List.set_cons_zero, List.set_cons_succ, fh, ne_eq, Bool.or_true, Bool.or_false, Bool.true_or, Bool.false_or, Bool.and_true, Bool.true_and, Bool.and_false, Bool.false_and, Nq, Ns, Nt, Nn, Nr, De, oA, oB, vi, BX, vP, B9, vO, sK, vG, vJ, Ca, GZ, GY, vL, yx, vK, pS, vH, yv, vI, vN, B7, vM, od, sG, sH, sC, sB, sI, sE, pR, pT, B6, sD, sF, B8, BZ, BY, sL, yy, yw, sJ, pV, og, pU, tu, zQ, sv, jM, AW, AV, vB, Dl, z7, yz, vR, yM, v9, vF, na, Cs, uM, Ct, uN, rV, wL, zP, Di, rW, wM, yE, Dk, Dj, zV, zU, zT, zS, tJ, tI, CW, CX, M4, M5, M6, M7, zt, CQ, CR, CS, CT, CU, CV, vv, BT, yj, yg, pM, yh, mN, sl, pN, yi, oa, mO, sj, yk, sk, ss, vu, vt, si, CD, zd, Cr, yR, Nat.beq_refl, wE, y8, s6, Cz, y7, wa, qy, ot, rI, te, za, wo, rk, sM, z9, wQ, tS, Nx, Nu, Np, sV, tL, zB, wA, tp, wz, C7, zy, zw, mT, qm, mU, zz, zx, zA, tq, tN, qD, oD, wN, tO, qE, wO, tM, kF, tP, oE, pQ, ob, BV, yp, yq, vE, BW, yo, mP, yr, yO, yN, tU, G6, G5, zC, HK, Am, w7, DA, Al, An, ua, wB, tt, Bool.and_self, List.getElem?_map, List.length_map, po, vS, sN, sO, vT, rn, yA, Option.map_none, List.isEmpty_nil, simprocAttr]
  rw [<- hs];simp [Go.Lib.indexByte]
 ·simp +contextual -implicitDefEqProofs (maxSteps := 1000000) (maxDischargeDepth := 8) only [cy, hs, hi, Te, aa, lO, nz, uI, uJ, oX, zG, eval_const, wg, wh, yS, su, vC, sx, vA, sy, s9, wu, ta, G0, G3, yG, vW, yH, eq_self, Ci, Ch, Co, Cn, Cp, Dy, Dn, Dr, Dq, Dp, Dx, H5, Dm, tV, Ds, Du, Dv, Dw, qM, qK, qL, qJ, eq_int, GR, HX, u9, nA, rS, va, rT, pj, tw, uK, rA, my, Option.map_some, Option.map_none, List.map_cons, List.map_nil, wW, mY, fY, fA, CH, zn, NE, vz, vw, zq, CO, CP, CI, CJ, zu, C4, C5, CY, CZ, wb, qa, oK, List.nil_append, List.append_nil, List.cons_append, tD, yK, Ck, vZ, yJ, Hc, Hd, vq, HN, HM, ym, y9, yl, yn, Cj, not_true_eq_false, not_false_eq_true, and_true, true_and, and_false, false_and, or_true, true_or, or_false, false_or, Classical.not_not, Bool.false_bne, Bool.true_bne, Bool.false_xor, Bool.true_xor, zI, tH, wD, tA, tE, zN, Db, Da, wG, tF, wC, ow, tB, tC, tG, zL, mV, qw, qx, qq, qp, qA, qu, ou, oz, qt, qv, zM, zK, zJ, qB, wF, TT, TU, MW, MX, MY, MZ, CK, CL, CM, CN, M8, Na, Nb, Nc, C0, C1, C2, C3, sS, sT, vX, vY, Dg, Dh, Dd, Df, Nl, Ny, Nm, Nw, yc, yd, DX, DY, u4, decide_true, decide_false, Bool.not_true, Bool.not_false, cond_true, cond_false, implies_true, Int.cast_ofNat_Int, Hi, C9, e6, aM, cf, bK, az, aL, aK, ql, wm, wv, v8, v7, sA, yu, ya, vo, oW, pW, nf, wT, tT, Aa, wP, oG, wR, lS, qG, oH, wS, mX, tR, lT, qH, wU, rP, rQ, pi, wH, wV, qC, qn, gP, bz, yB, wq, MC, Hk, ME, HO, Dc, zO, wJ, wY, tX, H9, Ia, Ah, yF, yI, List.length_cons, List.length_nil, Nat.zero_add, Nat.add_zero, List.take_succ_cons, List.take_zero, List.take_nil, List.drop_succ_cons, List.drop_zero, List.drop_nil, List.getElem?_cons_zero, List.getElem?_cons_succ, List.getElem?_nil, Option.getD_some, List.set_cons_zero, List.set_cons_succ, fh, ne_eq, Bool.or_true, Bool.or_false, Bool.true_or, Bool.false_or, Bool.and_true, Bool.true_and, Bool.and_false, Bool.false_and, Nq, Ns, Nt, Nn, Nr, De, oA, oB, vi, BX, vP, B9, vO, sK, vG, vJ, Ca, GZ, GY, vL, yx, vK, pS, vH, yv, vI, vN, B7, vM, od, sG, sH, sC, sB, sI, sE, pR, pT, B6, sD, sF, B8, BZ, BY, sL, yy, yw, sJ, pV, og, pU, tu, zQ, sv, jM, AW, AV, vB, Dl, z7, yz, vR, yM, v9, vF, na, Cs, uM, Ct, uN, rV, wL, zP, Di, rW, wM, yE, Dk, Dj, zV, zU, zT, zS, tJ, tI, CW, CX, M4, M5, M6, M7, zt, CQ, CR, CS, CT, CU, CV, vv, BT, yj, yg, pM, yh, mN, sl, pN, yi, oa, mO, sj, yk, sk, ss, vu, vt, si, CD, zd, Cr, yR, Nat.beq_refl, wE, y8, s6, Cz, y7, wa, qy, ot, rI, te, za, wo, rk, sM, z9, wQ, tS, Nx, Nu, Np, sV, tL, zB, wA, tp, wz, C7, zy, zw, mT, qm, mU, zz, zx, zA, tq, tN, qD, oD, wN, tO, qE, wO, tM, kF, tP, oE, pQ, ob, BV, yp, yq, vE, BW, yo, mP, yr, yO, yN, tU, G6, G5, zC, HK, Am, w7, DA, Al, An, ua, wB, tt, Bool.and_self, List.getElem?_map, List.length_map, po, vS, sN, sO, vT, rn, yA, Option.map_none, List.isEmpty_nil, simprocAttr]
theorem Th : hJ T dq (.pure BQ) := by
 intro θ m m' args aw v hg ha h
 unfold BQ at h
 split at h
 ·cases h
  rename_i s c
  have : aw = [.str s, .str [c]] := ha.flat rfl
  subst this;exact ⟨θ, _, Tg, .ret (.int _ _) hg, .refl _ _ _⟩
 ·cases h
end
section
def A0 : Nat -> Option iz := up A00 dq (.pure BQ)
theorem UH : ∀ f e, A0 f = some e -> hJ T f e := Kx VY Th
end
section
theorem UR : isTrue (aS A0 5000 8 [] bR) = true := by kernel_rfl
def A1 : Nat -> Option iz := up A0 8 (.pure Mi)
theorem Yf : ∀ f e, A1 f = some e -> hJ T f e := Kx UH (NP UH (F1 := lm) rfl UR)
def K (f : Nat) : Nat := bif Vc f [3, 7, 10, 22, 23, 36, 37, 38, 39, 40, 41, 43, 45, 46, 48, 49, 50, 55, 61, 62, 63, 64, 65, 68, 70, 71, 72, 75, 76, 94, 95, 99, 101] then 1 else bif Vc f [6, 12, 66, 67] then 2 else 0
abbrev B0 : Nat -> Option iz := A1
theorem Ye : ∀ f e, B0 f = some e -> hJ T f e := Yf
noncomputable def B1 : Nat -> Option iz := up B0 15 (.spec (kz B0 bl))
theorem Yd : ∀ f e, B1 f = some e -> hJ T f e := uA Ye (F1 := bl) rfl
noncomputable def B2 : Nat -> Option iz := up B1 29 (.spec (kz B1 bq))
theorem Yc : ∀ f e, B2 f = some e -> hJ T f e := uA Yd (F1 := bq) rfl
noncomputable def B3 : Nat -> Option iz := up B2 16 (.spec (kz B2 cz))
theorem Yb : ∀ f e, B3 f = some e -> hJ T f e := uA Yc (F1 := cz) rfl
noncomputable def B4 : Nat -> Option iz := up B3 20 (.spec (kz B3 bm))
theorem Ya : ∀ f e, B4 f = some e -> hJ T f e := uA Yb (F1 := bm) rfl
noncomputable def B5 : Nat -> Option iz := up B4 14 (.spec (kz B4 bC))
theorem X9 : ∀ f e, B5 f = some e -> hJ T f e := uA Ya (F1 := bC) rfl
noncomputable abbrev B : Nat -> Option iz := B5
theorem abM : ∀ f e, B f = some e -> hJ T f e := X9
noncomputable abbrev U : Nat -> Option iz := UT B K
instance : cC B5 3 dv := ⟨rfl⟩
instance : fL K 3 := ⟨rfl⟩
instance : cC B5 6 eT := ⟨rfl⟩
instance : Ke K 6 := ⟨rfl⟩
instance : cC B5 7 gW := ⟨rfl⟩
instance : fL K 7 := ⟨rfl⟩
instance : cC B5 10 gd := ⟨rfl⟩
instance : fL K 10 := ⟨rfl⟩
instance : cC B5 12 fV := ⟨rfl⟩
instance : Ke K 12 := ⟨rfl⟩
instance : cC B5 13 jV := ⟨rfl⟩
instance : dm K 13 := ⟨rfl⟩
instance : dm K 14 := ⟨rfl⟩
instance : dm K 15 := ⟨rfl⟩
instance : dm K 16 := ⟨rfl⟩
instance : cC B5 17 dl := ⟨rfl⟩
instance : dm K 17 := ⟨rfl⟩
instance : cC B5 18 cr := ⟨rfl⟩
instance : dm K 18 := ⟨rfl⟩
instance : cC B5 19 ey := ⟨rfl⟩
instance : dm K 19 := ⟨rfl⟩
instance : dm K 20 := ⟨rfl⟩
instance : cC B5 21 dY := ⟨rfl⟩
instance : dm K 21 := ⟨rfl⟩
instance : cC B5 22 iY := ⟨rfl⟩
instance : fL K 22 := ⟨rfl⟩
instance : cC B5 23 mL := ⟨rfl⟩
instance : fL K 23 := ⟨rfl⟩
instance : cC B5 27 bj := ⟨rfl⟩
instance : dm K 27 := ⟨rfl⟩
instance : cC B5 28 ev := ⟨rfl⟩
instance : dm K 28 := ⟨rfl⟩
instance : dm K 29 := ⟨rfl⟩
instance : cC B5 30 di := ⟨rfl⟩
instance : dm K 30 := ⟨rfl⟩
instance : cC B5 31 cH := ⟨rfl⟩
instance : dm K 31 := ⟨rfl⟩
instance : cC B5 32 bU := ⟨rfl⟩
instance : dm K 32 := ⟨rfl⟩
instance : cC B5 33 dA := ⟨rfl⟩
instance : dm K 33 := ⟨rfl⟩
instance : cC B5 34 cZ := ⟨rfl⟩
instance : dm K 34 := ⟨rfl⟩
instance : cC B5 35 cq := ⟨rfl⟩
instance : dm K 35 := ⟨rfl⟩
instance : cC B5 36 lh := ⟨rfl⟩
instance : fL K 36 := ⟨rfl⟩
instance : cC B5 37 bi := ⟨rfl⟩
instance : fL K 37 := ⟨rfl⟩
instance : cC B5 38 gX := ⟨rfl⟩
instance : fL K 38 := ⟨rfl⟩
instance : cC B5 39 lp := ⟨rfl⟩
instance : fL K 39 := ⟨rfl⟩
instance : cC B5 40 mK := ⟨rfl⟩
instance : fL K 40 := ⟨rfl⟩
instance : cC B5 41 mM := ⟨rfl⟩
instance : fL K 41 := ⟨rfl⟩
instance : cC B5 43 iZ := ⟨rfl⟩
instance : fL K 43 := ⟨rfl⟩
instance : cC B5 45 gY := ⟨rfl⟩
instance : fL K 45 := ⟨rfl⟩
instance : cC B5 46 jS := ⟨rfl⟩
instance : fL K 46 := ⟨rfl⟩
instance : cC B5 48 g9 := ⟨rfl⟩
instance : fL K 48 := ⟨rfl⟩
instance : cC B5 49 ll := ⟨rfl⟩
instance : fL K 49 := ⟨rfl⟩
instance : cC B5 50 fZ := ⟨rfl⟩
instance : fL K 50 := ⟨rfl⟩
instance : cC B5 51 cG := ⟨rfl⟩
instance : dm K 51 := ⟨rfl⟩
instance : cC B5 52 c6 := ⟨rfl⟩
instance : dm K 52 := ⟨rfl⟩
instance : cC B5 53 bT := ⟨rfl⟩
instance : dm K 53 := ⟨rfl⟩
instance : cC B5 54 c7 := ⟨rfl⟩
instance : dm K 54 := ⟨rfl⟩
instance : cC B5 55 dy := ⟨rfl⟩
instance : fL K 55 := ⟨rfl⟩
instance : cC B5 56 dj := ⟨rfl⟩
instance : dm K 56 := ⟨rfl⟩
instance : cC B5 57 dX := ⟨rfl⟩
instance : dm K 57 := ⟨rfl⟩
instance : cC B5 58 dk := ⟨rfl⟩
instance : dm K 58 := ⟨rfl⟩
instance : cC B5 59 ca := ⟨rfl⟩
instance : dm K 59 := ⟨rfl⟩
instance : cC B5 60 dF := ⟨rfl⟩
instance : dm K 60 := ⟨rfl⟩
instance : cC B5 61 iX := ⟨rfl⟩
instance : fL K 61 := ⟨rfl⟩
instance : cC B5 62 jT := ⟨rfl⟩
instance : fL K 62 := ⟨rfl⟩
instance : cC B5 63 gU := ⟨rfl⟩
instance : fL K 63 := ⟨rfl⟩
instance : cC B5 64 li := ⟨rfl⟩
instance : fL K 64 := ⟨rfl⟩
instance : cC B5 65 jQ := ⟨rfl⟩
instance : fL K 65 := ⟨rfl⟩
instance : cC B5 66 lj := ⟨rfl⟩
instance : Ke K 66 := ⟨rfl⟩
instance : cC B5 67 lk := ⟨rfl⟩
instance : Ke K 67 := ⟨rfl⟩
instance : cC B5 68 dx := ⟨rfl⟩
instance : fL K 68 := ⟨rfl⟩
instance : cC B5 69 cL := ⟨rfl⟩
instance : dm K 69 := ⟨rfl⟩
instance : cC B5 70 bp := ⟨rfl⟩
instance : fL K 70 := ⟨rfl⟩
instance : cC B5 71 pz := ⟨rfl⟩
instance : fL K 71 := ⟨rfl⟩
instance : cC B5 72 aP := ⟨rfl⟩
instance : fL K 72 := ⟨rfl⟩
instance : cC B5 73 gb := ⟨rfl⟩
instance : dm K 73 := ⟨rfl⟩
instance : cC B5 74 cX := ⟨rfl⟩
instance : dm K 74 := ⟨rfl⟩
instance : cC B5 75 jR := ⟨rfl⟩
instance : fL K 75 := ⟨rfl⟩
instance : cC B5 76 aE := ⟨rfl⟩
instance : fL K 76 := ⟨rfl⟩
instance : cC B5 77 dT := ⟨rfl⟩
instance : dm K 77 := ⟨rfl⟩
instance : cC B5 79 b9 := ⟨rfl⟩
instance : dm K 79 := ⟨rfl⟩
instance : cC B5 80 dU := ⟨rfl⟩
instance : dm K 80 := ⟨rfl⟩
instance : cC B5 81 dz := ⟨rfl⟩
instance : dm K 81 := ⟨rfl⟩
instance : cC B5 82 cW := ⟨rfl⟩
instance : dm K 82 := ⟨rfl⟩
instance : cC B5 83 cY := ⟨rfl⟩
instance : dm K 83 := ⟨rfl⟩
instance : cC B5 84 fg := ⟨rfl⟩
instance : dm K 84 := ⟨rfl⟩
instance : cC B5 85 dV := ⟨rfl⟩
instance : dm K 85 := ⟨rfl⟩
instance : cC B5 86 ff := ⟨rfl⟩
instance : dm K 86 := ⟨rfl⟩
instance : cC B5 87 fc := ⟨rfl⟩
instance : dm K 87 := ⟨rfl⟩
instance : cC B5 88 dZ := ⟨rfl⟩
instance : dm K 88 := ⟨rfl⟩
instance : cC B5 89 e9 := ⟨rfl⟩
instance : dm K 89 := ⟨rfl⟩
instance : cC B5 90 ed := ⟨rfl⟩
instance : dm K 90 := ⟨rfl⟩
instance : cC B5 91 dE := ⟨rfl⟩
instance : dm K 91 := ⟨rfl⟩
instance : cC B5 94 cR := ⟨rfl⟩
instance : fL K 94 := ⟨rfl⟩
instance : cC B5 95 bd := ⟨rfl⟩
instance : fL K 95 := ⟨rfl⟩
instance : cC B5 96 cK := ⟨rfl⟩
instance : dm K 96 := ⟨rfl⟩
instance : cC B5 97 dC := ⟨rfl⟩
instance : dm K 97 := ⟨rfl⟩
instance : cC B5 98 ct := ⟨rfl⟩
instance : dm K 98 := ⟨rfl⟩
instance : cC B5 99 bH := ⟨rfl⟩
instance : fL K 99 := ⟨rfl⟩
instance : cC B5 100 dB := ⟨rfl⟩
instance : dm K 100 := ⟨rfl⟩
instance : cC B5 101 jU := ⟨rfl⟩
instance : fL K 101 := ⟨rfl⟩
instance : cC B5 102 dD := ⟨rfl⟩
instance : dm K 102 := ⟨rfl⟩
instance : cC B5 103 bQ := ⟨rfl⟩
instance : dm K 103 := ⟨rfl⟩
theorem lG {args : List EV} {m : Mem} : run U 15 args m = kz B0 bl args m := D4 (h := ⟨rfl⟩) rfl
theorem rF {args : List EV} {m : Mem} : run B2 15 args m = kz B0 bl args m := ru rfl
theorem mc {args : List EV} {m : Mem} : run U 29 args m = kz B1 bq args m := D4 (h := ⟨rfl⟩) rfl
theorem s4 {args : List EV} {m : Mem} : run B2 29 args m = kz B1 bq args m := ru rfl
theorem xd {args : List EV} {m : Mem} : run U 16 args m = kz B2 cz args m := D4 (h := ⟨rfl⟩) rfl
theorem lH {args : List EV} {m : Mem} : run U 20 args m = kz B3 bm args m := D4 (h := ⟨rfl⟩) rfl
theorem rE {args : List EV} {m : Mem} : run B4 20 args m = kz B3 bm args m := ru rfl
theorem sZ {args : List EV} {m : Mem} : run U 14 args m = kz B4 bC args m := D4 (h := ⟨rfl⟩) rfl
theorem KN {m : Mem} : run U 8 [] m = some (.ret (.bool true) m) := P9 (f := 8) (by unfold U UT PT; rfl)
end
end Go.Proofs.YtdiccmapankckaaDoor.Ev
