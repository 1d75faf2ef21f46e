/- EvRec, EvArgs, EvIn, EvFzIn, EvSlice, EvRow, EvUp, EvS, EvA, EvA0, EvU, EvLoop, PLex, PLx, WNm, PTree, WTree1, WNv. -/
import Derived.WideShapes
import Derived.Deep.Slices
import GoSem.Dispatch
import Derived.Test.YtblcomejcahkdaaDoorMe
set_option linter.unusedSimpArgs false
set_option linter.unusedVariables false
set_option linter.unusedSectionVars false
set_option linter.defProp false
set_option maxRecDepth 20000
set_option maxHeartbeats 8000000
namespace Go.Proofs.YtblcomejcahkdaaDoor.Ev
open Go
section
def PT (T : Nat -> Option fg) (K : Nat -> Nat) (P : Nat -> List EV -> Option EV) (f : Nat) : Option fg := match K f with
 | 0 => T f
 | 1 => some (.spec (gK (P f)))
 | _ => some (.spec (fu (P f)))
noncomputable def PF (T : Nat -> Option fg) (K : Nat -> Nat) : Nat -> Nat -> List EV -> Option EV
 | 0, _, _ => none
 | k + 1, f, cM => match T f with
  | some (.go F) => gW (PT T K (PF T K k)) F cM
  | _ => none
noncomputable def aM (T : Nat -> Option fg) (K : Nat -> Nat) (f : Nat) (cM : List EV) : Option EV := Li fun k => PF T K k f cM
noncomputable def UT (T : Nat -> Option fg) (K : Nat -> Nat) : Nat -> Option fg := PT T K (aM T K)
def TZ (P P' : Nat -> List EV -> Option EV) : Prop := ∀ f cM V, P f cM = some V -> P' f cM = some V
theorem FM {g g' : List EV -> Option EV} (h : ∀ cM V, g cM = some V -> g' cM = some V) {args : List EV} {m : Mem} {r : Fin} (e : gK g args m = some r) : gK g' args m = some r := by
 unfold gK at e ⊢
 cases hf : bj deep m args with
 | none => simp [hf] at e
 | some cM =>
  simp only [hf] at e ⊢
  cases hv : g (dW 1 cM) with
  | none => simp [hv] at e
  | some V => rw [h _ _ hv]; simp only [hv] at e ⊢; exact e
theorem FL {g g' : List EV -> Option EV} (h : ∀ cM V, g cM = some V -> g' cM = some V) {args : List EV} {m : Mem} {r : Fin} (e : fu g args m = some r) : fu g' args m = some r := by
 unfold fu at e ⊢
 cases hc : dw args <;> simp only [hc, cond_true, cond_false, reduceCtorEq] at e ⊢
 cases hf : bj deep m args with
 | none => simp [hf] at e
 | some cM =>
  simp only [hf] at e ⊢
  cases hv : g (dW 1 cM) with
  | none => simp [hv] at e
  | some V => rw [h _ _ hv]; simp only [hv] at e ⊢; exact e
theorem u4 {T : Nat -> Option fg} {K : Nat -> Nat} {P P' : Nat -> List EV -> Option EV} (h : TZ P P') : ∀ n, kh (aC (PT T K P) n) (aC (PT T K P') n)
 | 0 => fun f a m r e => by simp [aC] at e
 | n + 1 => fun f a m r e => by
  simp only [aC] at e ⊢
  rcases hK : K f with _ | _ | q <;> simp only [PT, hK] at e ⊢
  ·cases hT : T f with
   | none => simp [hT] at e
   | some x =>
    simp only [hT] at e ⊢
    cases x with
    | go F => simp only [fc] at e ⊢; exact kL (u4 h n) (ee _) e
    | ext g => exact e
    | pure g => exact e
    | spec g => exact e
    | EK F D => simp only [fc] at e ⊢; exact uJ (u4 h n) (ee _) e
  ·simp only [fc] at e ⊢; exact FM (h f) e
  ·simp only [fc] at e ⊢; exact FL (h f) e
theorem A9 {T1 T2 : Nat -> Option fg} (h : ∀ n, kh (aC T1 n) (aC T2 n)) {F : ar} {cM : List EV} {V : EV} (e : gW T1 F cM = some V) : gW T2 F cM = some V := by
 obtain ⟨n, v, m, hb, hf⟩ := rn e
 exact nU (kL (h n) (ee _) hb) hf
theorem EU {T : Nat -> Option fg} {K : Nat -> Nat} : ∀ k, TZ (PF T K k) (PF T K (k + 1))
 | 0 => fun f cM V e => by simp [PF] at e
 | k + 1 => fun f cM V e => by
  simp only [PF] at e ⊢
  cases hT : T f with
  | none => simp [hT] at e
  | some x =>
   cases x with
   | go F => simp only [hT] at e ⊢; exact A9 (u4 (EU k)) e
   | ext g => simp [hT] at e
   | pure g => simp [hT] at e
   | spec g => simp [hT] at e
   | EK F D => simp [hT] at e
theorem EW {T : Nat -> Option fg} {K : Nat -> Nat} {k k' : Nat} (h : k <= k') : TZ (PF T K k) (PF T K k') := by
 induction h with
 | refl => exact fun _ _ _ e => e
 | step _ ih => exact fun f cM V e => EU _ f cM V (ih f cM V e)
theorem My {T : Nat -> Option fg} {K : Nat -> Nat} {f : Nat} {cM : List EV} : u7 fun k => PF T K k f cM := fun _ _ _ h e => EW h f cM _ e
theorem jv {T : Nat -> Option fg} {K : Nat -> Nat} {f : Nat} {cM : List EV} {V : EV} : aM T K f cM = some V ↔ ∃ k, PF T K k f cM = some V := lF My
section
variable {c : Call} {ck : Nat -> Call} (hm : ∀ k k', k <= k' -> kh (ck k) (ck k')) (hc : ∀ f a m r, c f a m = some r -> ∃ k, ck k f a m = some r)
include hm hc
theorem uI {fv : EV} {a : List EV} {m : Mem} {r : Fin} (e : dy c fv a m = some r) : ∃ k, dy (ck k) fv a m = some r := by
 cases fv <;> simp only [dy, reduceCtorEq] at e ⊢
 exact hc _ _ _ _ e
theorem ml : ∀ (ops : List aF) (fr : Fr) (m : Mem) (r : Out), et c ops fr m = some r -> ∃ k, et (ck k) ops fr m = some r
 | [], fr, m, r, e => ⟨0, e⟩
 | o :: ops, fr, m, r, e => by
  simp only [et] at e ⊢
  cases hw : aG fr o.guard with
  | none => simp [hw] at e
  | some b =>
  cases b with
  | false => simp only [hw] at e ⊢; exact ml ops _ _ _ e
  | true =>
   simp only [hw] at e ⊢
   cases ho : o.op with
   | val op =>
    simp only [ho] at e ⊢
    cases hv : ap fr.eval op m with
    | none => simp [hv] at e
    | some q => obtain ⟨v, m1⟩ := q; simp only [hv] at e ⊢; exact ml ops _ _ _ e
   | call f args =>
    simp only [ho] at e ⊢
    cases hv : dy c (fr.eval f) (args.map fr.eval) m with
    | none => simp [hv] at e
    | some q =>
     obtain ⟨k1, h1⟩ := uI hm hc hv
     cases q with
     | ret v m1 =>
      simp only [hv] at e;obtain ⟨k2, h2⟩ := ml ops _ _ _ e
      refine ⟨max k1 k2, ?_⟩
      rw [oj (hm k1 _ (Nat.le_max_left _ _)) h1];exact ld (hm k2 _ (Nat.le_max_right _ _)) _ _ _ _ h2
     | dZ v m1 => simp only [hv] at e; exact ⟨k1, by rw [h1]; exact e⟩
   | panic x => simp only [ho] at e ⊢; exact ⟨0, e⟩
   | defer f args =>
    simp only [ho] at e ⊢
    split at e
    ·rename_i hx
     obtain ⟨k, h⟩ := ml ops _ _ _ e
     exact ⟨k, h⟩
    ·cases e
theorem fZ {chk : List (Nat × Nat)} {B0 : Nat} : ∀ (ops : List aF) (i : Nat) (fr : Fr) (m : Mem) (sn : List (Nat × Mem)) (se : List Seen) (r : Out), b6 c chk B0 ops i fr m sn se = some r -> ∃ k, b6 (ck k) chk B0 ops i fr m sn se = some r
 | [], i, fr, m, sn, se, r, e => ⟨0, e⟩
 | o :: ops, i, fr, m, sn, se, r, e => by
  simp only [b6] at e ⊢
  cases hw : aG fr o.guard with
  | none => simp [hw] at e
  | some b =>
  cases b with
  | false => simp only [hw] at e ⊢; exact fZ ops _ _ _ _ _ _ e
  | true =>
   simp only [hw] at e ⊢
   cases ho : o.op with
   | val op =>
    simp only [ho] at e ⊢
    split at e
    ·cases hv : ap fr.eval op m with
     | none => simp [hv] at e
     | some q => obtain ⟨v, m1⟩ := q; simp only [hv] at e ⊢; exact fZ ops _ _ _ _ _ _ e
    ·cases hv : ap fr.eval op ⟨B0 + i, m.kl⟩ with
     | none => simp [hv] at e
     | some q => obtain ⟨v, m1⟩ := q; simp only [hv] at e ⊢; exact fZ ops _ _ _ _ _ _ e
    ·split at e
     ·rename_i agg x _
      cases hl : m.load agg (fr.eval x) with
      | none => simp [hl] at e
      | some v =>
       simp only [hl] at e ⊢
       cases hf : wK (fr.eval x) <;> simp only [hf, cond_true, cond_false] at e ⊢
       ·cases hk : aT chk i agg (fr.eval x) v sn <;> simp only [hk, cond_true, cond_false, reduceCtorEq] at e ⊢
        exact fZ ops _ _ _ _ _ _ e
       ·cases hk : cb chk i m.next sn <;> simp only [hk, cond_true, cond_false, reduceCtorEq] at e ⊢
        exact fZ ops _ _ _ _ _ _ e
     ·cases e
    ·rename_i h0 h1 h2
     cases hv : ap fr.eval op m with
     | none => simp [hv] at e
     | some q =>
      obtain ⟨v, m1⟩ := q
      simp only [hv] at e ⊢
      cases hk : aE chk i m1 se <;> simp only [hk, cond_true, cond_false, reduceCtorEq] at e ⊢
      exact fZ ops _ _ _ _ _ _ e
   | call f args =>
    simp only [ho] at e ⊢
    cases hv : dy c (fr.eval f) (args.map fr.eval) m with
    | none => simp [hv] at e
    | some q =>
     obtain ⟨k1, h1⟩ := uI hm hc hv
     cases q with
     | ret v m1 =>
      simp only [hv] at e
      cases hk : aE chk i m1 se <;> simp only [hk, cond_true, cond_false, reduceCtorEq] at e
      obtain ⟨k2, h2⟩ := fZ ops _ _ _ _ _ _ e
      refine ⟨max k1 k2, ?_⟩
      rw [oj (hm k1 _ (Nat.le_max_left _ _)) h1];simp only [hk, cond_true];exact fM (hm k2 _ (Nat.le_max_right _ _)) _ _ _ _ _ _ _ h2
     | dZ v m1 => simp [hv] at e
   | panic x => simp [ho] at e
   | defer f args => simp [ho] at e
theorem zY {n : Nat} {a : au} (ha : ∀ fr m r, ah c n a fr m = some r -> ∃ k, ah (ck k) n a fr m = some r) : ∀ (j : Nat) (fr : Fr) (m : Mem) (r : Out), iter (ah c n a) j fr m = some r -> ∃ k, iter (ah (ck k) n a) j fr m = some r
 | 0, fr, m, r, e => by simp [iter] at e
 | j + 1, fr, m, r, e => by
  simp only [iter] at e ⊢
  cases hb : ah c n a fr m with
  | none => simp [hb] at e
  | some o =>
   obtain ⟨k1, h1⟩ := ha _ _ _ hb
   simp only [hb] at e
   cases o with
   | norm dB m1 =>
    obtain ⟨k2, h2⟩ := zY ha j dB m1 r e
    refine ⟨max k1 k2, ?_⟩
    rw [cQ (hm k1 _ (Nat.le_max_left k1 k2)) (ee _) _ _ _ _ h1];exact p9 (fun fr m r e => cQ (hm k2 _ (Nat.le_max_right k1 k2)) (ee _) _ _ _ _ e) j j (ee _) _ _ _ h2
   | exit id dB m1 => exact ⟨k1, by rw [h1]; exact e⟩
   | ret dB m1 => exact ⟨k1, by rw [h1]; exact e⟩
   | dZ v dB m1 => exact ⟨k1, by rw [h1]; exact e⟩
theorem fB {n : Nat} : ∀ (x : au) (fr : Fr) (m : Mem) (r : Out), ah c n x fr m = some r -> ∃ k, ah (ck k) n x fr m = some r
 | .skip, fr, m, r, e => ⟨0, e⟩
 | .ret, fr, m, r, e => ⟨0, e⟩
 | .exit id, fr, m, r, e => ⟨0, e⟩
 | .region ops, fr, m, r, e => by simp only [ah] at e ⊢; exact ml hm hc _ _ _ _ e
 | .draw ops chk, fr, m, r, e => by simp only [ah] at e ⊢; exact fZ hm hc _ _ _ _ _ _ _ e
 | .seq a b, fr, m, r, e => by
  simp only [ah] at e ⊢
  cases ha : ah c n a fr m with
  | none => simp [ha] at e
  | some o =>
   obtain ⟨k1, h1⟩ := fB a _ _ _ ha
   simp only [ha] at e
   cases o with
   | norm dB m1 =>
    obtain ⟨k2, h2⟩ := fB b _ _ _ e
    refine ⟨max k1 k2, ?_⟩
    rw [cQ (hm k1 _ (Nat.le_max_left k1 k2)) (ee _) _ _ _ _ h1];exact cQ (hm k2 _ (Nat.le_max_right k1 k2)) (ee _) _ _ _ _ h2
   | exit id dB m1 => exact ⟨k1, by rw [h1]; exact e⟩
   | ret dB m1 => exact ⟨k1, by rw [h1]; exact e⟩
   | dZ v dB m1 => exact ⟨k1, by rw [h1]; exact e⟩
 | .cond x a b, fr, m, r, e => by
  simp only [ah] at e ⊢
  split at e
  ·rename_i t _
   cases t <;> simp only [cond_true, cond_false] at e ⊢
   ·exact fB b _ _ _ e
   ·exact fB a _ _ _ e
  ·cases e
 | .block id a, fr, m, r, e => by
  simp only [ah] at e ⊢
  cases ha : ah c n a fr m with
  | none => simp [ha] at e
  | some o =>
   obtain ⟨k1, h1⟩ := fB a _ _ _ ha
   simp only [ha] at e;exact ⟨k1, by rw [h1]; exact e⟩
 | .loop a, fr, m, r, e => by
  simp only [ah] at e ⊢
  exact zY hm hc (fun fr m r => fB a fr m r) n fr m r e
theorem po {n : Nat} {F : ar} {args : List EV} {m : Mem} {r : Fin} (e : cf c n F args m = some r) : ∃ k, cf (ck k) n F args m = some r := by
 unfold cf at e ⊢
 cases hl : args.length.ble F.ntmps <;> simp only [hl, cond_true, cond_false, reduceCtorEq] at e ⊢
 cases Bs : ah c n F.body ⟨bO args 0 .leaf, []⟩ m with
 | none => simp [Bs] at e
 | some o =>
  obtain ⟨k, h⟩ := fB hm hc _ _ _ _ Bs
  simp only [Bs] at e;exact ⟨k, by rw [h]; exact e⟩
theorem AK {n d : Nat} {F : ar} {args : List EV} {u : Option EV} {m r : Mem} (e : dj c n d F args u m = some r) : ∃ k, dj (ck k) n d F args u m = some r := by
 unfold dj at e ⊢
 cases hl : args.length.ble F.ntmps <;> simp only [hl, cond_true, cond_false, reduceCtorEq] at e ⊢
 cases Bs : ah c n F.body (Fr.set ⟨bO args 0 .leaf, []⟩ d (u.getD .aq)) m with
 | none => simp [Bs] at e
 | some o =>
  obtain ⟨k, h⟩ := fB hm hc _ _ _ _ Bs
  simp only [Bs] at e;exact ⟨k, by rw [h]; exact e⟩
theorem iz {n : Nat} {rs : List jd} {D : List (Nat × Option Nat × ar)} {fr : Fr} : ∀ (ds : List (Nat × List EV)) (u : Option EV) (m : Mem) (r : Fin), bK c n rs D fr ds u m = some r -> ∃ k, bK (ck k) n rs D fr ds u m = some r
 | [], none, m, r, e => ⟨0, e⟩
 | [], some v, m, r, e => ⟨0, e⟩
 | (g, args) :: ds, u, m, r, e => by
  simp only [bK] at e ⊢
  cases hd : jq g D with
  | none => simp [hd] at e
  | some q =>
   obtain ⟨b, F⟩ := q
   cases b with
   | some d =>
    simp only [hd] at e ⊢
    cases hb : dj c n d F args u m with
    | none => simp [hb] at e
    | some m1 =>
     simp only [hb] at e;obtain ⟨k1, h1⟩ := AK hm hc hb
     obtain ⟨k2, h2⟩ := iz ds none m1 r e
     refine ⟨max k1 k2, ?_⟩
     rw [pp (hm _ _ (Nat.le_max_left k1 k2)) (ee _) h1];exact eI (hm _ _ (Nat.le_max_right k1 k2)) (ee _) _ _ _ _ h2
   | none =>
    simp only [hd] at e ⊢
    cases hb : cf c n F args m with
    | none => simp [hb] at e
    | some fin =>
     simp only [hb] at e;obtain ⟨k1, h1⟩ := po hm hc hb
     have rk : ∀ {u2 : Option EV} {m2 : Mem}, (∃ k, bK (ck k) n rs D fr ds u2 m2 = some r) -> ∃ k2, cf (ck k2) n F args m = some fin /\ bK (ck k2) n rs D fr ds u2 m2 = some r := fun ⟨k2, h2⟩ =>
      ⟨max k1 k2, kL (hm _ _ (Nat.le_max_left k1 k2)) (ee _) h1, eI (hm _ _ (Nat.le_max_right k1 k2)) (ee _) _ _ _ _ h2⟩
     cases fin with
     | ret v m1 =>
      obtain ⟨k2, g1, g2⟩ := rk (iz ds u m1 r e)
      exact ⟨k2, by simp only [g1]; exact g2⟩
     | dZ v m1 =>
      cases u with
      | none =>
       obtain ⟨k2, g1, g2⟩ := rk (iz ds (some v) m1 r e)
       exact ⟨k2, by simp only [g1]; exact g2⟩
      | some x => cases e
theorem AL {n : Nat} {F : ar} {D : List (Nat × Option Nat × ar)} {args : List EV} {m : Mem} {r : Fin} (e : fC c n F D args m = some r) : ∃ k, fC (ck k) n F D args m = some r := by
 unfold fC at e ⊢
 cases hl : args.length.ble F.ntmps <;> simp only [hl, cond_true, cond_false, reduceCtorEq] at e ⊢
 cases Bs : ah c n F.body ⟨bO args 0 .leaf, []⟩ m with
 | none => simp [Bs] at e
 | some o =>
  obtain ⟨k1, h1⟩ := fB hm hc _ _ _ _ Bs
  simp only [Bs] at e;have rk : ∀ {fr : Fr} {ds : List (Nat × List EV)} {u2 : Option EV} {m2 : Mem}, (∃ k, bK (ck k) n F.results D fr ds u2 m2 = some r) -> ∃ k2, ah (ck k2) n F.body ⟨bO args 0 .leaf, []⟩ m = some o /\ bK (ck k2) n F.results D fr ds u2 m2 = some r := fun ⟨k2, h2⟩ =>
   ⟨max k1 k2, cQ (hm _ _ (Nat.le_max_left k1 k2)) (ee _) _ _ _ _ h1, eI (hm _ _ (Nat.le_max_right k1 k2)) (ee _) _ _ _ _ h2⟩
  cases o with
  | exit id fr m1 => cases e
  | norm fr m1 =>
   obtain ⟨k2, g1, g2⟩ := rk (iz hm hc _ _ _ _ e)
   exact ⟨k2, by simp only [g1]; exact g2⟩
  | ret fr m1 =>
   obtain ⟨k2, g1, g2⟩ := rk (iz hm hc _ _ _ _ e)
   exact ⟨k2, by simp only [g1]; exact g2⟩
  | dZ v fr m1 =>
   obtain ⟨k2, g1, g2⟩ := rk (iz hm hc _ _ _ _ e)
   exact ⟨k2, by simp only [g1]; exact g2⟩
end
section
variable {T : Nat -> Option fg} {K : Nat -> Nat}
theorem QH (k : Nat) : TZ (PF T K k) (aM T K) := fun _ _ _ e => jv.2 ⟨k, e⟩
theorem K2 : ∀ (n f : Nat) (a : List EV) (m : Mem) (r : Fin), aC (UT T K) n f a m = some r -> ∃ k, aC (PT T K (PF T K k)) n f a m = some r
 | 0, f, a, m, r, e => by simp [aC] at e
 | n + 1, f, a, m, r, e => by
  have ih := K2 n
  simp only [aC] at e ⊢
  rcases hK : K f with _ | _ | q <;> simp only [UT, PT, hK] at e ⊢
  ·cases hT : T f with
   | none => simp [hT] at e
   | some x =>
    simp only [hT] at e ⊢
    cases x with
    | go F =>
     simp only [fc] at e ⊢
     exact po (c := aC (UT T K) n) (ck := fun k => aC (PT T K (PF T K k)) n) (fun k k' h => u4 (EW h) n) ih e
    | ext g => exact ⟨0, e⟩
    | pure g => exact ⟨0, e⟩
    | spec g => exact ⟨0, e⟩
    | EK F D =>
     simp only [fc] at e ⊢
     exact AL (c := aC (UT T K) n) (ck := fun k => aC (PT T K (PF T K k)) n) (fun k k' h => u4 (EW h) n) ih e
  ·simp only [fc] at e ⊢
   unfold gK at e ⊢
   cases hf : bj deep m a with
   | none => simp [hf] at e
   | some cM =>
    simp only [hf] at e ⊢
    cases hv : aM T K f (dW 1 cM) with
    | none => simp [hv] at e
    | some V =>
     obtain ⟨k, hk⟩ := jv.1 hv
     simp only [hv] at e;exact ⟨k, by simp only [hk]; exact e⟩
  ·simp only [fc] at e ⊢
   unfold fu at e ⊢
   cases mN : dw a <;> simp only [mN, cond_true, cond_false, reduceCtorEq] at e ⊢
   cases hf : bj deep m a with
   | none => simp [hf] at e
   | some cM =>
    simp only [hf] at e ⊢
    cases hv : aM T K f (dW 1 cM) with
    | none => simp [hv] at e
    | some V =>
     obtain ⟨k, hk⟩ := jv.1 hv
     simp only [hv] at e;exact ⟨k, by simp only [hk]; exact e⟩
theorem tH {f : Nat} {F : ar} (hT : T f = some (.go F)) {cM : List EV} : aM T K f cM = gW (UT T K) F cM := by
 refine bV fun V => ⟨fun h => ?_, fun h => ?_⟩
 ·obtain ⟨k, hk⟩ := jv.1 h
  cases k with
  | zero => simp [PF] at hk
  | succ k =>
   simp only [PF, hT] at hk;exact A9 (u4 (QH k)) hk
 ·obtain ⟨n, v, m, hb, hf⟩ := rn h
  obtain ⟨k, hk⟩ := po (c := aC (UT T K) n) (ck := fun k => aC (PT T K (PF T K k)) n) (fun k k' h => u4 (EW h) n) (K2 n) hb
  refine jv.2 ⟨k + 1, ?_⟩
  simp only [PF, hT];exact nU hk hf
theorem K6 {T0 : Nat -> Option fg} (hT : ∀ f e, T f = some e -> fU T0 f e) {P : Nat -> List EV -> Option EV} (hP : ∀ f, K f ≠ 0 -> fU T0 f (.spec (gK (P f))) /\ fU T0 f (.spec (fu (P f)))) : ∀ f e, PT T K P f = some e -> fU T0 f e := by
 intro f e h
 unfold PT at h
 split at h
 ·exact hT f e h
 ·rename_i hk; cases h; exact (hP f (by omega)).1
 ·rename_i hk _; cases h; exact (hP f (by omega)).2
theorem l4 {T0 : Nat -> Option fg} {f : Nat} {g : List EV -> Option EV} (h : ∀ cM, g cM = none) : fU T0 f (.spec (gK g)) /\ fU T0 f (.spec (fu g)) := by
 constructor
 ·intro θ m m' args aj fin _ _ e
  unfold gK at e
  split at e
  ·rw [h] at e; cases e
  ·cases e
 ·intro θ m m' args aj fin _ _ e
  unfold fu at e
  cases mN : dw args <;> simp only [mN, cond_true, cond_false, reduceCtorEq] at e
  split at e
  ·rw [h] at e; cases e
  ·cases e
theorem DL {T0 : Nat -> Option fg} (hT : ∀ f e, T f = some e -> fU T0 f e) : ∀ k f, fU T0 f (.spec (gK (PF T K k f))) /\ fU T0 f (.spec (fu (PF T K k f)))
 | 0, f => l4 fun cM => rfl
 | k + 1, f => by
  have ih := K6 (K := K) hT fun f _ => DL hT k f
  cases he : T f with
  | none => exact l4 fun cM => by simp only [PF, he]
  | some e =>
   cases e with
   | go F =>
    have hE := hT f _ he
    have hp : ∀ cM V, PF T K (k + 1) f cM = some V -> gW (PT T K (PF T K k)) F cM = some V := fun cM V h => by simpa only [PF, he] using h
    obtain ⟨F0, h1, h2, rfl⟩ := hE
    exact ⟨wu ih h1 h2 hp, wq ih h1 h2 hp⟩
   | ext g => exact l4 fun cM => by simp only [PF, he]
   | pure g => exact l4 fun cM => by simp only [PF, he]
   | spec g => exact l4 fun cM => by simp only [PF, he]
   | EK F D => exact l4 fun cM => by simp only [PF, he]
theorem FK {T0 : Nat -> Option fg} (hT : ∀ f e, T f = some e -> fU T0 f e) (f : Nat) : fU T0 f (.spec (gK (aM T K f))) /\ fU T0 f (.spec (fu (aM T K f))) := by
 constructor
 ·intro θ m m' args aj fin hg ha e
  unfold gK at e
  split at e
  ·rename_i cM hf
   cases hv : aM T K f (dW 1 cM) with
   | none => rw [hv] at e; cases e
   | some V =>
    obtain ⟨k, hk⟩ := jv.1 hv
    refine (DL (K := K) hT k f).1 θ m m' args aj fin hg ha ?_
    unfold gK;rw [hf]; simp only [hk]; rw [hv] at e; exact e
  ·cases e
 ·intro θ m m' args aj fin hg ha e
  unfold fu at e
  cases mN : dw args <;> simp only [mN, cond_true, cond_false, reduceCtorEq] at e
  split at e
  ·rename_i cM hf
   cases hv : aM T K f (dW 1 cM) with
   | none => rw [hv] at e; cases e
   | some V =>
    obtain ⟨k, hk⟩ := jv.1 hv
    refine (DL (K := K) hT k f).2 θ m m' args aj fin hg ha ?_
    unfold fu;rw [mN, hf]; simp only [hk, cond_true]; rw [hv] at e; exact e
  ·cases e
theorem QG {T0 : Nat -> Option fg} (hT : ∀ f e, T f = some e -> fU T0 f e) : ∀ f e, UT T K f = some e -> fU T0 f e := K6 hT fun f _ => FK hT f
end
open Classical in
noncomputable def XO (T : Nat -> Option fg) (F : ar) (args : List EV) (m : Mem) : Option Fin := if args.length <= F.ntmps then
 match nu F (exec T F.body ⟨bO args 0 .leaf, []⟩ m) with
 | some (.ret v m1) => if Flat v = true /\ m.next <= m1.next /\ ∀ b, b < m.next -> m1.get b = m.get b then some (.ret v ⟨m1.next, m.kl⟩) else none
 | _ => none else none
end
section
structure ng where
 bT : Nat
 off : Nat
 total : Nat
 esz : Nat
 cs : List EV
def BI (l : List Int) : List EV := l.map (.int .u64)
def yb (b : Nat) : Nat := match tabl b with | some l => l.length | none => match uw b with | some _ => 1 | none => 0
def gJ (n0 : Nat) (bs : List ng) : Ren := fun b => if b < n0 then some ⟨b, 0, yb b, 1, true⟩ else (bs[b - n0]?).map fun B => ⟨B.bT, B.off, B.total, B.esz, true⟩
def DY : List ng -> Nat -> Tr cY -> Tr cY
 | [], _, t => t
 | B :: r, i, t => DY r (i + 1) (t.set i (.cells B.cs B.esz 0 true))
def HS : List (Nat × List Int) -> Tr cY
 | [] => .leaf
 | (g, l) :: r => (HS r).set g (.cells (BI l) 1 0 true)
theorem y1 {b : Nat} : ∀ ts : List (Nat × List Int), (HS ts).get b = (tabIn ts b).map fun l => .cells (BI l) 1 0 true
 | [] => by simp only [HS, tabIn, Tr.ql, Option.map_none]
 | (g, l) :: r => by
  simp only [HS, tabIn];rw [Tr.ba];by_cases h : b = g
  ·rw [if_pos h, if_pos h]; rfl
  ·rw [if_neg h, if_neg h]; exact y1 r
def J9 (n0 : Nat) : List (Nat × List (List UInt8)) -> Nat -> Tr cY
 | [], _ => HS Ro
 | (g, l) :: r, j => (J9 n0 r (j + 1)).set g (.cells [.slice (n0 + j) 0 l.length none] 1 0 true)
def nK : List (Nat × List (List UInt8)) -> Nat -> Nat -> Option (Nat × List (List UInt8))
 | [], _, _ => none
 | (g, l) :: r, j, b => if b = g then some (j, l) else nK r (j + 1) b
theorem uv {n0 : Nat} : ∀ (gs : List (Nat × List (List UInt8))) (j b : Nat), (J9 n0 gs j).get b = (match nK gs j b with | some p => some (.cells [.slice (n0 + p.1) 0 p.2.length none] 1 0 true) | none => (tabl b).map fun l => .cells (BI l) 1 0 true)
 | [], _, b => by simp only [J9, nK, y1, tabl]
 | (g, l) :: r, j, b => by
  simp only [J9, nK];rw [Tr.ba];by_cases h : b = g
  ·rw [if_pos h, if_pos h]
  ·rw [if_neg h, if_neg h]; exact uv r (j + 1) b
theorem mP {b : Nat} : ∀ (gs : List (Nat × List (List UInt8))) (j : Nat), (nK gs j b).map (·.2) = yc gs b
 | [], _ => rfl
 | (g, l) :: r, j => by
  simp only [nK, yc];by_cases h : b = g
  ·rw [if_pos h, if_pos h]; rfl
  ·rw [if_neg h, if_neg h]; exact mP r (j + 1)
theorem qk {b p : Nat} {l : List (List UInt8)} : ∀ (gs : List (Nat × List (List UInt8))) (j : Nat), nK gs j b = some (p, l) -> j <= p /\ gs[p - j]? = some (b, l)
 | [], _, h => by cases h
 | (g, x) :: r, j, h => by
  simp only [nK] at h;by_cases e : b = g
  ·rw [if_pos e] at h; cases h; subst e; exact ⟨ee _, by rw [Nat.sub_self]; rfl⟩
  ·rw [if_neg e] at h
   obtain ⟨h1, h2⟩ := qk r (j + 1) h
   refine ⟨by omega, ?_⟩
   rw [show p - j = (p - (j + 1)) + 1 by omega]; exact h2
def eb (n0 : Nat) (bs : List ng) : Mem := ⟨n0 + bs.length, DY bs n0 (J9 n0 globs 0)⟩
theorem n6 : ∀ (bs : List ng) (i : Nat) (t : Tr cY) (b : Nat), (DY bs i t).get b = if i <= b /\ b < i + bs.length then (bs[b - i]?).map (fun B => .cells B.cs B.esz 0 true) else t.get b
 | [], i, t, b => by rw [if_neg (fun h => by have := h.2; simp at this; omega)]; rfl
 | B :: bs, i, t, b => by
  simp only [DY];rw [n6 bs (i + 1) _ b, Tr.ba];by_cases h : b = i
  ·subst h
   rw [if_neg (by omega), if_pos rfl, if_pos (by simp)];simp
  ·by_cases h2 : i + 1 <= b /\ b < i + 1 + bs.length
   ·rw [if_pos h2, if_pos (by simp; omega), show b - i = (b - (i + 1)) + 1 by omega]
    simp
   ·rw [if_neg h2, if_neg h, if_neg (by simp; omega)]
theorem uh {n0 : Nat} {bs : List ng} {i : Nat} {B : ng} (h : bs[i]? = some B) : (eb n0 bs).get (n0 + i) = .cells B.cs B.esz 0 true := by
 have aP := (kO.1 h).1
 unfold Mem.get eb;simp only
 rw [n6, if_pos (by omega), show n0 + i - n0 = i by omega, h]
 rfl
theorem rb {n0 : Nat} {bs : List ng} {b : Nat} (h : b < n0) : (eb n0 bs).get b = (match nK globs 0 b with | some p => some (cY.cells [.slice (n0 + p.1) 0 p.2.length none] 1 0 true) | none => (tabl b).map fun l => .cells (BI l) 1 0 true).getD .dead := by
 unfold Mem.get eb;simp only
 rw [n6, if_neg (by omega), uv]
theorem ug {n0 : Nat} {bs : List ng} {b : Nat} (hl : (∀ p ∈ globs, p.1 < n0) /\ ∀ g l, tabl g = some l -> g < n0) (h : n0 + bs.length <= b) : (eb n0 bs).get b = .dead := by
 unfold Mem.get eb;simp only
 rw [n6, if_neg (by omega), uv]
 cases hf : nK globs 0 b with
 | none =>
  cases ht : tabl b with
  | none => rfl
  | some l => have := hl.2 _ _ ht; omega
 | some p =>
  obtain ⟨p, l⟩ := p
  have h2 := (qk _ _ hf).2
  have := hl.1 _ (List.mem_of_getElem? h2)
  omega
theorem z7 {n0 : Nat} {bs : List ng} {i : Nat} {B : ng} (h : bs[i]? = some B) : gJ n0 bs (n0 + i) = some ⟨B.bT, B.off, B.total, B.esz, true⟩ := by
 unfold gJ;rw [if_neg (by omega), show n0 + i - n0 = i by omega, h]
 rfl
theorem z6 {n0 : Nat} {bs : List ng} : ∀ b L, gJ n0 bs b = some L -> L.ro = true := by
 intro b L h
 unfold gJ at h
 split at h
 ·cases h; rfl
 ·obtain ⟨B, _, rfl⟩ := fG.1 h; rfl
def QI (w : World) (n0 : Nat) (bs : List ng) : Prop := ∀ (i : Nat) (B : ng), bs[i]? = some B -> ∃ (arr : Array Value) (e : TypeId) (fz : Nat × Nat), w.heap[B.bT]? = some (.cells arr e fz) /\ arr.size = B.total /\ B.off + B.cs.length <= B.total /\
 ∀ (j : Nat) (v : EV), B.cs[j]? = some v -> ∃ v', arr[B.off + j]? = some v' /\ VR (gJ n0 bs) v v' /\ v'.oneCell' = true
def TFact (w : World) (g : Nat) (l : List Int) : Prop := uw g = none /\ ∃ (arr : Array Value) (e : TypeId) (fz : Nat × Nat), w.heap[g]? = some (.cells arr e fz) /\ arr.toList = l.map (Value.int .u64)
def yN (w : World) (n0 : Nat) (bs : List ng) : Prop := ((∀ p ∈ globs, p.1 < n0) /\ ∀ g l, tabl g = some l -> g < n0) /\ (∀ g l, tabl g = some l -> TFact w g l) /\ ∀ (j g : Nat) (l : List (List UInt8)), globs[j]? = some (g, l) ->
 (∃ (arr : Array Value) (e : TypeId) (fz : Nat × Nat) (v' : Value), w.heap[g]? = some (.cells arr e fz) /\ arr.size = 1 /\ arr[0]? = some v' /\ VR (gJ n0 bs) (.slice (n0 + j) 0 l.length none) v' /\ v'.oneCell' = true) /\
 ∃ B, bs[j]? = some B /\ B.cs = l.map .str /\ B.esz = 1
theorem Vw {w : World} {n0 : Nat} {bs : List ng} (h : QI w n0 bs) (hg : yN w n0 bs) : R w.heap.size (gJ n0 bs) (eb n0 bs) w := by
 have KQ : ∀ b L, gJ n0 bs b = some L -> (b < n0 /\ L = ⟨b, 0, yb b, 1, true⟩) \/ ∃ i B, b = n0 + i /\ bs[i]? = some B := by
  intro b L hb
  unfold gJ at hb
  split at hb
  ·cases hb; exact .inl ⟨‹_›, rfl⟩
  ·obtain ⟨B, hB, rfl⟩ := fG.1 hb
   exact .inr ⟨b - n0, B, by omega, hB⟩
 refine ⟨fun b L hb => ?_, fun b L hb => ?_, fun b c L L' h1 _ _ _ h5 => ?_, ee _, fun b hb => ug hg.1 hb⟩
 ·rcases KQ b L hb with ⟨aP, _⟩ | ⟨i, B, rfl, hB⟩
  ·show b < n0 + bs.length; omega
  ·have := (kO.1 hB).1; show n0 + i < n0 + bs.length; omega
 ·rcases KQ b L hb with ⟨aP, rfl⟩ | ⟨i, B, rfl, hB⟩
  ·rw [rb aP]
   cases hf : nK globs 0 b with
   | none =>
    cases ht : tabl b with
    | none => trivial
    | some l =>
     obtain ⟨Qa, arr, e, fz, h1, h2⟩ := hg.2.1 b l ht
     have lU : arr.size = l.length := by rw [<- Array.length_toList, h2, List.length_map]
     have PQ : yb b = l.length := by unfold yb; rw [ht]
     refine ⟨arr, e, fz, h1, by rw [PQ]; exact lU, rfl, rfl, by rw [PQ]; show 0 + (BI l).length <= l.length; simp [BI], fun i v hv => ?_, (fun e => by cases e), fun _ => (Array.getElem?_eq_some_iff.1 h1).1⟩
     unfold BI at hv;rw [List.getElem?_map] at hv;obtain ⟨n, hn, rfl⟩ := fG.1 hv
     refine ⟨.int .u64 n, ?_, .int _ _, rfl⟩
     rw [<- Array.getElem?_toList, h2, List.getElem?_map, show 0 + i = i by omega, hn]; rfl
   | some p =>
    obtain ⟨p, l⟩ := p
    have h2 := (qk _ _ hf).2
    rw [Nat.sub_zero] at h2;obtain ⟨⟨arr, e, fz, v', h1, h3, h4, h5, h6⟩, _⟩ := hg.2.2 p b l h2
    have ht : yb b = 1 := by
     have := mP (b := b) globs 0
     rw [hf] at this;have tn : tabl b = none := by
      cases e : tabl b with
      | none => rfl
      | some l' => have := (hg.2.1 b l' e).1; unfold uw at this; simp_all
     unfold yb uw;rw [tn, <- this]; rfl
    refine ⟨arr, e, fz, h1, by rw [ht]; exact h3, rfl, rfl, by show 0 + 1 <= yb b; rw [ht]; exact ee _, fun i v hv => ?_, (fun e => by cases e), fun _ => (Array.getElem?_eq_some_iff.1 h1).1⟩
    cases i with
    | zero => simp only [List.getElem?_cons_zero, aQ] at hv; subst hv; exact ⟨v', h4, h5, h6⟩
    | succ i => simp at hv
  ·rw [uh hB]
   rw [z7 hB] at hb
   cases hb
   obtain ⟨arr, e, fz, h1, h2, h3, h4⟩ := h i B hB
   exact ⟨arr, e, fz, h1, h2, rfl, rfl, h3, h4, (fun e => by cases e), fun _ => (Array.getElem?_eq_some_iff.1 h1).1⟩
 ·rw [z6 b L h1] at h5; cases h5
theorem Vx {n0 : Nat} {bs : List ng} {G : List Nat} (h : ∀ g, G.contains g = true -> g < n0) : fJ G (gJ n0 bs) := fun g hg => ⟨⟨g, 0, yb g, 1, true⟩, by unfold gJ; rw [if_pos (h g hg)], rfl, rfl, fun l hl => by unfold yb; simp only [hl]⟩
theorem zZ {n0 : Nat} {bs : List ng} {i : Nat} {B : ng} (h : bs[i]? = some B) {a : Addr} (hb : a.block = B.bT) (hs : a.spot = none) {len cap : Nat} (hl : len <= cap) (ho : 0 < len -> a.off = B.off) : VR (gJ n0 bs) (.slice (n0 + i) 0 len none) (.slice (some a) len cap) := by
 obtain ⟨bT, off, spot⟩ := a
 cases hs; cases hb
 exact .slice (z7 h) hl (fun hh => by have := ho hh; simpa using this) (fun e => by cases e)
theorem law_walk {P : Program} {G : List Nat} (eT : P.follows .mixedOrders = true) {T : Nat -> Option fg} (hT : ∀ f e, T f = some e -> xq P G f e) {f : Nat} {F : ar} (hf : T f = some (.go F)) {n0 : Nat} (hG : ∀ g, G.contains g = true -> g < n0)
  {w : World} {bs : List ng} (hb : QI w n0 bs) (JY : yN w n0 bs) {args : List EV} {aj : Array Value} (hv : cS (gJ n0 bs) args aj.toList) {b : Bool} {m' : Mem} (h : run T f args (eb n0 bs) = some (.ret (.bool b) m')) :
  Calls P f aj w fun e w' => e = .returned (.bool b) /\ Go.RowKit.Below w.heap.size w w' := by
 obtain ⟨k, hk⟩ := jF.1 h
 exact Gv eT hT hf hk (Vw hb JY) (Vx hG) (fun b L h _ => z6 b L h) hv
end
section
open Go Go.Deep
inductive Sh where
 | int (k : IntKind)
 | bool
 | str
 | slice (e : TypeId) (esz : Nat) (s : Sh)
 | struct (l : List Sh)
inductive Dt where
 | int (n : Int)
 | bool (b : Bool)
 | str (s : List UInt8)
 | list (l : List Dt)
 | Ub (l : List Dt)
mutual
inductive Hx (m : Mem) : Sh -> List EV -> Dt -> Prop
 | int {k : IntKind} {n : Int} (h : (Lit.int k n).wf = true) : Hx m (.int k) [.int k n] (.int n)
 | bool (b : Bool) : Hx m .bool [.bool b] (.bool b)
 | str {s : List UInt8} (h : s.length <= maxLen) : Hx m .str [.str s] (.str s)
 | nil {e esz : Nat} {s : Sh} : Hx m (.slice e esz s) [.aa] (.list [])
 | empty {e esz b off : Nat} {s : Sh} : Hx m (.slice e esz s) [.slice b off 0 (some 0)] (.list [])
 | slice {e esz b : Nat} {s : Sh} {ess : List (List EV)} {ds : List Dt} (hl : ds.length <= maxLen) (hm : m.get b = .cells ess.flatten esz 0 true) (h : DK m (List.replicate ds.length s) ess ds) : Hx m (.slice e esz s) [.slice b 0 ds.length none] (.list ds)
 | struct {gI : List Sh} {ess : List (List EV)} {ds : List Dt} (h : DK m gI ess ds) : Hx m (.struct gI) ess.flatten (.Ub ds)
inductive DK (m : Mem) : List Sh -> List (List EV) -> List Dt -> Prop
 | nil : DK m [] [] []
 | cons {s : Sh} {es : List EV} {d : Dt} {gI : List Sh} {ess : List (List EV)} {ds : List Dt} (h : Hx m s es d) (hs : DK m gI ess ds) : DK m (s :: gI) (es :: ess) (d :: ds)
end
section
variable {P : Program} {w : World} {H : Type} {enc : TypeId × Value -> H} {base : Nat} {held : Bool} {n0 : Nat}
def T4 (w : World) (ρ : Ren) (B : ng) : Prop := ∃ (arr : Array Value) (e : TypeId) (fz : Nat × Nat), w.heap[B.bT]? = some (.cells arr e fz) /\ arr.size = B.total /\ B.off + B.cs.length <= B.total /\
 ∀ (j : Nat) (v : EV), B.cs[j]? = some v -> ∃ v', arr[B.off + j]? = some v' /\ VR ρ v v' /\ v'.oneCell' = true
def K5 (all : List ng) (s : Nat) (bs : List ng) : Prop := ∀ i, i < bs.length -> all[s + i]? = bs[i]?
def DQ (w : World) (n0 : Nat) (sh : Sh) (cs : List Value) : Prop :=
 ∃ (k : Nat) (d : Dt), ∀ s, ∃ (es : List EV) (bs : List ng), bs.length = k /\ es.length = cs.length /\ ∀ all, K5 all s bs ->
  cS (gJ n0 all) es cs /\ (∀ c ∈ cs, c.oneCell' = true) /\ (∀ (i : Nat) (B : ng), bs[i]? = some B -> T4 w (gJ n0 all) B) /\ Hx (eb n0 all) sh es d
def DP (w : World) (n0 : Nat) (gI : List Sh) (css : List (List Value)) : Prop :=
 ∃ (k : Nat) (ds : List Dt), ds.length = gI.length /\ ∀ s, ∃ (ess : List (List EV)) (bs : List ng), bs.length = k /\ ess.flatten.length = css.flatten.length /\ ∀ all, K5 all s bs ->
  cS (gJ n0 all) ess.flatten css.flatten /\ (∀ c ∈ css.flatten, c.oneCell' = true) /\ (∀ (i : Nat) (B : ng), bs[i]? = some B -> T4 w (gJ n0 all) B) /\ DK (eb n0 all) gI ess ds
theorem K5.left {all bs cs : List ng} {s : Nat} (h : K5 all s (bs ++ cs)) : K5 all s bs := fun i hi => by
 rw [h i (by simp; omega), rB hi]
theorem K5.right {all bs cs : List ng} {s : Nat} (h : K5 all s (bs ++ cs)) : K5 all (s + bs.length) cs := fun i hi => by
 have := h (bs.length + i) (by simp; omega)
 rw [Nat.add_assoc, this, qJ (by omega)]; congr 1; omega
theorem DP.nil : DP w n0 [] [] := ⟨0, [], rfl, fun s => ⟨[], [], rfl, rfl, fun all _ => ⟨.nil, by simp, by simp, .nil⟩⟩⟩
theorem DP.cons {sh : Sh} {cs : List Value} {gI : List Sh} {css : List (List Value)} (h : DQ w n0 sh cs) (hs : DP w n0 gI css) : DP w n0 (sh :: gI) (cs :: css) := by
 obtain ⟨k, d, h⟩ := h
 obtain ⟨k2, ds, hl, hs⟩ := hs
 refine ⟨k + k2, d :: ds, by simp [hl], fun s => ?_⟩
 obtain ⟨es, bs, h1, h2, h3⟩ := h s
 obtain ⟨ess, WA, g1, g2, g3⟩ := hs (s + k)
 refine ⟨es :: ess, bs ++ WA, by simp [h1, g1], by simp [h2, g2], fun all hp => ?_⟩
 obtain ⟨a1, a2, a3, a4⟩ := h3 all hp.left
 obtain ⟨b1, b2, b3, b4⟩ := g3 all (by rw [<- h1]; exact hp.right)
 refine ⟨?_, ?_, ?_, .cons a4 b4⟩
 ·rw [List.flatten_cons, List.flatten_cons]; exact a1.append b1
 ·intro c hc
  rw [List.flatten_cons, nY] at hc;rcases hc with hc | hc
  ·exact a2 c hc
  ·exact b2 c hc
 ·intro i B hB
  by_cases hi : i < bs.length
  ·rw [rB hi] at hB; exact a3 i B hB
  ·rw [qJ (by omega)] at hB; exact b3 _ B hB
def e9 (ok : Sh -> TypeId -> Bool) (size : TypeId -> Nat) : List Sh -> List Field -> Nat -> Nat -> Bool
 | [], [], off, total => off.beq total
 | s :: gI, g :: gs, off, total => g.offset.beq off && (ok s g.type && e9 ok size gI gs (off + size g.type) total)
 | _, _, _, _ => false
def shOk (P : Program) : Nat -> Sh -> TypeId -> Bool
 | 0, _, _ => false
 | n + 1, sh, t => match sh, P.underlying t with
  | .int k, some (.int k') => (bf k).beq (bf k')
  | .bool, some .bool => true
  | .str, some .string => true
  | .slice e esz s, some (.slice e') => e.beq e' && ((P.cellsOf e).beq esz && (Nat.ble 1 esz && shOk P n s e))
  | .struct l, some (.struct gs) => e9 (shOk P n) P.cellsOf l gs.toList 0 (P.cellsOf t)
  | _, _ => false
theorem rZ {ok : Sh -> TypeId -> Bool} {size : TypeId -> Nat} {cs : List Value} : ∀ (gI : List Sh) (gs : List Field) (off : Nat), e9 ok size gI gs off cs.length = true -> off <= cs.length ->
  cs.drop off = (gs.map fun g => (cs.drop g.offset).take (size g.type)).flatten
 | [], [], off, h, hl => by
  have := aB h
  subst this; simp
 | s :: gI, g :: gs, off, h, hl => by
  simp only [e9, kD] at h;obtain ⟨h1, h2, h3⟩ := h
  have e := aB h1
  have hle : off + size g.type <= cs.length := by
   revert h3
   generalize off + size g.type = o
   clear h1 h2 e hl
   induction gs generalizing gI o with
   | nil => intro h3; cases gI <;> simp only [e9] at h3; exact Nat.le_of_eq (aB h3); cases h3
   | cons g' gs ih =>
    intro h3
    cases gI with
    | nil => simp [e9] at h3
    | cons s' gI =>
     simp only [e9, kD] at h3;have := ih gI _ h3.2.2
     omega
  have ih := rZ gI gs (off + size g.type) h3 hle
  rw [List.map_cons, List.flatten_cons, <- ih, e];rw [<- List.drop_drop, List.take_append_drop]
 | [], _ :: _, _, h, _ => by simp [e9] at h
 | _ :: _, [], _, h, _ => by simp [e9] at h
theorem sf {cs : List Value} {size : TypeId -> Nat} {ok : Sh -> TypeId -> Bool} : ∀ (gI : List Sh) (gs : List Field) (off total : Nat), e9 ok size gI gs off total = true ->
  (∀ (s : Sh) (g : Field), g ∈ gs -> ok s g.type = true -> DQ w n0 s ((cs.drop g.offset).take (size g.type))) -> DP w n0 gI (gs.map fun g => (cs.drop g.offset).take (size g.type))
 | [], [], _, _, _, _ => .nil
 | s :: gI, g :: gs, off, total, h, hd => by
  simp only [e9, kD] at h;rw [List.map_cons];exact .cons (hd s g (by simp) h.2.1) (sf gI gs _ total h.2.2 fun s' g' hg => hd s' g' (by simp [hg]))
 | [], _ :: _, _, _, h, _ => by simp [e9] at h
 | _ :: _, [], _, _, h, _ => by simp [e9] at h
theorem qn {α : Type} {sz : Nat} : ∀ {css : List (List α)}, (∀ c ∈ css, c.length = sz) -> css.flatten.length = css.length * sz
 | [], _ => by simp
 | c :: css, h => by
  rw [List.flatten_cons, kE, qn fun c hc => h c (by simp [hc]), h c (by simp), List.length_cons, Nat.add_mul]; omega
theorem Aq {α : Type} {sz : Nat} : ∀ {css : List (List α)}, (∀ c ∈ css, c.length = sz) -> ∀ (q p : Nat), p < sz -> css.flatten[q * sz + p]? = (css[q]?).bind fun c => c[p]?
 | [], _, q, p, _ => by simp
 | c :: css, h, q, p, hp => by
  have hc := h c (by simp)
  rw [List.flatten_cons]
  cases q with
  | zero => rw [Nat.zero_mul, Nat.zero_add, rB (by omega)]; simp
  | succ q =>
   have ih := Aq (css := css) (fun c hc => h c (by simp [hc])) q p hp
   rw [qJ (by rw [hc, Nat.add_mul]; omega), show (q + 1) * sz + p - c.length = q * sz + p by rw [hc, Nat.add_mul]; omega, ih]
   simp
theorem sV (b o n : Nat) : (⟨b, o, none⟩ : Addr).add n = ⟨b, o + n, none⟩ := Addr.add_lit b o n
theorem AQ {a : Addr} {sz len : Nat} {s : Sh} (hd : ∀ i, i < len -> ∃ iQ, w.cells? base (a.add (i * sz)) sz = some iQ /\ DQ w n0 s iQ) : ∀ (r i : Nat), i + r = len ->
  ∃ css : List (List Value), css.length = r /\ (∀ q, q < r -> ∃ iQ, css[q]? = some iQ /\ w.cells? base (a.add ((i + q) * sz)) sz = some iQ) /\ DP w n0 (List.replicate r s) css
 | 0, i, _ => ⟨[], rfl, fun q hq => by omega, .nil⟩
 | r + 1, i, h => by
  obtain ⟨iQ, h1, h2⟩ := hd i (by omega)
  obtain ⟨css, g1, g2, g3⟩ := AQ hd r (i + 1) (by omega)
  refine ⟨iQ :: css, by simp [g1], fun q hq => ?_, .cons h2 g3⟩
  cases q with
  | zero => exact ⟨iQ, rfl, h1⟩
  | succ q =>
   obtain ⟨c, c1, c2⟩ := g2 q (by omega)
   exact ⟨c, by simpa using c1, by rw [show i + (q + 1) = i + 1 + q by omega]; exact c2⟩
theorem Ha {a : Addr} {e sz len cap : Nat} {s : Sh} (lU : 1 <= sz) (CK : len <= cap) (Qf : cap <= maxLen) (Wd : cap ≠ 0) (hd : ∀ i, i < cap -> ∃ iQ, w.cells? base (a.add (i * sz)) sz = some iQ /\ DQ w n0 s iQ) :
  DQ w n0 (.slice e sz s) [.slice (some a) len cap] := by
 have qj : ∀ i, i < cap -> ∀ p, p < sz -> ∃ v, w.cell? ((a.add (i * sz)).add p) = some v := by
  intro i hi p hp
  obtain ⟨iQ, h1, _⟩ := hd i hi
  obtain ⟨_, h2, h3⟩ := World.cells?_some h1
  exact ⟨iQ[p]'(by omega), by rw [h3 p hp, ij]⟩
 obtain ⟨bT, off, arr, ty, fz, rfl, lq⟩ : ∃ bT off arr ty fz, a = ⟨bT, off, none⟩ /\ w.heap[bT]? = some (.cells arr ty fz) := by
  obtain ⟨v, hv⟩ := qj 0 (by omega) 0 (by omega)
  rw [Nat.zero_mul] at hv;have hv : w.cell? a = some v := hv
  obtain ⟨bT, off, spot⟩ := a
  unfold World.cell? at hv
  split at hv
  ·rename_i c t z hh
   cases spot with
   | none => exact ⟨bT, off, c, t, z, rfl, hh⟩
   | some x => simp at hv
  ·cases hv
 have HI : ∀ n, w.cell? ⟨bT, off + n, none⟩ = arr[off + n]? := fun n => by unfold World.cell?; simp [lq]
 obtain ⟨css, g1, g2, Zk, ds, ur, g3⟩ := AQ (w := w) (n0 := n0) (base := base) (fun i hi => hd i (ve hi CK)) len 0 (by omega)
 have mN : ∀ c ∈ css, c.length = sz := by
  intro c hc
  obtain ⟨q, hq⟩ := List.getElem?_of_mem hc
  have ZL : q < len := by have := (kO.1 hq).1; omega
  obtain ⟨iQ, h1, h2⟩ := g2 q ZL
  rw [hq] at h1; cases h1
  exact (World.cells?_some h2).2.1
 have Br : css.flatten.length = len * sz := by rw [qn mN, g1]
 have jW : ∀ j v, css.flatten[j]? = some v -> arr[off + j]? = some v := by
  intro j v hj
  have MQ : j < len * sz := by have := (kO.1 hj).1; omega
  have hp : j % sz < sz := Nat.mod_lt _ (by omega)
  have hq : j / sz < len := Nat.div_lt_of_lt_mul (by rw [Nat.mul_comm]; exact MQ)
  have MR : j / sz * sz + j % sz = j := Nat.div_add_mod' j sz
  rw [<- MR, Aq mN _ _ hp] at hj;obtain ⟨iQ, h1, h2⟩ := g2 _ hq
  rw [h1] at hj;obtain ⟨_, _, h3⟩ := World.cells?_some h2
  have h4 := h3 _ hp
  rw [Nat.zero_add, sV, sV, Nat.add_assoc, MR, HI] at h4;rw [h4]; exact hj
 have hle : off + len * sz <= arr.size := by
  rcases Nat.eq_zero_or_pos (len * sz) with h0 | h0
  ·obtain ⟨v, hv⟩ := qj 0 (by omega) 0 (by omega)
   have YB := HI 0
   rw [Nat.add_zero] at YB;simp only [sV, Nat.zero_mul, Nat.add_zero] at hv;rw [YB] at hv;have := (Array.getElem?_eq_some_iff.1 hv).1
   omega
  ·obtain ⟨v, hv⟩ : ∃ v, css.flatten[len * sz - 1]? = some v := ⟨_, ij (by omega)⟩
   have := (Array.getElem?_eq_some_iff.1 (jW _ _ hv)).1
   omega
 rw [List.length_replicate] at ur;refine ⟨Zk + 1, .list ds, fun st => ?_⟩
 obtain ⟨ess, bs, b1, b2, b3⟩ := g3 (st + 1)
 let B : ng := ⟨bT, off, arr.size, sz, ess.flatten⟩
 refine ⟨[.slice (n0 + st) 0 len none], B :: bs, by simp [b1], rfl, fun all hp => ?_⟩
 have hB : all[st]? = some B := by have := hp 0 (by simp); simpa using this
 obtain ⟨c1, c2, c3, c4⟩ := b3 all (by have := K5.right (bs := [B]) hp; simpa using this)
 refine ⟨.cons (zZ hB rfl rfl CK fun _ => rfl) .nil, by simp [Value.oneCell'], fun i C hC => ?_, ?_⟩
 ·cases i with
  | succ i => exact c3 i C (by simpa using hC)
  | zero =>
   simp at hC; subst hC
   refine ⟨arr, ty, fz, lq, rfl, by show off + ess.flatten.length <= arr.size; omega, fun j v hj => ?_⟩
   obtain ⟨v', h1, h2⟩ := c1.get j v hj
   exact ⟨v', jW j v' h1, h2, c2 v' (List.mem_of_getElem? h1)⟩
 ·have h1 := uh (n0 := n0) hB
  have h2 := Hx.slice (m := eb n0 all) (e := e) (b := n0 + st) (s := s) (ds := ds) (vn (Nat.le_of_eq ur) (vn CK Qf)) h1 (by rw [ur]; exact c4)
  rw [ur] at h2;exact h2
theorem yy (n0 : Nat) : ∀ (K : Nat) (sh : Sh) (t : TypeId) (fuel : Nat) (cs : List Value) (x : DataW H × List MemPlace), shOk P K sh t = true -> DataW.trod enc P w base (fun _ => true) held fuel t cs = some x -> DQ w n0 sh cs
 | 0, _, _, _, _, _, h, _ => by simp [shOk] at h
 | K + 1, sh, t, fuel, cs, x, h, hx => by
  simp only [shOk] at h
  split at h
  ·rename_i k k' hu
   obtain rfl := fY h
   obtain ⟨n, rfl, _, hw⟩ := DataW.trod_int hu hx
   exact ⟨0, .int n, fun s => ⟨[.int k n], [], rfl, rfl, fun all _ => ⟨.cons (.int _ _) .nil, by simp [Value.oneCell'], by simp, .int hw⟩⟩⟩
  ·rename_i hu
   obtain ⟨b, rfl, _⟩ := DataW.trod_bool hu hx
   exact ⟨0, .bool b, fun s => ⟨[.bool b], [], rfl, rfl, fun all _ => ⟨.cons (.bool _) .nil, by simp [Value.oneCell'], by simp, .bool b⟩⟩⟩
  ·rename_i hu
   obtain ⟨b, rfl, _, hm⟩ := DataW.trod_string hu hx
   exact ⟨0, .str b.data.toList, fun s => ⟨[.str b.data.toList], [], rfl, rfl, fun all _ => ⟨.cons (.str _) .nil, by simp [Value.oneCell'], by simp, .str (by simpa using hm)⟩⟩⟩
  ·rename_i e esz s e' hu
   simp only [kD] at h;obtain ⟨h1, h2, h3, h4⟩ := h
   have := aB h1; subst this
   have := aB h2; subst this
   have vD : 1 <= P.cellsOf e := lk h3
   rcases open_slice hu hx with ⟨rfl, _⟩ | ⟨a, len, cap, m, n, D, Pl, rfl, hb, CK, Qf, hm, _, uq⟩
   ·exact ⟨0, .list [], fun s => ⟨[.aa], [], rfl, rfl, fun all _ => ⟨.cons .aa .nil, by simp [Value.oneCell'], by simp, .nil⟩⟩⟩
   ·simp only [if_true] at hm
    subst hm;by_cases Wd : m = 0
    ·subst Wd
     obtain rfl : len = 0 := by omega
     exact ⟨0, .list [], fun s => ⟨[.slice 0 0 0 (some 0)], [], rfl, rfl, fun all _ => ⟨.cons .dD .nil, by simp [Value.oneCell'], by simp, .empty⟩⟩⟩
    ·exact Ha vD CK Qf Wd fun i hi => by
      obtain ⟨iQ, h5, h6⟩ := uq i hi
      exact ⟨iQ, h5, yy n0 K s e n iQ _ h4 h6⟩
  ·rename_i l gs hu
   obtain ⟨xs, n, _, _, hlen, Lm, hf⟩ := DataW.trod_struct hu hx
   rw [<- hlen] at h;have hD := sf (w := w) (n0 := n0) (cs := cs) l gs.toList 0 cs.length h fun s g hg cy => by
    obtain ⟨i, hi⟩ := List.getElem?_of_mem hg
    have rf : gs[i]? = some g := by simpa using hi
    have aP : i < xs.length := by have := (Array.getElem?_eq_some_iff.1 rf).1; omega
    have h1 := hf i g rf
    rw [ij aP] at h1;exact yy n0 K s g.type n _ _ cy h1
   have Br := rZ l gs.toList 0 h (pF _)
   rw [List.drop_zero] at Br;obtain ⟨k, ds, _, hs⟩ := hD
   refine ⟨k, .Ub ds, fun s => ?_⟩
   obtain ⟨ess, bs, h1, h2, h3⟩ := hs s
   rw [<- Br] at h2 h3;refine ⟨ess.flatten, bs, h1, h2, fun all hp => ?_⟩
   obtain ⟨c1, c2, c3, c4⟩ := h3 all hp
   exact ⟨c1, c2, c3, .struct c4⟩
  ·cases h
def K4 (m : Mem) (sh : Sh) (e : EV) (d : Dt) : Prop := match sh with
 | .struct l => ∃ cs, e = .agg cs /\ Hx m (.struct l) cs d
 | sh => Hx m sh [e] d
inductive mr (m : Mem) : List Sh -> List EV -> List Dt -> Prop
 | nil : mr m [] [] []
 | cons {s : Sh} {e : EV} {d : Dt} {gI : List Sh} {es : List EV} {ds : List Dt} (h : K4 m s e d) (hs : mr m gI es ds) : mr m (s :: gI) (e :: es) (d :: ds)
def DecV (w : World) (n0 : Nat) (sh : Sh) (v : Value) : Prop :=
 ∃ (k : Nat) (d : Dt), ∀ s, ∃ (e : EV) (bs : List ng), bs.length = k /\ ∀ all, K5 all s bs ->
  VR (gJ n0 all) e v /\ (∀ (i : Nat) (B : ng), bs[i]? = some B -> T4 w (gJ n0 all) B) /\ K4 (eb n0 all) sh e d
def DecVs (w : World) (n0 : Nat) (gI : List Sh) (vs : List Value) : Prop :=
 ∃ (k : Nat) (ds : List Dt), ∀ s, ∃ (es : List EV) (bs : List ng), bs.length = k /\ ∀ all, K5 all s bs ->
  cS (gJ n0 all) es vs /\ (∀ (i : Nat) (B : ng), bs[i]? = some B -> T4 w (gJ n0 all) B) /\ mr (eb n0 all) gI es ds
theorem DecVs.nil : DecVs w n0 [] [] := ⟨0, [], fun s => ⟨[], [], rfl, fun all _ => ⟨.nil, by simp, .nil⟩⟩⟩
theorem DecVs.cons {sh : Sh} {v : Value} {gI : List Sh} {vs : List Value} (h : DecV w n0 sh v) (hs : DecVs w n0 gI vs) : DecVs w n0 (sh :: gI) (v :: vs) := by
 obtain ⟨k, d, h⟩ := h
 obtain ⟨k2, ds, hs⟩ := hs
 refine ⟨k + k2, d :: ds, fun s => ?_⟩
 obtain ⟨e, bs, h1, h3⟩ := h s
 obtain ⟨es, WA, g1, g3⟩ := hs (s + k)
 refine ⟨e :: es, bs ++ WA, by simp [h1, g1], fun all hp => ?_⟩
 obtain ⟨a1, a3, a4⟩ := h3 all hp.left
 obtain ⟨b1, b3, b4⟩ := g3 all (by rw [<- h1]; exact hp.right)
 refine ⟨.cons a1 b1, ?_, .cons a4 b4⟩
 intro i B hB
 by_cases hi : i < bs.length
 ·rw [rB hi] at hB; exact a3 i B hB
 ·rw [qJ (by omega)] at hB; exact b3 _ B hB
theorem DQ.one {sh : Sh} {v : Value} (hn : ∀ l, sh ≠ .struct l) (h : DQ w n0 sh [v]) : DecV w n0 sh v := by
 obtain ⟨k, d, h⟩ := h
 refine ⟨k, d, fun s => ?_⟩
 obtain ⟨es, bs, h1, h2, h3⟩ := h s
 obtain ⟨e, rfl⟩ : ∃ e, es = [e] := by
  match es, h2 with
  | [e], _ => exact ⟨e, rfl⟩
 refine ⟨e, bs, h1, fun all hp => ?_⟩
 obtain ⟨c1, c2, c3, c4⟩ := h3 all hp
 cases c1 with
 | cons hv _ =>
 refine ⟨hv, c3, ?_⟩
 unfold K4
 cases sh with
 | struct l => exact absurd rfl (hn l)
 | _ => exact c4
theorem DQ.agg {l : List Sh} {cs : Array Value} (h : DQ w n0 (.struct l) cs.toList) : DecV w n0 (.struct l) (.agg cs) := by
 obtain ⟨k, d, h⟩ := h
 refine ⟨k, d, fun s => ?_⟩
 obtain ⟨es, bs, h1, h2, h3⟩ := h s
 refine ⟨.agg es, bs, h1, fun all hp => ?_⟩
 obtain ⟨c1, c2, c3, c4⟩ := h3 all hp
 exact ⟨.agg c1 c2, c3, es, rfl, c4⟩
theorem dec_val {K : Nat} {sh : Sh} {t : TypeId} {v : Value} {r : Go.Reach} {b0 : Nat} {d : DataW H} {p : List MemPlace} (h : shOk P K sh t = true) (hval : Value.okWide P w r b0 t v) (hx : DataW.Trod enc P w base (fun _ => true) held t v d p) : DecV w n0 sh v := by
 obtain ⟨fuel, hf⟩ := hx
 have hD := yy (w := w) n0 K sh t fuel _ _ h hf
 cases K with
 | zero => simp [shOk] at h
 | succ K =>
 simp only [shOk] at h
 split at h
 ·rename_i k k' hu
  refine DQ.one (by intro l e; cases e) ?_
  simp only [Value.okWide, hu, Cell.okWide] at hval
  cases v <;> simp only [Cell.ok, hu] at hval
  exact hD
 ·rename_i hu
  refine DQ.one (by intro l e; cases e) ?_
  simp only [Value.okWide, hu, Cell.okWide] at hval
  cases v <;> simp only [Cell.ok, hu] at hval
  exact hD
 ·rename_i hu
  refine DQ.one (by intro l e; cases e) ?_
  simp only [Value.okWide, hu, Cell.okWide] at hval
  cases v <;> simp only [Cell.ok, hu] at hval
  exact hD
 ·rename_i e esz s e' hu
  refine DQ.one (by intro l e; cases e) ?_
  simp only [Value.okWide, hu, Cell.okWide] at hval
  cases v <;> simp only [Cell.ok, hu] at hval
  exact hD
 ·rename_i l gs hu
  simp only [Value.okWide, hu] at hval;obtain ⟨cs, rfl, _, _⟩ := hval
  exact DQ.agg hD
 ·cases h
theorem wf_i64 {n : Int} (h : (Lit.int .i64 n).wf = true) : -9223372036854775808 <= n /\ n < 9223372036854775808 := by
 simp [Lit.wf, IntKind.min, IntKind.max, IntKind.signed, IntKind.bits] at h; omega
theorem wf_u8 {n : Int} (h : (Lit.int .u8 n).wf = true) : 0 <= n /\ n < 256 := by
 simp [Lit.wf, IntKind.min, IntKind.max, IntKind.signed, IntKind.bits] at h; omega
theorem mr.one {m : Mem} {s : Sh} {gI : List Sh} {es : List EV} {ds : List Dt} (h : mr m (s :: gI) es ds) : ∃ e d lS nQ, es = e :: lS /\ ds = d :: nQ /\ K4 m s e d /\ mr m gI lS nQ := by
 cases h with | cons h hs => exact ⟨_, _, _, _, rfl, rfl, h, hs⟩
theorem mr.none {m : Mem} {es : List EV} {ds : List Dt} (h : mr m [] es ds) : es = [] /\ ds = [] := by
 cases h; exact ⟨rfl, rfl⟩
end
end
section
mutual
inductive Fz : Sh -> List EV -> Dt -> Prop
 | int {k : IntKind} {n : Int} (h : (Lit.int k n).wf = true) : Fz (.int k) [.int k n] (.int n)
 | bool (b : Bool) : Fz .bool [.bool b] (.bool b)
 | str {s : List UInt8} (h : s.length <= maxLen) : Fz .str [.str s] (.str s)
 | nil {e esz : Nat} {s : Sh} : Fz (.slice e esz s) [.aa] (.list [])
 | slice {e esz : Nat} {s : Sh} {els : List (List EV)} {ds : List Dt} (hl : ds.length <= maxLen) (h : Lu (List.replicate ds.length s) els ds) : Fz (.slice e esz s) [.fz 0 esz els] (.list ds)
 | struct {gI : List Sh} {els : List (List EV)} {ds : List Dt} (h : Lu gI els ds) : Fz (.struct gI) els.flatten (.Ub ds)
inductive Lu : List Sh -> List (List EV) -> List Dt -> Prop
 | nil : Lu [] [] []
 | cons {s : Sh} {es : List EV} {d : Dt} {gI : List Sh} {els : List (List EV)} {ds : List Dt} (h : Fz s es d) (hs : Lu gI els ds) : Lu (s :: gI) (es :: els) (d :: ds)
end
mutual
def tz : Sh -> Nat
 | .struct l => sN l
 | _ => 1
def sN : List Sh -> Nat
 | [] => 0
 | s :: l => tz s + sN l
end
mutual
def wi : Sh -> Bool
 | .slice _ esz s => (tz s).beq esz && wi s
 | .struct l => mC l
 | _ => true
def mC : List Sh -> Bool
 | [] => true
 | s :: l => wi s && mC l
end
def still (m : Mem) : bF := ⟨fun _ => none, fun _ => none, fun c => if c < m.next then some (m.get c) else none⟩
section
variable {m : Mem}
mutual
theorem EB : ∀ {s : Sh} {es : List EV} {d : Dt}, Fz s es d -> es.length = tz s
 | _, _, _, .int _ => rfl
 | _, _, _, .bool _ => rfl
 | _, _, _, .str _ => rfl
 | _, _, _, .nil => rfl
 | _, _, _, .slice _ _ => rfl
 | _, _, _, .struct h => by simp only [tz]; exact An h
theorem An : ∀ {gI : List Sh} {els : List (List EV)} {ds : List Dt}, Lu gI els ds -> els.flatten.length = sN gI
 | _, _, _, .nil => rfl
 | _, _, _, .cons h hs => by simp only [sN, List.flatten_cons, kE, EB h, An hs]
end
theorem EA {s : Sh} : ∀ {n : Nat} {els : List (List EV)} {ds : List Dt}, Lu (List.replicate n s) els ds -> els.length = n /\ ds.length = n /\ ∀ el ∈ els, el.length = tz s
 | 0, els, ds, h => by rw [List.replicate_zero] at h; cases h; exact ⟨rfl, rfl, fun el uq => by cases uq⟩
 | n + 1, els, ds, h => by
  rw [List.replicate_succ] at h
  cases h with
  | cons h hs =>
   obtain ⟨h1, h2, h3⟩ := EA hs
   refine ⟨by simp [h1], by simp [h2], fun el uq => ?_⟩
   rcases lj.1 uq with rfl | uq
   ·exact EB h
   ·exact h3 el uq
theorem cj.Og {θ : bF} {x x' : List EV} (h : cj θ x x') : x'.length = x.length := h.length.symm
mutual
theorem qU (hm : ∀ b cs e t ro, m.get b = .cells cs e t ro -> b < m.next) : ∀ {s : Sh} {es : List EV} {d : Dt}, Hx m s es d -> wi s = true -> ∃ us, Fz s us d /\ cj (still m) us es
 | _, _, _, .int h, _ => ⟨_, .int h, .cons (.int _ _) .nil⟩
 | _, _, _, .bool b, _ => ⟨_, .bool b, .cons (.bool _) .nil⟩
 | _, _, _, .str h, _ => ⟨_, .str h, .cons (.str _) .nil⟩
 | _, _, _, .nil, _ => ⟨_, .nil, .cons .aa .nil⟩
 | _, _, _, .empty (s := s) (esz := esz), _ => ⟨[.fz 0 esz []], .slice (ds := []) (pF _) .nil, .cons (.sF (.inl rfl)) .nil⟩
 | _, _, _, .slice (esz := esz) (b := b) (ess := ess) (ds := ds) (s := s) hl hb h, hf => by
  simp only [wi, kD] at hf;have lU := aB hf.1
  obtain ⟨els, h1, h2⟩ := xD hm h (by
   have : ∀ n, mC (List.replicate n s) = true := fun n => by
    induction n with
    | zero => rfl
    | succ n ih => simp only [List.replicate_succ, mC, hf.2, ih, Bool.and_self]
   exact this _)
  obtain ⟨g1, g2, g3⟩ := EA h1
  have hlen : els.flatten.length = els.length * esz := qn (fun el uq => (g3 el uq).trans lU)
  have Sb : ess.flatten.length = els.length * esz := by rw [h2.Og, hlen]
  have cx : (still m).eF b = some (.cells ess.flatten esz 0 true) := by
   show (if b < m.next then some (m.get b) else none) = _
   rw [if_pos (hm _ _ _ _ _ hb), hb]
  refine ⟨[.fz 0 esz els], .slice hl h1, .cons ?_ .nil⟩
  have := SV.fz (θ := still m) (t := 0) (cap := none) (.mk (off := 0) cx (fun el uq => (g3 el uq).trans lU) (by omega) (by
   rw [List.drop_zero, <- Sb, List.take_length]; exact h2)) (.inl rfl) (fun c hc => by cases hc)
  rw [g1] at this; exact this
 | _, _, _, .struct h, hf => by
  obtain ⟨els, h1, h2⟩ := xD hm h (by simpa only [wi] using hf)
  exact ⟨_, .struct h1, h2⟩
theorem xD (hm : ∀ b cs e t ro, m.get b = .cells cs e t ro -> b < m.next) : ∀ {gI : List Sh} {ess : List (List EV)} {ds : List Dt}, DK m gI ess ds -> mC gI = true -> ∃ els, Lu gI els ds /\ cj (still m) els.flatten ess.flatten
 | _, _, _, .nil, _ => ⟨_, .nil, .nil⟩
 | _, _, _, .cons h hs, hf => by
  simp only [mC, kD] at hf;obtain ⟨us, h1, h2⟩ := qU hm h hf.1
  obtain ⟨els, h3, h4⟩ := xD hm hs hf.2
  exact ⟨us :: els, .cons h1 h3, by rw [List.flatten_cons, List.flatten_cons]; exact h2.append h4⟩
end
def Rj (sh : Sh) (v : EV) (d : Dt) : Prop := match sh with
 | .struct l => ∃ cs, v = .agg cs /\ Fz (.struct l) cs d
 | sh => Fz sh [v] d
inductive vS : List Sh -> List EV -> List Dt -> Prop
 | nil : vS [] [] []
 | cons {s : Sh} {v : EV} {d : Dt} {gI : List Sh} {vs : List EV} {ds : List Dt} (h : Rj s v d) (hs : vS gI vs ds) : vS (s :: gI) (v :: vs) (d :: ds)
theorem vS.one {s : Sh} {gI : List Sh} {es : List EV} {ds : List Dt} (h : vS (s :: gI) es ds) : ∃ e d lS nQ, es = e :: lS /\ ds = d :: nQ /\ Rj s e d /\ vS gI lS nQ := by
 cases h with | cons h hs => exact ⟨_, _, _, _, rfl, rfl, h, hs⟩
theorem vS.none {es : List EV} {ds : List Dt} (h : vS [] es ds) : es = [] := by cases h; rfl
theorem L9 (hm : ∀ b cs e t ro, m.get b = .cells cs e t ro -> b < m.next) {s : Sh} {e : EV} {d : Dt} (h : K4 m s e d) (hf : wi s = true) : ∃ u, Rj s u d /\ SV (still m) u e := by
 have one : ∀ {us : List EV} {e : EV}, cj (still m) us [e] -> ∃ u, us = [u] /\ SV (still m) u e := by
  intro us e h
  cases h with
  | cons h hs => cases hs; exact ⟨_, rfl, h⟩
 cases s with
 | struct l =>
  obtain ⟨cs, rfl, h⟩ := h
  obtain ⟨us, h1, h2⟩ := qU hm h hf
  exact ⟨.agg us, ⟨us, rfl, h1⟩, .agg h2⟩
 | int k => obtain ⟨us, h1, h2⟩ := qU hm h hf; obtain ⟨u, rfl, h3⟩ := one h2; exact ⟨u, h1, h3⟩
 | bool => obtain ⟨us, h1, h2⟩ := qU hm h hf; obtain ⟨u, rfl, h3⟩ := one h2; exact ⟨u, h1, h3⟩
 | str => obtain ⟨us, h1, h2⟩ := qU hm h hf; obtain ⟨u, rfl, h3⟩ := one h2; exact ⟨u, h1, h3⟩
 | slice a b c => obtain ⟨us, h1, h2⟩ := qU hm h hf; obtain ⟨u, rfl, h3⟩ := one h2; exact ⟨u, h1, h3⟩
theorem zt (hm : ∀ b cs e t ro, m.get b = .cells cs e t ro -> b < m.next) : ∀ {gI : List Sh} {es : List EV} {ds : List Dt}, mr m gI es ds -> mC gI = true -> ∃ us, vS gI us ds /\ cj (still m) us es
 | _, _, _, .nil, _ => ⟨[], .nil, .nil⟩
 | _, _, _, .cons h hs, hf => by
  simp only [mC, kD] at hf;obtain ⟨u, h1, h2⟩ := L9 hm h hf.1
  obtain ⟨us, h3, h4⟩ := zt hm hs hf.2
  exact ⟨u :: us, .cons h1 h3, .cons h2 h4⟩
theorem Jq {T B : Nat -> Option fg} {K : Nat -> Nat} (hT : ∀ f e, B f = some e -> fU T f e) {f : Nat} {F : ar} (hF : B f = some (.go F)) (hm : ∀ b cs e t ro, m.get b = .cells cs e t ro -> b < m.next) {gI : List Sh} {es : List EV} {ds : List Dt} (h : mr m gI es ds) (hf : mC gI = true) (JY : jD (still m)) :
  ∃ us, vS gI us ds /\ (aM B K f (dW 1 us) = some (.bool true) -> ∃ m', run T f es m = some (.ret (.bool true) m')) := by
 obtain ⟨us, h1, h2⟩ := zt hm h hf
 refine ⟨us, h1, fun hp => ?_⟩
 obtain ⟨F0, Ql, Qk, rfl⟩ := hT f _ hF
 rw [tH hF] at hp;obtain ⟨v', m1, dO, θ, e, _, _, hv⟩ := pure_run (QG hT) Ql Qk hp (m' := m) (tg := Ia es) (S := (still m).eF) (fun b B hb => by
  have uu : (if b < m.next then some (m.get b) else none) = some B := hb
  by_cases q : b < m.next
  ·rw [if_pos q] at uu; cases uu; exact ⟨rfl, q⟩
  ·rw [if_neg q] at uu; cases uu) (sL us es 1 (tf es) h2) (JY.down ⟨fun _ _ h => (by simp [bF.low] at h), fun _ _ h => (by simp [bF.low] at h), fun _ _ h => h⟩)
 have := hv.flat rfl
 subst this;exact ⟨dO, e⟩
theorem Qp {k : IntKind} {e : EV} {d : Dt} (h : Rj (.int k) e d) : ∃ n, e = .int k n /\ (Lit.int k n).wf = true := by
 unfold Rj at h; cases h with | int hw => exact ⟨_, rfl, hw⟩
end
end
section
structure jJ (m : Mem) (v : EV) (cs : List EV) (n esz lo : Nat) : Prop where
 is : (v = .aa /\ n = 0 /\ cs = []) \/ ∃ b cap t, v = .slice b 0 n cap /\ lo <= b /\ b < m.next /\ m.get b = .cells cs esz t false /\ (cap = none \/ cap = some n)
 len : cs.length = n * esz
def lT (v : EV) (c : Nat) : Prop := ∀ b o n cap, v = .slice b o n cap -> c ≠ b
theorem lT.nil {c : Nat} : lT .aa c := fun _ _ _ _ h => by cases h
theorem lT.of {b o n c : Nat} {cap : Option Nat} (h : c ≠ b) : lT (.slice b o n cap) c := fun _ _ _ _ e => by cases e; exact h
theorem sQ {m : Mem} {b n esz e t : Nat} {cs : List EV} {ro : Bool} (hb : m.get b = .cells cs e t ro) (hl : cs.length = n * esz) : m.row b 0 (n * esz) = some cs := by
 by_cases h : n * esz = 0
 ·rw [h, Mem.jN]; rw [h] at hl; rw [List.eq_nil_of_length_eq_zero hl]
 ·rw [Mem.jG h]; unfold Mem.tG
  rw [hb]
  show (bif (0 + n * esz).ble cs.length then some ((cs.drop 0).take (n * esz)) else none) = _
  rw [lJ (by omega)];simp [<- hl]
theorem jJ.source {m : Mem} {v : EV} {cs : List EV} {n esz lo : Nat} (h : jJ m v cs n esz lo) : m.source esz v = some (n, cs) := by
 rcases h.is with ⟨rfl, rfl, rfl⟩ | ⟨b, cap, t, rfl, h1, h2, h3, h4⟩
 ·rfl
 ·show (m.row b 0 (n * esz)).map (fun cs => (n, cs)) = _
  rw [sQ h3 h.len]; rfl
theorem jJ.mono {m m' : Mem} {v : EV} {cs : List EV} {n esz lo : Nat} (h : jJ m v cs n esz lo) (hn : m.next <= m'.next) (hk : ∀ c, c < m.next -> m'.get c = m.get c) : jJ m' v cs n esz lo := by
 refine ⟨?_, h.len⟩
 rcases h.is with h | ⟨b, cap, t, rfl, h1, h2, h3, h4⟩
 ·exact .inl h
 ·exact .inr ⟨b, cap, t, rfl, h1, by omega, by rw [hk b h2]; exact h3, h4⟩
theorem jJ.ext {m : Mem} {v : EV} {cs : List EV} {n esz lo : Nat} (h : jJ m v cs n esz lo) (xs : List cY) : jJ (ext m xs) v cs n esz lo := h.mono (by rw [b8]; exact p8) fun c hc => cC hc
theorem BZ {m : Mem} {vs : List EV} {e esz : Nat} (h : vs.length = esz) : (Ev.ext m [.cells vs esz e false]).source esz (.slice (nb m.next 0) 0 1 (some 1)) = some (1, vs) := by
 have hg : (Ev.ext m [.cells vs esz e false]).get (nb m.next 0) = .cells vs esz e false := by rw [bS rfl (by simp)]; rfl
 show ((Ev.ext m [.cells vs esz e false]).row (nb m.next 0) 0 (1 * esz)).map (fun cs => (1, cs)) = _
 rw [sQ hg (by omega)]; rfl
def grow (m : Mem) (v : EV) (e esz : Nat) (cs : List EV) : Mem := match v with
 | .slice b _ _ none => (m.new (.cells cs esz e false)).set b .dead
 | _ => m.new (.cells cs esz e false)
theorem jB {m : Mem} {v : EV} {e esz : Nat} {cs : List EV} : (grow m v e esz cs).next = nb m.next 1 := by
 unfold grow; split <;> rfl
theorem mb {m : Mem} {v : EV} {e esz c : Nat} {cs : List EV} (hc : c < m.next) (ho : lT v c) : (grow m v e esz cs).get c = m.get c := by
 unfold grow
 split
 ·rename_i b o n
  rw [bz (ho b o n none rfl), dv, if_neg (by omega)]
 ·rw [dv, if_neg (by omega)]
theorem iA {m : Mem} {v x : EV} {cs xs : List EV} {n k esz e lo : Nat} (h : jJ m v cs n esz lo) (kw : lo <= m.next) (hx : m.source esz x = some (k, xs)) (Lm : xs.length = k * esz) (hk : k ≠ 0) (hr : n + k <= room) :
  eu m e esz v x = some (.slice (nb m.next 0) 0 (n + k) none, grow m v e esz (cs ++ xs)) /\ jJ (grow m v e esz (cs ++ xs)) (.slice (nb m.next 0) 0 (n + k) none) (cs ++ xs) (n + k) esz lo := by
 have hlen : (cs ++ xs).length = (n + k) * esz := by rw [kE, h.len, Lm, Nat.add_mul]
 have own : ∀ b', b' ≠ m.next -> jJ ((m.new (.cells (cs ++ xs) esz e false)).set b' .dead) (.slice (nb m.next 0) 0 (n + k) none) (cs ++ xs) (n + k) esz lo := fun b' uu =>
  ⟨.inr ⟨m.next, none, e, rfl, kw, by rw [cG, fI]; omega, by rw [bz (fun q => uu q.symm), dv, if_pos rfl], .inl rfl⟩, hlen⟩
 have Rz : jJ (m.new (.cells (cs ++ xs) esz e false)) (.slice (nb m.next 0) 0 (n + k) none) (cs ++ xs) (n + k) esz lo :=
  ⟨.inr ⟨m.next, none, e, rfl, kw, by rw [fI]; omega, by rw [dv, if_pos rfl], .inl rfl⟩, hlen⟩
 rcases h.is with ⟨rfl, rfl, rfl⟩ | ⟨b, cap, t, rfl, h1, h2, h3, h4⟩
 ·refine ⟨?_, Rz⟩
  unfold eu;rw [hx];simp only [gf hk, cond_false, lJ (show k <= room by omega), cond_true, List.nil_append, Nat.zero_add, grow, nb, Nat.add_zero]
 ·have jj := sQ h3 h.len
  rcases h4 with rfl | rfl
  ·refine ⟨?_, own b (by omega)⟩
   unfold eu;rw [hx];simp only [gf hk, cond_false, lJ hr, cond_true, jj, h3, cd, grow, nb, Nat.add_zero]
  ·refine ⟨?_, Rz⟩
   have hf : (n + k).ble n = false := by
    cases hb : (n + k).ble n with
    | false => rfl
    | true => have := lk hb; omega
   unfold eu;rw [hx];simp only [gf hk, cond_false, lJ hr, cond_true, jj, hf, grow, nb, Nat.add_zero]
theorem n7 {m : Mem} {b e esz : Nat} {vs : List EV} {ro : Bool} (hb : m.get b = .cells vs esz e ro) (h : vs.length = esz) {cap : Option Nat} : m.source esz (.slice b 0 1 cap) = some (1, vs) := by
 show (m.row b 0 (1 * esz)).map (fun cs => (1, cs)) = _
 rw [sQ hb (by omega)]; rfl
theorem jJ.lt {m : Mem} {v : EV} {cs : List EV} {n esz lo c : Nat} (h : jJ m v cs n esz lo) (hc : m.next <= c \/ c < lo) : lT v c := by
 rcases h.is with ⟨rfl, _⟩ | ⟨b, cap, t, rfl, h1, h2, _⟩
 ·exact lT.nil
 ·exact lT.of (by omega)
theorem jJ.wI {m m' : Mem} {v : EV} {cs : List EV} {n esz lo : Nat} (h : jJ m v cs n esz lo) (hn : m.next <= m'.next) (hk : ∀ c, c < m.next -> lo <= c -> ¬ lT v c -> m'.get c = m.get c) : jJ m' v cs n esz lo := by
 refine ⟨?_, h.len⟩
 rcases h.is with h | ⟨b, cap, t, rfl, h1, h2, h3, h4⟩
 ·exact .inl h
 ·exact .inr ⟨b, cap, t, rfl, h1, by omega, by rw [hk b h2 h1 (fun q => q b 0 n cap rfl rfl)]; exact h3, h4⟩
end
section
def row (nl : Bool) (t e : Nat) (els : List (List EV)) : EV := bif nl && els.isEmpty then .aa else .fz t e els
theorem l2 (nl : Bool) (t e : Nat) (els : List (List EV)) : (row nl t e els = .aa /\ els = []) \/ row nl t e els = .fz t e els := by
 unfold row
 cases nl
 ·exact .inr rfl
 ·cases els with
  | nil => exact .inl ⟨rfl, rfl⟩
  | cons a l => exact .inr rfl
section
variable {m : Mem} {nl : Bool} {t e : Nat} {els : List (List EV)} {ρ : aD -> EV}
def xW (v : EV) (m : Mem) : Option R1 := match v with
 | .aa => some (.val (.int .i64 0) m)
 | .slice _ _ n _ => some (.val (.int .i64 (n : Int)) m)
 | .fz _ _ els => some (.val (.int .i64 (els.length : Int)) m)
 | _ => none
@[congr] theorem PG {v v' : EV} (h : v = v') : xW v m = xW v' m := by rw [h]
theorem G1 {x : aD} : ap ρ (.len x) m = xW (ρ x) m := rfl
theorem Jm : xW .aa m = some (.val (.int .i64 0) m) := rfl
theorem Cw {b off n : Nat} {c : Option Nat} : xW (.slice b off n c) m = some (.val (.int .i64 (n : Int)) m) := rfl
theorem MA : xW (.fz t e els) m = some (.val (.int .i64 (els.length : Int)) m) := rfl
theorem Jl : xW (row nl t e els) m = some (.val (.int .i64 (els.length : Int)) m) := by
 rcases l2 nl t e els with ⟨h, rfl⟩ | h <;> rw [h] <;> rfl
def qV (o : Option Nat) (k : Nat -> EV) (m : Mem) : Option R1 := match o with
 | some i => some (.val (k i) m)
 | none => none
theorem F2 {i : Nat} {k : Nat -> EV} : qV (some i) k m = some (.val (k i) m) := rfl
@[congr] theorem Pz {o o' : Option Nat} {k : Nat -> EV} (h : o = o') : qV o k m = qV o' k m := by rw [h]
def pa (e : Nat) (x i : EV) (m : Mem) : Option R1 := match x with
 | .slice b off len _ => qV (idx len i) (fun j => .ptr b (off + j * e)) m
 | .fz _ f els => bif f.beq e then qV (idx els.length i) (fun j => .dl f els j 0) m else none
 | _ => none
@[congr] theorem MH {x x' i i' : EV} (h : x = x') (h' : i = i') : pa e x i m = pa e x' i' m := by rw [h, h']
theorem AG {x i : aD} : ap ρ (.ay e x i) m = pa e (ρ x) (ρ i) m := rfl
theorem x3 {b off n : Nat} {c : Option Nat} {i : EV} : pa e (.slice b off n c) i m = qV (idx n i) (fun j => .ptr b (off + j * e)) m := rfl
theorem wO {i : EV} : pa e (.fz t e els) i m = qV (idx els.length i) (fun j => .dl e els j 0) m := by
 simp only [pa, Nat.beq_refl, cond_true]
theorem CE {i : EV} : pa e (row nl t e els) i m = qV (idx els.length i) (fun j => .dl e els j 0) m := by
 rcases l2 nl t e els with ⟨h, rfl⟩ | h
 ·rw [h]
  show none = qV (idx 0 i) _ m
  have : idx 0 i = none := by unfold idx; split <;> rfl
  rw [this]; rfl
 ·rw [h]; exact wO
def RG (agg : Option Nat) (o : Option (List EV)) (k : Nat) : Option EV := match o with
 | some el => partOf agg el k
 | none => none
@[congr] theorem QW {agg : Option Nat} {o o' : Option (List EV)} {k : Nat} (h : o = o') : RG agg o k = RG agg o' k := by rw [h]
theorem Jp {agg : Option Nat} {el : List EV} {k : Nat} : RG agg (some el) k = partOf agg el k := rfl
theorem Gp {agg : Option Nat} {i k : Nat} : m.load agg (.dl e els i k) = RG agg els[i]? k := by
 simp only [Mem.load, RG]; cases els[i]? <;> rfl
def Wr (off : Nat) (x : EV) (m : Mem) : Option R1 := match x with
 | .ptr b o => some (.val (.ptr b (o + off)) m)
 | .dl e els i k => some (.val (.dl e els i (k + off)) m)
 | _ => none
theorem wb : m.source e (.fz t e els) = some (els.length, els.flatten) := by simp only [Mem.source, Nat.beq_refl, cond_true]
theorem BY : m.source e (row nl t e els) = some (els.length, els.flatten) := by
 rcases l2 nl t e els with ⟨h, rfl⟩ | h
 ·rw [h]; rfl
 ·rw [h]; exact wb
theorem KO : (EV.fz t e els).cells = some [.fz t e els] := rfl
theorem Hf : (row nl t e els).cells = some [row nl t e els] := by
 rcases l2 nl t e els with ⟨h, rfl⟩ | h <;> rw [h] <;> rfl
theorem Ds {i k : Nat} : (EV.dl e els i k).cells = some [.dl e els i k] := rfl
theorem Ta : cL (.ax 4) (.fz t e els) .aa = some false := rfl
theorem S8 : cL (.ax 4) .aa (.fz t e els) = some false := rfl
theorem S3 : cL (.ax 4) (row nl t e els) .aa = some (nl && els.isEmpty) := by
 unfold row; cases nl && els.isEmpty <;> rfl
def rK (nl : Bool) (e : Nat) (els : List (List EV)) (lo : Option EV) (h : Option Nat) (m : Mem) : Option R1 := match h with
 | some h => qV (aw lo 0 h) (fun l => row nl 0 e ((els.take h).drop l)) m
 | none => none
@[congr] theorem Oz {lo : Option EV} {h h' : Option Nat} (q : h = h') : rK nl e els lo h m = rK nl e els lo h' m := by rw [q]
theorem Cf {lo : Option EV} {h : Nat} : rK nl e els lo (some h) m = qV (aw lo 0 h) (fun l => row nl 0 e ((els.take h).drop l)) m := rfl
theorem vI {x : aD} {lo hi : Option aD} (hx : ρ x = row nl t e els) : ap ρ (.lp e x lo hi none) m = rK (nl && els.isEmpty) e els (lo.map ρ) (aw (hi.map ρ) els.length els.length) m := by
 have hf : (nl && els.isEmpty) = false -> ρ x = .fz t e els := by
  intro h; rw [hx]; unfold row; rw [h]; rfl
 cases hn : nl && els.isEmpty with
 | true =>
  obtain ⟨rfl, hE⟩ := Bool.and_eq_true_iff.1 hn
  have : els = [] := List.isEmpty_iff.1 hE
  subst this;have HE : ρ x = .aa := hx
  simp only [ap, HE, Option.map_none, gb, List.length_nil]
  cases h1 : aw (hi.map ρ) 0 0 with
  | none => rfl
  | some h =>
   have h0 : h = 0 := by
    have := uT h1 (ee 0)
    omega
   subst h0;simp only [rK, qV]
   cases h2 : aw (lo.map ρ) 0 0 with
   | none => rfl
   | some l => simp [row]
 | false =>
  simp only [ap, hf hn, Nat.beq_refl, cond_true]
  cases h1 : aw (hi.map ρ) els.length els.length with
  | none => rfl
  | some h =>
   simp only [rK, qV]
   cases h2 : aw (lo.map ρ) 0 h with
   | none => rfl
   | some l => simp [row]
def nt (e : Nat) (v : EV) (lo hi mx : Option EV) (m : Mem) : Option R1 := match v with
  | .aa => match aw mx 0 0, aw hi 0 0, aw lo 0 0 with
   | some _, some _, some _ => some (.val .aa m)
   | _, _, _ => none
  | .slice b off len (some c) => dQ m (b9 e b off len (some c) lo hi mx)
  | .slice b off len none => match m.get b with
   | .cells _ f _ _ => bif f.beq e then dQ m (b9 e b off len none lo hi mx) else none
   | _ => none
  | .fz _ f els => match mx with
   | none => bif f.beq e then
     match aw hi els.length els.length with
     | some h => match aw lo 0 h with
      | some l => some (.val (.fz 0 f ((els.take h).drop l)) m)
      | none => none
     | none => none
    else none
   | some _ => none
  | _ => none
@[congr] theorem Ox {v v' : EV} {lo wF hi rf mx tV : Option EV} (h : v = v') (h1 : lo = wF) (h2 : hi = rf) (h3 : mx = tV) : nt e v lo hi mx m = nt e v' wF rf tV m := by rw [h, h1, h2, h3]
theorem uG {x : aD} {lo hi mx : Option aD} : ap ρ (.lp e x lo hi mx) m = nt e (ρ x) (lo.map ρ) (hi.map ρ) (mx.map ρ) m := by
 simp only [ap, nt]
 cases ρ x <;> try rfl
 ·rename_i b off len cap
  cases cap
  ·simp only; cases m.get b <;> rfl
  ·rfl
 ·cases mx <;> rfl
theorem FE {lo hi : Option EV} : nt e .aa lo hi none m = (match aw hi 0 0, aw lo 0 0 with
   | some _, some _ => some (.val .aa m)
   | _, _ => none) := by
 simp only [nt, gb]; cases aw hi 0 0 <;> cases aw lo 0 0 <;> rfl
theorem B2 {b off len c : Nat} {lo hi mx : Option EV} : nt e (.slice b off len (some c)) lo hi mx m = dQ m (b9 e b off len (some c) lo hi mx) := rfl
def QR (e b off len : Nat) (lo hi mx : Option EV) (m : Mem) (B : cY) : Option R1 := match B with
 | .cells _ f _ _ => bif f.beq e then dQ m (b9 e b off len none lo hi mx) else none
 | _ => none
@[congr] theorem QQ {b off len : Nat} {lo hi mx : Option EV} {B B' : cY} (h : B = B') : QR e b off len lo hi mx m B = QR e b off len lo hi mx m B' := by rw [h]
theorem B3 {b off len : Nat} {lo hi mx : Option EV} : nt e (.slice b off len none) lo hi mx m = QR e b off len lo hi mx m (m.get b) := by
 simp only [nt, QR]
theorem FF {b off len t : Nat} {lo hi mx : Option EV} {cs : List EV} {ro : Bool} : QR e b off len lo hi mx m (.cells cs e t ro) = dQ m (b9 e b off len none lo hi mx) := by simp only [QR, Nat.beq_refl, cond_true]
theorem we {lo hi : Option EV} : nt e (row nl t e els) lo hi none m = rK (nl && els.isEmpty) e els lo (aw hi els.length els.length) m := by
 have := vI (m := m) (nl := nl) (t := t) (e := e) (els := els) (ρ := fun o => match o with | .tmp 0 => row nl t e els | .tmp 1 => lo.getD .undef | .tmp _ => hi.getD .undef | .const x => x) (x := .tmp 0) (lo := lo.map fun _ => .tmp 1) (hi := hi.map fun _ => .tmp 2) rfl
 rw [uG] at this
 cases lo <;> cases hi <;> exact this
theorem Iq {lo hi : Option EV} : nt e (.fz t e els) lo hi none m = rK false e els lo (aw hi els.length els.length) m := by
 have := we (m := m) (nl := false) (t := t) (e := e) (els := els) (lo := lo) (hi := hi)
 exact this
def jY (m : Mem) (v : EV) : Option EV := kA (bj 7 m) m v
def yf (m : Mem) (l : List EV) : Option (List EV) := bj deep m l
def KM (a : Option EV) (b : Option (List EV)) : Option (List EV) := match a, b with
 | some a, some b => some (a :: b)
 | _, _ => none
theorem Dl {a : EV} {b : List EV} : KM (some a) (some b) = some (a :: b) := rfl
theorem Km : yf m [] = some [] := rfl
theorem GU {v : EV} {l : List EV} : yf m (v :: l) = KM (jY m v) (yf m l) := by
 show e8 (bj 7 m) m (v :: l) = _
 simp only [e8]
 show _ = KM (kA (bj 7 m) m v) (e8 (bj 7 m) m l)
 cases kA (bj 7 m) m v <;> cases e8 (bj 7 m) m l <;> rfl
theorem CT : jY m .undef = some .undef := rfl
theorem GS {b : Bool} : jY m (.bool b) = some (.bool b) := rfl
theorem NE {p : Prop} : jY m (bo p) = some (bo p) := rfl
theorem Kk {k : IntKind} {n : Int} : jY m (.int k n) = some (.int k n) := rfl
theorem Ki {s : List UInt8} : jY m (.str s) = some (.str s) := rfl
theorem vG : jY m .aa = some .aa := rfl
theorem Ao : jY m .bb = some .bb := rfl
theorem vH : jY m .aq = some .aq := rfl
theorem ED : jY m (.fz t e els) = some (.fz 0 e els) := by simp only [jY, kA]
theorem Kj : jY m (row nl t e els) = some (row nl 0 e els) := by
 unfold row; cases nl && els.isEmpty
 ·exact ED
 ·rfl
theorem Kl {x : List EV} : jY m (.agg x) = (yf m x).map .agg := by simp only [jY, kA]; rfl
theorem CU {x : List EV} : jY m (.tuple x) = (yf m x).map .tuple := by simp only [jY, kA]; rfl
mutual
def plain : EV -> Bool
 | .ptr _ _ | .slice _ _ _ _ | .map _ | .dl _ _ _ _ => false
 | .fz t _ _ => t.beq 0
 | .func _ x y => fW x && fW y
 | .iface _ v => plain v
 | .agg x | .tuple x => fW x
 | _ => true
def fW : List EV -> Bool
 | [] => true
 | v :: l => plain v && fW l
end
mutual
theorem wW {F : List EV -> Option (List EV)} : ∀ {v : EV}, plain v = true -> kA F m v = some v
 | .undef, _ | .bool _, _ | .int _ _, _ | .str _, _ | .bb, _ | .aa, _ | .aS, _ | .aR, _ | .aq, _ => by simp only [kA]
 | .ptr _ _, h | .slice _ _ _ _, h | .map _, h | .dl _ _ _ _, h => by simp [plain] at h
 | .fz t e els, h => by simp only [plain] at h; rw [aB h]; simp only [kA]
 | .func f x y, h => by
  simp only [plain, kD] at h;simp only [kA, ia h.1, ia h.2]
 | .iface t v, h => by simp only [kA, wW (v := v) (by simpa only [plain] using h), Option.map_some]
 | .agg x, h => by simp only [kA, ia (l := x) (by simpa only [plain] using h), Option.map_some]
 | .tuple x, h => by simp only [kA, ia (l := x) (by simpa only [plain] using h), Option.map_some]
theorem ia {F : List EV -> Option (List EV)} : ∀ {l : List EV}, fW l = true -> e8 F m l = some l
 | [], _ => rfl
 | v :: l, h => by
  simp only [fW, kD] at h;simp only [e8, wW h.1, ia h.2]
end
theorem oL : ∀ {a b : List EV}, fW (a ++ b) = (fW a && fW b)
 | [], b => by simp [fW]
 | v :: a, b => by simp only [List.cons_append, fW, oL (a := a), Bool.and_assoc]
theorem kW : ∀ {els : List (List EV)}, (∀ el ∈ els, fW el = true) -> fW els.flatten = true
 | [], _ => rfl
 | el :: els, h => by rw [List.flatten_cons, oL, h el (by simp), kW fun x hx => h x (by simp [hx])]; rfl
theorem jI : ∀ {els : List (List EV)}, (∀ el ∈ els, el.length = e) -> chunk e els.length els.flatten = els
 | [], _ => rfl
 | el :: els, h => by
  have he := h el (by simp)
  rw [List.length_cons, List.flatten_cons, chunk, List.take_append_of_le_length (by omega), List.drop_append_of_le_length (by omega), <- he, List.take_length, List.drop_length, List.nil_append, he, jI fun x hx => h x (by simp [hx])]
theorem pg {b ty : Nat} {cap : Option Nat} {ro : Bool} (hb : m.get b = .cells els.flatten e ty ro) (hl : ∀ el ∈ els, el.length = e) (hp : ∀ el ∈ els, fW el = true) (hc : qx cap els.length = true) : jY m (.slice b 0 els.length cap) = some (.fz 0 e els) := by
 have hlen : els.flatten.length = els.length * e := qn hl
 simp only [jY, kA, hb, hc, cond_true, lJ (show 0 + els.length * e <= els.flatten.length by omega), List.drop_zero];rw [<- hlen, List.take_length]
 show (e8 (bj 6 m) m els.flatten).map _ = _
 rw [ia (kW hp), Option.map_some, jI hl]
theorem Dn : closed (row nl t e els) = true := by
 unfold row; cases nl && els.isEmpty <;> rfl
theorem AS : dw [] = true := rfl
theorem yA {v : EV} {l : List EV} : dw (v :: l) = (closed v && dw l) := by simp only [dw]
theorem Hc : closed (.fz t e els) = true := rfl
theorem Dp {k : IntKind} {n : Int} : closed (.int k n) = true := rfl
theorem AT {b : Bool} : closed (.bool b) = true := rfl
theorem Hd {p : Prop} : closed (bo p) = true := rfl
theorem Dm {s : List UInt8} : closed (.str s) = true := rfl
theorem sG : closed .aa = true := rfl
theorem Dq {x : List EV} : closed (.agg x) = dw x := by simp only [closed]
theorem yB {x : List EV} : closed (.tuple x) = dw x := by simp only [closed]
theorem K9 {k : IntKind} {n : Int} : Flat (.int k n) = true := rfl
theorem Hz {b : Bool} : Flat (.bool b) = true := rfl
theorem Oh {p : Prop} : Flat (bo p) = true := rfl
theorem K8 {s : List UInt8} : Flat (.str s) = true := rfl
theorem La {x : List EV} : Flat (.agg x) = c9 x := by simp only [Flat]
theorem DO {x : List EV} : Flat (.tuple x) = c9 x := by simp only [Flat]
theorem GX : c9 [] = true := rfl
theorem CW {v : EV} {l : List EV} : c9 (v :: l) = (Flat v && c9 l) := by simp only [c9]
def xx (i : Nat) (v : EV) : EV := match v with
 | .fz _ e els => .fz i e els
 | v => v
theorem rC {i : Nat} : dW i [] = [] := rfl
theorem pN {i : Nat} {v : EV} {l : List EV} : dW i (v :: l) = xx i v :: dW (i + 1) l := rfl
theorem LH {i : Nat} : xx i (.fz t e els) = .fz i e els := rfl
theorem y8 {i : Nat} : xx i (row nl t e els) = row nl i e els := by
 unfold row; cases nl && els.isEmpty <;> rfl
theorem H8 {i : Nat} {k : IntKind} {n : Int} : xx i (.int k n) = .int k n := rfl
theorem Fl {i : Nat} {b : Bool} : xx i (.bool b) = .bool b := rfl
theorem LI {i : Nat} {p : Prop} : xx i (bo p) = bo p := rfl
theorem H7 {i : Nat} {s : List UInt8} : xx i (.str s) = .str s := rfl
theorem vv {i : Nat} : xx i .aa = .aa := rfl
theorem H9 {i : Nat} {x : List EV} : xx i (.agg x) = .agg x := rfl
def Ry (o : Option EV) (m : Mem) : Option Fin := match o with
 | some V => bif Flat V then some (.ret V m) else none
 | none => none
@[congr] theorem QT {o o' : Option EV} (h : o = o') : Ry o m = Ry o' m := by rw [h]
theorem IS {V : EV} (h : Flat V = true) : Ry (some V) m = some (.ret V m) := by simp only [Ry, h, cond_true]
def Tx (o : Option EV) (m : Mem) : Option Fin := match o with
 | some V => some (.ret V ⟨m.next + 1, m.kl⟩)
 | none => none
@[congr] theorem QS {o o' : Option EV} (h : o = o') : Tx o m = Tx o' m := by rw [h]
theorem IR {V : EV} : Tx (some V) m = some (.ret V (bump m 1)) := rfl
def AY (g : List EV -> Option EV) (o : Option (List EV)) : Option EV := match o with
 | some cM => g (dW 1 cM)
 | none => none
@[congr] theorem O1 {g : List EV -> Option EV} {o o' : Option (List EV)} (h : o = o') : AY g o = AY g o' := by rw [h]
theorem Dw {g : List EV -> Option EV} {cM : List EV} : AY g (some cM) = g (dW 1 cM) := rfl
end
class cD (T : Nat -> Option fg) (f : Nat) (F : outParam ar) : Prop where
 has : T f = some (.go F)
section
variable {T : Nat -> Option fg} {K : Nat -> Nat} {m : Mem}
class cg (K : Nat -> Nat) (f : Nat) : Prop where
 s : K f = 1
class xo (K : Nat -> Nat) (f : Nat) : Prop where
 s : K f = 2
class oR (K : Nat -> Nat) (f : Nat) : Prop where
 s : K f = 0
theorem Ps {f : Nat} [h : cg K f] {args : List EV} : run (UT T K) f args m = Ry (AY (aM T K f) (yf m args)) m := by
 rw [lZ (g := gK (aM T K f)) (by unfold UT PT; rw [h.s]; rfl)]
 unfold gK yf
 cases bj deep m args <;> rfl
theorem Pr {f : Nat} [h : xo K f] {args : List EV} : run (UT T K) f args m = bif dw args then Tx (AY (aM T K f) (yf m args)) m else none := by
 rw [lZ (g := fu (aM T K f)) (by unfold UT PT; rw [h.s]; rfl)]
 unfold fu yf
 cases dw args
 ·rfl
 ·cases bj deep m args <;> rfl
theorem tF {f : Nat} {F : ar} [h : oR K f] [hF : cD T f F] {args : List EV} (hn : args.length <= F.ntmps) : run (UT T K) f args m = qT F.results (exec (UT T K) F.body (ag args 0 oE) m) :=
 D5 (by unfold UT PT; rw [h.s]; exact hF.has) hn
noncomputable def OW (o : Option Fin) : Option EV := match o with
 | some (.ret v m) => jY m v
 | _ => none
@[congr] theorem Re {o o' : Option Fin} (h : o = o') : OW o = OW o' := by rw [h]
theorem EE {v : EV} : OW (some (.ret v m)) = jY m v := rfl
open Classical in
noncomputable def Lk (p : Prop) (a b : Option EV) : Option EV := if p then a else b
theorem Qq {p : Prop} {a b : Option Fin} : OW (iF p a b) = Lk p (OW a) (OW b) := by unfold iF Lk; split <;> rfl
theorem xX {p : Prop} {a b : Option EV} (h : p) : Lk p a b = a := if_pos h
theorem xY {p : Prop} {a b : Option EV} (h : ¬ p) : Lk p a b = b := if_neg h
@[congr] theorem QY {p q : Prop} {a a' b b' : Option EV} (h : p = q) (ha : q -> a = a') (hb : ¬ q -> b = b') : Lk p a b = Lk q a' b' := by
 subst h; unfold Lk; split
 ·exact ha ‹_›
 ·exact hb ‹_›
theorem bR {f : Nat} {F : ar} [h : cD T f F] {cM : List EV} (hn : cM.length <= F.ntmps) : aM T K f cM = OW (qT F.results (exec (UT T K) F.body (ag cM 0 oE) cu)) := by
 rw [tH h.has];unfold gW;rw [lJ hn, cond_true, D7];rw [show (⟨bO cM 0 .leaf, []⟩ : Fr) = ag cM 0 oE by unfold oE; rw [uY]]
 cases qT F.results (exec (UT T K) F.body (ag cM 0 oE) cu) with
 | none => rfl
 | some fin =>
  cases fin with
  | dZ v m => rfl
  | ret v m =>
   simp only [EE]
   show (match e8 (bj 7 m) m [v] with | some [V] => some V | _ => none) = kA (bj 7 m) m v
   simp only [e8]
   cases kA (bj 7 m) m v <;> rfl
end
end
section
def Oi (g : List EV -> Option EV) : Prop := ∀ args v, g args = some v -> c9 args = true /\ Flat v = true
def XA : fg -> Prop
 | .go F => wz F = true
 | .ext g | .pure g => Oi g
 | .spec _ => False
 | .EK _ _ => False
theorem aN {T : Nat -> Option fg} {f : Nat} {F : ar} (he : T f = some (.go F)) (h : wz F = true) : fU T f (.go F) := ⟨F, he, Mo h, (F5 h).symm⟩
theorem yq {T : Nat -> Option fg} {f : Nat} {F F1 : ar} (he : T f = some (.go F)) (h : jx F = true) (hs : F1 = F.sub) : fU T f (.go F1) := ⟨F, he, h, hs⟩
theorem HO {T B : Nat -> Option fg} (h : ∀ f e, B f = some e -> fU T f e) {g : Nat} {e0 : fg} (h0 : fU T g e0) : ∀ f e, up B g e0 f = some e -> fU T f e := by
 intro f e he
 unfold up at he
 cases hb : f.beq g <;> simp only [hb, cond_true, cond_false] at he
 ·exact h f e he
 ·cases he; rw [aB hb]; exact h0
theorem EZ {T B : Nat -> Option fg} (h : ∀ f e, B f = some e -> fU T f e) {f : Nat} {F1 : ar} (hB : B f = some (.go F1)) {k : Nat} (hw : isTrue (aC B k f [] cu) = true) : fU T f (.pure DT) := by
 obtain ⟨F, hT, cy, rfl⟩ := h f _ hB
 obtain ⟨m1, hm⟩ := GA hw
 cases k with
 | zero => simp [aC] at hm
 | succ k =>
  simp only [aC, hB, fc] at hm;have hb : gW B F.sub [] = some (.bool true) := nU hm (by rfl)
  have hp := wu h hT cy (g := fun cM => match cM with | [] => some (.bool true) | _ => none) (fun cM V hv => by
   cases cM with
   | nil => cases hv; exact hb
   | cons a cM => cases hv)
  intro θ m m' args aj v hg ha hx
  unfold DT at hx
  split at hx
  ·cases hx
   exact hp θ m m' [] aj (.ret (.bool true) m) hg ha (by rfl)
  ·cases hx
theorem L2 {T : Nat -> Option fg} {f : Nat} {F : ar} [h : cD T f F] {args : List EV} {m : Mem} (hn : args.length <= F.ntmps) : run T f args m = qT F.results (exec T F.body (ag args 0 oE) m) := D5 h.has hn
def PE (f : Nat) : List Nat -> Bool
 | [] => false
 | a :: l => bif a.beq f then true else PE f l
end
section
/- balustrade/tree.Sign -/
def gi : ar :=
 ⟨15,
 (.seq
 (.region [iV 2 (.ab (kS []))])
 (.seq
 (.seq
 (.region [iV 3 (.ab (tm 0)),
 iV 4 (.bin .lss (tm 3) (kI 0)),
 iV 5 (.ab (tm 4)),
 iG 6 (.ab (tm 0)) 5 false,
 iG 7 (.load none (.const (OV L_tree_signs))) 5 false,
 iG 8 (.len (tm 7)) 5 false,
 iG 9 (.bin .geq (tm 6) (tm 8)) 5 false,
 iV 10 (.pick (tm 5) (.const (.bool true)) (tm 9))])
 (.cond (.tmp 10)
 (.seq
 (.region [iV 2 (.ab (kS []))])
 .ret)
 .skip))
 (.seq
 (.region [iV 11 (.load none (.const (OV L_tree_signs))),
 iV 12 (.ab (tm 0)),
 iV 13 (.ay 1 (tm 11) (tm 12)),
 iV 14 (.load none (tm 13)),
 iV 2 (.ab (tm 14))])
 .ret))),
 [.tmp 2]⟩
theorem Ru : gi = j8.sub := by kernel_rfl
/- balustrade/tree.Op -/
def rr : ar :=
 ⟨7,
 (.seq
 (.region [iV 2 (.ab (kI 0))])
 (.seq
 (.region [iV 3 (.load none (.const (OV L_tree_signs))),
 iV 4 (.ab (tm 0)),
 iC 5 41 [(tm 3), (tm 4)],
 iV 6 (.max [(kI 0), (tm 5)]),
 iV 2 (.ab (tm 6))])
 .ret)),
 [.tmp 2]⟩
theorem Rt : rr = mv.sub := by kernel_rfl
/- balustrade/tree.name -/
def dS : au :=
 (.seq
 (.region [iV 10 (.bin .lss (tm 9) (tm 8))])
 (.seq
 (.cond (.tmp 10)
 .skip
 (.exit 0))
 (.seq
 (.block 1
 (.seq
 (.region [iV 11 (.ab (tm 9)),
 iV 12 (.ay 1 (tm 7) (tm 9)),
 iV 13 (.load none (tm 12)),
 iV 3 (.ab (tm 11)),
 iV 4 (.ab (tm 13))])
 (.seq
 (.region [iV 14 (.ab (tm 4)),
 iV 15 (.bin .or (tm 14) (.const (.int .u8 32))),
 iV 16 (.bin .geq (tm 15) (.const (.int .u8 97))),
 iV 17 (.ab (tm 16)),
 iG 18 (.ab (tm 4)) 17 true,
 iG 19 (.bin .or (tm 18) (.const (.int .u8 32))) 17 true,
 iG 20 (.bin .leq (tm 19) (.const (.int .u8 122))) 17 true,
 iV 21 (.pick (tm 17) (tm 20) (.const (.bool false))),
 iV 22 (.ab (tm 21)),
 iG 23 (.ab (tm 4)) 22 false,
 iG 24 (.eq false (.ax 1) (tm 23) (.const (.int .u8 95))) 22 false,
 iV 25 (.pick (tm 22) (.const (.bool true)) (tm 24)),
 iV 5 (.ab (tm 25))])
 (.seq
 (.region [iV 26 (.ab (tm 5)),
 iV 27 (.un .not (tm 26)),
 iV 28 (.ab (tm 27)),
 iG 29 (.ab (tm 3)) 28 true,
 iG 30 (.eq false (.ax 1) (tm 29) (kI 0)) 28 true,
 iG 31 (.ab (tm 30)) 28 true,
 iG 32 (.ab (tm 4)) 31 false,
 iG 33 (.bin .lss (tm 32) (.const (.int .u8 48))) 31 false,
 iG 34 (.pick (tm 31) (.const (.bool true)) (tm 33)) 28 true,
 iG 35 (.ab (tm 34)) 28 true,
 iG 36 (.ab (tm 4)) 35 false,
 iG 37 (.bin .gtr (tm 36) (.const (.int .u8 57))) 35 false,
 iG 38 (.pick (tm 35) (.const (.bool true)) (tm 37)) 28 true,
 iV 39 (.pick (tm 28) (tm 38) (.const (.bool false)))])
 (.cond (.tmp 39)
 (.seq
 (.region [iV 2 (.ab (.const (.bool false)))])
 .ret)
 .skip)))))
 (.region [iV 40 (.bin .add (tm 9) (kI 1)),
 iV 9 (.ab (tm 40))]))))
def j5 : ar :=
 ⟨54,
 (.seq
 (.region [iV 2 (.ab (.const (.bool false)))])
 (.seq
 (.seq
 (.region [iV 6 (.ab (tm 0)),
 iV 7 (.conv (.bytes 5) (tm 6)),
 iV 8 (.len (tm 7)),
 iV 9 (.ab (kI 0))])
 (.block 0
 (.loop dS)))
 (.seq
 (.region [iV 41 (.ab (tm 0)),
 iV 42 (.eq true (.ax 2) (tm 41) (kS [])),
 iV 43 (.ab (tm 42)),
 iG 44 (.ab (tm 0)) 43 true,
 iG 45 (.eH (tm 44)) 43 true,
 iG 46 (.bin .leq (tm 45) (kI 32)) 43 true,
 iV 47 (.pick (tm 43) (tm 46) (.const (.bool false))),
 iV 48 (.ab (tm 47)),
 iG 49 (.load none (.const (OV L_tree_words))) 48 true,
 iG 50 (.ab (tm 0)) 48 true,
 iH 51 62 [(tm 49), (tm 50)] 48 true,
 iG 52 (.un .not (tm 51)) 48 true,
 iV 53 (.pick (tm 48) (tm 52) (.const (.bool false))),
 iV 2 (.ab (tm 53))])
 .ret))),
 [.tmp 2]⟩
theorem Rs : j5 = j7.sub := by kernel_rfl
end
section
def Oj : Bt :=
 (.node 35 (.go iB) (.node 19 (.go eB) (.node 11 (.go ez) (.node 7 (.go iL) (.node 5 (.go ei) (.node 4 (.go bU) (.node 3 (.go ej) .leaf .leaf) .leaf) (.node 6 (.go eh) .leaf .leaf)) (.node 9 (.go gG) (.node 8 (.go iK) .leaf .leaf) (.node 10 (.go dN) .leaf .leaf))) (.node 15 (.go dn) (.node 13 (.go fo) (.node 12 (.go dH) .leaf .leaf) (.node 14 (.go cK) .leaf .leaf)) (.node 17 (.go gF) (.node 16 (.go cr) .leaf .leaf) (.node 18 (.go iE) .leaf .leaf)))) (.node 27 (.go ff) (.node 23 (.go dm) (.node 21 (.go gi) (.node 20 (.go iI) .leaf .leaf) (.node 22 (.go rr) .leaf .leaf)) (.node 25 (.go ep) (.node 24 (.go dz) .leaf .leaf) (.node 26 (.go bI) .leaf .leaf))) (.node 31 (.pure yU) (.node 29 (.go bG) (.node 28 (.go dc) .leaf .leaf) (.node 30 (.go cq) .leaf .leaf)) (.node 33 (.spec nE) (.node 32 (.go bh) .leaf .leaf) (.node 34 (.go dL) .leaf .leaf))))) (.node 54 (.go bZ) (.node 43 (.go bq) (.node 39 (.go eE) (.node 37 (.go fD) (.node 36 (.go aH) .leaf .leaf) (.node 38 (.go bE) .leaf .leaf)) (.node 41 (.go bJ) (.node 40 (.go fE) .leaf .leaf) (.node 42 (.go cm) .leaf .leaf))) (.node 50 (.go iD) (.node 48 (.go gq) (.node 47 (.go fm) .leaf .leaf) (.node 49 (.go eA) .leaf .leaf)) (.node 52 (.go j5) (.node 51 (.go gj) .leaf .leaf) (.node 53 (.go dM) .leaf .leaf)))) (.node 65 (.go bd) (.node 60 (.go gn) (.node 58 (.go eC) (.node 55 (.go bC) .leaf .leaf) (.node 59 (.go fp) .leaf .leaf)) (.node 62 (.go bi) (.node 61 (.go gl) .leaf .leaf) (.node 63 (.go bX) .leaf .leaf))) (.node 71 (.go dx) (.node 69 (.go iJ) (.node 66 (.go bp) .leaf .leaf) (.node 70 (.go bA) .leaf .leaf)) (.node 73 (.go bc) (.node 72 (.go bB) .leaf .leaf) (.node 74 (.go bQ) .leaf .leaf))))))
def YK : Nat -> Option fg := Oj.find
theorem Qw : ∀ f e, YK f = some e -> fU T f e := Bt.sZ (t := Oj)
 ⟨(aN (F := iB) W8 (by kernel_rfl)), ⟨(aN (F := eB) Xo (by kernel_rfl)), ⟨(aN (F := ez) Xw (by kernel_rfl)), ⟨(aN (F := iL) at7 (by kernel_rfl)), ⟨(aN (F := ei) at5 (by kernel_rfl)), ⟨(aN (F := bU) at4 (by kernel_rfl)), ⟨(aN (F := ej) at3 (by kernel_rfl)), trivial, trivial⟩, trivial⟩, ⟨(aN (F := eh) at6 (by kernel_rfl)), trivial, trivial⟩⟩, ⟨(aN (F := gG) at9 (by kernel_rfl)), ⟨(aN (F := iK) at8 (by kernel_rfl)), trivial, trivial⟩, ⟨(aN (F := dN) Xx (by kernel_rfl)), trivial, trivial⟩⟩⟩, ⟨(aN (F := dn) Xs (by kernel_rfl)), ⟨(aN (F := fo) Xu (by kernel_rfl)), ⟨(aN (F := dH) Xv (by kernel_rfl)), trivial, trivial⟩, ⟨(aN (F := cK) Xt (by kernel_rfl)), trivial, trivial⟩⟩, ⟨(aN (F := gF) Xq (by kernel_rfl)), ⟨(aN (F := cr) Xr (by kernel_rfl)), trivial, trivial⟩, ⟨(aN (F := iE) Xp (by kernel_rfl)), trivial, trivial⟩⟩⟩⟩, ⟨(aN (F := ff) Xg (by kernel_rfl)), ⟨(aN (F := dm) Xk (by kernel_rfl)), ⟨(yq (F := j8) Xm (by kernel_rfl) Ru), ⟨(aN (F := iI) Xn (by kernel_rfl)), trivial, trivial⟩, ⟨(yq (F := mv) Xl (by kernel_rfl) Rt), trivial, trivial⟩⟩, ⟨(aN (F := ep) Xi (by kernel_rfl)), ⟨(aN (F := dz) Xj (by kernel_rfl)), trivial, trivial⟩, ⟨(aN (F := bI) Xh (by kernel_rfl)), trivial, trivial⟩⟩⟩, ⟨(Jy Xc), ⟨(aN (F := bG) Xe (by kernel_rfl)), ⟨(aN (F := dc) Xf (by kernel_rfl)), trivial, trivial⟩, ⟨(aN (F := cq) Xd (by kernel_rfl)), trivial, trivial⟩⟩, ⟨(Ju Xa), ⟨(aN (F := bh) Xb (by kernel_rfl)), trivial, trivial⟩, ⟨(aN (F := dL) W9 (by kernel_rfl)), trivial, trivial⟩⟩⟩⟩⟩, ⟨(aN (F := bZ) WS (by kernel_rfl)), ⟨(aN (F := bq) W0 (by kernel_rfl)), ⟨(aN (F := eE) W4 (by kernel_rfl)), ⟨(aN (F := fD) W6 (by kernel_rfl)), ⟨(aN (F := aH) W7 (by kernel_rfl)), trivial, trivial⟩, ⟨(aN (F := bE) W5 (by kernel_rfl)), trivial, trivial⟩⟩, ⟨(aN (F := bJ) W2 (by kernel_rfl)), ⟨(aN (F := fE) W3 (by kernel_rfl)), trivial, trivial⟩, ⟨(aN (F := cm) W1 (by kernel_rfl)), trivial, trivial⟩⟩⟩, ⟨(aN (F := iD) WW (by kernel_rfl)), ⟨(aN (F := gq) WY (by kernel_rfl)), ⟨(aN (F := fm) WZ (by kernel_rfl)), trivial, trivial⟩, ⟨(aN (F := eA) WX (by kernel_rfl)), trivial, trivial⟩⟩, ⟨(yq (F := j7) WU (by kernel_rfl) Rs), ⟨(aN (F := gj) WV (by kernel_rfl)), trivial, trivial⟩, ⟨(aN (F := dM) WT (by kernel_rfl)), trivial, trivial⟩⟩⟩⟩, ⟨(aN (F := bd) WJ (by kernel_rfl)), ⟨(aN (F := gn) WN (by kernel_rfl)), ⟨(aN (F := eC) WQ (by kernel_rfl)), ⟨(aN (F := bC) WR (by kernel_rfl)), trivial, trivial⟩, ⟨(aN (F := fp) WO (by kernel_rfl)), trivial, trivial⟩⟩, ⟨(aN (F := bi) WL (by kernel_rfl)), ⟨(aN (F := gl) WM (by kernel_rfl)), trivial, trivial⟩, ⟨(aN (F := bX) WK (by kernel_rfl)), trivial, trivial⟩⟩⟩, ⟨(aN (F := dx) WE (by kernel_rfl)), ⟨(aN (F := iJ) WH (by kernel_rfl)), ⟨(aN (F := bp) WI (by kernel_rfl)), trivial, trivial⟩, ⟨(aN (F := bA) WG (by kernel_rfl)), trivial, trivial⟩⟩, ⟨(aN (F := bc) WC (by kernel_rfl)), ⟨(aN (F := bB) WD (by kernel_rfl)), trivial, trivial⟩, ⟨(aN (F := bQ) WB (by kernel_rfl)), trivial, trivial⟩⟩⟩⟩⟩⟩
end
section
abbrev A0 : Nat -> Option fg := YK
theorem OY : ∀ f e, A0 f = some e -> fU T f e := Qw
end
section
theorem Pa : isTrue (aC A0 5000 8 [] cu) = true := by kernel_rfl
def A1 : Nat -> Option fg := up A0 8 (.pure DT)
theorem KC : ∀ f e, A1 f = some e -> fU T f e := HO OY (EZ OY (F1 := iK) rfl Pa)
def K (f : Nat) : Nat := bif PE f [3, 4, 5, 6, 7, 9, 10, 11, 12, 13, 16, 17, 18, 19, 21, 22, 23, 24, 25, 27, 32, 34, 35, 36, 37, 39, 40, 42, 43, 47, 48, 49, 50, 51, 52, 53, 55, 58, 59, 60, 61, 63, 70, 71, 72, 73, 74] then 1 else bif PE f [15, 20, 30, 66, 69] then 2 else 0
instance : cD A1 14 cK := ⟨rfl⟩
noncomputable def P1 : Nat -> Option fg := up A1 14 (.spec (fu (gW A1 cK)))
theorem Tc : ∀ f e, P1 f = some e -> fU T f e := by
 obtain ⟨F, hT, cy, hs⟩ := KC 14 (.go cK) rfl
 exact HO KC (wq KC hT cy (g := gW A1 cK) fun az V h => by rw [<- hs]; exact h)
noncomputable abbrev B0 : Nat -> Option fg := P1
theorem Td : ∀ f e, B0 f = some e -> fU T f e := Tc
noncomputable abbrev B : Nat -> Option fg := B0
theorem Wu : ∀ f e, B f = some e -> fU T f e := Td
noncomputable abbrev U : Nat -> Option fg := UT B K
instance : cD B0 3 ej := ⟨rfl⟩
instance : cg K 3 := ⟨rfl⟩
instance : cD B0 4 bU := ⟨rfl⟩
instance : cg K 4 := ⟨rfl⟩
instance : cD B0 5 ei := ⟨rfl⟩
instance : cg K 5 := ⟨rfl⟩
instance : cD B0 6 eh := ⟨rfl⟩
instance : cg K 6 := ⟨rfl⟩
instance : cD B0 7 iL := ⟨rfl⟩
instance : cg K 7 := ⟨rfl⟩
instance : cD B0 9 gG := ⟨rfl⟩
instance : cg K 9 := ⟨rfl⟩
instance : cD B0 10 dN := ⟨rfl⟩
instance : cg K 10 := ⟨rfl⟩
instance : cD B0 11 ez := ⟨rfl⟩
instance : cg K 11 := ⟨rfl⟩
instance : cD B0 12 dH := ⟨rfl⟩
instance : cg K 12 := ⟨rfl⟩
instance : cD B0 13 fo := ⟨rfl⟩
instance : cg K 13 := ⟨rfl⟩
instance : oR K 14 := ⟨rfl⟩
instance : cD B0 15 dn := ⟨rfl⟩
instance : xo K 15 := ⟨rfl⟩
instance : cD B0 16 cr := ⟨rfl⟩
instance : cg K 16 := ⟨rfl⟩
instance : cD B0 17 gF := ⟨rfl⟩
instance : cg K 17 := ⟨rfl⟩
instance : cD B0 18 iE := ⟨rfl⟩
instance : cg K 18 := ⟨rfl⟩
instance : cD B0 19 eB := ⟨rfl⟩
instance : cg K 19 := ⟨rfl⟩
instance : cD B0 20 iI := ⟨rfl⟩
instance : xo K 20 := ⟨rfl⟩
instance : cD B0 21 gi := ⟨rfl⟩
instance : cg K 21 := ⟨rfl⟩
instance : cD B0 22 rr := ⟨rfl⟩
instance : cg K 22 := ⟨rfl⟩
instance : cD B0 23 dm := ⟨rfl⟩
instance : cg K 23 := ⟨rfl⟩
instance : cD B0 24 dz := ⟨rfl⟩
instance : cg K 24 := ⟨rfl⟩
instance : cD B0 25 ep := ⟨rfl⟩
instance : cg K 25 := ⟨rfl⟩
instance : cD B0 26 bI := ⟨rfl⟩
instance : oR K 26 := ⟨rfl⟩
instance : cD B0 27 ff := ⟨rfl⟩
instance : cg K 27 := ⟨rfl⟩
instance : cD B0 28 dc := ⟨rfl⟩
instance : oR K 28 := ⟨rfl⟩
instance : cD B0 29 bG := ⟨rfl⟩
instance : oR K 29 := ⟨rfl⟩
instance : cD B0 30 cq := ⟨rfl⟩
instance : xo K 30 := ⟨rfl⟩
instance : cD B0 32 bh := ⟨rfl⟩
instance : cg K 32 := ⟨rfl⟩
instance : cD B0 34 dL := ⟨rfl⟩
instance : cg K 34 := ⟨rfl⟩
instance : cD B0 35 iB := ⟨rfl⟩
instance : cg K 35 := ⟨rfl⟩
instance : cD B0 36 aH := ⟨rfl⟩
instance : cg K 36 := ⟨rfl⟩
instance : cD B0 37 fD := ⟨rfl⟩
instance : cg K 37 := ⟨rfl⟩
instance : cD B0 38 bE := ⟨rfl⟩
instance : oR K 38 := ⟨rfl⟩
instance : cD B0 39 eE := ⟨rfl⟩
instance : cg K 39 := ⟨rfl⟩
instance : cD B0 40 fE := ⟨rfl⟩
instance : cg K 40 := ⟨rfl⟩
instance : cD B0 41 bJ := ⟨rfl⟩
instance : oR K 41 := ⟨rfl⟩
instance : cD B0 42 cm := ⟨rfl⟩
instance : cg K 42 := ⟨rfl⟩
instance : cD B0 43 bq := ⟨rfl⟩
instance : cg K 43 := ⟨rfl⟩
instance : cD B0 47 fm := ⟨rfl⟩
instance : cg K 47 := ⟨rfl⟩
instance : cD B0 48 gq := ⟨rfl⟩
instance : cg K 48 := ⟨rfl⟩
instance : cD B0 49 eA := ⟨rfl⟩
instance : cg K 49 := ⟨rfl⟩
instance : cD B0 50 iD := ⟨rfl⟩
instance : cg K 50 := ⟨rfl⟩
instance : cD B0 51 gj := ⟨rfl⟩
instance : cg K 51 := ⟨rfl⟩
instance : cD B0 52 j5 := ⟨rfl⟩
instance : cg K 52 := ⟨rfl⟩
instance : cD B0 53 dM := ⟨rfl⟩
instance : cg K 53 := ⟨rfl⟩
instance : cD B0 54 bZ := ⟨rfl⟩
instance : oR K 54 := ⟨rfl⟩
instance : cD B0 55 bC := ⟨rfl⟩
instance : cg K 55 := ⟨rfl⟩
instance : cD B0 58 eC := ⟨rfl⟩
instance : cg K 58 := ⟨rfl⟩
instance : cD B0 59 fp := ⟨rfl⟩
instance : cg K 59 := ⟨rfl⟩
instance : cD B0 60 gn := ⟨rfl⟩
instance : cg K 60 := ⟨rfl⟩
instance : cD B0 61 gl := ⟨rfl⟩
instance : cg K 61 := ⟨rfl⟩
instance : cD B0 62 bi := ⟨rfl⟩
instance : oR K 62 := ⟨rfl⟩
instance : cD B0 63 bX := ⟨rfl⟩
instance : cg K 63 := ⟨rfl⟩
instance : cD B0 65 bd := ⟨rfl⟩
instance : oR K 65 := ⟨rfl⟩
instance : cD B0 66 bp := ⟨rfl⟩
instance : xo K 66 := ⟨rfl⟩
instance : cD B0 69 iJ := ⟨rfl⟩
instance : xo K 69 := ⟨rfl⟩
instance : cD B0 70 bA := ⟨rfl⟩
instance : cg K 70 := ⟨rfl⟩
instance : cD B0 71 dx := ⟨rfl⟩
instance : cg K 71 := ⟨rfl⟩
instance : cD B0 72 bB := ⟨rfl⟩
instance : cg K 72 := ⟨rfl⟩
instance : cD B0 73 bc := ⟨rfl⟩
instance : cg K 73 := ⟨rfl⟩
instance : cD B0 74 bQ := ⟨rfl⟩
instance : cg K 74 := ⟨rfl⟩
theorem oY {m : Mem} : run U 8 [] m = some (.ret (.bool true) m) := Iw (f := 8) (by unfold U UT PT; rfl)
end
section
def u9 {σ : Type} (I : σ -> Fr -> Mem -> Prop) (lt : σ -> Prop) (Q : Out -> Prop) (o : Option Out) : Prop := match o with
 | some (.norm fr m) => ∃ s, lt s /\ I s fr m
 | some o => Q o
 | none => False
theorem dF {T : Nat -> Option fg} {c : au} {σ : Type} (I : σ -> Fr -> Mem -> Prop) (μ : σ -> Nat) (Q : Out -> Prop) (h : ∀ s fr m, I s fr m -> u9 I (fun s' => μ s' < μ s) Q (exec T c fr m)) : ∀ s fr m, I s fr m -> ∃ o, exec T (.loop c) fr m = some o /\ Q o := by
 intro s
 generalize hn : μ s = n
 induction n using Nat.strongRecOn generalizing s with
 | _ n ih =>
  intro fr m hI
  have hw := h s fr m hI
  rw [w6]
  cases he : exec T c fr m with
  | none => rw [he] at hw; exact hw.elim
  | some o =>
   rw [he] at hw
   cases o with
   | norm dB m1 => obtain ⟨s1, h1, h2⟩ := hw; exact ih (μ s1) (by omega) s1 rfl dB m1 h2
   | exit id dB m1 => exact ⟨_, rfl, hw⟩
   | ret dB m1 => exact ⟨_, rfl, hw⟩
   | dZ v dB m1 => exact ⟨_, rfl, hw⟩
section
variable {σ : Type} {I : σ -> Fr -> Mem -> Prop} {lt : σ -> Prop} {Q : Out -> Prop}
theorem l6 {p : Prop} {a b : Option Out} (h1 : p -> u9 I lt Q a) (h2 : ¬ p -> u9 I lt Q b) : u9 I lt Q (iF p a b) := by
 by_cases h : p
 ·rw [CF h]; exact h1 h
 ·rw [CG h]; exact h2 h
theorem cB {fr : Fr} {m : Mem} (s : σ) (h : lt s) (hI : I s fr m) : u9 I lt Q (some (.norm fr m)) := ⟨s, h, hI⟩
theorem cN {id : Nat} {fr : Fr} {m : Mem} (h : Q (.exit id fr m)) : u9 I lt Q (some (.exit id fr m)) := h
theorem e6 {fr : Fr} {m : Mem} (h : Q (.ret fr m)) : u9 I lt Q (some (.ret fr m)) := h
end
theorem cw {T : Nat -> Option fg} {c : au} {fr : Fr} {m : Mem} {X : Option Out} (hX : exec T (.loop c) fr m = X) {Q : Out -> Prop} (h : ∃ o, exec T (.loop c) fr m = some o /\ Q o) : ∃ o, X = some o /\ Q o := by
 rw [hX] at h; exact h
def Tm (e esz len : Nat) (o : Option (List EV)) (m : Mem) : Option R1 := match o with
 | some cs => some (.val (.slice (nb m.next 0) 0 len (some len)) (ext m [.cells cs esz e false]))
 | none => none
@[congr] theorem Rh {e esz len : Nat} {o o' : Option (List EV)} {m : Mem} (h : o = o') : Tm e esz len o m = Tm e esz len o' m := by rw [h]
theorem jb {e esz len : Nat} {cs : List EV} {m : Mem} : Tm e esz len (some cs) m = some (.val (.slice (nb m.next 0) 0 len (some len)) (ext m [.cells cs esz e false])) := rfl
theorem di {ρ : aD -> EV} {m : Mem} {e esz len : Nat} {zero : List EV} {parts : List (Nat × aD)} : ap ρ (.aU e esz len zero parts) m = Tm e esz len (cU (cH len zero) (parts.map fun p => (p.1 * esz, esz, ρ p.2))) m := by
 simp only [ap, Tm]
 cases cU (cH len zero) (parts.map fun p => (p.1 * esz, esz, ρ p.2)) <;> rfl
def O4 (call : Call) (n : Nat) (F : ar) (cM : List EV) : Option EV := match cf call n F cM cu with
 | some (.ret v m) => jY m v
 | _ => none
theorem jO {T : Nat -> Option fg} {K : Nat -> Nat} {f : Nat} {F : ar} [h : cD T f F] {cM : List EV} {V : EV} (n : Nat) (hb : ∀ call : Call, O4 call n F cM = some V) : aM T K f cM = some V := by
 rw [tH h.has];have hb := hb (aC (UT T K) n)
 unfold O4 at hb
 cases he : cf (aC (UT T K) n) n F cM cu with
 | none => rw [he] at hb; cases hb
 | some fin =>
  rw [he] at hb
  cases fin with
  | dZ v m => cases hb
  | ret v m =>
   refine nU he ?_
   have uu : kA (bj 7 m) m v = some V := hb
   show e8 (bj 7 m) m [v] = some [V]
   simp only [e8, uu]
theorem jJ.kA {m : Mem} {v : EV} {els : List (List EV)} {n e lo : Nat} (h : jJ m v els.flatten n e lo) (hn : els.length = n) (hl : ∀ el ∈ els, el.length = e) (hp : ∀ el ∈ els, fW el = true) : ∃ nl, jY m v = some (row nl 0 e els) := by
 rcases h.is with ⟨rfl, rfl, h3⟩ | ⟨b, cap, t, rfl, h1, h2, h3, h4⟩
 ·have : els = [] := List.eq_nil_of_length_eq_zero hn
  subst this;exact ⟨true, rfl⟩
 ·subst hn
  refine ⟨false, ?_⟩
  rw [pg h3 hl hp (by rcases h4 with rfl | rfl <;> simp [qx])]
  simp [row]
theorem PP {p q r : Prop} : Lk p (some (bo q)) (some (bo r)) = some (bo ((p /\ q) \/ (¬ p /\ r))) := by
 by_cases h : p
 ·rw [xX h]; exact congrArg some (kC ⟨fun x => .inl ⟨h, x⟩, fun x => x.elim (fun y => y.2) (fun y => absurd h y.1)⟩)
 ·rw [xY h]; exact congrArg some (kC ⟨fun x => .inr ⟨h, x⟩, fun x => x.elim (fun y => absurd y.1 h) (fun y => y.2)⟩)
theorem PO {p r : Prop} : Lk p (some (.bool false)) (some (bo r)) = some (bo (¬ p /\ r)) := by
 by_cases h : p
 ·rw [xX h]; exact congrArg some (gS fun x => x.1 h)
 ·rw [xY h]; exact congrArg some (kC ⟨fun x => ⟨h, x⟩, fun x => x.2⟩)
theorem cW {p q : Prop} (h : p ↔ q) : some (bo p) = some (bo q) := congrArg some (kC h)
theorem aI {a b : Prop} (x : a) (y : b) : a /\ b := And.intro x y
def YU := aI @mg <| aI @rY <| aI @zu <| aI @zw <| aI @tC <| aI @Kq <| aI @eval_const <| aI @F6 <| aI @F7 <| aI @IZ <| aI @BC <| aI @Fj <| aI @BE <| aI @Fh <| aI @BF <| aI @Cy <| aI @Gt <| aI @Cz <| aI @Pn <| aI @Po <| aI @IF <| aI @FI <| aI @IG <| aI (@eq_self.{1}) <| aI @L6 <| aI @L5 <| aI @Mk <| aI @Mj <| aI @Ml <| aI @Of <| aI @N6 <| aI @N9 <| aI @N8 <| aI @N7 <| aI @Oe <| aI @QD <| aI @N5 <| aI @DF <| aI @Oa <| aI @Ob <| aI @Oc <| aI @Od <| aI @Bf <| aI @Bd <| aI @Be <| aI @Bc <| aI @eq_int <| aI @Pc <| aI @Qy <| (@nO)
def YT := aI @sa <| aI @wZ <| aI @Aw <| aI @w7 <| aI @uE <| aI @C0 <| aI @zE <| aI @tM <| aI @o2 <| aI (@Option.map_some.{0,0}) <| aI (@Option.map_none.{0,0}) <| aI (@List.map_cons.{0,0}) <| aI (@List.map_nil.{0,0}) <| aI @Hr <| aI @vP <| aI @nc <| aI @lh <| aI @M5 <| aI @J8 <| aI @Tj <| aI @Fg <| aI @Ff <| aI @Kd <| aI @Nc <| aI @Nf <| aI @M6 <| aI @M7 <| aI @Kf <| aI @Nx <| aI @Ny <| aI @Nq <| aI @Nr <| aI @F3 <| aI @zF <| aI @qR <| aI (@List.nil_append.{0}) <| aI (@List.append_nil.{0}) <| aI (@List.cons_append.{0}) <| aI @C6 <| aI @IP <| aI @Ma <| aI @FP <| aI @IN <| aI @Pv <| aI @Pw <| aI @E5 <| aI @Qu <| aI @Qt <| aI @H2 <| (@Jn)
def YS := aI @H0 <| aI @H4 <| aI @L7 <| aI @not_true_eq_false <| aI @not_false_eq_true <| aI @and_true <| aI @true_and <| aI @and_false <| aI @false_and <| aI @or_true <| aI @true_or <| aI @or_false <| aI @false_or <| aI @Classical.not_not <| aI @Bool.false_bne <| aI @Bool.true_bne <| aI @Bool.false_xor <| aI @Bool.true_xor <| aI @Kr <| aI @Da <| aI @G0 <| aI @C3 <| aI @C7 <| aI @Kw <| aI @NM <| aI @NL <| aI @G3 <| aI @C8 <| aI @GZ <| aI @yi <| aI @C4 <| aI @C5 <| aI @C9 <| aI @Ku <| aI @vJ <| aI @AE <| aI @AF <| aI @Az <| aI @Ay <| aI @AH <| aI @AB <| aI @yh <| aI @yj <| aI @AA <| aI @AD <| aI @Kv <| aI @Kt <| aI @Ks <| aI @AI <| (@G2)
def YR := aI @Wx <| aI @Wy <| aI @SE <| aI @SF <| aI @SG <| aI @SH <| aI @M8 <| aI @M9 <| aI @Na <| aI @Nb <| aI @SO <| aI @SP <| aI @SQ <| aI @SS <| aI @Ns <| aI @Nt <| aI @Nu <| aI @Nw <| aI @Cd <| aI @Ce <| aI @FN <| aI @FO <| aI @NR <| aI @NS <| aI @NO <| aI @NQ <| aI @S0 <| aI @Tb <| aI @S1 <| aI @S9 <| aI @HP <| aI @HQ <| aI @Iu <| aI @B6 <| aI @ux <| aI @decide_true <| aI @decide_false <| aI @Bool.not_true <| aI @Bool.not_false <| aI (@cond_true.{1}) <| aI (@cond_false.{1}) <| aI @Int.cast_ofNat_Int <| aI @I7 <| aI @NH <| aI @rN <| aI @b8 <| aI @cG <| aI @fy <| aI @bz <| (@cC)
def YQ := aI @bS <| aI @Am <| aI @Gn <| aI @Gu <| aI @FV <| aI @FU <| aI @BL <| aI @Ih <| aI @HK <| aI @EY <| aI @tB <| aI @zp <| aI @rF <| aI @Hi <| aI @Du <| aI @KP <| aI @He <| aI @yC <| aI @Hg <| aI @uM <| aI @AU <| aI @yD <| aI @Hh <| aI @vN <| aI @Dr <| aI @uN <| aI @AV <| aI @Hj <| aI @uB <| aI @wY <| aI @uC <| aI @G4 <| aI @Hm <| aI @AJ <| aI @Ax <| aI @mc <| aI @oa <| aI @It <| aI @Gq <| aI @RD <| aI @PD <| aI @RF <| aI @Qv <| aI @NN <| aI @Kz <| aI @G7 <| aI @Hv <| aI @DI <| aI @QE <| (@QF)
def YP := aI @KY <| aI @IE <| aI @IJ <| aI (@List.length_cons.{0}) <| aI (@List.length_nil.{0}) <| aI @Nat.zero_add <| aI @Nat.add_zero <| aI (@List.take_succ_cons.{0}) <| aI (@List.take_zero.{0}) <| aI (@List.take_nil.{0}) <| aI (@List.drop_succ_cons.{0}) <| aI (@List.drop_zero.{0}) <| aI (@List.drop_nil.{0}) <| aI (@List.getElem?_cons_zero.{0}) <| aI (@List.getElem?_cons_succ.{0}) <| aI (@List.getElem?_nil.{0}) <| aI (@Option.getD_some.{0}) <| aI (@List.set_cons_zero.{0}) <| aI (@List.set_cons_succ.{0}) <| aI @ee <| aI (@ne_eq.{1}) <| aI @Bool.or_true <| aI @Bool.or_false <| aI @Bool.true_or <| aI @Bool.false_or <| aI @Bool.and_true <| aI @Bool.true_and <| aI @Bool.and_false <| aI @Bool.false_and <| aI @S4 <| aI @S6 <| aI @S7 <| aI @S2 <| aI @S5 <| aI @NP <| aI @ym <| aI @yn <| (@A5)
def YO := aI @LP <| aI @FB <| aI @LW <| aI @FA <| aI @BW <| aI @Fq <| aI @Fu <| aI @LX <| aI @Pm <| aI @Pk <| aI @Fw <| aI @Ik <| aI @Fv <| aI @zh <| aI @Fs <| aI @Ii <| aI @Ft <| aI @Fy <| aI @LU <| aI @Fx <| aI @xz <| aI @BS <| aI @BT <| aI @BO <| aI @BN <| aI @BU <| aI @BQ <| aI @zg <| aI @zi <| aI @LS <| aI @BP <| aI @BR <| aI @LV <| aI @LR <| aI @LQ <| aI @BX <| aI @Io <| aI @Ij <| aI @BV <| aI @zk <| aI @xA <| aI @zj <| aI @CZ <| aI @EJ <| aI @BD <| aI @jT <| aI @Dg <| aI @Df <| aI @Fi <| (@N2)
def YN := aI @KN <| aI @Ip <| aI @FC <| aI @IQ <| aI @FY <| aI @Fp <| aI @zf <| aI @Mr <| aI @zI <| aI @Ms <| aI @zK <| aI @xe <| aI @G8 <| aI @EI <| aI @NU <| aI @xf <| aI @G9 <| aI @ID <| aI @NW <| aI @NV <| aI @KH <| aI @KG <| aI @KF <| aI @KE <| aI @Di <| aI @Dh <| aI @Nn <| aI @Np <| aI @SJ <| aI @SK <| aI @SL <| aI @SM <| aI @Ke <| aI @Ng <| aI @Nh <| aI @Ni <| aI @Nj <| aI @Nk <| aI @Nl <| aI @Fe <| aI @LD <| aI @HX <| aI @HU <| aI @y3 <| aI @HV <| aI @vt <| aI @Bz <| aI @y4 <| aI @HW <| (@xw)
def YM := aI @vu <| aI @Bx <| aI @HY <| aI @By <| aI @BA <| aI @Fc <| aI @Fb <| aI @Bw <| aI @MG <| aI @JC <| aI @Mn <| aI @IW <| aI @Nat.beq_refl <| aI @G1 <| aI @Jm <| aI @Cw <| aI @MA <| aI @Jl <| aI @F2 <| aI @AG <| aI @x3 <| aI @wO <| aI @CE <| aI @Jp <| aI @Gp <| aI @wb <| aI @BY <| aI @KO <| aI @Hf <| aI @Ds <| aI @Ta <| aI @S8 <| aI @S3 <| aI @Cf <| aI @Dl <| aI @Km <| aI @GU <| aI @CT <| aI @GS <| aI @NE <| aI @Kk <| aI @Ki <| aI @vG <| aI @Ao <| aI @vH <| aI @ED <| aI @Kj <| aI @Kl <| aI @CU <| (@Dn)
def YL := aI @AS <| aI @yA <| aI @Hc <| aI @Dp <| aI @AT <| aI @Hd <| aI @Dm <| aI @sG <| aI @Dq <| aI @yB <| aI @rC <| aI @pN <| aI @LH <| aI @y8 <| aI @H8 <| aI @Fl <| aI @LI <| aI @H7 <| aI @vv <| aI @H9 <| aI @IS <| aI @IR <| aI @Dw <| aI @Ps <| aI @Pr <| aI @EE <| aI @Qq <| aI @K9 <| aI @Hz <| aI @Oh <| aI @K8 <| aI @La <| aI @DO <| aI @GX <| aI @CW <| aI @Bool.and_self <| aI (@List.getElem?_map.{0,0}) <| aI (@List.length_map.{0,0}) <| aI @uG <| aI @FE <| aI @B2 <| aI @B3 <| aI @FF <| aI @we <| aI @Iq <| (@List.isEmpty_nil.{0})
def ai := aI @ux <| aI @Iu <| aI @B6 <| aI @tC <| aI @mg <| aI @rY <| aI @zu <| (@zw)
def aO := aI YU <| aI YT <| aI YS <| aI YR <| aI YQ <| aI YP <| aI YO <| aI YN <| aI YM <| (YL)
end
section
def ey (n : Int) : Prop := (97 <= n /\ n <= 122 \/ 65 <= n /\ n <= 90) \/ n = 95
def gL (n : Int) : Prop := 48 <= n /\ n <= 57
def DS (n : Int) : Prop := ((n = 32 \/ n = 9) \/ n = 10) \/ n = 13
instance (n : Int) : Decidable (ey n) := by unfold ey; infer_instance
instance (n : Int) : Decidable (gL n) := by unfold gL; infer_instance
instance (n : Int) : Decidable (DS n) := by unfold DS; infer_instance
abbrev gh := List UInt8
abbrev cI (c : UInt8) : Int := (c.toNat : Int)
def np : List gh := [[102, 110], [118, 97, 114], [105, 102], [101, 108, 115, 101], [119, 104, 105, 108, 101], [102, 111, 114], [98, 114, 101, 97, 107], [99, 111, 110, 116, 105, 110, 117, 101], [114, 101, 116, 117, 114, 110], [112, 114, 105, 110, 116], [108, 101, 110], [110, 101, 119], [116, 114, 117, 101], [102, 97, 108, 115, 101], [110, 105, 108], [105, 110, 116], [98, 111, 111, 108], [97, 114, 114]]
def Ua : List gh := [[124, 124], [38, 38], [61, 61], [33, 61], [60, 61], [62, 61], [43, 37], [45, 37], [42, 37]]
def Uk : gh := [60, 62, 43, 45, 42, 47, 37, 33, 61, 40, 41, 123, 125, 91, 93, 44, 59]
def wg : Bool -> gh -> Nat
 | _, [] => 0
 | r, c :: s => let r1 := if cI c = 10 then false else if cI c = 35 then true else r
  if r1 = false /\ ¬ DS (cI c) then 0 else 1 + wg r1 s
def RB : Nat -> gh -> Option Nat
 | n, [] => some n
 | n, c :: s => if 922337203685477580 < n \/ n = 922337203685477580 /\ 7 < c.toNat - 48 then none else RB (10 * n + (c.toNat - 48)) s
def Oy (s : gh) : Nat := if 2 <= s.length /\ s.take 2 ∈ Ua then 2 else if ∃ c ∈ Uk, s[0]? = some c then 1 else 0
def lead (p : Int -> Prop) [DecidablePred p] : gh -> Nat
 | [] => 0
 | c :: s => if p (cI c) then 1 + lead p s else 0
def oM (s : gh) : Prop := (∀ (i : Nat) (c : UInt8), s[i]? = some c -> ey (cI c) \/ i ≠ 0 /\ gL (cI c)) /\ 0 < s.length /\ s.length <= 32 /\ s ∉ np
def Rl : gh -> Nat
 | [] => 0
 | c :: s => if ey (cI c) then 1 + lead (fun n => ey n \/ gL n) s else 0
structure Tok where
 kind : Nat
 text : gh
 n : Nat
 pos : Nat
deriving DecidableEq
inductive DJ (α : Type) where
 | ok (a : α)
 | bad (e p : Nat)
def DJ.map {α β : Type} (f : α -> β) : DJ α -> DJ β
 | .ok a => .ok (f a)
 | .bad e p => .bad e p
def DJ.bind {α β : Type} (x : DJ α) (f : α -> DJ β) : DJ β := match x with
 | .ok a => f a
 | .bad e p => .bad e p
def Vn (k : gh) (p : Nat) : DJ Tok := match RB 0 k with
 | some n => .ok ⟨2, k, n, p⟩
 | none => .bad 7 p
def Ul (s : gh) (p : Nat) : DJ Tok :=
 if ∃ c ∈ s[0]?, gL (cI c) then
  Vn (s.take (lead gL s)) p
 else
  let k := Rl s
  if 0 < k /\ s.take k ∈ np then .ok ⟨3, s.take k, 0, p⟩
  else if 32 < k then .bad 3 p
  else if 0 < k then .ok ⟨1, s.take k, 0, p⟩
  else if Oy s = 0 then .bad 6 p
  else .ok ⟨4, s.take (Oy s), 0, p⟩
def HZ : Nat -> gh -> Nat -> DJ (List Tok)
 | 0, _, p => .bad 0 p
 | _ + 1, [], _ => .ok []
 | k + 1, s, p => match Ul s p with
  | .bad e q => .bad e q
  | .ok t =>
   let r := s.drop t.text.length
   let j := wg false r
   (HZ k (r.drop j) (p + t.text.length + j)).map (t :: ·)
def Zh (s : gh) : DJ (List Tok) :=
 if 65536 < s.length then .bad 3 0
 else (HZ (s.length + 1) (s.drop (wg false s)) (wg false s)).map (· ++ [⟨0, [], 0, s.length⟩])
end
section
theorem bL {i : Nat} (h : i < 9223372036854775807) : IntKind.i64.wrap ((i : Int) + 1) = ((i + 1 : Nat) : Int) := by rw [wrap_i64 (by omega) (by omega)]; omega
def Tok.cells (t : Tok) : List EV := [.int .i64 (t.kind : Int), .str t.text, .int .i64 (t.n : Int), .int .i64 (t.pos : Int)]
def Uc (l : List Tok) : List (List EV) := l.map Tok.cells
def Zg : DJ (List Tok) -> EV
 | .ok l => .tuple [.fz 0 4 (Uc l), .agg [.int .i64 0, .int .i64 0]]
 | .bad e p => .tuple [.aa, .agg [.int .i64 (e : Int), .int .i64 (p : Int)]]
theorem DJ.map_map {α β γ : Type} (f : α -> β) (g : β -> γ) (x : DJ α) : (x.map f).map g = x.map (fun a => g (f a)) := by cases x <;> rfl
def Tok.move (d : Nat) (t : Tok) : Tok := { t with pos := t.pos + d }
def XK (p : Nat) (s : gh) : DJ (List Tok) := HZ (s.length + 1) (s.drop (wg false s)) (p + wg false s)
end
section
theorem Gr {n : Int} : aM B K xN [.int .u8 n] = some (bo (ey n)) := by
 rw [bR (by simp [eC])]
 simp +contextual -implicitDefEqProofs (maxSteps := 1000000) (maxDischargeDepth := 8) only [eC, ey, aO, ag, implies_true, simprocAttr]
theorem KI {n : Int} : aM B K zS [.int .u8 n] = some (bo (gL n)) := by
 rw [bR (by simp [fp])]
 simp +contextual -implicitDefEqProofs (maxSteps := 1000000) (maxDischargeDepth := 8) only [fp, gL, aO, ag, implies_true, simprocAttr]
def strs (l : List gh) : List (List EV) := l.map fun s => [.str s]
theorem HL : aM B K zR [] = some (.fz 0 1 (strs np)) := jO 10 fun call => by kernel_rfl
theorem Ig {l : List gh} {i : Nat} : (strs l)[i]? = (l[i]?).map fun s => [.str s] := by unfold strs; rw [List.getElem?_map]
theorem zb {l : List gh} : (strs l).length = l.length := by unfold strs; rw [List.length_map]
theorem E0 {ws : List gh} {s : gh} (hw : ws.length < 1000) {m0 : Mem} {fr : Fr} (h0 : fr.get 0 = .str s) (h3 : fr.get 3 = .fz 0 1 (strs ws)) (h4 : fr.get 4 = .int .i64 0) (hd : fr.defers = []) :
  ∃ o, exec U (.loop eQ) fr m0 = some o /\ ((s ∈ ws /\ ∃ fr', o = .ret fr' m0 /\ fr'.get 2 = .bool true /\ fr'.defers = []) \/ (s ∉ ws /\ ∃ fr', o = .exit 0 fr' m0 /\ fr'.defers = [])) := by
 refine dF (σ := Nat) (fun i fr m => m = m0 /\ i <= ws.length /\ s ∉ ws.take i /\ fr.get 0 = .str s /\ fr.get 3 = .fz 0 1 (strs ws) /\ fr.get 4 = .int .i64 (i : Int) /\ fr.defers = []) (fun i => ws.length - i) _ ?_ 0 fr m0 ⟨rfl, pF _, by simp, h0, h3, h4, hd⟩
 rintro i fr m ⟨rfl, hi, hn, h0, h3, h4, hd⟩
 generalize hX : exec U eQ fr m = X
 by_cases aP : i < ws.length
 ·have hc : (i : Int) < (ws.length : Int) := by omega
  have hg : ws[i]? = some ws[i] := ij aP
  have ji := bL (i := i) (by omega)
  simp +contextual -implicitDefEqProofs (maxSteps := 1000000) (maxDischargeDepth := 8) only [eQ, h0, h3, h4, hd, hc, hg, aP, ji, aA, Ig, zb, aO, ag, implies_true, simprocAttr] at hX
  subst hX;refine l6 (fun he => e6 (.inl ⟨he ▸ oU aP, _, rfl, ?_, ?_⟩)) (fun he => cB (i + 1) (by omega) ⟨rfl, aP, ?_, ?_, ?_, ?_, ?_⟩)
  case refine_3 =>
   rw [List.take_succ_eq_append_getElem aP, nY]
   rintro (q | q)
   ·exact hn q
   ·exact he (xu.1 q).symm
  all_goals simp only [h0, h3, hd, ai, Nat.reduceBEq ]
 ·have hc : ¬ ((i : Int) < (ws.length : Int)) := by omega
  simp +contextual -implicitDefEqProofs (maxSteps := 1000000) (maxDischargeDepth := 8) only [eQ, h0, h3, h4, hd, hc, zb, aO, ag, implies_true, simprocAttr] at hX
  subst hX;have : ws.take i = ws := qI (by omega)
  rw [this] at hn;exact cN (.inr ⟨hn, _, rfl, by simp only [hd, ai, Nat.reduceBEq ]⟩)
theorem Lx {s : gh} : aM B K Cs [.str s] = some (bo (s ∈ np)) := by
 rw [bR (by simp [gn])]
 generalize hL : exec (UT B K) (au.loop eQ) = L
 simp +contextual -implicitDefEqProofs (maxSteps := 1000000) (maxDischargeDepth := 8) only [gn, HL, aO, ag, implies_true, simprocAttr]
 subst hL;generalize hX : exec _ (.loop eQ) _ _ = X
 obtain ⟨o, rfl, h⟩ := cw hX (E0 (ws := np) (s := s) (by decide) (by simp only [ai, Nat.reduceBEq ]) (by simp only [ai, Nat.reduceBEq ]) (by simp only [ai, Nat.reduceBEq ]) (by simp only [ai, Nat.reduceBEq ]))
 rcases h with ⟨h, fr', rfl, h2, hd⟩ | ⟨h, fr', rfl, hd⟩
 ·simp +contextual -implicitDefEqProofs (maxSteps := 1000000) (maxDischargeDepth := 8) only [h, h2, hd, nc, aO, ag, implies_true, simprocAttr]
 ·simp +contextual -implicitDefEqProofs (maxSteps := 1000000) (maxDischargeDepth := 8) only [h, hd, lh, aO, ag, implies_true, simprocAttr]
theorem Gd {s : gh} (hs : s.length < 1000000000) {m0 : Mem} {fr : Fr} (h0 : fr.get 0 = .str s) (h3 : fr.get 3 = .int .i64 0) (hd : fr.defers = []) :
  ∃ o, exec U (.loop eR) fr m0 = some o /\ ((¬ (∀ (i : Nat) (c : UInt8), s[i]? = some c -> ey (cI c) \/ i ≠ 0 /\ gL (cI c)) /\ ∃ fr', o = .ret fr' m0 /\ fr'.get 2 = .bool false /\ fr'.defers = []) \/
   ((∀ (i : Nat) (c : UInt8), s[i]? = some c -> ey (cI c) \/ i ≠ 0 /\ gL (cI c)) /\ ∃ fr', o = .exit 0 fr' m0 /\ fr'.get 0 = .str s /\ fr'.defers = [])) := by
 refine dF (σ := Nat) (fun i fr m => m = m0 /\ i <= s.length /\ fr.get 0 = .str s /\ fr.get 3 = .int .i64 (i : Int) /\ (∀ (j : Nat) (c : UInt8), j < i -> s[j]? = some c -> ey (cI c) \/ j ≠ 0 /\ gL (cI c)) /\ fr.defers = []) (fun i => s.length - i) _ ?_ 0 fr m0 ⟨rfl, pF _, h0, h3, by omega, hd⟩
 rintro i fr m ⟨rfl, hi, h0, h3, hall, hd⟩
 generalize hX : exec U eR fr m = X
 by_cases aP : i < s.length
 ·have hc : (i : Int) < (s.length : Int) := by omega
  have hg : s[i]? = some s[i] := ij aP
  have ji := bL (i := i) (by omega)
  have V4 : ((i : Int) = 0) = (i = 0) := by simp
  generalize s[i] = c at hg
  simp +contextual -implicitDefEqProofs (maxSteps := 1000000) (maxDischargeDepth := 8) only [eR, h0, h3, hd, hc, hg, aP, ji, V4, aA, Gr, KI, aO, ag, implies_true, simprocAttr] at hX
  subst hX;refine l6 (fun hp => e6 (Or.inl ⟨fun q => ?_, _, rfl, by simp only [ai, Nat.reduceBEq ], by simp only [hd, ai, Nat.reduceBEq ]⟩)) (fun hp => cB (i + 1) (by omega) ⟨rfl, aP, by simp only [h0, ai, Nat.reduceBEq ], by simp only [ai, Nat.reduceBEq ], fun j d hj Lr => ?_, by simp only [hd, ai, Nat.reduceBEq ]⟩)
  ·rcases q i c hg with q | ⟨q1, q2⟩
   ·exact hp.1 q
   ·exact hp.2.elim q1 (fun r => r q2)
  ·by_cases yR : j < i
   ·exact hall j d yR Lr
   ·obtain rfl : j = i := by omega
    rw [hg] at Lr; cases Lr
    by_cases q : ey (cI c)
    ·exact .inl q
    ·exact .inr ⟨fun r => hp ⟨q, .inl r⟩, sj fun r => hp ⟨q, .inr r⟩⟩
 ·have hc : ¬ ((i : Int) < (s.length : Int)) := by omega
  simp +contextual -implicitDefEqProofs (maxSteps := 1000000) (maxDischargeDepth := 8) only [eR, h0, h3, hd, hc, aO, ag, implies_true, simprocAttr] at hX
  subst hX;exact cN (Or.inr ⟨fun j c hj => hall j c (by have := (kO.1 hj).1; omega) hj, _, rfl, by simp only [h0, ai, Nat.reduceBEq ], by simp only [hd, ai, Nat.reduceBEq ]⟩)
theorem Mv {s : gh} (hs : s.length < 1000000000) : aM B K Ct [.str s] = some (bo (oM s)) := by
 rw [bR (by simp [gq])]
 generalize hL : exec (UT B K) (au.loop eR) = L
 simp +contextual -implicitDefEqProofs (maxSteps := 1000000) (maxDischargeDepth := 8) only [gq, aO, ag, implies_true, simprocAttr]
 subst hL;generalize hX : exec _ (.loop eR) _ _ = X
 obtain ⟨o, rfl, h⟩ := cw hX (Gd (s := s) hs (by simp only [ai, Nat.reduceBEq ]) (by simp only [ai, Nat.reduceBEq ]) (by simp only [ai, Nat.reduceBEq ]))
 rcases h with ⟨h, fr', rfl, h2, hd⟩ | ⟨h, fr', rfl, h0, hd⟩
 ·have : ¬ oM s := fun q => h q.1
  simp +contextual -implicitDefEqProofs (maxSteps := 1000000) (maxDischargeDepth := 8) only [this, h2, hd, lh, aO, ag, implies_true, simprocAttr]
 ·simp +contextual -implicitDefEqProofs (maxSteps := 1000000) (maxDischargeDepth := 8) only [h0, hd, Lx, aO, ag, implies_true, simprocAttr]
  refine congrArg some (kC ?_)
  unfold oM
  constructor
  ·rintro ⟨⟨q1, q2⟩, q3⟩; exact ⟨h, by omega, by omega, q3⟩
  ·rintro ⟨_, q1, q2, q3⟩; exact ⟨⟨by omega, by omega⟩, q3⟩
end
section
structure Nd where
 kind : Int
 kids : List Int
 nl : Bool
 n : Int
 s : gh
 pos : Int
def lG (k : Int) : Prop := 1 <= k /\ k <= 11
def pP (k : Int) : Prop := 12 <= k /\ k <= 22
def kindOf (l : List Nd) (x : Int) : Int := ((l[x.toNat]?).map Nd.kind).getD 0
def lN : List Int := [4, 11, 12, 13, 14, 17, 24, 25]
def lL (d : Nd) : Prop :=
 ¬ (((d.kind < 1 \/ 26 < d.kind) \/ d.pos < 0) \/ ¬ (d.kind ∈ lN ↔ d.s ≠ [])) /\ ¬ (d.s ≠ [] /\ ¬ oM d.s) /\
 (if d.kind = 1 then 0 <= d.n else if d.kind = 2 then d.n = 0 \/ d.n = 1 else if d.kind = 5 then 1 <= d.n /\ d.n <= 16 else if d.kind = 24 \/ d.kind = 25 then 1 <= d.n /\ d.n <= 3 else d.n = 0)
def ja (l : List Nd) (k : List Int) (n : Nat) : Prop := n <= k.length /\ ∀ x ∈ k.take n, lG (kindOf l x)
def oG (l : List Nd) (k : List Int) (kind : Int) (qY : Nat) : Prop := (∀ x ∈ k, kindOf l x = kind) /\ k.length <= qY
def bY (l : List Nd) (d : Nd) : Prop :=
 if d.kind = 5 \/ d.kind = 8 \/ d.kind = 14 then d.kids.length = 2 /\ ja l d.kids 2
 else if d.kind = 6 \/ d.kind = 7 \/ d.kind = 9 \/ d.kind = 10 \/ d.kind = 12 \/ d.kind = 13 \/ d.kind = 20 \/ d.kind = 21 then d.kids.length = 1 /\ ja l d.kids 1
 else if d.kind = 11 then d.kids.length <= 8 /\ ja l d.kids d.kids.length
 else if d.kind = 15 then (ja l d.kids 1 /\ 2 <= d.kids.length) /\ oG l (d.kids.drop 1) 23 2
 else if d.kind = 16 then (ja l d.kids 1 /\ d.kids.length = 2) /\ oG l (d.kids.drop 1) 23 1
 else if d.kind = 17 then (ja l d.kids 2 /\ d.kids.length = 3) /\ oG l (d.kids.drop 2) 23 1
 else if d.kind = 22 then d.kids.length = 1 /\ ∀ x ∈ d.kids, kindOf l x = 11
 else if d.kind = 23 then ∀ x ∈ d.kids, pP (kindOf l x)
 else if d.kind = 25 then (1 <= d.kids.length /\ oG l (d.kids.take (d.kids.length - 1)) 24 8) /\ ∀ x ∈ d.kids.getLast?, kindOf l x = 23
 else if d.kind = 26 then oG l d.kids 25 200
 else d.kids.length = 0
def jV (l : List Nd) : Nat -> Nat -> Nat
 | 0, _ => 1
 | f + 1, i => match l[i]? with
  | none => 1
  | some d => d.kids.foldl (fun h x => max h (1 + jV l f x.toNat)) 1
def bm (l : List Nd) (i : Nat) : Nat := jV l (i + 1) i
def bl (l : List Nd) : Prop := ∀ (i : Nat) (d : Nd), l[i]? = some d -> ∀ x ∈ d.kids, 0 <= x /\ x < (i : Int)
def aW (l : List Nd) : List Int := (l.map Nd.kids).flatten
def ef (l : List Nd) : Prop :=
 (bl l /\ (aW l).Nodup /\ ∀ d ∈ l, lL d /\ bY l d) /\ 0 < l.length /\ (aW l).length = l.length - 1 /\ bm l (l.length - 1) <= 200
end
section
def ints (l : List Int) : List (List EV) := l.map fun n => [.int .i64 n]
theorem cZ {l : List Int} {i : Nat} : (ints l)[i]? = (l[i]?).map fun n => [.int .i64 n] := by unfold ints; rw [List.getElem?_map]
theorem ao {l : List Int} : (ints l).length = l.length := by unfold ints; rw [List.length_map]
theorem uf (l : List Int) : ∀ el ∈ ints l, el.length = 1 := by intro el h; obtain ⟨t, _, rfl⟩ := List.mem_map.1 h; rfl
theorem o9 (l : List Int) : ∀ el ∈ ints l, fW el = true := by intro el h; obtain ⟨t, _, rfl⟩ := List.mem_map.1 h; rfl
theorem ra (l : List Int) : (ints l).flatten = l.map (.int .i64) := by
 induction l with
 | nil => rfl
 | cons a l ih => rw [List.map_cons, <- ih]; rfl
theorem l7 (l : List Int) (n : Nat) : (ints l).drop n = ints (l.drop n) := by unfold ints; rw [List.map_drop]
theorem q9 (l : List Int) (n : Nat) : (ints l).take n = ints (l.take n) := by unfold ints; rw [List.map_take]
def Nd.cells (d : Nd) : List EV := [.int .i64 d.kind, row d.nl 0 1 (ints d.kids), .int .i64 d.n, .str d.s, .int .i64 d.pos]
def dX (l : List Nd) : List (List EV) := l.map Nd.cells
theorem bt {l : List Nd} {i : Nat} : (dX l)[i]? = (l[i]?).map Nd.cells := by unfold dX; rw [List.getElem?_map]
theorem aK {l : List Nd} : (dX l).length = l.length := by unfold dX; rw [List.length_map]
theorem mL {n : Nat} {k : IntKind} {x : Int} (h0 : 0 <= x) (h : x < (n : Int)) : idx n (.int k x) = some x.toNat := by
 obtain ⟨i, rfl⟩ := Int.eq_ofNat_of_zero_le h0
 exact aA (by omega)
theorem mG {l : List Nd} {x : Int} (h0 : 0 <= x) (h : x < (l.length : Int)) : ∃ d, l[x.toNat]? = some d /\ kindOf l x = d.kind := by
 have aP : x.toNat < l.length := by omega
 refine ⟨l[x.toNat], ij aP, ?_⟩
 unfold kindOf; rw [ij aP]; rfl
theorem Ak {l : List Int} {t : Nat} {nl : Bool} {x : Int} (hl : l.length < 1000000000) {m0 : Mem} {fr : Fr} (h0 : fr.get 0 = row nl t 1 (ints l)) (h1 : fr.get 1 = .int .i64 x) (h5 : fr.get 5 = .int .i64 0) (hd : fr.defers = []) :
  ∃ o, exec U (.loop de) fr m0 = some o /\ ((x ∈ l /\ ∃ fr', o = .ret fr' m0 /\ fr'.get 4 = .bool true /\ fr'.defers = []) \/ (x ∉ l /\ ∃ fr', o = .exit 0 fr' m0 /\ fr'.defers = [])) := by
 refine dF (σ := Nat) (fun i fr m => m = m0 /\ i <= l.length /\ x ∉ l.take i /\ fr.get 0 = row nl t 1 (ints l) /\ fr.get 1 = .int .i64 x /\ fr.get 5 = .int .i64 (i : Int) /\ fr.defers = []) (fun i => l.length - i) _ ?_ 0 fr m0 ⟨rfl, pF _, by simp, h0, h1, h5, hd⟩
 rintro i fr m ⟨rfl, hi, hn, h0, h1, h5, hd⟩
 generalize hX : exec U de fr m = X
 by_cases aP : i < l.length
 ·have hc : (i : Int) < (l.length : Int) := by omega
  have hg : l[i]? = some l[i] := ij aP
  have ji := bL (i := i) (by omega)
  simp +contextual -implicitDefEqProofs (maxSteps := 1000000) (maxDischargeDepth := 8) only [de, h0, h1, h5, hd, hc, hg, aP, ji, aA, cZ, ao, aO, ag, implies_true, simprocAttr] at hX
  subst hX;refine l6 (fun he => e6 (Or.inl ⟨he ▸ oU aP, _, rfl, by simp only [ai, Nat.reduceBEq ], by simp only [hd, ai, Nat.reduceBEq ]⟩)) (fun he => cB (i + 1) (by omega) ⟨rfl, aP, ?_, by simp only [h0, ai, Nat.reduceBEq ], by simp only [h1, ai, Nat.reduceBEq ], by simp only [ai, Nat.reduceBEq ], by simp only [hd, ai, Nat.reduceBEq ]⟩)
  rw [List.take_succ_eq_append_getElem aP, nY]
  rintro (q | q)
  ·exact hn q
  ·exact he (xu.1 q).symm
 ·have hc : ¬ ((i : Int) < (l.length : Int)) := by omega
  simp +contextual -implicitDefEqProofs (maxSteps := 1000000) (maxDischargeDepth := 8) only [de, h0, h1, h5, hd, hc, ao, aO, ag, implies_true, simprocAttr] at hX
  subst hX;have : l.take i = l := qI (by omega)
  rw [this] at hn;exact cN (Or.inr ⟨hn, _, rfl, by simp only [hd, ai, Nat.reduceBEq ]⟩)
theorem wT {l : List Int} {t : Nat} {nl : Bool} {x : Int} (hl : l.length < 1000000000) : aM B K oN [row nl t 1 (ints l), .int .i64 x] = some (bo (x ∈ l)) := by
 rw [bR (by simp [dL])]
 generalize hL : exec (UT B K) (au.loop de) = L
 simp +contextual -implicitDefEqProofs (maxSteps := 1000000) (maxDischargeDepth := 8) only [dL, aO, ag, implies_true, simprocAttr]
 subst hL;generalize hX : exec _ (.loop de) _ _ = X
 obtain ⟨o, rfl, h⟩ := cw hX (Ak (l := l) (x := x) (nl := nl) (t := t) hl (by simp only [ai, Nat.reduceBEq ]) (by simp only [ai, Nat.reduceBEq ]) (by simp only [ai, Nat.reduceBEq ]) (by simp only [ai, Nat.reduceBEq ]))
 rcases h with ⟨h, fr', rfl, h2, hd⟩ | ⟨h, fr', rfl, hd⟩
 ·simp +contextual -implicitDefEqProofs (maxSteps := 1000000) (maxDischargeDepth := 8) only [h, h2, hd, nc, aO, ag, implies_true, simprocAttr]
 ·simp +contextual -implicitDefEqProofs (maxSteps := 1000000) (maxDischargeDepth := 8) only [h, hd, lh, aO, ag, implies_true, simprocAttr]
theorem Pt {t e : Nat} {els : List (List EV)} : row false t e els = .fz t e els := rfl
theorem GO {l : List Int} {t : Nat} {x : Int} (hl : l.length < 1000000000) : aM B K oN [.fz t 1 (ints l), .int .i64 x] = some (bo (x ∈ l)) := by
 rw [<- Pt]; exact wT hl
theorem NI {k : Int} : aM B K Cr [.int .i64 k] = some (bo (lG k)) := by
 rw [bR (by simp [gl])]
 simp +contextual -implicitDefEqProofs (maxSteps := 1000000) (maxDischargeDepth := 8) only [gl, lG, aO, ag, implies_true, simprocAttr]
theorem LO {k : Int} : aM B K Cq [.int .i64 k] = some (bo (pP k)) := by
 rw [bR (by simp [gj])]
 simp +contextual -implicitDefEqProofs (maxSteps := 1000000) (maxDischargeDepth := 8) only [gj, pP, aO, ag, implies_true, simprocAttr]
theorem I8 {k : Int} : aM B K zO [.int .i64 k] = some (bo (k ∈ lN)) := by
 rw [bR (by simp [fm])]
 have hf : cU (cH 8 [.int .i64 0]) [(0, 1, .int .i64 4), (1, 1, .int .i64 11), (2, 1, .int .i64 12), (3, 1, .int .i64 13), (4, 1, .int .i64 14), (5, 1, .int .i64 17), (6, 1, .int .i64 24), (7, 1, .int .i64 25)] = some (ints lN).flatten := by kernel_rfl
 have hz : ∀ m : Mem, jY (ext m [.cells (ints lN).flatten 1 oI false]) (.slice (nb m.next 0) 0 8 (some 8)) = some (.fz 0 1 (ints lN)) := fun m =>
  pg (els := ints lN) (e := 1) (cap := some 8) (ty := oI) (ro := false) (by rw [bS rfl (by simp)]; rfl) (uf _) (o9 _) rfl
 simp +contextual -implicitDefEqProofs (maxSteps := 1000000) (maxDischargeDepth := 8) only [fm, di, jb, hf, hz, Nat.mul_one, GO (l := lN) (by decide), aO, ag, implies_true, simprocAttr]
theorem Px {d : Nd} (hs : d.s.length < 1000000000) : aM B K wB [.agg d.cells] = some (bo (lL d)) := by
 rw [bR (by simp [iB])]
 have hn := Mv hs
 simp +contextual -implicitDefEqProofs (maxSteps := 1000000) (maxDischargeDepth := 8) only [iB, Nd.cells, I8, hn, aO, ag, implies_true, simprocAttr]
 simp only [PP, PO];refine cW ?_
 unfold lL
 grind
end
section
def is (l : List Int) : List EV := l.map fun x => .int .i64 x
theorem CD {l : List Int} : (is l).length = l.length := List.length_map ..
structure Nv where
 d : Nd
 kv : EV
def xK (d : Nd) (kv : EV) : List EV := [.int .i64 d.kind, kv, .int .i64 d.n, .str d.s, .int .i64 d.pos]
def Nv.cells (x : Nv) : List EV := xK x.d x.kv
def iq (xs : List Nv) : List EV := (xs.map Nv.cells).flatten
theorem I0 {xs : List Nv} {x : Nv} : iq (xs ++ [x]) = iq xs ++ x.cells := by simp [iq]
theorem xG {xs ys : List Nv} : iq (xs ++ ys) = iq xs ++ iq ys := by simp [iq]
theorem pU : ∀ (xs : List Nv), (iq xs).length = xs.length * 5
 | [] => rfl
 | x :: xs => by
  have := pU xs
  unfold iq at *
  simp only [List.map_cons, List.flatten_cons, kE, this, List.length_cons, Nv.cells, xK, List.length_nil]; omega
structure j6 (m : Mem) (d : Nd) (kv : EV) : Prop where
 o : jJ m kv (is d.kids) d.kids.length 1 0
 nl : d.nl = d.kids.isEmpty
 z : d.kids = [] -> kv = .aa
theorem jJ.XQ {m : Mem} {v : EV} {cs : List EV} {n esz lo : Nat} (h : jJ m v cs n esz lo) : jJ m v cs n esz 0 := by
 refine ⟨?_, h.len⟩
 rcases h.is with h | ⟨b, cap, t, h0, h1, h2, h3, h4⟩
 ·exact .inl h
 ·exact .inr ⟨b, cap, t, h0, pF _, h2, h3, h4⟩
theorem jJ.nw {m : Mem} {v : EV} {cs : List EV} {n esz lo : Nat} (h : jJ m v cs n esz lo) {c : Nat} (hc : ¬ lT v c) : lo <= c /\ c < m.next := by
 rcases h.is with ⟨rfl, _⟩ | ⟨b, cap, t, rfl, h1, h2, _⟩
 ·exact absurd lT.nil hc
 ·by_cases q : c = b
  ·subst q; exact ⟨h1, h2⟩
  ·exact absurd (lT.of q) hc
theorem rX {F : List EV -> Option (List EV)} {m : Mem} : ∀ {a b a' b' : List EV}, e8 F m a = some a' -> e8 F m b = some b' -> e8 F m (a ++ b) = some (a' ++ b')
 | [], b, a', b', h, h' => by simp only [e8, aQ] at h; subst h; exact h'
 | v :: a, b, a', b', h, h' => by
  simp only [e8] at h
  cases hv : kA F m v with
  | none => simp only [hv] at h; cases h
  | some w =>
   cases ha : e8 F m a with
   | none => simp only [hv, ha] at h; cases h
   | some c =>
    simp only [hv, ha, aQ] at h;subst h;simp only [List.cons_append, e8, hv, rX ha h']
theorem En {l : List Int} : is l = (ints l).flatten := by
 unfold is ints
 induction l with
 | nil => rfl
 | cons x l ih => simp only [List.map_cons, List.flatten_cons, List.cons_append, List.nil_append, ih]
theorem ND {m : Mem} {d : Nd} {kv : EV} {n : Nat} (h : j6 m d kv) : kA (bj (n + 1) m) m kv = some (row d.nl 0 1 (ints d.kids)) := by
 rcases h.o.is with ⟨rfl, h1, _⟩ | ⟨kb, cap, t, rfl, _, h2, h3, h4⟩
 ·have : d.kids = [] := List.eq_nil_of_length_eq_zero h1
  rw [h.nl, this]; simp only [kA]; rfl
 ·have iv : d.kids ≠ [] := fun q => by have := h.z q; cases this
  have ZW : d.nl = false := by rw [h.nl]; cases hk : d.kids with | nil => exact absurd hk iv | cons => rfl
  have hc : qx cap d.kids.length = true := by rcases h4 with rfl | rfl <;> simp [qx]
  simp only [kA, h3, hc, cond_true, lJ (show 0 + d.kids.length * 1 <= (is d.kids).length by rw [CD]; omega), List.drop_zero]
  rw [Nat.mul_one, <- CD, List.take_length, ZW];have hp : fW (is d.kids) = true := by
   rw [En]; exact kW fun el uq => by
    obtain ⟨x, _, rfl⟩ := List.mem_map.1 uq; rfl
  rw [show bj (n + 1) m (is d.kids) = some (is d.kids) from ia hp, Option.map_some]
  congr 1
  simp only [row, Bool.false_and, cond_false]
  congr 1
  rw [CD, En, <- show (ints d.kids).length = d.kids.length from List.length_map ..];exact jI fun el uq => by obtain ⟨x, _, rfl⟩ := List.mem_map.1 uq; rfl
theorem wX {m : Mem} {n : Nat} : ∀ {xs : List Nv}, (∀ x ∈ xs, j6 m x.d x.kv) -> e8 (bj (n + 1) m) m (iq xs) = some (dX (xs.map Nv.d)).flatten
 | [], _ => rfl
 | x :: xs, h => by
  have h1 := ND (n := n) (h x (by simp))
  have h2 := wX (n := n) (xs := xs) fun y hy => h y (by simp [hy])
  refine rX ?_ h2
  simp only [Nv.cells, xK, e8, kA, h1]
  rfl
theorem Kh {m : Mem} {v : EV} {lo : Nat} {xs : List Nv} (hx : ∀ x ∈ xs, j6 m x.d x.kv) (h : jJ m v (iq xs) xs.length 5 lo) (h0 : xs ≠ []) : jY m v = some (.fz 0 5 (dX (xs.map Nv.d))) := by
 rcases h.is with ⟨rfl, h1, _⟩ | ⟨b', cap, t, rfl, _, h2, h3, h4⟩
 ·exact absurd (List.eq_nil_of_length_eq_zero h1) h0
 ·have hc : qx cap xs.length = true := by rcases h4 with rfl | rfl <;> simp [qx]
  simp only [jY, kA, h3, hc, cond_true, lJ (show 0 + xs.length * 5 <= (iq xs).length by rw [h.len]; omega), List.drop_zero]
  rw [<- h.len, List.take_length, show bj 7 m (iq xs) = e8 (bj 6 m) m (iq xs) from rfl, wX hx, Option.map_some]
  congr 2
  have e1 : xs.length = (dX (xs.map Nv.d)).length := by simp [dX]
  rw [e1];exact jI fun el uq => by obtain ⟨x, _, rfl⟩ := List.mem_map.1 uq; rfl
theorem PB {xs : List Nv} {j : Nat} {x : Nv} (h : xs[j]? = some x) : ∃ a b, iq xs = a ++ x.cells ++ b /\ a.length = j * 5 := by
 obtain ⟨hj, e⟩ := kO.1 h
 have e2 : xs = xs.take j ++ x :: xs.drop (j + 1) := by
  rw [<- e, List.getElem_cons_drop, List.take_append_drop]
 refine ⟨iq (xs.take j), iq (xs.drop (j + 1)), ?_, ?_⟩
 ·conv => lhs; rw [e2]
  rw [xG]
  show iq (xs.take j) ++ (x.cells ++ iq (xs.drop (j + 1))) = _
  rw [List.append_assoc]
 ·rw [pU, List.length_take]; congr 1; omega
theorem zH {xs : List Nv} {j : Nat} {x : Nv} (h : xs[j]? = some x) : (iq xs)[j * 5]? = some (.int .i64 x.d.kind) /\ (iq xs)[j * 5 + 1]? = some x.kv /\ (iq xs)[j * 5 + 2]? = some (.int .i64 x.d.n) /\ (iq xs)[j * 5 + 3]? = some (.str x.d.s) /\ (iq xs)[j * 5 + 4]? = some (.int .i64 x.d.pos) /\ partOf (some 5) (iq xs) (j * 5) = some (.agg x.cells) := by
 obtain ⟨a, b, e, hl⟩ := PB h
 rw [e, <- hl];have g : ∀ k, k < 5 -> (a ++ x.cells ++ b)[a.length + k]? = x.cells[k]? := fun k hk => by
  rw [List.append_assoc, qJ (by omega), rB (by show _ < 5; omega)]
  congr 1; omega
 refine ⟨g 0 (by omega), g 1 (by omega), g 2 (by omega), g 3 (by omega), g 4 (by omega), ?_⟩
 simp only [partOf];have hle : a.length + 5 <= (a ++ x.cells ++ b).length := by
  rw [kE, kE]; show _ <= _ + 5 + _; omega
 rw [lJ hle, cond_true, List.append_assoc, List.drop_left]
 rfl
structure Tp (m : Mem) (v : EV) (xs : List Nv) (lo : Nat) : Prop where
 o : jJ m v (iq xs) xs.length 5 lo
 k : ∀ x ∈ xs, j6 m x.d x.kv
 f : ∀ x ∈ xs, ∀ c, ¬ lT x.kv c -> lo <= c /\ lT v c
end
end Go.Proofs.YtblcomejcahkdaaDoor.Ev
