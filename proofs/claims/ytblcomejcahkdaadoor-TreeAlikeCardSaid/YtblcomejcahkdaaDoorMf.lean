/- EvRec, EvArgs, EvIn, EvFzIn, EvSlice, EvRow, EvUp, EvS, EvA, EvA0, EvU, EvLoop, PLex, PLx, WNm, PTree, WTree1, WAk1, WTree2, WTree3, PUp, WTree4, WIx0, WIxs, WTr1. -/
import Derived.WideShapes
import Derived.Deep.Slices
import GoSem.Dispatch
import Derived.Test.YtblcomejcahkdaaDoorMe
set_option linter.unusedSimpArgs false
set_option linter.unusedVariables false
set_option linter.unusedSectionVars false
section
namespace Go.Proofs.YtblcomejcahkdaaDoor.Ev
open Go

def PT (T : Nat → Option Ent) (K : Nat → Nat) (P : Nat → List EV → Option EV) (f : Nat) : Option Ent := match K f with
  | 0 => T f
  | 1 => some (.spec (pureG0 (P f)))
  | _ => some (.spec (pureG1 (P f)))
noncomputable def PF (T : Nat → Option Ent) (K : Nat → Nat) : Nat → Nat → List EV → Option EV
  | 0, _, _ => none
  | k + 1, f, asx => match T f with
    | some (.go F) => bodyP (PT T K (PF T K k)) F asx
    | _ => none
noncomputable def pureR (T : Nat → Option Ent) (K : Nat → Nat) (f : Nat) (asx : List EV) : Option EV := lim fun k => PF T K k f asx
noncomputable def UT (T : Nat → Option Ent) (K : Nat → Nat) : Nat → Option Ent := PT T K (pureR T K)

def PLe (P P' : Nat → List EV → Option EV) : Prop := ∀ f asx V, P f asx = some V → P' f asx = some V
theorem pureG0_le {g g' : List EV → Option EV} (h : ∀ asx V, g asx = some V → g' asx = some V) {args : List EV} {m : Mem} {r : Fin} (e : pureG0 g args m = some r) : pureG0 g' args m = some r := by
  unfold pureG0 at e ⊢
  cases hf : freezes deep m args with
  | none => simp [hf] at e
  | some asx =>
    simp only [hf] at e ⊢
    cases hv : g (tagArgs 1 asx) with
    | none => simp [hv] at e
    | some V => rw [h _ _ hv]; simp only [hv] at e ⊢; exact e
theorem pureG1_le {g g' : List EV → Option EV} (h : ∀ asx V, g asx = some V → g' asx = some V) {args : List EV} {m : Mem} {r : Fin} (e : pureG1 g args m = some r) : pureG1 g' args m = some r := by
  unfold pureG1 at e ⊢
  cases hc : closeds args <;> simp only [hc, cond_true, cond_false, reduceCtorEq] at e ⊢
  cases hf : freezes deep m args with
  | none => simp [hf] at e
  | some asx =>
    simp only [hf] at e ⊢
    cases hv : g (tagArgs 1 asx) with
    | none => simp [hv] at e
    | some V => rw [h _ _ hv]; simp only [hv] at e ⊢; exact e
theorem PT_le {T : Nat → Option Ent} {K : Nat → Nat} {P P' : Nat → List EV → Option EV} (h : PLe P P') : ∀ n, CallLe (evFun (PT T K P) n) (evFun (PT T K P') n)
  | 0 => fun f a m r e => by simp [evFun] at e
  | n + 1 => fun f a m r e => by
    simp only [evFun] at e ⊢
    rcases hK : K f with _ | _ | q <;> simp only [PT, hK] at e ⊢
    · cases hT : T f with
      | none => simp [hT] at e
      | some x =>
        simp only [hT] at e ⊢
        cases x with
        | go F => simp only [evEnt] at e ⊢; exact evBody_le (PT_le h n) (Nat.le_refl _) e
        | ext g => exact e
        | pure g => exact e
        | spec g => exact e
        | dgo F D => simp only [evEnt] at e ⊢; exact evBodyD_le (PT_le h n) (Nat.le_refl _) e
    · simp only [evEnt] at e ⊢; exact pureG0_le (h f) e
    · simp only [evEnt] at e ⊢; exact pureG1_le (h f) e
theorem bodyP_le {T1 T2 : Nat → Option Ent} (h : ∀ n, CallLe (evFun T1 n) (evFun T2 n)) {F : IFun} {asx : List EV} {V : EV} (e : bodyP T1 F asx = some V) : bodyP T2 F asx = some V := by
  obtain ⟨n, v, m, hb, hf⟩ := bodyP_inv e
  exact bodyP_of (evBody_le (h n) (Nat.le_refl _) hb) hf
theorem PF_step {T : Nat → Option Ent} {K : Nat → Nat} : ∀ k, PLe (PF T K k) (PF T K (k + 1))
  | 0 => fun f asx V e => by simp [PF] at e
  | k + 1 => fun f asx V e => by
    simp only [PF] at e ⊢
    cases hT : T f with
    | none => simp [hT] at e
    | some x =>
      cases x with
      | go F => simp only [hT] at e ⊢; exact bodyP_le (PT_le (PF_step k)) e
      | ext g => simp [hT] at e
      | pure g => simp [hT] at e
      | spec g => simp [hT] at e
      | dgo F D => simp [hT] at e
theorem PF_le {T : Nat → Option Ent} {K : Nat → Nat} {k k' : Nat} (h : k ≤ k') : PLe (PF T K k) (PF T K k') := by
  induction h with
  | refl => exact fun _ _ _ e => e
  | step _ ih => exact fun f asx V e => PF_step _ f asx V (ih f asx V e)
theorem mono_PF {T : Nat → Option Ent} {K : Nat → Nat} {f : Nat} {asx : List EV} : Mono fun k => PF T K k f asx := fun _ _ _ h e => PF_le h f asx _ e
theorem pureR_iff {T : Nat → Option Ent} {K : Nat → Nat} {f : Nat} {asx : List EV} {V : EV} : pureR T K f asx = some V ↔ ∃ k, PF T K k f asx = some V := lim_iff mono_PF

section
variable {c : Call} {ck : Nat → Call} (hm : ∀ k k', k ≤ k' → CallLe (ck k) (ck k')) (hc : ∀ f a m r, c f a m = some r → ∃ k, ck k f a m = some r)
include hm hc
theorem evCall_fin {fv : EV} {a : List EV} {m : Mem} {r : Fin} (e : evCall c fv a m = some r) : ∃ k, evCall (ck k) fv a m = some r := by
  cases fv <;> simp only [evCall, reduceCtorEq] at e ⊢
  exact hc _ _ _ _ e
theorem evOps_fin : ∀ (ops : List IOper) (fr : Fr) (m : Mem) (r : Out), evOps c ops fr m = some r → ∃ k, evOps (ck k) ops fr m = some r
  | [], fr, m, r, e => ⟨0, e⟩
  | o :: ops, fr, m, r, e => by
    simp only [evOps] at e ⊢
    cases hw : wantedE fr o.guard with
    | none => simp [hw] at e
    | some b =>
    cases b with
    | false => simp only [hw] at e ⊢; exact evOps_fin ops _ _ _ e
    | true =>
      simp only [hw] at e ⊢
      cases ho : o.op with
      | val op =>
        simp only [ho] at e ⊢
        cases hv : evOp fr.eval op m with
        | none => simp [hv] at e
        | some q => obtain ⟨v, m1⟩ := q; simp only [hv] at e ⊢; exact evOps_fin ops _ _ _ e
      | call f args =>
        simp only [ho] at e ⊢
        cases hv : evCall c (fr.eval f) (args.map fr.eval) m with
        | none => simp [hv] at e
        | some q =>
          obtain ⟨k1, h1⟩ := evCall_fin hm hc hv
          cases q with
          | ret v m1 =>
            simp only [hv] at e
            obtain ⟨k2, h2⟩ := evOps_fin ops _ _ _ e
            refine ⟨max k1 k2, ?_⟩
            rw [evCall_le (hm k1 _ (Nat.le_max_left _ _)) h1]
            exact evOps_le (hm k2 _ (Nat.le_max_right _ _)) _ _ _ _ h2
          | pan v m1 => simp only [hv] at e; exact ⟨k1, by rw [h1]; exact e⟩
      | panic x => simp only [ho] at e ⊢; exact ⟨0, e⟩
      | defer f args =>
        simp only [ho] at e ⊢
        split at e
        · rename_i hx
          obtain ⟨k, h⟩ := evOps_fin ops _ _ _ e
          exact ⟨k, h⟩
        · cases e
theorem evDraw_fin {chk : List (Nat × Nat)} {B0 : Nat} : ∀ (ops : List IOper) (i : Nat) (fr : Fr) (m : Mem) (sn : List (Nat × Mem)) (se : List Seen) (r : Out), evDraw c chk B0 ops i fr m sn se = some r → ∃ k, evDraw (ck k) chk B0 ops i fr m sn se = some r
  | [], i, fr, m, sn, se, r, e => ⟨0, e⟩
  | o :: ops, i, fr, m, sn, se, r, e => by
    simp only [evDraw] at e ⊢
    cases hw : wantedE fr o.guard with
    | none => simp [hw] at e
    | some b =>
    cases b with
    | false => simp only [hw] at e ⊢; exact evDraw_fin ops _ _ _ _ _ _ e
    | true =>
      simp only [hw] at e ⊢
      cases ho : o.op with
      | val op =>
        simp only [ho] at e ⊢
        split at e
        · cases hv : evOp fr.eval op m with
          | none => simp [hv] at e
          | some q => obtain ⟨v, m1⟩ := q; simp only [hv] at e ⊢; exact evDraw_fin ops _ _ _ _ _ _ e
        · cases hv : evOp fr.eval op ⟨B0 + i, m.tbl⟩ with
          | none => simp [hv] at e
          | some q => obtain ⟨v, m1⟩ := q; simp only [hv] at e ⊢; exact evDraw_fin ops _ _ _ _ _ _ e
        · split at e
          · rename_i agg x _
            cases hl : m.load agg (fr.eval x) with
            | none => simp [hl] at e
            | some v =>
              simp only [hl] at e ⊢
              cases hf : isF (fr.eval x) <;> simp only [hf, cond_true, cond_false] at e ⊢
              · cases hk : checkSnap chk i agg (fr.eval x) v sn <;> simp only [hk, cond_true, cond_false, reduceCtorEq] at e ⊢
                exact evDraw_fin ops _ _ _ _ _ _ e
              · cases hk : checkOld chk i m.next sn <;> simp only [hk, cond_true, cond_false, reduceCtorEq] at e ⊢
                exact evDraw_fin ops _ _ _ _ _ _ e
          · cases e
        · rename_i h0 h1 h2
          cases hv : evOp fr.eval op m with
          | none => simp [hv] at e
          | some q =>
            obtain ⟨v, m1⟩ := q
            simp only [hv] at e ⊢
            cases hk : checkSeen chk i m1 se <;> simp only [hk, cond_true, cond_false, reduceCtorEq] at e ⊢
            exact evDraw_fin ops _ _ _ _ _ _ e
      | call f args =>
        simp only [ho] at e ⊢
        cases hv : evCall c (fr.eval f) (args.map fr.eval) m with
        | none => simp [hv] at e
        | some q =>
          obtain ⟨k1, h1⟩ := evCall_fin hm hc hv
          cases q with
          | ret v m1 =>
            simp only [hv] at e
            cases hk : checkSeen chk i m1 se <;> simp only [hk, cond_true, cond_false, reduceCtorEq] at e
            obtain ⟨k2, h2⟩ := evDraw_fin ops _ _ _ _ _ _ e
            refine ⟨max k1 k2, ?_⟩
            rw [evCall_le (hm k1 _ (Nat.le_max_left _ _)) h1]
            simp only [hk, cond_true]
            exact evDraw_le (hm k2 _ (Nat.le_max_right _ _)) _ _ _ _ _ _ _ h2
          | pan v m1 => simp [hv] at e
      | panic x => simp [ho] at e
      | defer f args => simp [ho] at e
theorem iter_fin {n : Nat} {a : ICode} (ha : ∀ fr m r, evCode c n a fr m = some r → ∃ k, evCode (ck k) n a fr m = some r) : ∀ (j : Nat) (fr : Fr) (m : Mem) (r : Out), iter (evCode c n a) j fr m = some r → ∃ k, iter (evCode (ck k) n a) j fr m = some r
  | 0, fr, m, r, e => by simp [iter] at e
  | j + 1, fr, m, r, e => by
    simp only [iter] at e ⊢
    cases hb : evCode c n a fr m with
    | none => simp [hb] at e
    | some o =>
      obtain ⟨k1, h1⟩ := ha _ _ _ hb
      simp only [hb] at e
      cases o with
      | norm fr1 m1 =>
        obtain ⟨k2, h2⟩ := iter_fin ha j fr1 m1 r e
        refine ⟨max k1 k2, ?_⟩
        rw [evCode_le (hm k1 _ (Nat.le_max_left k1 k2)) (Nat.le_refl _) _ _ _ _ h1]
        exact iter_le (fun fr m r e => evCode_le (hm k2 _ (Nat.le_max_right k1 k2)) (Nat.le_refl _) _ _ _ _ e) j j (Nat.le_refl _) _ _ _ h2
      | exit id fr1 m1 => exact ⟨k1, by rw [h1]; exact e⟩
      | ret fr1 m1 => exact ⟨k1, by rw [h1]; exact e⟩
      | pan v fr1 m1 => exact ⟨k1, by rw [h1]; exact e⟩
theorem evCode_fin {n : Nat} : ∀ (x : ICode) (fr : Fr) (m : Mem) (r : Out), evCode c n x fr m = some r → ∃ k, evCode (ck k) n x fr m = some r
  | .skip, fr, m, r, e => ⟨0, e⟩
  | .ret, fr, m, r, e => ⟨0, e⟩
  | .exit id, fr, m, r, e => ⟨0, e⟩
  | .region ops, fr, m, r, e => by simp only [evCode] at e ⊢; exact evOps_fin hm hc _ _ _ _ e
  | .draw ops chk, fr, m, r, e => by simp only [evCode] at e ⊢; exact evDraw_fin hm hc _ _ _ _ _ _ _ e
  | .seq a b, fr, m, r, e => by
    simp only [evCode] at e ⊢
    cases ha : evCode c n a fr m with
    | none => simp [ha] at e
    | some o =>
      obtain ⟨k1, h1⟩ := evCode_fin a _ _ _ ha
      simp only [ha] at e
      cases o with
      | norm fr1 m1 =>
        obtain ⟨k2, h2⟩ := evCode_fin b _ _ _ e
        refine ⟨max k1 k2, ?_⟩
        rw [evCode_le (hm k1 _ (Nat.le_max_left k1 k2)) (Nat.le_refl _) _ _ _ _ h1]
        exact evCode_le (hm k2 _ (Nat.le_max_right k1 k2)) (Nat.le_refl _) _ _ _ _ h2
      | exit id fr1 m1 => exact ⟨k1, by rw [h1]; exact e⟩
      | ret fr1 m1 => exact ⟨k1, by rw [h1]; exact e⟩
      | pan v fr1 m1 => exact ⟨k1, by rw [h1]; exact e⟩
  | .cond x a b, fr, m, r, e => by
    simp only [evCode] at e ⊢
    split at e
    · rename_i t _
      cases t <;> simp only [cond_true, cond_false] at e ⊢
      · exact evCode_fin b _ _ _ e
      · exact evCode_fin a _ _ _ e
    · cases e
  | .block id a, fr, m, r, e => by
    simp only [evCode] at e ⊢
    cases ha : evCode c n a fr m with
    | none => simp [ha] at e
    | some o =>
      obtain ⟨k1, h1⟩ := evCode_fin a _ _ _ ha
      simp only [ha] at e
      exact ⟨k1, by rw [h1]; exact e⟩
  | .loop a, fr, m, r, e => by
    simp only [evCode] at e ⊢
    exact iter_fin hm hc (fun fr m r => evCode_fin a fr m r) n fr m r e
theorem evBody_fin {n : Nat} {F : IFun} {args : List EV} {m : Mem} {r : Fin} (e : evBody c n F args m = some r) : ∃ k, evBody (ck k) n F args m = some r := by
  unfold evBody at e ⊢
  cases hl : args.length.ble F.ntmps <;> simp only [hl, cond_true, cond_false, reduceCtorEq] at e ⊢
  cases hcd : evCode c n F.body ⟨args0 args 0 .leaf, []⟩ m with
  | none => simp [hcd] at e
  | some o =>
    obtain ⟨k, h⟩ := evCode_fin hm hc _ _ _ _ hcd
    simp only [hcd] at e
    exact ⟨k, by rw [h]; exact e⟩
theorem evBodyR_fin {n d : Nat} {F : IFun} {args : List EV} {u : Option EV} {m r : Mem} (e : evBodyR c n d F args u m = some r) : ∃ k, evBodyR (ck k) n d F args u m = some r := by
  unfold evBodyR at e ⊢
  cases hl : args.length.ble F.ntmps <;> simp only [hl, cond_true, cond_false, reduceCtorEq] at e ⊢
  cases hcd : evCode c n F.body (Fr.set ⟨args0 args 0 .leaf, []⟩ d (u.getD .niliface)) m with
  | none => simp [hcd] at e
  | some o =>
    obtain ⟨k, h⟩ := evCode_fin hm hc _ _ _ _ hcd
    simp only [hcd] at e
    exact ⟨k, by rw [h]; exact e⟩
theorem evLeave_fin {n : Nat} {rs : List IRes} {D : List (Nat × Option Nat × IFun)} {fr : Fr} : ∀ (ds : List (Nat × List EV)) (u : Option EV) (m : Mem) (r : Fin), evLeave c n rs D fr ds u m = some r → ∃ k, evLeave (ck k) n rs D fr ds u m = some r
  | [], none, m, r, e => ⟨0, e⟩
  | [], some v, m, r, e => ⟨0, e⟩
  | (g, args) :: ds, u, m, r, e => by
    simp only [evLeave] at e ⊢
    cases hd : dfind g D with
    | none => simp [hd] at e
    | some q =>
      obtain ⟨b, F⟩ := q
      cases b with
      | some d =>
        simp only [hd] at e ⊢
        cases hb : evBodyR c n d F args u m with
        | none => simp [hb] at e
        | some m1 =>
          simp only [hb] at e
          obtain ⟨k1, h1⟩ := evBodyR_fin hm hc hb
          obtain ⟨k2, h2⟩ := evLeave_fin ds none m1 r e
          refine ⟨max k1 k2, ?_⟩
          rw [evBodyR_le (hm _ _ (Nat.le_max_left k1 k2)) (Nat.le_refl _) h1]
          exact evLeave_le (hm _ _ (Nat.le_max_right k1 k2)) (Nat.le_refl _) _ _ _ _ h2
      | none =>
        simp only [hd] at e ⊢
        cases hb : evBody c n F args m with
        | none => simp [hb] at e
        | some fin =>
          simp only [hb] at e
          obtain ⟨k1, h1⟩ := evBody_fin hm hc hb
          have fin2 : ∀ {u2 : Option EV} {m2 : Mem}, (∃ k, evLeave (ck k) n rs D fr ds u2 m2 = some r) → ∃ k2, evBody (ck k2) n F args m = some fin ∧ evLeave (ck k2) n rs D fr ds u2 m2 = some r := fun ⟨k2, h2⟩ =>
            ⟨max k1 k2, evBody_le (hm _ _ (Nat.le_max_left k1 k2)) (Nat.le_refl _) h1, evLeave_le (hm _ _ (Nat.le_max_right k1 k2)) (Nat.le_refl _) _ _ _ _ h2⟩
          cases fin with
          | ret v m1 =>
            obtain ⟨k2, g1, g2⟩ := fin2 (evLeave_fin ds u m1 r e)
            exact ⟨k2, by simp only [g1]; exact g2⟩
          | pan v m1 =>
            cases u with
            | none =>
              obtain ⟨k2, g1, g2⟩ := fin2 (evLeave_fin ds (some v) m1 r e)
              exact ⟨k2, by simp only [g1]; exact g2⟩
            | some x => cases e
theorem evBodyD_fin {n : Nat} {F : IFun} {D : List (Nat × Option Nat × IFun)} {args : List EV} {m : Mem} {r : Fin} (e : evBodyD c n F D args m = some r) : ∃ k, evBodyD (ck k) n F D args m = some r := by
  unfold evBodyD at e ⊢
  cases hl : args.length.ble F.ntmps <;> simp only [hl, cond_true, cond_false, reduceCtorEq] at e ⊢
  cases hcd : evCode c n F.body ⟨args0 args 0 .leaf, []⟩ m with
  | none => simp [hcd] at e
  | some o =>
    obtain ⟨k1, h1⟩ := evCode_fin hm hc _ _ _ _ hcd
    simp only [hcd] at e
    have fin2 : ∀ {fr : Fr} {ds : List (Nat × List EV)} {u2 : Option EV} {m2 : Mem}, (∃ k, evLeave (ck k) n F.results D fr ds u2 m2 = some r) → ∃ k2, evCode (ck k2) n F.body ⟨args0 args 0 .leaf, []⟩ m = some o ∧ evLeave (ck k2) n F.results D fr ds u2 m2 = some r := fun ⟨k2, h2⟩ =>
      ⟨max k1 k2, evCode_le (hm _ _ (Nat.le_max_left k1 k2)) (Nat.le_refl _) _ _ _ _ h1, evLeave_le (hm _ _ (Nat.le_max_right k1 k2)) (Nat.le_refl _) _ _ _ _ h2⟩
    cases o with
    | exit id fr m1 => cases e
    | norm fr m1 =>
      obtain ⟨k2, g1, g2⟩ := fin2 (evLeave_fin hm hc _ _ _ _ e)
      exact ⟨k2, by simp only [g1]; exact g2⟩
    | ret fr m1 =>
      obtain ⟨k2, g1, g2⟩ := fin2 (evLeave_fin hm hc _ _ _ _ e)
      exact ⟨k2, by simp only [g1]; exact g2⟩
    | pan v fr m1 =>
      obtain ⟨k2, g1, g2⟩ := fin2 (evLeave_fin hm hc _ _ _ _ e)
      exact ⟨k2, by simp only [g1]; exact g2⟩
end
section
variable {T : Nat → Option Ent} {K : Nat → Nat}
theorem PF_all (k : Nat) : PLe (PF T K k) (pureR T K) := fun _ _ _ e => pureR_iff.2 ⟨k, e⟩
theorem UT_fin : ∀ (n f : Nat) (a : List EV) (m : Mem) (r : Fin), evFun (UT T K) n f a m = some r → ∃ k, evFun (PT T K (PF T K k)) n f a m = some r
  | 0, f, a, m, r, e => by simp [evFun] at e
  | n + 1, f, a, m, r, e => by
    have ih := UT_fin n
    simp only [evFun] at e ⊢
    rcases hK : K f with _ | _ | q <;> simp only [UT, PT, hK] at e ⊢
    · cases hT : T f with
      | none => simp [hT] at e
      | some x =>
        simp only [hT] at e ⊢
        cases x with
        | go F =>
          simp only [evEnt] at e ⊢
          exact evBody_fin (c := evFun (UT T K) n) (ck := fun k => evFun (PT T K (PF T K k)) n) (fun k k' h => PT_le (PF_le h) n) ih e
        | ext g => exact ⟨0, e⟩
        | pure g => exact ⟨0, e⟩
        | spec g => exact ⟨0, e⟩
        | dgo F D =>
          simp only [evEnt] at e ⊢
          exact evBodyD_fin (c := evFun (UT T K) n) (ck := fun k => evFun (PT T K (PF T K k)) n) (fun k k' h => PT_le (PF_le h) n) ih e
    · simp only [evEnt] at e ⊢
      unfold pureG0 at e ⊢
      cases hf : freezes deep m a with
      | none => simp [hf] at e
      | some asx =>
        simp only [hf] at e ⊢
        cases hv : pureR T K f (tagArgs 1 asx) with
        | none => simp [hv] at e
        | some V =>
          obtain ⟨k, hk⟩ := pureR_iff.1 hv
          simp only [hv] at e
          exact ⟨k, by simp only [hk]; exact e⟩
    · simp only [evEnt] at e ⊢
      unfold pureG1 at e ⊢
      cases hcl : closeds a <;> simp only [hcl, cond_true, cond_false, reduceCtorEq] at e ⊢
      cases hf : freezes deep m a with
      | none => simp [hf] at e
      | some asx =>
        simp only [hf] at e ⊢
        cases hv : pureR T K f (tagArgs 1 asx) with
        | none => simp [hv] at e
        | some V =>
          obtain ⟨k, hk⟩ := pureR_iff.1 hv
          simp only [hv] at e
          exact ⟨k, by simp only [hk]; exact e⟩
theorem pureR_eq {f : Nat} {F : IFun} (hT : T f = some (.go F)) {asx : List EV} : pureR T K f asx = bodyP (UT T K) F asx := by
  refine opt_ext fun V => ⟨fun h => ?_, fun h => ?_⟩
  · obtain ⟨k, hk⟩ := pureR_iff.1 h
    cases k with
    | zero => simp [PF] at hk
    | succ k =>
      simp only [PF, hT] at hk
      exact bodyP_le (PT_le (PF_all k)) hk
  · obtain ⟨n, v, m, hb, hf⟩ := bodyP_inv h
    obtain ⟨k, hk⟩ := evBody_fin (c := evFun (UT T K) n) (ck := fun k => evFun (PT T K (PF T K k)) n) (fun k k' h => PT_le (PF_le h) n) (UT_fin n) hb
    refine pureR_iff.2 ⟨k + 1, ?_⟩
    simp only [PF, hT]
    exact bodyP_of hk hf
theorem PT_ent {T0 : Nat → Option Ent} (hT : ∀ f e, T f = some e → EntS T0 f e) {P : Nat → List EV → Option EV} (hP : ∀ f, K f ≠ 0 → EntS T0 f (.spec (pureG0 (P f))) ∧ EntS T0 f (.spec (pureG1 (P f)))) : ∀ f e, PT T K P f = some e → EntS T0 f e := by
  intro f e h
  unfold PT at h
  split at h
  · exact hT f e h
  · rename_i hk; cases h; exact (hP f (by omega)).1
  · rename_i hk _; cases h; exact (hP f (by omega)).2
theorem none_ent {T0 : Nat → Option Ent} {f : Nat} {g : List EV → Option EV} (h : ∀ asx, g asx = none) : EntS T0 f (.spec (pureG0 g)) ∧ EntS T0 f (.spec (pureG1 g)) := by
  constructor
  · intro θ m m' args args' fin _ _ e
    unfold pureG0 at e
    split at e
    · rw [h] at e; cases e
    · cases e
  · intro θ m m' args args' fin _ _ e
    unfold pureG1 at e
    cases hcl : closeds args <;> simp only [hcl, cond_true, cond_false, reduceCtorEq] at e
    split at e
    · rw [h] at e; cases e
    · cases e
theorem PF_ent {T0 : Nat → Option Ent} (hT : ∀ f e, T f = some e → EntS T0 f e) : ∀ k f, EntS T0 f (.spec (pureG0 (PF T K k f))) ∧ EntS T0 f (.spec (pureG1 (PF T K k f)))
  | 0, f => none_ent fun asx => rfl
  | k + 1, f => by
    have ih := PT_ent (K := K) hT fun f _ => PF_ent hT k f
    cases he : T f with
    | none => exact none_ent fun asx => by simp only [PF, he]
    | some e =>
      cases e with
      | go F =>
        have hE := hT f _ he
        have hp : ∀ asx V, PF T K (k + 1) f asx = some V → bodyP (PT T K (PF T K k)) F asx = some V := fun asx V h => by simpa only [PF, he] using h
        obtain ⟨F0, h1, h2, rfl⟩ := hE
        exact ⟨pure0_ent ih h1 h2 hp, pure1_ent ih h1 h2 hp⟩
      | ext g => exact none_ent fun asx => by simp only [PF, he]
      | pure g => exact none_ent fun asx => by simp only [PF, he]
      | spec g => exact none_ent fun asx => by simp only [PF, he]
      | dgo F D => exact none_ent fun asx => by simp only [PF, he]
theorem pureR_ent {T0 : Nat → Option Ent} (hT : ∀ f e, T f = some e → EntS T0 f e) (f : Nat) : EntS T0 f (.spec (pureG0 (pureR T K f))) ∧ EntS T0 f (.spec (pureG1 (pureR T K f))) := by
  constructor
  · intro θ m m' args args' fin hg ha e
    unfold pureG0 at e
    split at e
    · rename_i asx hf
      cases hv : pureR T K f (tagArgs 1 asx) with
      | none => rw [hv] at e; cases e
      | some V =>
        obtain ⟨k, hk⟩ := pureR_iff.1 hv
        refine (PF_ent (K := K) hT k f).1 θ m m' args args' fin hg ha ?_
        unfold pureG0
        rw [hf]; simp only [hk]; rw [hv] at e; exact e
    · cases e
  · intro θ m m' args args' fin hg ha e
    unfold pureG1 at e
    cases hcl : closeds args <;> simp only [hcl, cond_true, cond_false, reduceCtorEq] at e
    split at e
    · rename_i asx hf
      cases hv : pureR T K f (tagArgs 1 asx) with
      | none => rw [hv] at e; cases e
      | some V =>
        obtain ⟨k, hk⟩ := pureR_iff.1 hv
        refine (PF_ent (K := K) hT k f).2 θ m m' args args' fin hg ha ?_
        unfold pureG1
        rw [hcl, hf]; simp only [hk, cond_true]; rw [hv] at e; exact e
    · cases e
theorem UT_ent {T0 : Nat → Option Ent} (hT : ∀ f e, T f = some e → EntS T0 f e) : ∀ f e, UT T K f = some e → EntS T0 f e := PT_ent hT fun f _ => pureR_ent hT f
end
open Classical in
noncomputable def lookT (T : Nat → Option Ent) (F : IFun) (args : List EV) (m : Mem) : Option Fin := if args.length ≤ F.ntmps then
  match resE F (exec T F.body ⟨args0 args 0 .leaf, []⟩ m) with
  | some (.ret v m1) => if Flat v = true ∧ m.next ≤ m1.next ∧ ∀ b, b < m.next → m1.get b = m.get b then some (.ret v ⟨m1.next, m.tbl⟩) else none
  | _ => none else none
end Go.Proofs.YtblcomejcahkdaaDoor.Ev
end
section
namespace Go.Proofs.YtblcomejcahkdaaDoor.Ev
open Go

structure InB where
  blk : Nat
  off : Nat
  total : Nat
  esz : Nat
  cs : List EV
def tabV (l : List Int) : List EV := l.map (.int .u64)
def gtot (b : Nat) : Nat := match tabl b with | some l => l.length | none => match glob b with | some _ => 1 | none => 0
def inRen (n0 : Nat) (bs : List InB) : Ren := fun b => if b < n0 then some ⟨b, 0, gtot b, 1, true⟩ else (bs[b - n0]?).map fun B => ⟨B.blk, B.off, B.total, B.esz, true⟩
def tblOf : List InB → Nat → Tr Blk → Tr Blk
  | [], _, t => t
  | B :: r, i, t => tblOf r (i + 1) (t.set i (.cells B.cs B.esz 0 true))
def ttab : List (Nat × List Int) → Tr Blk
  | [] => .leaf
  | (g, l) :: r => (ttab r).set g (.cells (tabV l) 1 0 true)
theorem ttab_get {b : Nat} : ∀ ts : List (Nat × List Int), (ttab ts).get b = (tabIn ts b).map fun l => .cells (tabV l) 1 0 true
  | [] => by simp only [ttab, tabIn, Tr.get_leaf, Option.map_none]
  | (g, l) :: r => by
    simp only [ttab, tabIn]
    rw [Tr.get_set]
    by_cases h : b = g
    · rw [if_pos h, if_pos h]; rfl
    · rw [if_neg h, if_neg h]; exact ttab_get r
def gtab (n0 : Nat) : List (Nat × List (List UInt8)) → Nat → Tr Blk
  | [], _ => ttab tabs
  | (g, l) :: r, j => (gtab n0 r (j + 1)).set g (.cells [.slice (n0 + j) 0 l.length none] 1 0 true)
def gfind : List (Nat × List (List UInt8)) → Nat → Nat → Option (Nat × List (List UInt8))
  | [], _, _ => none
  | (g, l) :: r, j, b => if b = g then some (j, l) else gfind r (j + 1) b
theorem gtab_get {n0 : Nat} : ∀ (gs : List (Nat × List (List UInt8))) (j b : Nat), (gtab n0 gs j).get b = (match gfind gs j b with | some p => some (.cells [.slice (n0 + p.1) 0 p.2.length none] 1 0 true) | none => (tabl b).map fun l => .cells (tabV l) 1 0 true)
  | [], _, b => by simp only [gtab, gfind, ttab_get, tabl]
  | (g, l) :: r, j, b => by
    simp only [gtab, gfind]
    rw [Tr.get_set]
    by_cases h : b = g
    · rw [if_pos h, if_pos h]
    · rw [if_neg h, if_neg h]; exact gtab_get r (j + 1) b
theorem gfind_glob {b : Nat} : ∀ (gs : List (Nat × List (List UInt8))) (j : Nat), (gfind gs j b).map (·.2) = globIn gs b
  | [], _ => rfl
  | (g, l) :: r, j => by
    simp only [gfind, globIn]
    by_cases h : b = g
    · rw [if_pos h, if_pos h]; rfl
    · rw [if_neg h, if_neg h]; exact gfind_glob r (j + 1)
theorem gfind_at {b p : Nat} {l : List (List UInt8)} : ∀ (gs : List (Nat × List (List UInt8))) (j : Nat), gfind gs j b = some (p, l) → j ≤ p ∧ gs[p - j]? = some (b, l)
  | [], _, h => by cases h
  | (g, x) :: r, j, h => by
    simp only [gfind] at h
    by_cases e : b = g
    · rw [if_pos e] at h; cases h; subst e; exact ⟨Nat.le_refl _, by rw [Nat.sub_self]; rfl⟩
    · rw [if_neg e] at h
      obtain ⟨h1, h2⟩ := gfind_at r (j + 1) h
      refine ⟨by omega, ?_⟩
      rw [show p - j = (p - (j + 1)) + 1 by omega]; exact h2
def inMem (n0 : Nat) (bs : List InB) : Mem := ⟨n0 + bs.length, tblOf bs n0 (gtab n0 globs 0)⟩
theorem tblOf_get : ∀ (bs : List InB) (i : Nat) (t : Tr Blk) (b : Nat), (tblOf bs i t).get b = if i ≤ b ∧ b < i + bs.length then (bs[b - i]?).map (fun B => .cells B.cs B.esz 0 true) else t.get b
  | [], i, t, b => by rw [if_neg (fun h => by have := h.2; simp at this; omega)]; rfl
  | B :: bs, i, t, b => by
    simp only [tblOf]
    rw [tblOf_get bs (i + 1) _ b, Tr.get_set]
    by_cases h : b = i
    · subst h
      rw [if_neg (by omega), if_pos rfl, if_pos (by simp)]
      simp
    · by_cases h2 : i + 1 ≤ b ∧ b < i + 1 + bs.length
      · rw [if_pos h2, if_pos (by simp; omega), show b - i = (b - (i + 1)) + 1 by omega]
        simp
      · rw [if_neg h2, if_neg h, if_neg (by simp; omega)]
theorem inMem_at {n0 : Nat} {bs : List InB} {i : Nat} {B : InB} (h : bs[i]? = some B) : (inMem n0 bs).get (n0 + i) = .cells B.cs B.esz 0 true := by
  have hlt := (List.getElem?_eq_some_iff.1 h).1
  unfold Mem.get inMem
  simp only
  rw [tblOf_get, if_pos (by omega), show n0 + i - n0 = i by omega, h]
  rfl
theorem inMem_low {n0 : Nat} {bs : List InB} {b : Nat} (h : b < n0) : (inMem n0 bs).get b = (match gfind globs 0 b with | some p => some (Blk.cells [.slice (n0 + p.1) 0 p.2.length none] 1 0 true) | none => (tabl b).map fun l => .cells (tabV l) 1 0 true).getD .dead := by
  unfold Mem.get inMem
  simp only
  rw [tblOf_get, if_neg (by omega), gtab_get]
theorem inMem_dead {n0 : Nat} {bs : List InB} {b : Nat} (hl : (∀ p ∈ globs, p.1 < n0) ∧ ∀ g l, tabl g = some l → g < n0) (h : n0 + bs.length ≤ b) : (inMem n0 bs).get b = .dead := by
  unfold Mem.get inMem
  simp only
  rw [tblOf_get, if_neg (by omega), gtab_get]
  cases hf : gfind globs 0 b with
  | none =>
    cases ht : tabl b with
    | none => rfl
    | some l => have := hl.2 _ _ ht; omega
  | some p =>
    obtain ⟨p, l⟩ := p
    have h2 := (gfind_at _ _ hf).2
    have := hl.1 _ (List.mem_of_getElem? h2)
    omega
theorem inRen_at {n0 : Nat} {bs : List InB} {i : Nat} {B : InB} (h : bs[i]? = some B) : inRen n0 bs (n0 + i) = some ⟨B.blk, B.off, B.total, B.esz, true⟩ := by
  unfold inRen
  rw [if_neg (by omega), show n0 + i - n0 = i by omega, h]
  rfl
theorem inRen_ro {n0 : Nat} {bs : List InB} : ∀ b L, inRen n0 bs b = some L → L.ro = true := by
  intro b L h
  unfold inRen at h
  split at h
  · cases h; rfl
  · obtain ⟨B, _, rfl⟩ := Option.map_eq_some_iff.1 h; rfl
def InOk (w : World) (n0 : Nat) (bs : List InB) : Prop := ∀ (i : Nat) (B : InB), bs[i]? = some B → ∃ (arr : Array Value) (e : TypeId) (fz : Nat × Nat), w.heap[B.blk]? = some (.cells arr e fz) ∧ arr.size = B.total ∧ B.off + B.cs.length ≤ B.total ∧
  ∀ (j : Nat) (v : EV), B.cs[j]? = some v → ∃ v', arr[B.off + j]? = some v' ∧ VR (inRen n0 bs) v v' ∧ v'.oneCell' = true
def TFact (w : World) (g : Nat) (l : List Int) : Prop := glob g = none ∧ ∃ (arr : Array Value) (e : TypeId) (fz : Nat × Nat), w.heap[g]? = some (.cells arr e fz) ∧ arr.toList = l.map (Value.int .u64)
def GlobIn (w : World) (n0 : Nat) (bs : List InB) : Prop := ((∀ p ∈ globs, p.1 < n0) ∧ ∀ g l, tabl g = some l → g < n0) ∧ (∀ g l, tabl g = some l → TFact w g l) ∧ ∀ (j g : Nat) (l : List (List UInt8)), globs[j]? = some (g, l) →
  (∃ (arr : Array Value) (e : TypeId) (fz : Nat × Nat) (v' : Value), w.heap[g]? = some (.cells arr e fz) ∧ arr.size = 1 ∧ arr[0]? = some v' ∧ VR (inRen n0 bs) (.slice (n0 + j) 0 l.length none) v' ∧ v'.oneCell' = true) ∧
  ∃ B, bs[j]? = some B ∧ B.cs = l.map .str ∧ B.esz = 1
theorem in_R {w : World} {n0 : Nat} {bs : List InB} (h : InOk w n0 bs) (hg : GlobIn w n0 bs) : R w.heap.size (inRen n0 bs) (inMem n0 bs) w := by
  have cases_ : ∀ b L, inRen n0 bs b = some L → (b < n0 ∧ L = ⟨b, 0, gtot b, 1, true⟩) ∨ ∃ i B, b = n0 + i ∧ bs[i]? = some B := by
    intro b L hb
    unfold inRen at hb
    split at hb
    · cases hb; exact .inl ⟨‹_›, rfl⟩
    · obtain ⟨B, hB, rfl⟩ := Option.map_eq_some_iff.1 hb
      exact .inr ⟨b - n0, B, by omega, hB⟩
  refine ⟨fun b L hb => ?_, fun b L hb => ?_, fun b c L L' h1 _ _ _ h5 => ?_, Nat.le_refl _, fun b hb => inMem_dead hg.1 hb⟩
  · rcases cases_ b L hb with ⟨hlt, _⟩ | ⟨i, B, rfl, hB⟩
    · show b < n0 + bs.length; omega
    · have := (List.getElem?_eq_some_iff.1 hB).1; show n0 + i < n0 + bs.length; omega
  · rcases cases_ b L hb with ⟨hlt, rfl⟩ | ⟨i, B, rfl, hB⟩
    · rw [inMem_low hlt]
      cases hf : gfind globs 0 b with
      | none =>
        cases ht : tabl b with
        | none => trivial
        | some l =>
          obtain ⟨hgn, arr, e, fz, h1, h2⟩ := hg.2.1 b l ht
          have hsz : arr.size = l.length := by rw [← Array.length_toList, h2, List.length_map]
          have htot : gtot b = l.length := by unfold gtot; rw [ht]
          refine ⟨arr, e, fz, h1, by rw [htot]; exact hsz, rfl, rfl, by rw [htot]; show 0 + (tabV l).length ≤ l.length; simp [tabV], fun i v hv => ?_, (fun e => by cases e), fun _ => (Array.getElem?_eq_some_iff.1 h1).1⟩
          unfold tabV at hv
          rw [List.getElem?_map] at hv
          obtain ⟨n, hn, rfl⟩ := Option.map_eq_some_iff.1 hv
          refine ⟨.int .u64 n, ?_, .int _ _, rfl⟩
          rw [← Array.getElem?_toList, h2, List.getElem?_map, show 0 + i = i by omega, hn]; rfl
      | some p =>
        obtain ⟨p, l⟩ := p
        have h2 := (gfind_at _ _ hf).2
        rw [Nat.sub_zero] at h2
        obtain ⟨⟨arr, e, fz, v', h1, h3, h4, h5, h6⟩, _⟩ := hg.2.2 p b l h2
        have ht : gtot b = 1 := by
          have := gfind_glob (b := b) globs 0
          rw [hf] at this
          have tn : tabl b = none := by
            cases e : tabl b with
            | none => rfl
            | some l' => have := (hg.2.1 b l' e).1; unfold glob at this; simp_all
          unfold gtot glob
          rw [tn, ← this]; rfl
        refine ⟨arr, e, fz, h1, by rw [ht]; exact h3, rfl, rfl, by show 0 + 1 ≤ gtot b; rw [ht]; exact Nat.le_refl _, fun i v hv => ?_, (fun e => by cases e), fun _ => (Array.getElem?_eq_some_iff.1 h1).1⟩
        cases i with
        | zero => simp only [List.getElem?_cons_zero, Option.some.injEq] at hv; subst hv; exact ⟨v', h4, h5, h6⟩
        | succ i => simp at hv
    · rw [inMem_at hB]
      rw [inRen_at hB] at hb
      cases hb
      obtain ⟨arr, e, fz, h1, h2, h3, h4⟩ := h i B hB
      exact ⟨arr, e, fz, h1, h2, rfl, rfl, h3, h4, (fun e => by cases e), fun _ => (Array.getElem?_eq_some_iff.1 h1).1⟩
  · rw [inRen_ro b L h1] at h5; cases h5
theorem in_G {n0 : Nat} {bs : List InB} {G : List Nat} (h : ∀ g, G.contains g = true → g < n0) : Globs G (inRen n0 bs) := fun g hg => ⟨⟨g, 0, gtot g, 1, true⟩, by unfold inRen; rw [if_pos (h g hg)], rfl, rfl, fun l hl => by unfold gtot; simp only [hl]⟩
theorem in_slice {n0 : Nat} {bs : List InB} {i : Nat} {B : InB} (h : bs[i]? = some B) {a : Addr} (hb : a.block = B.blk) (hs : a.spot = none) {len cap : Nat} (hl : len ≤ cap) (ho : 0 < len → a.off = B.off) : VR (inRen n0 bs) (.slice (n0 + i) 0 len none) (.slice (some a) len cap) := by
  obtain ⟨blk, off, spot⟩ := a
  cases hs; cases hb
  exact .slice (inRen_at h) hl (fun hh => by have := ho hh; simpa using this) (fun e => by cases e)
theorem law_walk {P : Program} {G : List Nat} (hmix : P.follows .mixedOrders = true) {T : Nat → Option Ent} (hT : ∀ f e, T f = some e → EntOk P G f e) {f : Nat} {F : IFun} (hf : T f = some (.go F)) {n0 : Nat} (hG : ∀ g, G.contains g = true → g < n0)
    {w : World} {bs : List InB} (hb : InOk w n0 bs) (hgl : GlobIn w n0 bs) {args : List EV} {args' : Array Value} (hv : VRs (inRen n0 bs) args args'.toList) {b : Bool} {m' : Mem} (h : run T f args (inMem n0 bs) = some (.ret (.bool b) m')) :
    Calls P f args' w fun e w' => e = .returned (.bool b) ∧ Go.RowKit.Below w.heap.size w w' := by
  obtain ⟨k, hk⟩ := run_iff.1 h
  exact law_calls hmix hT hf hk (in_R hb hgl) (in_G hG) (fun b L h _ => inRen_ro b L h) hv
end Go.Proofs.YtblcomejcahkdaaDoor.Ev
end
section
namespace Go.Proofs.YtblcomejcahkdaaDoor.Ev
open Go Go.Deep

inductive Sh where
  | int (k : IntKind)
  | bool
  | str
  | slice (e : TypeId) (esz : Nat) (s : Sh)
  | struct (l : List Sh)
inductive Dt where
  | int (n : Int)
  | bool (b : Bool)
  | str (s : List UInt8)
  | list (l : List Dt)
  | tup (l : List Dt)
mutual
inductive Rep (m : Mem) : Sh → List EV → Dt → Prop
  | int {k : IntKind} {n : Int} (h : (Lit.int k n).wf = true) : Rep m (.int k) [.int k n] (.int n)
  | bool (b : Bool) : Rep m .bool [.bool b] (.bool b)
  | str {s : List UInt8} (h : s.length ≤ maxLen) : Rep m .str [.str s] (.str s)
  | nil {e esz : Nat} {s : Sh} : Rep m (.slice e esz s) [.nilslice] (.list [])
  | empty {e esz b off : Nat} {s : Sh} : Rep m (.slice e esz s) [.slice b off 0 (some 0)] (.list [])
  | slice {e esz b : Nat} {s : Sh} {ess : List (List EV)} {ds : List Dt} (hl : ds.length ≤ maxLen) (hm : m.get b = .cells ess.flatten esz 0 true) (h : Reps m (List.replicate ds.length s) ess ds) : Rep m (.slice e esz s) [.slice b 0 ds.length none] (.list ds)
  | struct {shs : List Sh} {ess : List (List EV)} {ds : List Dt} (h : Reps m shs ess ds) : Rep m (.struct shs) ess.flatten (.tup ds)
inductive Reps (m : Mem) : List Sh → List (List EV) → List Dt → Prop
  | nil : Reps m [] [] []
  | cons {s : Sh} {es : List EV} {d : Dt} {shs : List Sh} {ess : List (List EV)} {ds : List Dt} (h : Rep m s es d) (hs : Reps m shs ess ds) : Reps m (s :: shs) (es :: ess) (d :: ds)
end

section
variable {P : Program} {w : World} {H : Type} {enc : TypeId × Value → H} {base : Nat} {held : Bool} {n0 : Nat}
def BOk (w : World) (ρ : Ren) (B : InB) : Prop := ∃ (arr : Array Value) (e : TypeId) (fz : Nat × Nat), w.heap[B.blk]? = some (.cells arr e fz) ∧ arr.size = B.total ∧ B.off + B.cs.length ≤ B.total ∧
  ∀ (j : Nat) (v : EV), B.cs[j]? = some v → ∃ v', arr[B.off + j]? = some v' ∧ VR ρ v v' ∧ v'.oneCell' = true
def Put (all : List InB) (s : Nat) (bs : List InB) : Prop := ∀ i, i < bs.length → all[s + i]? = bs[i]?
def Dec (w : World) (n0 : Nat) (sh : Sh) (cs : List Value) : Prop :=
  ∃ (k : Nat) (d : Dt), ∀ s, ∃ (es : List EV) (bs : List InB), bs.length = k ∧ es.length = cs.length ∧ ∀ all, Put all s bs →
    VRs (inRen n0 all) es cs ∧ (∀ c ∈ cs, c.oneCell' = true) ∧ (∀ (i : Nat) (B : InB), bs[i]? = some B → BOk w (inRen n0 all) B) ∧ Rep (inMem n0 all) sh es d
def Decs (w : World) (n0 : Nat) (shs : List Sh) (css : List (List Value)) : Prop :=
  ∃ (k : Nat) (ds : List Dt), ds.length = shs.length ∧ ∀ s, ∃ (ess : List (List EV)) (bs : List InB), bs.length = k ∧ ess.flatten.length = css.flatten.length ∧ ∀ all, Put all s bs →
    VRs (inRen n0 all) ess.flatten css.flatten ∧ (∀ c ∈ css.flatten, c.oneCell' = true) ∧ (∀ (i : Nat) (B : InB), bs[i]? = some B → BOk w (inRen n0 all) B) ∧ Reps (inMem n0 all) shs ess ds
theorem Put.left {all bs cs : List InB} {s : Nat} (h : Put all s (bs ++ cs)) : Put all s bs := fun i hi => by
  rw [h i (by simp; omega), List.getElem?_append_left hi]
theorem Put.right {all bs cs : List InB} {s : Nat} (h : Put all s (bs ++ cs)) : Put all (s + bs.length) cs := fun i hi => by
  have := h (bs.length + i) (by simp; omega)
  rw [Nat.add_assoc, this, List.getElem?_append_right (by omega)]; congr 1; omega
theorem Decs.nil : Decs w n0 [] [] := ⟨0, [], rfl, fun s => ⟨[], [], rfl, rfl, fun all _ => ⟨.nil, by simp, by simp, .nil⟩⟩⟩
theorem Decs.cons {sh : Sh} {cs : List Value} {shs : List Sh} {css : List (List Value)} (h : Dec w n0 sh cs) (hs : Decs w n0 shs css) : Decs w n0 (sh :: shs) (cs :: css) := by
  obtain ⟨k, d, h⟩ := h
  obtain ⟨k2, ds, hl, hs⟩ := hs
  refine ⟨k + k2, d :: ds, by simp [hl], fun s => ?_⟩
  obtain ⟨es, bs, h1, h2, h3⟩ := h s
  obtain ⟨ess, bs2, g1, g2, g3⟩ := hs (s + k)
  refine ⟨es :: ess, bs ++ bs2, by simp [h1, g1], by simp [h2, g2], fun all hp => ?_⟩
  obtain ⟨a1, a2, a3, a4⟩ := h3 all hp.left
  obtain ⟨b1, b2, b3, b4⟩ := g3 all (by rw [← h1]; exact hp.right)
  refine ⟨?_, ?_, ?_, .cons a4 b4⟩
  · rw [List.flatten_cons, List.flatten_cons]; exact a1.append b1
  · intro c hc
    rw [List.flatten_cons, List.mem_append] at hc
    rcases hc with hc | hc
    · exact a2 c hc
    · exact b2 c hc
  · intro i B hB
    by_cases hi : i < bs.length
    · rw [List.getElem?_append_left hi] at hB; exact a3 i B hB
    · rw [List.getElem?_append_right (by omega)] at hB; exact b3 _ B hB

def fieldsOk (ok : Sh → TypeId → Bool) (size : TypeId → Nat) : List Sh → List Field → Nat → Nat → Bool
  | [], [], off, total => off.beq total
  | s :: shs, g :: gs, off, total => g.offset.beq off && (ok s g.type && fieldsOk ok size shs gs (off + size g.type) total)
  | _, _, _, _ => false
def shOk (P : Program) : Nat → Sh → TypeId → Bool
  | 0, _, _ => false
  | n + 1, sh, t => match sh, P.underlying t with
    | .int k, some (.int k') => (kindNo k).beq (kindNo k')
    | .bool, some .bool => true
    | .str, some .string => true
    | .slice e esz s, some (.slice e') => e.beq e' && ((P.cellsOf e).beq esz && (Nat.ble 1 esz && shOk P n s e))
    | .struct l, some (.struct gs) => fieldsOk (shOk P n) P.cellsOf l gs.toList 0 (P.cellsOf t)
    | _, _ => false
theorem fields_flat {ok : Sh → TypeId → Bool} {size : TypeId → Nat} {cs : List Value} : ∀ (shs : List Sh) (gs : List Field) (off : Nat), fieldsOk ok size shs gs off cs.length = true → off ≤ cs.length →
    cs.drop off = (gs.map fun g => (cs.drop g.offset).take (size g.type)).flatten
  | [], [], off, h, hl => by
    have := of_beq h
    subst this; simp
  | s :: shs, g :: gs, off, h, hl => by
    simp only [fieldsOk, Bool.and_eq_true] at h
    obtain ⟨h1, h2, h3⟩ := h
    have e := of_beq h1
    have hle : off + size g.type ≤ cs.length := by
      revert h3
      generalize off + size g.type = o
      clear h1 h2 e hl
      induction gs generalizing shs o with
      | nil => intro h3; cases shs <;> simp only [fieldsOk] at h3; exact Nat.le_of_eq (of_beq h3); cases h3
      | cons g' gs ih =>
        intro h3
        cases shs with
        | nil => simp [fieldsOk] at h3
        | cons s' shs =>
          simp only [fieldsOk, Bool.and_eq_true] at h3
          have := ih shs _ h3.2.2
          omega
    have ih := fields_flat shs gs (off + size g.type) h3 hle
    rw [List.map_cons, List.flatten_cons, ← ih, e]
    rw [← List.drop_drop, List.take_append_drop]
  | [], _ :: _, _, h, _ => by simp [fieldsOk] at h
  | _ :: _, [], _, h, _ => by simp [fieldsOk] at h
theorem decs_fields {cs : List Value} {size : TypeId → Nat} {ok : Sh → TypeId → Bool} : ∀ (shs : List Sh) (gs : List Field) (off total : Nat), fieldsOk ok size shs gs off total = true →
    (∀ (s : Sh) (g : Field), g ∈ gs → ok s g.type = true → Dec w n0 s ((cs.drop g.offset).take (size g.type))) → Decs w n0 shs (gs.map fun g => (cs.drop g.offset).take (size g.type))
  | [], [], _, _, _, _ => .nil
  | s :: shs, g :: gs, off, total, h, hd => by
    simp only [fieldsOk, Bool.and_eq_true] at h
    rw [List.map_cons]
    exact .cons (hd s g (by simp) h.2.1) (decs_fields shs gs _ total h.2.2 fun s' g' hg => hd s' g' (by simp [hg]))
  | [], _ :: _, _, _, h, _ => by simp [fieldsOk] at h
  | _ :: _, [], _, _, h, _ => by simp [fieldsOk] at h
theorem flat_len {α : Type} {sz : Nat} : ∀ {css : List (List α)}, (∀ c ∈ css, c.length = sz) → css.flatten.length = css.length * sz
  | [], _ => by simp
  | c :: css, h => by
    rw [List.flatten_cons, List.length_append, flat_len fun c hc => h c (by simp [hc]), h c (by simp), List.length_cons, Nat.add_mul]; omega
theorem flat_get {α : Type} {sz : Nat} : ∀ {css : List (List α)}, (∀ c ∈ css, c.length = sz) → ∀ (q p : Nat), p < sz → css.flatten[q * sz + p]? = (css[q]?).bind fun c => c[p]?
  | [], _, q, p, _ => by simp
  | c :: css, h, q, p, hp => by
    have hc := h c (by simp)
    rw [List.flatten_cons]
    cases q with
    | zero => rw [Nat.zero_mul, Nat.zero_add, List.getElem?_append_left (by omega)]; simp
    | succ q =>
      have ih := flat_get (css := css) (fun c hc => h c (by simp [hc])) q p hp
      rw [List.getElem?_append_right (by rw [hc, Nat.add_mul]; omega), show (q + 1) * sz + p - c.length = q * sz + p by rw [hc, Nat.add_mul]; omega, ih]
      simp
theorem lit_add (b o n : Nat) : (⟨b, o, none⟩ : Addr).add n = ⟨b, o + n, none⟩ := Addr.add_lit b o n
theorem decs_row {a : Addr} {sz len : Nat} {s : Sh} (hd : ∀ i, i < len → ∃ cs', w.cells? base (a.add (i * sz)) sz = some cs' ∧ Dec w n0 s cs') : ∀ (r i : Nat), i + r = len →
    ∃ css : List (List Value), css.length = r ∧ (∀ q, q < r → ∃ cs', css[q]? = some cs' ∧ w.cells? base (a.add ((i + q) * sz)) sz = some cs') ∧ Decs w n0 (List.replicate r s) css
  | 0, i, _ => ⟨[], rfl, fun q hq => by omega, .nil⟩
  | r + 1, i, h => by
    obtain ⟨cs', h1, h2⟩ := hd i (by omega)
    obtain ⟨css, g1, g2, g3⟩ := decs_row hd r (i + 1) (by omega)
    refine ⟨cs' :: css, by simp [g1], fun q hq => ?_, .cons h2 g3⟩
    cases q with
    | zero => exact ⟨cs', rfl, h1⟩
    | succ q =>
      obtain ⟨c, c1, c2⟩ := g2 q (by omega)
      exact ⟨c, by simpa using c1, by rw [show i + (q + 1) = i + 1 + q by omega]; exact c2⟩
theorem dec_slice {a : Addr} {e sz len cap : Nat} {s : Sh} (hsz : 1 ≤ sz) (hlc : len ≤ cap) (hcm : cap ≤ maxLen) (hc0 : cap ≠ 0) (hd : ∀ i, i < cap → ∃ cs', w.cells? base (a.add (i * sz)) sz = some cs' ∧ Dec w n0 s cs') :
    Dec w n0 (.slice e sz s) [.slice (some a) len cap] := by
  have hcell : ∀ i, i < cap → ∀ p, p < sz → ∃ v, w.cell? ((a.add (i * sz)).add p) = some v := by
    intro i hi p hp
    obtain ⟨cs', h1, _⟩ := hd i hi
    obtain ⟨_, h2, h3⟩ := World.cells?_some h1
    exact ⟨cs'[p]'(by omega), by rw [h3 p hp, List.getElem?_eq_getElem]⟩
  obtain ⟨blk, off, arr, ty, fz, rfl, harr⟩ : ∃ blk off arr ty fz, a = ⟨blk, off, none⟩ ∧ w.heap[blk]? = some (.cells arr ty fz) := by
    obtain ⟨v, hv⟩ := hcell 0 (by omega) 0 (by omega)
    rw [Nat.zero_mul] at hv
    have hv : w.cell? a = some v := hv
    obtain ⟨blk, off, spot⟩ := a
    unfold World.cell? at hv
    split at hv
    · rename_i c t z hh
      cases spot with
      | none => exact ⟨blk, off, c, t, z, rfl, hh⟩
      | some x => simp at hv
    · cases hv
  have hat : ∀ n, w.cell? ⟨blk, off + n, none⟩ = arr[off + n]? := fun n => by unfold World.cell?; simp [harr]
  obtain ⟨css, g1, g2, kin, ds, hds, g3⟩ := decs_row (w := w) (n0 := n0) (base := base) (fun i hi => hd i (Nat.lt_of_lt_of_le hi hlc)) len 0 (by omega)
  have hcl : ∀ c ∈ css, c.length = sz := by
    intro c hc
    obtain ⟨q, hq⟩ := List.getElem?_of_mem hc
    have hql : q < len := by have := (List.getElem?_eq_some_iff.1 hq).1; omega
    obtain ⟨cs', h1, h2⟩ := g2 q hql
    rw [hq] at h1; cases h1
    exact (World.cells?_some h2).2.1
  have hfl : css.flatten.length = len * sz := by rw [flat_len hcl, g1]
  have hget : ∀ j v, css.flatten[j]? = some v → arr[off + j]? = some v := by
    intro j v hj
    have hjl : j < len * sz := by have := (List.getElem?_eq_some_iff.1 hj).1; omega
    have hp : j % sz < sz := Nat.mod_lt _ (by omega)
    have hq : j / sz < len := Nat.div_lt_of_lt_mul (by rw [Nat.mul_comm]; exact hjl)
    have hj' : j / sz * sz + j % sz = j := Nat.div_add_mod' j sz
    rw [← hj', flat_get hcl _ _ hp] at hj
    obtain ⟨cs', h1, h2⟩ := g2 _ hq
    rw [h1] at hj
    obtain ⟨_, _, h3⟩ := World.cells?_some h2
    have h4 := h3 _ hp
    rw [Nat.zero_add, lit_add, lit_add, Nat.add_assoc, hj', hat] at h4
    rw [h4]; exact hj
  have hle : off + len * sz ≤ arr.size := by
    rcases Nat.eq_zero_or_pos (len * sz) with h0 | h0
    · obtain ⟨v, hv⟩ := hcell 0 (by omega) 0 (by omega)
      have h00 := hat 0
      rw [Nat.add_zero] at h00
      simp only [lit_add, Nat.zero_mul, Nat.add_zero] at hv
      rw [h00] at hv
      have := (Array.getElem?_eq_some_iff.1 hv).1
      omega
    · obtain ⟨v, hv⟩ : ∃ v, css.flatten[len * sz - 1]? = some v := ⟨_, List.getElem?_eq_getElem (by omega)⟩
      have := (Array.getElem?_eq_some_iff.1 (hget _ _ hv)).1
      omega
  rw [List.length_replicate] at hds
  refine ⟨kin + 1, .list ds, fun st => ?_⟩
  obtain ⟨ess, bs, b1, b2, b3⟩ := g3 (st + 1)
  let B : InB := ⟨blk, off, arr.size, sz, ess.flatten⟩
  refine ⟨[.slice (n0 + st) 0 len none], B :: bs, by simp [b1], rfl, fun all hp => ?_⟩
  have hB : all[st]? = some B := by have := hp 0 (by simp); simpa using this
  obtain ⟨c1, c2, c3, c4⟩ := b3 all (by have := Put.right (bs := [B]) hp; simpa using this)
  refine ⟨.cons (in_slice hB rfl rfl hlc fun _ => rfl) .nil, by simp [Value.oneCell'], fun i C hC => ?_, ?_⟩
  · cases i with
    | succ i => exact c3 i C (by simpa using hC)
    | zero =>
      simp at hC; subst hC
      refine ⟨arr, ty, fz, harr, rfl, by show off + ess.flatten.length ≤ arr.size; omega, fun j v hj => ?_⟩
      obtain ⟨v', h1, h2⟩ := c1.get j v hj
      exact ⟨v', hget j v' h1, h2, c2 v' (List.mem_of_getElem? h1)⟩
  · have h1 := inMem_at (n0 := n0) hB
    have h2 := Rep.slice (m := inMem n0 all) (e := e) (b := n0 + st) (s := s) (ds := ds) (Nat.le_trans (Nat.le_of_eq hds) (Nat.le_trans hlc hcm)) h1 (by rw [hds]; exact c4)
    rw [hds] at h2
    exact h2
theorem dec_all (n0 : Nat) : ∀ (K : Nat) (sh : Sh) (t : TypeId) (fuel : Nat) (cs : List Value) (x : DataW H × List MemPlace), shOk P K sh t = true → DataW.trod enc P w base (fun _ => true) held fuel t cs = some x → Dec w n0 sh cs
  | 0, _, _, _, _, _, h, _ => by simp [shOk] at h
  | K + 1, sh, t, fuel, cs, x, h, hx => by
    simp only [shOk] at h
    split at h
    · rename_i k k' hu
      obtain rfl := kindNo_inj h
      obtain ⟨n, rfl, _, hw⟩ := DataW.trod_int hu hx
      exact ⟨0, .int n, fun s => ⟨[.int k n], [], rfl, rfl, fun all _ => ⟨.cons (.int _ _) .nil, by simp [Value.oneCell'], by simp, .int hw⟩⟩⟩
    · rename_i hu
      obtain ⟨b, rfl, _⟩ := DataW.trod_bool hu hx
      exact ⟨0, .bool b, fun s => ⟨[.bool b], [], rfl, rfl, fun all _ => ⟨.cons (.bool _) .nil, by simp [Value.oneCell'], by simp, .bool b⟩⟩⟩
    · rename_i hu
      obtain ⟨b, rfl, _, hm⟩ := DataW.trod_string hu hx
      exact ⟨0, .str b.data.toList, fun s => ⟨[.str b.data.toList], [], rfl, rfl, fun all _ => ⟨.cons (.str _) .nil, by simp [Value.oneCell'], by simp, .str (by simpa using hm)⟩⟩⟩
    · rename_i e esz s e' hu
      simp only [Bool.and_eq_true] at h
      obtain ⟨h1, h2, h3, h4⟩ := h
      have := of_beq h1; subst this
      have := of_beq h2; subst this
      have hpos : 1 ≤ P.cellsOf e := Nat.le_of_ble_eq_true h3
      rcases open_slice hu hx with ⟨rfl, _⟩ | ⟨a, len, cap, m, n, D, Pl, rfl, hb, hlc, hcm, hm, _, hel⟩
      · exact ⟨0, .list [], fun s => ⟨[.nilslice], [], rfl, rfl, fun all _ => ⟨.cons .nilslice .nil, by simp [Value.oneCell'], by simp, .nil⟩⟩⟩
      · simp only [if_true] at hm
        subst hm
        by_cases hc0 : m = 0
        · subst hc0
          obtain rfl : len = 0 := by omega
          exact ⟨0, .list [], fun s => ⟨[.slice 0 0 0 (some 0)], [], rfl, rfl, fun all _ => ⟨.cons .sliceE .nil, by simp [Value.oneCell'], by simp, .empty⟩⟩⟩
        · exact dec_slice hpos hlc hcm hc0 fun i hi => by
            obtain ⟨cs', h5, h6⟩ := hel i hi
            exact ⟨cs', h5, dec_all n0 K s e n cs' _ h4 h6⟩
    · rename_i l gs hu
      obtain ⟨xs, n, _, _, hlen, hxl, hf⟩ := DataW.trod_struct hu hx
      rw [← hlen] at h
      have hD := decs_fields (w := w) (n0 := n0) (cs := cs) l gs.toList 0 cs.length h fun s g hg hok => by
        obtain ⟨i, hi⟩ := List.getElem?_of_mem hg
        have hi' : gs[i]? = some g := by simpa using hi
        have hlt : i < xs.length := by have := (Array.getElem?_eq_some_iff.1 hi').1; omega
        have h1 := hf i g hi'
        rw [List.getElem?_eq_getElem hlt] at h1
        exact dec_all n0 K s g.type n _ _ hok h1
      have hfl := fields_flat l gs.toList 0 h (Nat.zero_le _)
      rw [List.drop_zero] at hfl
      obtain ⟨k, ds, _, hs⟩ := hD
      refine ⟨k, .tup ds, fun s => ?_⟩
      obtain ⟨ess, bs, h1, h2, h3⟩ := hs s
      rw [← hfl] at h2 h3
      refine ⟨ess.flatten, bs, h1, h2, fun all hp => ?_⟩
      obtain ⟨c1, c2, c3, c4⟩ := h3 all hp
      exact ⟨c1, c2, c3, .struct c4⟩
    · cases h

def RepV (m : Mem) (sh : Sh) (e : EV) (d : Dt) : Prop := match sh with
  | .struct l => ∃ cs, e = .agg cs ∧ Rep m (.struct l) cs d
  | sh => Rep m sh [e] d
inductive RepVs (m : Mem) : List Sh → List EV → List Dt → Prop
  | nil : RepVs m [] [] []
  | cons {s : Sh} {e : EV} {d : Dt} {shs : List Sh} {es : List EV} {ds : List Dt} (h : RepV m s e d) (hs : RepVs m shs es ds) : RepVs m (s :: shs) (e :: es) (d :: ds)
def DecV (w : World) (n0 : Nat) (sh : Sh) (v : Value) : Prop :=
  ∃ (k : Nat) (d : Dt), ∀ s, ∃ (e : EV) (bs : List InB), bs.length = k ∧ ∀ all, Put all s bs →
    VR (inRen n0 all) e v ∧ (∀ (i : Nat) (B : InB), bs[i]? = some B → BOk w (inRen n0 all) B) ∧ RepV (inMem n0 all) sh e d
def DecVs (w : World) (n0 : Nat) (shs : List Sh) (vs : List Value) : Prop :=
  ∃ (k : Nat) (ds : List Dt), ∀ s, ∃ (es : List EV) (bs : List InB), bs.length = k ∧ ∀ all, Put all s bs →
    VRs (inRen n0 all) es vs ∧ (∀ (i : Nat) (B : InB), bs[i]? = some B → BOk w (inRen n0 all) B) ∧ RepVs (inMem n0 all) shs es ds
theorem DecVs.nil : DecVs w n0 [] [] := ⟨0, [], fun s => ⟨[], [], rfl, fun all _ => ⟨.nil, by simp, .nil⟩⟩⟩
theorem DecVs.cons {sh : Sh} {v : Value} {shs : List Sh} {vs : List Value} (h : DecV w n0 sh v) (hs : DecVs w n0 shs vs) : DecVs w n0 (sh :: shs) (v :: vs) := by
  obtain ⟨k, d, h⟩ := h
  obtain ⟨k2, ds, hs⟩ := hs
  refine ⟨k + k2, d :: ds, fun s => ?_⟩
  obtain ⟨e, bs, h1, h3⟩ := h s
  obtain ⟨es, bs2, g1, g3⟩ := hs (s + k)
  refine ⟨e :: es, bs ++ bs2, by simp [h1, g1], fun all hp => ?_⟩
  obtain ⟨a1, a3, a4⟩ := h3 all hp.left
  obtain ⟨b1, b3, b4⟩ := g3 all (by rw [← h1]; exact hp.right)
  refine ⟨.cons a1 b1, ?_, .cons a4 b4⟩
  intro i B hB
  by_cases hi : i < bs.length
  · rw [List.getElem?_append_left hi] at hB; exact a3 i B hB
  · rw [List.getElem?_append_right (by omega)] at hB; exact b3 _ B hB
theorem Dec.one {sh : Sh} {v : Value} (hn : ∀ l, sh ≠ .struct l) (h : Dec w n0 sh [v]) : DecV w n0 sh v := by
  obtain ⟨k, d, h⟩ := h
  refine ⟨k, d, fun s => ?_⟩
  obtain ⟨es, bs, h1, h2, h3⟩ := h s
  obtain ⟨e, rfl⟩ : ∃ e, es = [e] := by
    match es, h2 with
    | [e], _ => exact ⟨e, rfl⟩
  refine ⟨e, bs, h1, fun all hp => ?_⟩
  obtain ⟨c1, c2, c3, c4⟩ := h3 all hp
  cases c1 with
  | cons hv _ =>
  refine ⟨hv, c3, ?_⟩
  unfold RepV
  cases sh with
  | struct l => exact absurd rfl (hn l)
  | _ => exact c4
theorem Dec.agg {l : List Sh} {cs : Array Value} (h : Dec w n0 (.struct l) cs.toList) : DecV w n0 (.struct l) (.agg cs) := by
  obtain ⟨k, d, h⟩ := h
  refine ⟨k, d, fun s => ?_⟩
  obtain ⟨es, bs, h1, h2, h3⟩ := h s
  refine ⟨.agg es, bs, h1, fun all hp => ?_⟩
  obtain ⟨c1, c2, c3, c4⟩ := h3 all hp
  exact ⟨.agg c1 c2, c3, es, rfl, c4⟩
theorem dec_val {K : Nat} {sh : Sh} {t : TypeId} {v : Value} {r : Go.Reach} {b0 : Nat} {d : DataW H} {p : List MemPlace} (h : shOk P K sh t = true) (hval : Value.okWide P w r b0 t v) (hx : DataW.Trod enc P w base (fun _ => true) held t v d p) : DecV w n0 sh v := by
  obtain ⟨fuel, hf⟩ := hx
  have hD := dec_all (w := w) n0 K sh t fuel _ _ h hf
  cases K with
  | zero => simp [shOk] at h
  | succ K =>
  simp only [shOk] at h
  split at h
  · rename_i k k' hu
    refine Dec.one (by intro l e; cases e) ?_
    simp only [Value.okWide, hu, Cell.okWide] at hval
    cases v <;> simp only [Cell.ok, hu] at hval
    exact hD
  · rename_i hu
    refine Dec.one (by intro l e; cases e) ?_
    simp only [Value.okWide, hu, Cell.okWide] at hval
    cases v <;> simp only [Cell.ok, hu] at hval
    exact hD
  · rename_i hu
    refine Dec.one (by intro l e; cases e) ?_
    simp only [Value.okWide, hu, Cell.okWide] at hval
    cases v <;> simp only [Cell.ok, hu] at hval
    exact hD
  · rename_i e esz s e' hu
    refine Dec.one (by intro l e; cases e) ?_
    simp only [Value.okWide, hu, Cell.okWide] at hval
    cases v <;> simp only [Cell.ok, hu] at hval
    exact hD
  · rename_i l gs hu
    simp only [Value.okWide, hu] at hval
    obtain ⟨cs, rfl, _, _⟩ := hval
    exact Dec.agg hD
  · cases h
theorem wf_i64 {n : Int} (h : (Lit.int .i64 n).wf = true) : -9223372036854775808 ≤ n ∧ n < 9223372036854775808 := by
  simp [Lit.wf, IntKind.min, IntKind.max, IntKind.signed, IntKind.bits] at h; omega
theorem wf_u8 {n : Int} (h : (Lit.int .u8 n).wf = true) : 0 ≤ n ∧ n < 256 := by
  simp [Lit.wf, IntKind.min, IntKind.max, IntKind.signed, IntKind.bits] at h; omega
theorem RepVs.one {m : Mem} {s : Sh} {shs : List Sh} {es : List EV} {ds : List Dt} (h : RepVs m (s :: shs) es ds) : ∃ e d es' ds', es = e :: es' ∧ ds = d :: ds' ∧ RepV m s e d ∧ RepVs m shs es' ds' := by
  cases h with | cons h hs => exact ⟨_, _, _, _, rfl, rfl, h, hs⟩
theorem RepVs.none {m : Mem} {es : List EV} {ds : List Dt} (h : RepVs m [] es ds) : es = [] ∧ ds = [] := by
  cases h; exact ⟨rfl, rfl⟩
end
end Go.Proofs.YtblcomejcahkdaaDoor.Ev
end
section
namespace Go.Proofs.YtblcomejcahkdaaDoor.Ev
open Go
mutual
inductive Fz : Sh → List EV → Dt → Prop
  | int {k : IntKind} {n : Int} (h : (Lit.int k n).wf = true) : Fz (.int k) [.int k n] (.int n)
  | bool (b : Bool) : Fz .bool [.bool b] (.bool b)
  | str {s : List UInt8} (h : s.length ≤ maxLen) : Fz .str [.str s] (.str s)
  | nil {e esz : Nat} {s : Sh} : Fz (.slice e esz s) [.nilslice] (.list [])
  | slice {e esz : Nat} {s : Sh} {els : List (List EV)} {ds : List Dt} (hl : ds.length ≤ maxLen) (h : Fzs (List.replicate ds.length s) els ds) : Fz (.slice e esz s) [.fz 0 esz els] (.list ds)
  | struct {shs : List Sh} {els : List (List EV)} {ds : List Dt} (h : Fzs shs els ds) : Fz (.struct shs) els.flatten (.tup ds)
inductive Fzs : List Sh → List (List EV) → List Dt → Prop
  | nil : Fzs [] [] []
  | cons {s : Sh} {es : List EV} {d : Dt} {shs : List Sh} {els : List (List EV)} {ds : List Dt} (h : Fz s es d) (hs : Fzs shs els ds) : Fzs (s :: shs) (es :: els) (d :: ds)
end
mutual
def shSize : Sh → Nat
  | .struct l => shSizes l
  | _ => 1
def shSizes : List Sh → Nat
  | [] => 0
  | s :: l => shSize s + shSizes l
end
mutual
def shFit : Sh → Bool
  | .slice _ esz s => (shSize s).beq esz && shFit s
  | .struct l => shFits l
  | _ => true
def shFits : List Sh → Bool
  | [] => true
  | s :: l => shFit s && shFits l
end
def still (m : Mem) : Tie := ⟨fun _ => none, fun _ => none, fun c => if c < m.next then some (m.get c) else none⟩
section
variable {m : Mem}
mutual
theorem fz_size : ∀ {s : Sh} {es : List EV} {d : Dt}, Fz s es d → es.length = shSize s
  | _, _, _, .int _ => rfl
  | _, _, _, .bool _ => rfl
  | _, _, _, .str _ => rfl
  | _, _, _, .nil => rfl
  | _, _, _, .slice _ _ => rfl
  | _, _, _, .struct h => by simp only [shSize]; exact fzs_size h
theorem fzs_size : ∀ {shs : List Sh} {els : List (List EV)} {ds : List Dt}, Fzs shs els ds → els.flatten.length = shSizes shs
  | _, _, _, .nil => rfl
  | _, _, _, .cons h hs => by simp only [shSizes, List.flatten_cons, List.length_append, fz_size h, fzs_size hs]
end
theorem fzs_els {s : Sh} : ∀ {n : Nat} {els : List (List EV)} {ds : List Dt}, Fzs (List.replicate n s) els ds → els.length = n ∧ ds.length = n ∧ ∀ el ∈ els, el.length = shSize s
  | 0, els, ds, h => by rw [List.replicate_zero] at h; cases h; exact ⟨rfl, rfl, fun el hel => by cases hel⟩
  | n + 1, els, ds, h => by
    rw [List.replicate_succ] at h
    cases h with
    | cons h hs =>
      obtain ⟨h1, h2, h3⟩ := fzs_els hs
      refine ⟨by simp [h1], by simp [h2], fun el hel => ?_⟩
      rcases List.mem_cons.1 hel with rfl | hel
      · exact fz_size h
      · exact h3 el hel
theorem SVs.app_len {θ : Tie} {x x' : List EV} (h : SVs θ x x') : x'.length = x.length := h.length.symm
mutual
theorem rep_fz (hm : ∀ b cs e t ro, m.get b = .cells cs e t ro → b < m.next) : ∀ {s : Sh} {es : List EV} {d : Dt}, Rep m s es d → shFit s = true → ∃ us, Fz s us d ∧ SVs (still m) us es
  | _, _, _, .int h, _ => ⟨_, .int h, .cons (.int _ _) .nil⟩
  | _, _, _, .bool b, _ => ⟨_, .bool b, .cons (.bool _) .nil⟩
  | _, _, _, .str h, _ => ⟨_, .str h, .cons (.str _) .nil⟩
  | _, _, _, .nil, _ => ⟨_, .nil, .cons .nilslice .nil⟩
  | _, _, _, .empty (s := s) (esz := esz), _ => ⟨[.fz 0 esz []], .slice (ds := []) (Nat.zero_le _) .nil, .cons (.fz0 (.inl rfl)) .nil⟩
  | _, _, _, .slice (esz := esz) (b := b) (ess := ess) (ds := ds) (s := s) hl hb h, hf => by
    simp only [shFit, Bool.and_eq_true] at hf
    have hsz := of_beq hf.1
    obtain ⟨els, h1, h2⟩ := reps_fz hm h (by
      have : ∀ n, shFits (List.replicate n s) = true := fun n => by
        induction n with
        | zero => rfl
        | succ n ih => simp only [List.replicate_succ, shFits, hf.2, ih, Bool.and_self]
      exact this _)
    obtain ⟨g1, g2, g3⟩ := fzs_els h1
    have hlen : els.flatten.length = els.length * esz := flat_len (fun el hel => (g3 el hel).trans hsz)
    have hlen' : ess.flatten.length = els.length * esz := by rw [h2.app_len, hlen]
    have hst : (still m).sta b = some (.cells ess.flatten esz 0 true) := by
      show (if b < m.next then some (m.get b) else none) = _
      rw [if_pos (hm _ _ _ _ _ hb), hb]
    refine ⟨[.fz 0 esz els], .slice hl h1, .cons ?_ .nil⟩
    have := SV.fz (θ := still m) (t := 0) (cap := none) (.mk (off := 0) hst (fun el hel => (g3 el hel).trans hsz) (by omega) (by
      rw [List.drop_zero, ← hlen', List.take_length]; exact h2)) (.inl rfl) (fun c hc => by cases hc)
    rw [g1] at this; exact this
  | _, _, _, .struct h, hf => by
    obtain ⟨els, h1, h2⟩ := reps_fz hm h (by simpa only [shFit] using hf)
    exact ⟨_, .struct h1, h2⟩
theorem reps_fz (hm : ∀ b cs e t ro, m.get b = .cells cs e t ro → b < m.next) : ∀ {shs : List Sh} {ess : List (List EV)} {ds : List Dt}, Reps m shs ess ds → shFits shs = true → ∃ els, Fzs shs els ds ∧ SVs (still m) els.flatten ess.flatten
  | _, _, _, .nil, _ => ⟨_, .nil, .nil⟩
  | _, _, _, .cons h hs, hf => by
    simp only [shFits, Bool.and_eq_true] at hf
    obtain ⟨us, h1, h2⟩ := rep_fz hm h hf.1
    obtain ⟨els, h3, h4⟩ := reps_fz hm hs hf.2
    exact ⟨us :: els, .cons h1 h3, by rw [List.flatten_cons, List.flatten_cons]; exact h2.append h4⟩
end
def FzV (sh : Sh) (v : EV) (d : Dt) : Prop := match sh with
  | .struct l => ∃ cs, v = .agg cs ∧ Fz (.struct l) cs d
  | sh => Fz sh [v] d
inductive FzVs : List Sh → List EV → List Dt → Prop
  | nil : FzVs [] [] []
  | cons {s : Sh} {v : EV} {d : Dt} {shs : List Sh} {vs : List EV} {ds : List Dt} (h : FzV s v d) (hs : FzVs shs vs ds) : FzVs (s :: shs) (v :: vs) (d :: ds)
theorem FzVs.one {s : Sh} {shs : List Sh} {es : List EV} {ds : List Dt} (h : FzVs (s :: shs) es ds) : ∃ e d es' ds', es = e :: es' ∧ ds = d :: ds' ∧ FzV s e d ∧ FzVs shs es' ds' := by
  cases h with | cons h hs => exact ⟨_, _, _, _, rfl, rfl, h, hs⟩
theorem FzVs.none {es : List EV} {ds : List Dt} (h : FzVs [] es ds) : es = [] := by cases h; rfl
theorem repV_fz (hm : ∀ b cs e t ro, m.get b = .cells cs e t ro → b < m.next) {s : Sh} {e : EV} {d : Dt} (h : RepV m s e d) (hf : shFit s = true) : ∃ u, FzV s u d ∧ SV (still m) u e := by
  have one : ∀ {us : List EV} {e : EV}, SVs (still m) us [e] → ∃ u, us = [u] ∧ SV (still m) u e := by
    intro us e h
    cases h with
    | cons h hs => cases hs; exact ⟨_, rfl, h⟩
  cases s with
  | struct l =>
    obtain ⟨cs, rfl, h⟩ := h
    obtain ⟨us, h1, h2⟩ := rep_fz hm h hf
    exact ⟨.agg us, ⟨us, rfl, h1⟩, .agg h2⟩
  | int k => obtain ⟨us, h1, h2⟩ := rep_fz hm h hf; obtain ⟨u, rfl, h3⟩ := one h2; exact ⟨u, h1, h3⟩
  | bool => obtain ⟨us, h1, h2⟩ := rep_fz hm h hf; obtain ⟨u, rfl, h3⟩ := one h2; exact ⟨u, h1, h3⟩
  | str => obtain ⟨us, h1, h2⟩ := rep_fz hm h hf; obtain ⟨u, rfl, h3⟩ := one h2; exact ⟨u, h1, h3⟩
  | slice a b c => obtain ⟨us, h1, h2⟩ := rep_fz hm h hf; obtain ⟨u, rfl, h3⟩ := one h2; exact ⟨u, h1, h3⟩
theorem repVs_fz (hm : ∀ b cs e t ro, m.get b = .cells cs e t ro → b < m.next) : ∀ {shs : List Sh} {es : List EV} {ds : List Dt}, RepVs m shs es ds → shFits shs = true → ∃ us, FzVs shs us ds ∧ SVs (still m) us es
  | _, _, _, .nil, _ => ⟨[], .nil, .nil⟩
  | _, _, _, .cons h hs, hf => by
    simp only [shFits, Bool.and_eq_true] at hf
    obtain ⟨u, h1, h2⟩ := repV_fz hm h hf.1
    obtain ⟨us, h3, h4⟩ := repVs_fz hm hs hf.2
    exact ⟨u :: us, .cons h1 h3, .cons h2 h4⟩
theorem law_pure {T B : Nat → Option Ent} {K : Nat → Nat} (hT : ∀ f e, B f = some e → EntS T f e) {f : Nat} {F : IFun} (hF : B f = some (.go F)) (hm : ∀ b cs e t ro, m.get b = .cells cs e t ro → b < m.next) {shs : List Sh} {es : List EV} {ds : List Dt} (h : RepVs m shs es ds) (hf : shFits shs = true) (hgl : GlobOk (still m)) :
    ∃ us, FzVs shs us ds ∧ (pureR B K f (tagArgs 1 us) = some (.bool true) → ∃ m', run T f es m = some (.ret (.bool true) m')) := by
  obtain ⟨us, h1, h2⟩ := repVs_fz hm h hf
  refine ⟨us, h1, fun hp => ?_⟩
  obtain ⟨F0, hE1, hE2, rfl⟩ := hT f _ hF
  rw [pureR_eq hF] at hp
  obtain ⟨v', m1, m1', θ, e, _, _, hv⟩ := pure_run (UT_ent hT) hE1 hE2 hp (m' := m) (tg := tagOf es) (S := (still m).sta) (fun b B hb => by
    have hb' : (if b < m.next then some (m.get b) else none) = some B := hb
    by_cases q : b < m.next
    · rw [if_pos q] at hb'; cases hb'; exact ⟨rfl, q⟩
    · rw [if_neg q] at hb'; cases hb') (tag_sim us es 1 (tagOf_at es) h2) (hgl.down ⟨fun _ _ h => (by simp [Tie.low] at h), fun _ _ h => (by simp [Tie.low] at h), fun _ _ h => h⟩)
  have := hv.flat rfl
  subst this
  exact ⟨m1', e⟩
end
end Go.Proofs.YtblcomejcahkdaaDoor.Ev
end
section
namespace Go.Proofs.YtblcomejcahkdaaDoor.Ev
open Go
structure Own (m : Mem) (v : EV) (cs : List EV) (n esz lo : Nat) : Prop where
  is : (v = .nilslice ∧ n = 0 ∧ cs = []) ∨ ∃ b cap t, v = .slice b 0 n cap ∧ lo ≤ b ∧ b < m.next ∧ m.get b = .cells cs esz t false ∧ (cap = none ∨ cap = some n)
  len : cs.length = n * esz
def Off (v : EV) (c : Nat) : Prop := ∀ b o n cap, v = .slice b o n cap → c ≠ b
theorem Off.nil {c : Nat} : Off .nilslice c := fun _ _ _ _ h => by cases h
theorem Off.of {b o n c : Nat} {cap : Option Nat} (h : c ≠ b) : Off (.slice b o n cap) c := fun _ _ _ _ e => by cases e; exact h
theorem row_all {m : Mem} {b n esz e t : Nat} {cs : List EV} {ro : Bool} (hb : m.get b = .cells cs e t ro) (hl : cs.length = n * esz) : m.row b 0 (n * esz) = some cs := by
  by_cases h : n * esz = 0
  · rw [h, Mem.row_none]; rw [h] at hl; rw [List.eq_nil_of_length_eq_zero hl]
  · rw [Mem.row_pos h]; unfold Mem.row1
    rw [hb]
    show (bif (0 + n * esz).ble cs.length then some ((cs.drop 0).take (n * esz)) else none) = _
    rw [Nat.ble_eq_true_of_le (by omega)]
    simp [← hl]
theorem Own.source {m : Mem} {v : EV} {cs : List EV} {n esz lo : Nat} (h : Own m v cs n esz lo) : m.source esz v = some (n, cs) := by
  rcases h.is with ⟨rfl, rfl, rfl⟩ | ⟨b, cap, t, rfl, h1, h2, h3, h4⟩
  · rfl
  · show (m.row b 0 (n * esz)).map (fun cs => (n, cs)) = _
    rw [row_all h3 h.len]; rfl
theorem Own.mono {m m' : Mem} {v : EV} {cs : List EV} {n esz lo : Nat} (h : Own m v cs n esz lo) (hn : m.next ≤ m'.next) (hk : ∀ c, c < m.next → m'.get c = m.get c) : Own m' v cs n esz lo := by
  refine ⟨?_, h.len⟩
  rcases h.is with h | ⟨b, cap, t, rfl, h1, h2, h3, h4⟩
  · exact .inl h
  · exact .inr ⟨b, cap, t, rfl, h1, by omega, by rw [hk b h2]; exact h3, h4⟩
theorem Own.ext {m : Mem} {v : EV} {cs : List EV} {n esz lo : Nat} (h : Own m v cs n esz lo) (xs : List Blk) : Own (ext m xs) v cs n esz lo := h.mono (by rw [next_ext]; exact le_nb) fun c hc => get_ext_old hc
end Go.Proofs.YtblcomejcahkdaaDoor.Ev
namespace Go.Proofs.YtblcomejcahkdaaDoor.Ev
open Go
def grow (m : Mem) (v : EV) (e esz : Nat) (cs : List EV) : Mem := match v with
  | .slice b _ _ none => (m.new (.cells cs esz e false)).set b .dead
  | _ => m.new (.cells cs esz e false)
theorem grow_next {m : Mem} {v : EV} {e esz : Nat} {cs : List EV} : (grow m v e esz cs).next = nb m.next 1 := by
  unfold grow; split <;> rfl
theorem grow_old {m : Mem} {v : EV} {e esz c : Nat} {cs : List EV} (hc : c < m.next) (ho : Off v c) : (grow m v e esz cs).get c = m.get c := by
  unfold grow
  split
  · rename_i b o n
    rw [get_set_ne (ho b o n none rfl), get_new, if_neg (by omega)]
  · rw [get_new, if_neg (by omega)]
theorem append_grow {m : Mem} {v x : EV} {cs xs : List EV} {n k esz e lo : Nat} (h : Own m v cs n esz lo) (hlo : lo ≤ m.next) (hx : m.source esz x = some (k, xs)) (hxl : xs.length = k * esz) (hk : k ≠ 0) (hr : n + k ≤ room) :
    evAppend m e esz v x = some (.slice (nb m.next 0) 0 (n + k) none, grow m v e esz (cs ++ xs)) ∧ Own (grow m v e esz (cs ++ xs)) (.slice (nb m.next 0) 0 (n + k) none) (cs ++ xs) (n + k) esz lo := by
  have hlen : (cs ++ xs).length = (n + k) * esz := by rw [List.length_append, h.len, hxl, Nat.add_mul]
  have own : ∀ b', b' ≠ m.next → Own ((m.new (.cells (cs ++ xs) esz e false)).set b' .dead) (.slice (nb m.next 0) 0 (n + k) none) (cs ++ xs) (n + k) esz lo := fun b' hb' =>
    ⟨.inr ⟨m.next, none, e, rfl, hlo, by rw [next_set, next_new]; omega, by rw [get_set_ne (fun q => hb' q.symm), get_new, if_pos rfl], .inl rfl⟩, hlen⟩
  have own2 : Own (m.new (.cells (cs ++ xs) esz e false)) (.slice (nb m.next 0) 0 (n + k) none) (cs ++ xs) (n + k) esz lo :=
    ⟨.inr ⟨m.next, none, e, rfl, hlo, by rw [next_new]; omega, by rw [get_new, if_pos rfl], .inl rfl⟩, hlen⟩
  rcases h.is with ⟨rfl, rfl, rfl⟩ | ⟨b, cap, t, rfl, h1, h2, h3, h4⟩
  · refine ⟨?_, own2⟩
    unfold evAppend
    rw [hx]
    simp only [beq_ff hk, cond_false, Nat.ble_eq_true_of_le (show k ≤ room by omega), cond_true, List.nil_append, Nat.zero_add, grow, nb, Nat.add_zero]
  · have hrow := row_all h3 h.len
    rcases h4 with rfl | rfl
    · refine ⟨?_, own b (by omega)⟩
      unfold evAppend
      rw [hx]
      simp only [beq_ff hk, cond_false, Nat.ble_eq_true_of_le hr, cond_true, hrow, h3, beq_self, grow, nb, Nat.add_zero]
    · refine ⟨?_, own2⟩
      have hf : (n + k).ble n = false := by
        cases hb : (n + k).ble n with
        | false => rfl
        | true => have := Nat.le_of_ble_eq_true hb; omega
      unfold evAppend
      rw [hx]
      simp only [beq_ff hk, cond_false, Nat.ble_eq_true_of_le hr, cond_true, hrow, hf, grow, nb, Nat.add_zero]
theorem source_at {m : Mem} {b e esz : Nat} {vs : List EV} {ro : Bool} (hb : m.get b = .cells vs esz e ro) (h : vs.length = esz) {cap : Option Nat} : m.source esz (.slice b 0 1 cap) = some (1, vs) := by
  show (m.row b 0 (1 * esz)).map (fun cs => (1, cs)) = _
  rw [row_all hb (by omega)]; rfl
theorem Own.lt {m : Mem} {v : EV} {cs : List EV} {n esz lo c : Nat} (h : Own m v cs n esz lo) (hc : m.next ≤ c ∨ c < lo) : Off v c := by
  rcases h.is with ⟨rfl, _⟩ | ⟨b, cap, t, rfl, h1, h2, _⟩
  · exact Off.nil
  · exact Off.of (by omega)
end Go.Proofs.YtblcomejcahkdaaDoor.Ev
end
section
namespace Go.Proofs.YtblcomejcahkdaaDoor.Ev
open Go

def row (nl : Bool) (t e : Nat) (els : List (List EV)) : EV := bif nl && els.isEmpty then .nilslice else .fz t e els
theorem row_cases (nl : Bool) (t e : Nat) (els : List (List EV)) : (row nl t e els = .nilslice ∧ els = []) ∨ row nl t e els = .fz t e els := by
  unfold row
  cases nl
  · exact .inr rfl
  · cases els with
    | nil => exact .inl ⟨rfl, rfl⟩
    | cons a l => exact .inr rfl
section
variable {m : Mem} {nl : Bool} {t e : Nat} {els : List (List EV)} {ρ : Opd → EV}
def lenE (v : EV) (m : Mem) : Option R1 := match v with
  | .nilslice => some (.val (.int .i64 0) m)
  | .slice _ _ n _ => some (.val (.int .i64 (n : Int)) m)
  | .fz _ _ els => some (.val (.int .i64 (els.length : Int)) m)
  | _ => none
@[congr] theorem lenE_congr {v v' : EV} (h : v = v') : lenE v m = lenE v' m := by rw [h]
theorem evOp_len' {x : Opd} : evOp ρ (.len x) m = lenE (ρ x) m := rfl
theorem lenE_nil : lenE .nilslice m = some (.val (.int .i64 0) m) := rfl
theorem lenE_slice {b off n : Nat} {c : Option Nat} : lenE (.slice b off n c) m = some (.val (.int .i64 (n : Int)) m) := rfl
theorem lenE_fz : lenE (.fz t e els) m = some (.val (.int .i64 (els.length : Int)) m) := rfl
theorem lenE_row : lenE (row nl t e els) m = some (.val (.int .i64 (els.length : Int)) m) := by
  rcases row_cases nl t e els with ⟨h, rfl⟩ | h <;> rw [h] <;> rfl
def optI (o : Option Nat) (k : Nat → EV) (m : Mem) : Option R1 := match o with
  | some i => some (.val (k i) m)
  | none => none
theorem optI_some {i : Nat} {k : Nat → EV} : optI (some i) k m = some (.val (k i) m) := rfl
@[congr] theorem optI_congr {o o' : Option Nat} {k : Nat → EV} (h : o = o') : optI o k m = optI o' k m := by rw [h]
def iaddrE (e : Nat) (x i : EV) (m : Mem) : Option R1 := match x with
  | .slice b off len _ => optI (idx len i) (fun j => .ptr b (off + j * e)) m
  | .fz _ f els => bif f.beq e then optI (idx els.length i) (fun j => .fptr f els j 0) m else none
  | _ => none
@[congr] theorem iaddrE_congr {x x' i i' : EV} (h : x = x') (h' : i = i') : iaddrE e x i m = iaddrE e x' i' m := by rw [h, h']
theorem evOp_iaddr' {x i : Opd} : evOp ρ (.iaddr e x i) m = iaddrE e (ρ x) (ρ i) m := rfl
theorem iaddrE_slice {b off n : Nat} {c : Option Nat} {i : EV} : iaddrE e (.slice b off n c) i m = optI (idx n i) (fun j => .ptr b (off + j * e)) m := rfl
theorem iaddrE_fz {i : EV} : iaddrE e (.fz t e els) i m = optI (idx els.length i) (fun j => .fptr e els j 0) m := by
  simp only [iaddrE, Nat.beq_refl, cond_true]
theorem iaddrE_row {i : EV} : iaddrE e (row nl t e els) i m = optI (idx els.length i) (fun j => .fptr e els j 0) m := by
  rcases row_cases nl t e els with ⟨h, rfl⟩ | h
  · rw [h]
    show none = optI (idx 0 i) _ m
    have : idx 0 i = none := by unfold idx; split <;> rfl
    rw [this]; rfl
  · rw [h]; exact iaddrE_fz
def ldF (agg : Option Nat) (o : Option (List EV)) (k : Nat) : Option EV := match o with
  | some el => partOf agg el k
  | none => none
@[congr] theorem ldF_congr {agg : Option Nat} {o o' : Option (List EV)} {k : Nat} (h : o = o') : ldF agg o k = ldF agg o' k := by rw [h]
theorem ldF_some {agg : Option Nat} {el : List EV} {k : Nat} : ldF agg (some el) k = partOf agg el k := rfl
theorem load_fptr {agg : Option Nat} {i k : Nat} : m.load agg (.fptr e els i k) = ldF agg els[i]? k := by
  simp only [Mem.load, ldF]; cases els[i]? <;> rfl
def faddrE (off : Nat) (x : EV) (m : Mem) : Option R1 := match x with
  | .ptr b o => some (.val (.ptr b (o + off)) m)
  | .fptr e els i k => some (.val (.fptr e els i (k + off)) m)
  | _ => none
theorem source_fz : m.source e (.fz t e els) = some (els.length, els.flatten) := by simp only [Mem.source, Nat.beq_refl, cond_true]
theorem source_row : m.source e (row nl t e els) = some (els.length, els.flatten) := by
  rcases row_cases nl t e els with ⟨h, rfl⟩ | h
  · rw [h]; rfl
  · rw [h]; exact source_fz
theorem cells_fz : (EV.fz t e els).cells = some [.fz t e els] := rfl
theorem cells_row : (row nl t e els).cells = some [row nl t e els] := by
  rcases row_cases nl t e els with ⟨h, rfl⟩ | h <;> rw [h] <;> rfl
theorem cells_fptr {i k : Nat} : (EV.fptr e els i k).cells = some [.fptr e els i k] := rfl
theorem eq_fn : evEq (.prim 4) (.fz t e els) .nilslice = some false := rfl
theorem eq_nf : evEq (.prim 4) .nilslice (.fz t e els) = some false := rfl
theorem eq_rn : evEq (.prim 4) (row nl t e els) .nilslice = some (nl && els.isEmpty) := by
  unfold row; cases nl && els.isEmpty <;> rfl
def part2 (nl : Bool) (e : Nat) (els : List (List EV)) (lo : Option EV) (h : Option Nat) (m : Mem) : Option R1 := match h with
  | some h => optI (bound lo 0 h) (fun l => row nl 0 e ((els.take h).drop l)) m
  | none => none
@[congr] theorem part2_congr {lo : Option EV} {h h' : Option Nat} (q : h = h') : part2 nl e els lo h m = part2 nl e els lo h' m := by rw [q]
theorem part2_some {lo : Option EV} {h : Nat} : part2 nl e els lo (some h) m = optI (bound lo 0 h) (fun l => row nl 0 e ((els.take h).drop l)) m := rfl
theorem evOp_slsl_row {x : Opd} {lo hi : Option Opd} (hx : ρ x = row nl t e els) : evOp ρ (.slsl e x lo hi none) m = part2 (nl && els.isEmpty) e els (lo.map ρ) (bound (hi.map ρ) els.length els.length) m := by
  have hf : (nl && els.isEmpty) = false → ρ x = .fz t e els := by
    intro h; rw [hx]; unfold row; rw [h]; rfl
  cases hn : nl && els.isEmpty with
  | true =>
    obtain ⟨rfl, hE⟩ := Bool.and_eq_true_iff.1 hn
    have : els = [] := List.isEmpty_iff.1 hE
    subst this
    have hx' : ρ x = .nilslice := hx
    simp only [evOp, hx', Option.map_none, bound_none, List.length_nil]
    cases h1 : bound (hi.map ρ) 0 0 with
    | none => rfl
    | some h =>
      have h0 : h = 0 := by
        have := bound_le h1 (Nat.le_refl 0)
        omega
      subst h0
      simp only [part2, optI]
      cases h2 : bound (lo.map ρ) 0 0 with
      | none => rfl
      | some l => simp [row]
  | false =>
    simp only [evOp, hf hn, Nat.beq_refl, cond_true]
    cases h1 : bound (hi.map ρ) els.length els.length with
    | none => rfl
    | some h =>
      simp only [part2, optI]
      cases h2 : bound (lo.map ρ) 0 h with
      | none => rfl
      | some l => simp [row]

def slslF (e : Nat) (v : EV) (lo hi mx : Option EV) (m : Mem) : Option R1 := match v with
    | .nilslice => match bound mx 0 0, bound hi 0 0, bound lo 0 0 with
      | some _, some _, some _ => some (.val .nilslice m)
      | _, _, _ => none
    | .slice b off len (some c) => ofEV m (evSlice e b off len (some c) lo hi mx)
    | .slice b off len none => match m.get b with
      | .cells _ f _ _ => bif f.beq e then ofEV m (evSlice e b off len none lo hi mx) else none
      | _ => none
    | .fz _ f els => match mx with
      | none => bif f.beq e then
          match bound hi els.length els.length with
          | some h => match bound lo 0 h with
            | some l => some (.val (.fz 0 f ((els.take h).drop l)) m)
            | none => none
          | none => none
        else none
      | some _ => none
    | _ => none
@[congr] theorem slslF_congr {v v' : EV} {lo lo' hi hi' mx mx' : Option EV} (h : v = v') (h1 : lo = lo') (h2 : hi = hi') (h3 : mx = mx') : slslF e v lo hi mx m = slslF e v' lo' hi' mx' m := by rw [h, h1, h2, h3]
theorem evOp_slsl' {x : Opd} {lo hi mx : Option Opd} : evOp ρ (.slsl e x lo hi mx) m = slslF e (ρ x) (lo.map ρ) (hi.map ρ) (mx.map ρ) m := by
  simp only [evOp, slslF]
  cases ρ x <;> try rfl
  · rename_i b off len cap
    cases cap
    · simp only; cases m.get b <;> rfl
    · rfl
  · cases mx <;> rfl
theorem slslF_nil {lo hi : Option EV} : slslF e .nilslice lo hi none m = (match bound hi 0 0, bound lo 0 0 with
      | some _, some _ => some (.val .nilslice m)
      | _, _ => none) := by
  simp only [slslF, bound_none]; cases bound hi 0 0 <;> cases bound lo 0 0 <;> rfl
theorem slslF_some {b off len c : Nat} {lo hi mx : Option EV} : slslF e (.slice b off len (some c)) lo hi mx m = ofEV m (evSlice e b off len (some c) lo hi mx) := rfl
def slB (e b off len : Nat) (lo hi mx : Option EV) (m : Mem) (B : Blk) : Option R1 := match B with
  | .cells _ f _ _ => bif f.beq e then ofEV m (evSlice e b off len none lo hi mx) else none
  | _ => none
@[congr] theorem slB_congr {b off len : Nat} {lo hi mx : Option EV} {B B' : Blk} (h : B = B') : slB e b off len lo hi mx m B = slB e b off len lo hi mx m B' := by rw [h]
theorem slslF_none {b off len : Nat} {lo hi mx : Option EV} : slslF e (.slice b off len none) lo hi mx m = slB e b off len lo hi mx m (m.get b) := by
  simp only [slslF, slB]
theorem slB_cells {b off len t : Nat} {lo hi mx : Option EV} {cs : List EV} {ro : Bool} : slB e b off len lo hi mx m (.cells cs e t ro) = ofEV m (evSlice e b off len none lo hi mx) := by simp only [slB, Nat.beq_refl, cond_true]
theorem slslF_row {lo hi : Option EV} : slslF e (row nl t e els) lo hi none m = part2 (nl && els.isEmpty) e els lo (bound hi els.length els.length) m := by
  have := evOp_slsl_row (m := m) (nl := nl) (t := t) (e := e) (els := els) (ρ := fun o => match o with | .tmp 0 => row nl t e els | .tmp 1 => lo.getD .undef | .tmp _ => hi.getD .undef | .const x => x) (x := .tmp 0) (lo := lo.map fun _ => .tmp 1) (hi := hi.map fun _ => .tmp 2) rfl
  rw [evOp_slsl'] at this
  cases lo <;> cases hi <;> exact this
theorem slslF_fz {lo hi : Option EV} : slslF e (.fz t e els) lo hi none m = part2 false e els lo (bound hi els.length els.length) m := by
  have := slslF_row (m := m) (nl := false) (t := t) (e := e) (els := els) (lo := lo) (hi := hi)
  exact this

def frzV (m : Mem) (v : EV) : Option EV := frz (freezes 7 m) m v
def frzL (m : Mem) (l : List EV) : Option (List EV) := freezes deep m l
def consO (a : Option EV) (b : Option (List EV)) : Option (List EV) := match a, b with
  | some a, some b => some (a :: b)
  | _, _ => none
theorem consO_some {a : EV} {b : List EV} : consO (some a) (some b) = some (a :: b) := rfl
theorem frzL_nil : frzL m [] = some [] := rfl
theorem frzL_cons {v : EV} {l : List EV} : frzL m (v :: l) = consO (frzV m v) (frzL m l) := by
  show frzs (freezes 7 m) m (v :: l) = _
  simp only [frzs]
  show _ = consO (frz (freezes 7 m) m v) (frzs (freezes 7 m) m l)
  cases frz (freezes 7 m) m v <;> cases frzs (freezes 7 m) m l <;> rfl
theorem frzV_undef : frzV m .undef = some .undef := rfl
theorem frzV_bool {b : Bool} : frzV m (.bool b) = some (.bool b) := rfl
theorem frzV_bo {p : Prop} : frzV m (bo p) = some (bo p) := rfl
theorem frzV_int {k : IntKind} {n : Int} : frzV m (.int k n) = some (.int k n) := rfl
theorem frzV_str {s : List UInt8} : frzV m (.str s) = some (.str s) := rfl
theorem frzV_nilslice : frzV m .nilslice = some .nilslice := rfl
theorem frzV_nilptr : frzV m .nilptr = some .nilptr := rfl
theorem frzV_niliface : frzV m .niliface = some .niliface := rfl
theorem frzV_fz : frzV m (.fz t e els) = some (.fz 0 e els) := by simp only [frzV, frz]
theorem frzV_row : frzV m (row nl t e els) = some (row nl 0 e els) := by
  unfold row; cases nl && els.isEmpty
  · exact frzV_fz
  · rfl
theorem frzV_agg {x : List EV} : frzV m (.agg x) = (frzL m x).map .agg := by simp only [frzV, frz]; rfl
theorem frzV_tuple {x : List EV} : frzV m (.tuple x) = (frzL m x).map .tuple := by simp only [frzV, frz]; rfl
mutual
def plain : EV → Bool
  | .ptr _ _ | .slice _ _ _ _ | .map _ | .fptr _ _ _ _ => false
  | .fz t _ _ => t.beq 0
  | .func _ x y => plains x && plains y
  | .iface _ v => plain v
  | .agg x | .tuple x => plains x
  | _ => true
def plains : List EV → Bool
  | [] => true
  | v :: l => plain v && plains l
end
mutual
theorem frz_plain {F : List EV → Option (List EV)} : ∀ {v : EV}, plain v = true → frz F m v = some v
  | .undef, _ | .bool _, _ | .int _ _, _ | .str _, _ | .nilptr, _ | .nilslice, _ | .nilmap, _ | .nilfunc, _ | .niliface, _ => by simp only [frz]
  | .ptr _ _, h | .slice _ _ _ _, h | .map _, h | .fptr _ _ _ _, h => by simp [plain] at h
  | .fz t e els, h => by simp only [plain] at h; rw [of_beq h]; simp only [frz]
  | .func f x y, h => by
    simp only [plain, Bool.and_eq_true] at h
    simp only [frz, frzs_plain h.1, frzs_plain h.2]
  | .iface t v, h => by simp only [frz, frz_plain (v := v) (by simpa only [plain] using h), Option.map_some]
  | .agg x, h => by simp only [frz, frzs_plain (l := x) (by simpa only [plain] using h), Option.map_some]
  | .tuple x, h => by simp only [frz, frzs_plain (l := x) (by simpa only [plain] using h), Option.map_some]
theorem frzs_plain {F : List EV → Option (List EV)} : ∀ {l : List EV}, plains l = true → frzs F m l = some l
  | [], _ => rfl
  | v :: l, h => by
    simp only [plains, Bool.and_eq_true] at h
    simp only [frzs, frz_plain h.1, frzs_plain h.2]
end
theorem plains_append : ∀ {a b : List EV}, plains (a ++ b) = (plains a && plains b)
  | [], b => by simp [plains]
  | v :: a, b => by simp only [List.cons_append, plains, plains_append (a := a), Bool.and_assoc]
theorem plains_flatten : ∀ {els : List (List EV)}, (∀ el ∈ els, plains el = true) → plains els.flatten = true
  | [], _ => rfl
  | el :: els, h => by rw [List.flatten_cons, plains_append, h el (by simp), plains_flatten fun x hx => h x (by simp [hx])]; rfl
theorem chunk_flatten : ∀ {els : List (List EV)}, (∀ el ∈ els, el.length = e) → chunk e els.length els.flatten = els
  | [], _ => rfl
  | el :: els, h => by
    have he := h el (by simp)
    rw [List.length_cons, List.flatten_cons, chunk, List.take_append_of_le_length (by omega), List.drop_append_of_le_length (by omega), ← he, List.take_length, List.drop_length, List.nil_append, he, chunk_flatten fun x hx => h x (by simp [hx])]
theorem frzV_block {b ty : Nat} {cap : Option Nat} {ro : Bool} (hb : m.get b = .cells els.flatten e ty ro) (hl : ∀ el ∈ els, el.length = e) (hp : ∀ el ∈ els, plains el = true) (hc : capOk cap els.length = true) : frzV m (.slice b 0 els.length cap) = some (.fz 0 e els) := by
  have hlen : els.flatten.length = els.length * e := flat_len hl
  simp only [frzV, frz, hb, hc, cond_true, Nat.ble_eq_true_of_le (show 0 + els.length * e ≤ els.flatten.length by omega), List.drop_zero]
  rw [← hlen, List.take_length]
  show (frzs (freezes 6 m) m els.flatten).map _ = _
  rw [frzs_plain (plains_flatten hp), Option.map_some, chunk_flatten hl]
theorem closed_row : closed (row nl t e els) = true := by
  unfold row; cases nl && els.isEmpty <;> rfl
theorem closeds_nil : closeds [] = true := rfl
theorem closeds_cons {v : EV} {l : List EV} : closeds (v :: l) = (closed v && closeds l) := by simp only [closeds]
theorem closed_fz : closed (.fz t e els) = true := rfl
theorem closed_int {k : IntKind} {n : Int} : closed (.int k n) = true := rfl
theorem closed_bool {b : Bool} : closed (.bool b) = true := rfl
theorem closed_bo {p : Prop} : closed (bo p) = true := rfl
theorem closed_str {s : List UInt8} : closed (.str s) = true := rfl
theorem closed_nilslice : closed .nilslice = true := rfl
theorem closed_agg {x : List EV} : closed (.agg x) = closeds x := by simp only [closed]
theorem closed_tuple {x : List EV} : closed (.tuple x) = closeds x := by simp only [closed]

theorem Flat_int {k : IntKind} {n : Int} : Flat (.int k n) = true := rfl
theorem Flat_bool {b : Bool} : Flat (.bool b) = true := rfl
theorem Flat_bo {p : Prop} : Flat (bo p) = true := rfl
theorem Flat_str {s : List UInt8} : Flat (.str s) = true := rfl
theorem Flat_agg {x : List EV} : Flat (.agg x) = flats x := by simp only [Flat]
theorem Flat_tuple {x : List EV} : Flat (.tuple x) = flats x := by simp only [Flat]
theorem flats_nil : flats [] = true := rfl
theorem flats_cons {v : EV} {l : List EV} : flats (v :: l) = (Flat v && flats l) := by simp only [flats]

def tagV (i : Nat) (v : EV) : EV := match v with
  | .fz _ e els => .fz i e els
  | v => v
theorem tagArgs_nil {i : Nat} : tagArgs i [] = [] := rfl
theorem tagArgs_cons {i : Nat} {v : EV} {l : List EV} : tagArgs i (v :: l) = tagV i v :: tagArgs (i + 1) l := rfl
theorem tagV_fz {i : Nat} : tagV i (.fz t e els) = .fz i e els := rfl
theorem tagV_row {i : Nat} : tagV i (row nl t e els) = row nl i e els := by
  unfold row; cases nl && els.isEmpty <;> rfl
theorem tagV_int {i : Nat} {k : IntKind} {n : Int} : tagV i (.int k n) = .int k n := rfl
theorem tagV_bool {i : Nat} {b : Bool} : tagV i (.bool b) = .bool b := rfl
theorem tagV_bo {i : Nat} {p : Prop} : tagV i (bo p) = bo p := rfl
theorem tagV_str {i : Nat} {s : List UInt8} : tagV i (.str s) = .str s := rfl
theorem tagV_nilslice {i : Nat} : tagV i .nilslice = .nilslice := rfl
theorem tagV_agg {i : Nat} {x : List EV} : tagV i (.agg x) = .agg x := rfl
def p0E (o : Option EV) (m : Mem) : Option Fin := match o with
  | some V => bif Flat V then some (.ret V m) else none
  | none => none
@[congr] theorem p0E_congr {o o' : Option EV} (h : o = o') : p0E o m = p0E o' m := by rw [h]
theorem p0E_some {V : EV} (h : Flat V = true) : p0E (some V) m = some (.ret V m) := by simp only [p0E, h, cond_true]
def p1E (o : Option EV) (m : Mem) : Option Fin := match o with
  | some V => some (.ret V ⟨m.next + 1, m.tbl⟩)
  | none => none
@[congr] theorem p1E_congr {o o' : Option EV} (h : o = o') : p1E o m = p1E o' m := by rw [h]
theorem p1E_some {V : EV} : p1E (some V) m = some (.ret V (bump m 1)) := rfl
def callO (g : List EV → Option EV) (o : Option (List EV)) : Option EV := match o with
  | some asx => g (tagArgs 1 asx)
  | none => none
@[congr] theorem callO_congr {g : List EV → Option EV} {o o' : Option (List EV)} (h : o = o') : callO g o = callO g o' := by rw [h]
theorem callO_some {g : List EV → Option EV} {asx : List EV} : callO g (some asx) = g (tagArgs 1 asx) := rfl
end
class HasF (T : Nat → Option Ent) (f : Nat) (F : outParam IFun) : Prop where
  has : T f = some (.go F)
section
variable {T : Nat → Option Ent} {K : Nat → Nat} {m : Mem}
class Sort0 (K : Nat → Nat) (f : Nat) : Prop where
  s : K f = 1
class Sort1 (K : Nat → Nat) (f : Nat) : Prop where
  s : K f = 2
class Sort2 (K : Nat → Nat) (f : Nat) : Prop where
  s : K f = 0
theorem run_p0 {f : Nat} [h : Sort0 K f] {args : List EV} : run (UT T K) f args m = p0E (callO (pureR T K f) (frzL m args)) m := by
  rw [run_spec (g := pureG0 (pureR T K f)) (by unfold UT PT; rw [h.s]; rfl)]
  unfold pureG0 frzL
  cases freezes deep m args <;> rfl
theorem run_p1 {f : Nat} [h : Sort1 K f] {args : List EV} : run (UT T K) f args m = bif closeds args then p1E (callO (pureR T K f) (frzL m args)) m else none := by
  rw [run_spec (g := pureG1 (pureR T K f)) (by unfold UT PT; rw [h.s]; rfl)]
  unfold pureG1 frzL
  cases closeds args
  · rfl
  · cases freezes deep m args <;> rfl
theorem run_p2 {f : Nat} {F : IFun} [h : Sort2 K f] [hF : HasF T f F] {args : List EV} (hn : args.length ≤ F.ntmps) : run (UT T K) f args m = resR F.results (exec (UT T K) F.body (argsF args 0 fr00) m) :=
  run_go' (by unfold UT PT; rw [h.s]; exact hF.has) hn
noncomputable def frR (o : Option Fin) : Option EV := match o with
  | some (.ret v m) => frzV m v
  | _ => none
@[congr] theorem frR_congr {o o' : Option Fin} (h : o = o') : frR o = frR o' := by rw [h]
theorem frR_ret {v : EV} : frR (some (.ret v m)) = frzV m v := rfl
open Classical in
noncomputable def ifO (p : Prop) (a b : Option EV) : Option EV := if p then a else b
theorem frR_iF {p : Prop} {a b : Option Fin} : frR (iF p a b) = ifO p (frR a) (frR b) := by unfold iF ifO; split <;> rfl
theorem ifO_pos {p : Prop} {a b : Option EV} (h : p) : ifO p a b = a := if_pos h
theorem ifO_neg {p : Prop} {a b : Option EV} (h : ¬ p) : ifO p a b = b := if_neg h
@[congr] theorem ifO_congr {p q : Prop} {a a' b b' : Option EV} (h : p = q) (ha : q → a = a') (hb : ¬ q → b = b') : ifO p a b = ifO q a' b' := by
  subst h; unfold ifO; split
  · exact ha ‹_›
  · exact hb ‹_›
theorem pure_at {f : Nat} {F : IFun} [h : HasF T f F] {asx : List EV} (hn : asx.length ≤ F.ntmps) : pureR T K f asx = frR (resR F.results (exec (UT T K) F.body (argsF asx 0 fr00) mem00)) := by
  rw [pureR_eq h.has]
  unfold bodyP
  rw [Nat.ble_eq_true_of_le hn, cond_true, resE_eq]
  rw [show (⟨args0 asx 0 .leaf, []⟩ : Fr) = argsF asx 0 fr00 by unfold fr00; rw [argsF_eq]]
  cases resR F.results (exec (UT T K) F.body (argsF asx 0 fr00) mem00) with
  | none => rfl
  | some fin =>
    cases fin with
    | pan v m => rfl
    | ret v m =>
      simp only [frR_ret]
      show (match frzs (freezes 7 m) m [v] with | some [V] => some V | _ => none) = frz (freezes 7 m) m v
      simp only [frzs]
      cases frz (freezes 7 m) m v <;> rfl
end
end Go.Proofs.YtblcomejcahkdaaDoor.Ev
end
section
namespace Go.Proofs.YtblcomejcahkdaaDoor.Ev
open Go
def ExtFlat (g : List EV → Option EV) : Prop := ∀ args v, g args = some v → flats args = true ∧ Flat v = true
def EntOkS : Ent → Prop
  | .go F => okFun F = true
  | .ext g | .pure g => ExtFlat g
  | .spec _ => False
  | .dgo _ _ => False
theorem ent_go {T : Nat → Option Ent} {f : Nat} {F : IFun} (he : T f = some (.go F)) (h : okFun F = true) : EntS T f (.go F) := ⟨F, he, okFun_G h, (okFun_sub h).symm⟩
theorem ent_sub {T : Nat → Option Ent} {f : Nat} {F F1 : IFun} (he : T f = some (.go F)) (h : okFunG F = true) (hs : F1 = F.sub) : EntS T f (.go F1) := ⟨F, he, h, hs⟩
theorem up_ent {T B : Nat → Option Ent} (h : ∀ f e, B f = some e → EntS T f e) {g : Nat} {e0 : Ent} (h0 : EntS T g e0) : ∀ f e, up B g e0 f = some e → EntS T f e := by
  intro f e he
  unfold up at he
  cases hb : f.beq g <;> simp only [hb, cond_true, cond_false] at he
  · exact h f e he
  · cases he; rw [of_beq hb]; exact h0
theorem works_ent {T B : Nat → Option Ent} (h : ∀ f e, B f = some e → EntS T f e) {f : Nat} {F1 : IFun} (hB : B f = some (.go F1)) {k : Nat} (hw : isTrue (evFun B k f [] mem00) = true) : EntS T f (.pure xTrue) := by
  obtain ⟨F, hT, hok, rfl⟩ := h f _ hB
  obtain ⟨m1, hm⟩ := isTrue_of hw
  cases k with
  | zero => simp [evFun] at hm
  | succ k =>
    simp only [evFun, hB, evEnt] at hm
    have hb : bodyP B F.sub [] = some (.bool true) := bodyP_of hm (by rfl)
    have hp := pure0_ent h hT hok (g := fun asx => match asx with | [] => some (.bool true) | _ => none) (fun asx V hv => by
      cases asx with
      | nil => cases hv; exact hb
      | cons a asx => cases hv)
    intro θ m m' args args' v hg ha hx
    unfold xTrue at hx
    split at hx
    · cases hx
      exact hp θ m m' [] args' (.ret (.bool true) m) hg ha (by rfl)
    · cases hx
def memB (f : Nat) : List Nat → Bool
  | [] => false
  | a :: l => bif a.beq f then true else memB f l
end Go.Proofs.YtblcomejcahkdaaDoor.Ev
end
section
namespace Go.Proofs.YtblcomejcahkdaaDoor.Ev
open Go

/- balustrade/tree.Sign -/
def S_tree_Sign : IFun :=
 ⟨15,
 (.seq
 (.region [⟨(some 2), (.val (.mov (.const (.str [])))), none⟩])
 (.seq
 (.seq
 (.region [⟨(some 3), (.val (.mov (.tmp 0))), none⟩,
 ⟨(some 4), (.val (.bin .lss (.tmp 3) (.const (.int .i64 0)))), none⟩,
 ⟨(some 5), (.val (.mov (.tmp 4))), none⟩,
 ⟨(some 6), (.val (.mov (.tmp 0))), (some (5, false))⟩,
 ⟨(some 7), (.val (.load none (.const (glV L_tree_signs)))), (some (5, false))⟩,
 ⟨(some 8), (.val (.len (.tmp 7))), (some (5, false))⟩,
 ⟨(some 9), (.val (.bin .geq (.tmp 6) (.tmp 8))), (some (5, false))⟩,
 ⟨(some 10), (.val (.pick (.tmp 5) (.const (.bool true)) (.tmp 9))), none⟩])
 (.cond (.tmp 10)
 (.seq
 (.region [⟨(some 2), (.val (.mov (.const (.str [])))), none⟩])
 .ret)
 .skip))
 (.seq
 (.region [⟨(some 11), (.val (.load none (.const (glV L_tree_signs)))), none⟩,
 ⟨(some 12), (.val (.mov (.tmp 0))), none⟩,
 ⟨(some 13), (.val (.iaddr 1 (.tmp 11) (.tmp 12))), none⟩,
 ⟨(some 14), (.val (.load none (.tmp 13))), none⟩,
 ⟨(some 2), (.val (.mov (.tmp 14))), none⟩])
 .ret))),
 [.tmp 2]⟩
theorem sub21 : S_tree_Sign = F_tree_Sign.sub := by kernel_rfl

/- balustrade/tree.Op -/
def S_tree_Op : IFun :=
 ⟨7,
 (.seq
 (.region [⟨(some 2), (.val (.mov (.const (.int .i64 0)))), none⟩])
 (.seq
 (.region [⟨(some 3), (.val (.load none (.const (glV L_tree_signs)))), none⟩,
 ⟨(some 4), (.val (.mov (.tmp 0))), none⟩,
 ⟨(some 5), (.call (.const (.func 41 [] [])) [(.tmp 3), (.tmp 4)]), none⟩,
 ⟨(some 6), (.val (.max [(.const (.int .i64 0)), (.tmp 5)])), none⟩,
 ⟨(some 2), (.val (.mov (.tmp 6))), none⟩])
 .ret)),
 [.tmp 2]⟩
theorem sub22 : S_tree_Op = F_tree_Op.sub := by kernel_rfl

/- balustrade/tree.name -/
def S_tree_name_l0 : ICode :=
 (.seq
 (.region [⟨(some 10), (.val (.bin .lss (.tmp 9) (.tmp 8))), none⟩])
 (.seq
 (.cond (.tmp 10)
 .skip
 (.exit 0))
 (.seq
 (.block 1
 (.seq
 (.region [⟨(some 11), (.val (.mov (.tmp 9))), none⟩,
 ⟨(some 12), (.val (.iaddr 1 (.tmp 7) (.tmp 9))), none⟩,
 ⟨(some 13), (.val (.load none (.tmp 12))), none⟩,
 ⟨(some 3), (.val (.mov (.tmp 11))), none⟩,
 ⟨(some 4), (.val (.mov (.tmp 13))), none⟩])
 (.seq
 (.region [⟨(some 14), (.val (.mov (.tmp 4))), none⟩,
 ⟨(some 15), (.val (.bin .or (.tmp 14) (.const (.int .u8 32)))), none⟩,
 ⟨(some 16), (.val (.bin .geq (.tmp 15) (.const (.int .u8 97)))), none⟩,
 ⟨(some 17), (.val (.mov (.tmp 16))), none⟩,
 ⟨(some 18), (.val (.mov (.tmp 4))), (some (17, true))⟩,
 ⟨(some 19), (.val (.bin .or (.tmp 18) (.const (.int .u8 32)))), (some (17, true))⟩,
 ⟨(some 20), (.val (.bin .leq (.tmp 19) (.const (.int .u8 122)))), (some (17, true))⟩,
 ⟨(some 21), (.val (.pick (.tmp 17) (.tmp 20) (.const (.bool false)))), none⟩,
 ⟨(some 22), (.val (.mov (.tmp 21))), none⟩,
 ⟨(some 23), (.val (.mov (.tmp 4))), (some (22, false))⟩,
 ⟨(some 24), (.val (.eq false (.prim 1) (.tmp 23) (.const (.int .u8 95)))), (some (22, false))⟩,
 ⟨(some 25), (.val (.pick (.tmp 22) (.const (.bool true)) (.tmp 24))), none⟩,
 ⟨(some 5), (.val (.mov (.tmp 25))), none⟩])
 (.seq
 (.region [⟨(some 26), (.val (.mov (.tmp 5))), none⟩,
 ⟨(some 27), (.val (.un .not (.tmp 26))), none⟩,
 ⟨(some 28), (.val (.mov (.tmp 27))), none⟩,
 ⟨(some 29), (.val (.mov (.tmp 3))), (some (28, true))⟩,
 ⟨(some 30), (.val (.eq false (.prim 1) (.tmp 29) (.const (.int .i64 0)))), (some (28, true))⟩,
 ⟨(some 31), (.val (.mov (.tmp 30))), (some (28, true))⟩,
 ⟨(some 32), (.val (.mov (.tmp 4))), (some (31, false))⟩,
 ⟨(some 33), (.val (.bin .lss (.tmp 32) (.const (.int .u8 48)))), (some (31, false))⟩,
 ⟨(some 34), (.val (.pick (.tmp 31) (.const (.bool true)) (.tmp 33))), (some (28, true))⟩,
 ⟨(some 35), (.val (.mov (.tmp 34))), (some (28, true))⟩,
 ⟨(some 36), (.val (.mov (.tmp 4))), (some (35, false))⟩,
 ⟨(some 37), (.val (.bin .gtr (.tmp 36) (.const (.int .u8 57)))), (some (35, false))⟩,
 ⟨(some 38), (.val (.pick (.tmp 35) (.const (.bool true)) (.tmp 37))), (some (28, true))⟩,
 ⟨(some 39), (.val (.pick (.tmp 28) (.tmp 38) (.const (.bool false)))), none⟩])
 (.cond (.tmp 39)
 (.seq
 (.region [⟨(some 2), (.val (.mov (.const (.bool false)))), none⟩])
 .ret)
 .skip)))))
 (.region [⟨(some 40), (.val (.bin .add (.tmp 9) (.const (.int .i64 1)))), none⟩,
 ⟨(some 9), (.val (.mov (.tmp 40))), none⟩]))))
def S_tree_name : IFun :=
 ⟨54,
 (.seq
 (.region [⟨(some 2), (.val (.mov (.const (.bool false)))), none⟩])
 (.seq
 (.seq
 (.region [⟨(some 6), (.val (.mov (.tmp 0))), none⟩,
 ⟨(some 7), (.val (.conv (.bytes 5) (.tmp 6))), none⟩,
 ⟨(some 8), (.val (.len (.tmp 7))), none⟩,
 ⟨(some 9), (.val (.mov (.const (.int .i64 0)))), none⟩])
 (.block 0
 (.loop S_tree_name_l0)))
 (.seq
 (.region [⟨(some 41), (.val (.mov (.tmp 0))), none⟩,
 ⟨(some 42), (.val (.eq true (.prim 2) (.tmp 41) (.const (.str [])))), none⟩,
 ⟨(some 43), (.val (.mov (.tmp 42))), none⟩,
 ⟨(some 44), (.val (.mov (.tmp 0))), (some (43, true))⟩,
 ⟨(some 45), (.val (.lenstr (.tmp 44))), (some (43, true))⟩,
 ⟨(some 46), (.val (.bin .leq (.tmp 45) (.const (.int .i64 32)))), (some (43, true))⟩,
 ⟨(some 47), (.val (.pick (.tmp 43) (.tmp 46) (.const (.bool false)))), none⟩,
 ⟨(some 48), (.val (.mov (.tmp 47))), none⟩,
 ⟨(some 49), (.val (.load none (.const (glV L_tree_words)))), (some (48, true))⟩,
 ⟨(some 50), (.val (.mov (.tmp 0))), (some (48, true))⟩,
 ⟨(some 51), (.call (.const (.func 62 [] [])) [(.tmp 49), (.tmp 50)]), (some (48, true))⟩,
 ⟨(some 52), (.val (.un .not (.tmp 51))), (some (48, true))⟩,
 ⟨(some 53), (.val (.pick (.tmp 48) (.tmp 52) (.const (.bool false)))), none⟩,
 ⟨(some 2), (.val (.mov (.tmp 53))), none⟩])
 .ret))),
 [.tmp 2]⟩
theorem sub52 : S_tree_name = F_tree_name.sub := by kernel_rfl

end Go.Proofs.YtblcomejcahkdaaDoor.Ev
end
section
namespace Go.Proofs.YtblcomejcahkdaaDoor.Ev
open Go
def treeS : Bt :=
  (.node 35 (.go F_r06_own) (.node 19 (.go F_r06_Height) (.node 11 (.go F_tree_Text) (.node 7 (.go F_l06_few) (.node 5 (.go F_l06_TreeTells) (.node 4 (.go F_l06_TreeParts) (.node 3 (.go F_l06_TreeAlike) .leaf .leaf) .leaf) (.node 6 (.go F_l06_TreeWords) .leaf .leaf)) (.node 9 (.go F_tree_Alike) (.node 8 (.go F_l06_works) .leaf .leaf) (.node 10 (.go F_base_SameNodes) .leaf .leaf))) (.node 15 (.go F_tree_Heights) (.node 13 (.go F_r06_Right) (.node 12 (.go F_tree_Right) .leaf .leaf) (.node 14 (.go F_r06_Part) .leaf .leaf)) (.node 17 (.go F_tree_Whole) (.node 16 (.go F_r06_Tell) .leaf .leaf) (.node 18 (.go F_r06_Whole) .leaf .leaf)))) (.node 27 (.go F_tree_Alike_1) (.node 23 (.go F_tree_Kind) (.node 21 (.go S_tree_Sign) (.node 20 (.go F_r06_Signs) .leaf .leaf) (.node 22 (.go S_tree_Op) .leaf .leaf)) (.node 25 (.go F_base_SameInts) (.node 24 (.go F_r06_Kind) .leaf .leaf) (.node 26 (.go F_slices_EqualFunc_api_Node) .leaf .leaf))) (.node 31 (.pure xItoa) (.node 29 (.go F_tree_Text_1) (.node 28 (.go F_slices_Equal_int) .leaf .leaf) (.node 30 (.go F_tree_rows) .leaf .leaf)) (.node 33 (.spec joinE) (.node 32 (.go F_strconv_FormatBool) .leaf .leaf) (.node 34 (.go F_base_HasInt) .leaf .leaf))))) (.node 54 (.go F_slices_Index_bool) (.node 43 (.go F_internal_strconv_FormatBool) (.node 39 (.go F_base_Itoa) (.node 37 (.go F_tree_has) (.node 36 (.go F_r06_kids) .leaf .leaf) (.node 38 (.go F_slices_Contains_bool) .leaf .leaf)) (.node 41 (.go F_slices_Index_string) (.node 40 (.go F_r06_word) .leaf .leaf) (.node 42 (.go F_internal_strconv_Itoa) .leaf .leaf))) (.node 50 (.go F_r06_all) (.node 48 (.go F_r05_Name) (.node 47 (.go F_r06_named) .leaf .leaf) (.node 49 (.go F_r06_exprs) .leaf .leaf)) (.node 52 (.go S_tree_name) (.node 51 (.go F_r06_Stmt) .leaf .leaf) (.node 53 (.go F_tree_is) .leaf .leaf)))) (.node 65 (.go F_internal_strconv_formatBase10) (.node 60 (.go F_r05_Word) (.node 58 (.go F_r05_Letter) (.node 55 (.go F_internal_strconv_FormatInt) .leaf .leaf) (.node 59 (.go F_r05_Digit) .leaf .leaf)) (.node 62 (.go F_slices_Contains_string) (.node 61 (.go F_r06_Expr) .leaf .leaf) (.node 63 (.go F_internal_strconv_small) .leaf .leaf))) (.node 71 (.go F_math_bits_Len64) (.node 69 (.go F_r05_Words) (.node 66 (.go F_internal_strconv_formatBits) .leaf .leaf) (.node 70 (.go F_internal_strconv_log10Pow2) .leaf .leaf)) (.node 73 (.go F_internal_strconv_isPowerOfTwo) (.node 72 (.go F_internal_strconv_bool2_int) .leaf .leaf) (.node 74 (.go F_math_bits_TrailingZeros) .leaf .leaf))))))
def A00 : Nat → Option Ent := treeS.find
theorem entA00 : ∀ f e, A00 f = some e → EntS T f e := Bt.find_of (t := treeS)
  ⟨(ent_go (F := F_r06_own) at35 (by kernel_rfl)), ⟨(ent_go (F := F_r06_Height) at19 (by kernel_rfl)), ⟨(ent_go (F := F_tree_Text) at11 (by kernel_rfl)), ⟨(ent_go (F := F_l06_few) at7 (by kernel_rfl)), ⟨(ent_go (F := F_l06_TreeTells) at5 (by kernel_rfl)), ⟨(ent_go (F := F_l06_TreeParts) at4 (by kernel_rfl)), ⟨(ent_go (F := F_l06_TreeAlike) at3 (by kernel_rfl)), trivial, trivial⟩, trivial⟩, ⟨(ent_go (F := F_l06_TreeWords) at6 (by kernel_rfl)), trivial, trivial⟩⟩, ⟨(ent_go (F := F_tree_Alike) at9 (by kernel_rfl)), ⟨(ent_go (F := F_l06_works) at8 (by kernel_rfl)), trivial, trivial⟩, ⟨(ent_go (F := F_base_SameNodes) at10 (by kernel_rfl)), trivial, trivial⟩⟩⟩, ⟨(ent_go (F := F_tree_Heights) at15 (by kernel_rfl)), ⟨(ent_go (F := F_r06_Right) at13 (by kernel_rfl)), ⟨(ent_go (F := F_tree_Right) at12 (by kernel_rfl)), trivial, trivial⟩, ⟨(ent_go (F := F_r06_Part) at14 (by kernel_rfl)), trivial, trivial⟩⟩, ⟨(ent_go (F := F_tree_Whole) at17 (by kernel_rfl)), ⟨(ent_go (F := F_r06_Tell) at16 (by kernel_rfl)), trivial, trivial⟩, ⟨(ent_go (F := F_r06_Whole) at18 (by kernel_rfl)), trivial, trivial⟩⟩⟩⟩, ⟨(ent_go (F := F_tree_Alike_1) at27 (by kernel_rfl)), ⟨(ent_go (F := F_tree_Kind) at23 (by kernel_rfl)), ⟨(ent_sub (F := F_tree_Sign) at21 (by kernel_rfl) sub21), ⟨(ent_go (F := F_r06_Signs) at20 (by kernel_rfl)), trivial, trivial⟩, ⟨(ent_sub (F := F_tree_Op) at22 (by kernel_rfl) sub22), trivial, trivial⟩⟩, ⟨(ent_go (F := F_base_SameInts) at25 (by kernel_rfl)), ⟨(ent_go (F := F_r06_Kind) at24 (by kernel_rfl)), trivial, trivial⟩, ⟨(ent_go (F := F_slices_EqualFunc_api_Node) at26 (by kernel_rfl)), trivial, trivial⟩⟩⟩, ⟨(itoa_ent at31), ⟨(ent_go (F := F_tree_Text_1) at29 (by kernel_rfl)), ⟨(ent_go (F := F_slices_Equal_int) at28 (by kernel_rfl)), trivial, trivial⟩, ⟨(ent_go (F := F_tree_rows) at30 (by kernel_rfl)), trivial, trivial⟩⟩, ⟨(join_ent at33), ⟨(ent_go (F := F_strconv_FormatBool) at32 (by kernel_rfl)), trivial, trivial⟩, ⟨(ent_go (F := F_base_HasInt) at34 (by kernel_rfl)), trivial, trivial⟩⟩⟩⟩⟩, ⟨(ent_go (F := F_slices_Index_bool) at54 (by kernel_rfl)), ⟨(ent_go (F := F_internal_strconv_FormatBool) at43 (by kernel_rfl)), ⟨(ent_go (F := F_base_Itoa) at39 (by kernel_rfl)), ⟨(ent_go (F := F_tree_has) at37 (by kernel_rfl)), ⟨(ent_go (F := F_r06_kids) at36 (by kernel_rfl)), trivial, trivial⟩, ⟨(ent_go (F := F_slices_Contains_bool) at38 (by kernel_rfl)), trivial, trivial⟩⟩, ⟨(ent_go (F := F_slices_Index_string) at41 (by kernel_rfl)), ⟨(ent_go (F := F_r06_word) at40 (by kernel_rfl)), trivial, trivial⟩, ⟨(ent_go (F := F_internal_strconv_Itoa) at42 (by kernel_rfl)), trivial, trivial⟩⟩⟩, ⟨(ent_go (F := F_r06_all) at50 (by kernel_rfl)), ⟨(ent_go (F := F_r05_Name) at48 (by kernel_rfl)), ⟨(ent_go (F := F_r06_named) at47 (by kernel_rfl)), trivial, trivial⟩, ⟨(ent_go (F := F_r06_exprs) at49 (by kernel_rfl)), trivial, trivial⟩⟩, ⟨(ent_sub (F := F_tree_name) at52 (by kernel_rfl) sub52), ⟨(ent_go (F := F_r06_Stmt) at51 (by kernel_rfl)), trivial, trivial⟩, ⟨(ent_go (F := F_tree_is) at53 (by kernel_rfl)), trivial, trivial⟩⟩⟩⟩, ⟨(ent_go (F := F_internal_strconv_formatBase10) at65 (by kernel_rfl)), ⟨(ent_go (F := F_r05_Word) at60 (by kernel_rfl)), ⟨(ent_go (F := F_r05_Letter) at58 (by kernel_rfl)), ⟨(ent_go (F := F_internal_strconv_FormatInt) at55 (by kernel_rfl)), trivial, trivial⟩, ⟨(ent_go (F := F_r05_Digit) at59 (by kernel_rfl)), trivial, trivial⟩⟩, ⟨(ent_go (F := F_slices_Contains_string) at62 (by kernel_rfl)), ⟨(ent_go (F := F_r06_Expr) at61 (by kernel_rfl)), trivial, trivial⟩, ⟨(ent_go (F := F_internal_strconv_small) at63 (by kernel_rfl)), trivial, trivial⟩⟩⟩, ⟨(ent_go (F := F_math_bits_Len64) at71 (by kernel_rfl)), ⟨(ent_go (F := F_r05_Words) at69 (by kernel_rfl)), ⟨(ent_go (F := F_internal_strconv_formatBits) at66 (by kernel_rfl)), trivial, trivial⟩, ⟨(ent_go (F := F_internal_strconv_log10Pow2) at70 (by kernel_rfl)), trivial, trivial⟩⟩, ⟨(ent_go (F := F_internal_strconv_isPowerOfTwo) at73 (by kernel_rfl)), ⟨(ent_go (F := F_internal_strconv_bool2_int) at72 (by kernel_rfl)), trivial, trivial⟩, ⟨(ent_go (F := F_math_bits_TrailingZeros) at74 (by kernel_rfl)), trivial, trivial⟩⟩⟩⟩⟩⟩
end Go.Proofs.YtblcomejcahkdaaDoor.Ev
end
section
namespace Go.Proofs.YtblcomejcahkdaaDoor.Ev
open Go
abbrev A0 : Nat → Option Ent := A00
theorem entA0 : ∀ f e, A0 f = some e → EntS T f e := entA00
end Go.Proofs.YtblcomejcahkdaaDoor.Ev
end
section
namespace Go.Proofs.YtblcomejcahkdaaDoor.Ev
open Go
theorem works8 : isTrue (evFun A0 5000 8 [] mem00) = true := by kernel_rfl
def A1 : Nat → Option Ent := up A0 8 (.pure xTrue)
theorem entA1 : ∀ f e, A1 f = some e → EntS T f e := up_ent entA0 (works_ent entA0 (F1 := F_l06_works) rfl works8)
def K (f : Nat) : Nat := bif memB f [3, 4, 5, 6, 7, 9, 10, 11, 12, 13, 16, 17, 18, 19, 21, 22, 23, 24, 25, 27, 32, 34, 35, 36, 37, 39, 40, 42, 43, 47, 48, 49, 50, 51, 52, 53, 55, 58, 59, 60, 61, 63, 70, 71, 72, 73, 74] then 1 else bif memB f [14, 15, 20, 30, 66, 69] then 2 else 0
abbrev B0 : Nat → Option Ent := A1
theorem entB0 : ∀ f e, B0 f = some e → EntS T f e := entA1
noncomputable abbrev B : Nat → Option Ent := B0
theorem entB : ∀ f e, B f = some e → EntS T f e := entB0
noncomputable abbrev U : Nat → Option Ent := UT B K
instance : HasF B0 3 F_l06_TreeAlike := ⟨rfl⟩
instance : Sort0 K 3 := ⟨rfl⟩
instance : HasF B0 4 F_l06_TreeParts := ⟨rfl⟩
instance : Sort0 K 4 := ⟨rfl⟩
instance : HasF B0 5 F_l06_TreeTells := ⟨rfl⟩
instance : Sort0 K 5 := ⟨rfl⟩
instance : HasF B0 6 F_l06_TreeWords := ⟨rfl⟩
instance : Sort0 K 6 := ⟨rfl⟩
instance : HasF B0 7 F_l06_few := ⟨rfl⟩
instance : Sort0 K 7 := ⟨rfl⟩
instance : HasF B0 9 F_tree_Alike := ⟨rfl⟩
instance : Sort0 K 9 := ⟨rfl⟩
instance : HasF B0 10 F_base_SameNodes := ⟨rfl⟩
instance : Sort0 K 10 := ⟨rfl⟩
instance : HasF B0 11 F_tree_Text := ⟨rfl⟩
instance : Sort0 K 11 := ⟨rfl⟩
instance : HasF B0 12 F_tree_Right := ⟨rfl⟩
instance : Sort0 K 12 := ⟨rfl⟩
instance : HasF B0 13 F_r06_Right := ⟨rfl⟩
instance : Sort0 K 13 := ⟨rfl⟩
instance : HasF B0 14 F_r06_Part := ⟨rfl⟩
instance : Sort1 K 14 := ⟨rfl⟩
instance : HasF B0 15 F_tree_Heights := ⟨rfl⟩
instance : Sort1 K 15 := ⟨rfl⟩
instance : HasF B0 16 F_r06_Tell := ⟨rfl⟩
instance : Sort0 K 16 := ⟨rfl⟩
instance : HasF B0 17 F_tree_Whole := ⟨rfl⟩
instance : Sort0 K 17 := ⟨rfl⟩
instance : HasF B0 18 F_r06_Whole := ⟨rfl⟩
instance : Sort0 K 18 := ⟨rfl⟩
instance : HasF B0 19 F_r06_Height := ⟨rfl⟩
instance : Sort0 K 19 := ⟨rfl⟩
instance : HasF B0 20 F_r06_Signs := ⟨rfl⟩
instance : Sort1 K 20 := ⟨rfl⟩
instance : HasF B0 21 S_tree_Sign := ⟨rfl⟩
instance : Sort0 K 21 := ⟨rfl⟩
instance : HasF B0 22 S_tree_Op := ⟨rfl⟩
instance : Sort0 K 22 := ⟨rfl⟩
instance : HasF B0 23 F_tree_Kind := ⟨rfl⟩
instance : Sort0 K 23 := ⟨rfl⟩
instance : HasF B0 24 F_r06_Kind := ⟨rfl⟩
instance : Sort0 K 24 := ⟨rfl⟩
instance : HasF B0 25 F_base_SameInts := ⟨rfl⟩
instance : Sort0 K 25 := ⟨rfl⟩
instance : HasF B0 26 F_slices_EqualFunc_api_Node := ⟨rfl⟩
instance : Sort2 K 26 := ⟨rfl⟩
instance : HasF B0 27 F_tree_Alike_1 := ⟨rfl⟩
instance : Sort0 K 27 := ⟨rfl⟩
instance : HasF B0 28 F_slices_Equal_int := ⟨rfl⟩
instance : Sort2 K 28 := ⟨rfl⟩
instance : HasF B0 29 F_tree_Text_1 := ⟨rfl⟩
instance : Sort2 K 29 := ⟨rfl⟩
instance : HasF B0 30 F_tree_rows := ⟨rfl⟩
instance : Sort1 K 30 := ⟨rfl⟩
instance : HasF B0 32 F_strconv_FormatBool := ⟨rfl⟩
instance : Sort0 K 32 := ⟨rfl⟩
instance : HasF B0 34 F_base_HasInt := ⟨rfl⟩
instance : Sort0 K 34 := ⟨rfl⟩
instance : HasF B0 35 F_r06_own := ⟨rfl⟩
instance : Sort0 K 35 := ⟨rfl⟩
instance : HasF B0 36 F_r06_kids := ⟨rfl⟩
instance : Sort0 K 36 := ⟨rfl⟩
instance : HasF B0 37 F_tree_has := ⟨rfl⟩
instance : Sort0 K 37 := ⟨rfl⟩
instance : HasF B0 38 F_slices_Contains_bool := ⟨rfl⟩
instance : Sort2 K 38 := ⟨rfl⟩
instance : HasF B0 39 F_base_Itoa := ⟨rfl⟩
instance : Sort0 K 39 := ⟨rfl⟩
instance : HasF B0 40 F_r06_word := ⟨rfl⟩
instance : Sort0 K 40 := ⟨rfl⟩
instance : HasF B0 41 F_slices_Index_string := ⟨rfl⟩
instance : Sort2 K 41 := ⟨rfl⟩
instance : HasF B0 42 F_internal_strconv_Itoa := ⟨rfl⟩
instance : Sort0 K 42 := ⟨rfl⟩
instance : HasF B0 43 F_internal_strconv_FormatBool := ⟨rfl⟩
instance : Sort0 K 43 := ⟨rfl⟩
instance : HasF B0 47 F_r06_named := ⟨rfl⟩
instance : Sort0 K 47 := ⟨rfl⟩
instance : HasF B0 48 F_r05_Name := ⟨rfl⟩
instance : Sort0 K 48 := ⟨rfl⟩
instance : HasF B0 49 F_r06_exprs := ⟨rfl⟩
instance : Sort0 K 49 := ⟨rfl⟩
instance : HasF B0 50 F_r06_all := ⟨rfl⟩
instance : Sort0 K 50 := ⟨rfl⟩
instance : HasF B0 51 F_r06_Stmt := ⟨rfl⟩
instance : Sort0 K 51 := ⟨rfl⟩
instance : HasF B0 52 S_tree_name := ⟨rfl⟩
instance : Sort0 K 52 := ⟨rfl⟩
instance : HasF B0 53 F_tree_is := ⟨rfl⟩
instance : Sort0 K 53 := ⟨rfl⟩
instance : HasF B0 54 F_slices_Index_bool := ⟨rfl⟩
instance : Sort2 K 54 := ⟨rfl⟩
instance : HasF B0 55 F_internal_strconv_FormatInt := ⟨rfl⟩
instance : Sort0 K 55 := ⟨rfl⟩
instance : HasF B0 58 F_r05_Letter := ⟨rfl⟩
instance : Sort0 K 58 := ⟨rfl⟩
instance : HasF B0 59 F_r05_Digit := ⟨rfl⟩
instance : Sort0 K 59 := ⟨rfl⟩
instance : HasF B0 60 F_r05_Word := ⟨rfl⟩
instance : Sort0 K 60 := ⟨rfl⟩
instance : HasF B0 61 F_r06_Expr := ⟨rfl⟩
instance : Sort0 K 61 := ⟨rfl⟩
instance : HasF B0 62 F_slices_Contains_string := ⟨rfl⟩
instance : Sort2 K 62 := ⟨rfl⟩
instance : HasF B0 63 F_internal_strconv_small := ⟨rfl⟩
instance : Sort0 K 63 := ⟨rfl⟩
instance : HasF B0 65 F_internal_strconv_formatBase10 := ⟨rfl⟩
instance : Sort2 K 65 := ⟨rfl⟩
instance : HasF B0 66 F_internal_strconv_formatBits := ⟨rfl⟩
instance : Sort1 K 66 := ⟨rfl⟩
instance : HasF B0 69 F_r05_Words := ⟨rfl⟩
instance : Sort1 K 69 := ⟨rfl⟩
instance : HasF B0 70 F_internal_strconv_log10Pow2 := ⟨rfl⟩
instance : Sort0 K 70 := ⟨rfl⟩
instance : HasF B0 71 F_math_bits_Len64 := ⟨rfl⟩
instance : Sort0 K 71 := ⟨rfl⟩
instance : HasF B0 72 F_internal_strconv_bool2_int := ⟨rfl⟩
instance : Sort0 K 72 := ⟨rfl⟩
instance : HasF B0 73 F_internal_strconv_isPowerOfTwo := ⟨rfl⟩
instance : Sort0 K 73 := ⟨rfl⟩
instance : HasF B0 74 F_math_bits_TrailingZeros := ⟨rfl⟩
instance : Sort0 K 74 := ⟨rfl⟩
theorem run_works8 {m : Mem} : run U 8 [] m = some (.ret (.bool true) m) := run_true (f := 8) (by unfold U UT PT; rfl)
end Go.Proofs.YtblcomejcahkdaaDoor.Ev
end
section
namespace Go.Proofs.YtblcomejcahkdaaDoor.Ev
open Go
def LoopW {σ : Type} (I : σ → Fr → Mem → Prop) (lt : σ → Prop) (Q : Out → Prop) (o : Option Out) : Prop := match o with
  | some (.norm fr m) => ∃ s, lt s ∧ I s fr m
  | some o => Q o
  | none => False
theorem loop_w {T : Nat → Option Ent} {c : ICode} {σ : Type} (I : σ → Fr → Mem → Prop) (μ : σ → Nat) (Q : Out → Prop) (h : ∀ s fr m, I s fr m → LoopW I (fun s' => μ s' < μ s) Q (exec T c fr m)) : ∀ s fr m, I s fr m → ∃ o, exec T (.loop c) fr m = some o ∧ Q o := by
  intro s
  generalize hn : μ s = n
  induction n using Nat.strongRecOn generalizing s with
  | _ n ih =>
    intro fr m hI
    have hw := h s fr m hI
    rw [exec_loop]
    cases he : exec T c fr m with
    | none => rw [he] at hw; exact hw.elim
    | some o =>
      rw [he] at hw
      cases o with
      | norm fr1 m1 => obtain ⟨s1, h1, h2⟩ := hw; exact ih (μ s1) (by omega) s1 rfl fr1 m1 h2
      | exit id fr1 m1 => exact ⟨_, rfl, hw⟩
      | ret fr1 m1 => exact ⟨_, rfl, hw⟩
      | pan v fr1 m1 => exact ⟨_, rfl, hw⟩
section
variable {σ : Type} {I : σ → Fr → Mem → Prop} {lt : σ → Prop} {Q : Out → Prop}
theorem lw_iF {p : Prop} {a b : Option Out} (h1 : p → LoopW I lt Q a) (h2 : ¬ p → LoopW I lt Q b) : LoopW I lt Q (iF p a b) := by
  by_cases h : p
  · rw [iF_pos h]; exact h1 h
  · rw [iF_neg h]; exact h2 h
theorem lw_norm {fr : Fr} {m : Mem} (s : σ) (h : lt s) (hI : I s fr m) : LoopW I lt Q (some (.norm fr m)) := ⟨s, h, hI⟩
theorem lw_exit {id : Nat} {fr : Fr} {m : Mem} (h : Q (.exit id fr m)) : LoopW I lt Q (some (.exit id fr m)) := h
theorem lw_ret {fr : Fr} {m : Mem} (h : Q (.ret fr m)) : LoopW I lt Q (some (.ret fr m)) := h
end
theorem looped {T : Nat → Option Ent} {c : ICode} {fr : Fr} {m : Mem} {X : Option Out} (hX : exec T (.loop c) fr m = X) {Q : Out → Prop} (h : ∃ o, exec T (.loop c) fr m = some o ∧ Q o) : ∃ o, X = some o ∧ Q o := by
  rw [hX] at h; exact h
def bsF (e esz len : Nat) (o : Option (List EV)) (m : Mem) : Option R1 := match o with
  | some cs => some (.val (.slice (nb m.next 0) 0 len (some len)) (ext m [.cells cs esz e false]))
  | none => none
@[congr] theorem bsF_congr {e esz len : Nat} {o o' : Option (List EV)} {m : Mem} (h : o = o') : bsF e esz len o m = bsF e esz len o' m := by rw [h]
theorem bsF_some {e esz len : Nat} {cs : List EV} {m : Mem} : bsF e esz len (some cs) m = some (.val (.slice (nb m.next 0) 0 len (some len)) (ext m [.cells cs esz e false])) := rfl
theorem evOp_bsliceN {ρ : Opd → EV} {m : Mem} {e esz len : Nat} {zero : List EV} {parts : List (Nat × Opd)} : evOp ρ (.bslice e esz len zero parts) m = bsF e esz len (fillIn (copies len zero) (parts.map fun p => (p.1 * esz, esz, ρ p.2))) m := by
  simp only [evOp, bsF]
  cases fillIn (copies len zero) (parts.map fun p => (p.1 * esz, esz, ρ p.2)) <;> rfl
def bodyV (call : Call) (n : Nat) (F : IFun) (asx : List EV) : Option EV := match evBody call n F asx mem00 with
  | some (.ret v m) => frzV m v
  | _ => none
theorem pure_closed {T : Nat → Option Ent} {K : Nat → Nat} {f : Nat} {F : IFun} [h : HasF T f F] {asx : List EV} {V : EV} (n : Nat) (hb : ∀ call : Call, bodyV call n F asx = some V) : pureR T K f asx = some V := by
  rw [pureR_eq h.has]
  have hb := hb (evFun (UT T K) n)
  unfold bodyV at hb
  cases he : evBody (evFun (UT T K) n) n F asx mem00 with
  | none => rw [he] at hb; cases hb
  | some fin =>
    rw [he] at hb
    cases fin with
    | pan v m => cases hb
    | ret v m =>
      refine bodyP_of he ?_
      have hb' : frz (freezes 7 m) m v = some V := hb
      show frzs (freezes 7 m) m [v] = some [V]
      simp only [frzs, hb']
end Go.Proofs.YtblcomejcahkdaaDoor.Ev
namespace Go.Proofs.YtblcomejcahkdaaDoor.Ev
open Go
theorem Own.frz {m : Mem} {v : EV} {els : List (List EV)} {n e lo : Nat} (h : Own m v els.flatten n e lo) (hn : els.length = n) (hl : ∀ el ∈ els, el.length = e) (hp : ∀ el ∈ els, plains el = true) : ∃ nl, frzV m v = some (row nl 0 e els) := by
  rcases h.is with ⟨rfl, rfl, h3⟩ | ⟨b, cap, t, rfl, h1, h2, h3, h4⟩
  · have : els = [] := List.eq_nil_of_length_eq_zero hn
    subst this
    exact ⟨true, rfl⟩
  · subst hn
    refine ⟨false, ?_⟩
    rw [frzV_block h3 hl hp (by rcases h4 with rfl | rfl <;> simp [capOk])]
    simp [row]
end Go.Proofs.YtblcomejcahkdaaDoor.Ev
namespace Go.Proofs.YtblcomejcahkdaaDoor.Ev
end Go.Proofs.YtblcomejcahkdaaDoor.Ev
namespace Go.Proofs.YtblcomejcahkdaaDoor.Ev
theorem zz0 : type_of% (And.intro (@fr00_get) <| And.intro (@fr00_defers) <| And.intro (@put_some) <| And.intro (@put_none) <| And.intro (@set_defers) <| And.intro (@eval_tmp) <| And.intro (@eval_const) <| And.intro (@ofEV_some) <| And.intro (@ofEM_some) <| And.intro (@ofM_some) <| And.intro (@thenV_some) <| And.intro (@thenC_ret) <| And.intro (@thenE_norm) <| And.intro (@thenE_ret) <| And.intro (@thenE_exit) <| And.intro (@leave_norm) <| And.intro (@leave_ret) <| And.intro (@leave_exit) <| And.intro (@selO_t) <| And.intro (@selO_f) <| And.intro (@resR_ret) <| And.intro (@resR_norm) <| And.intro (@resR_pan) <| And.intro (@eq_self.{1}) <| And.intro (@res_nil) <| And.intro (@res_tmp) <| And.intro (@one_one) <| And.intro (@one_two) <| And.intro (@one_nil) <| And.intro (@bin_add) <| And.intro (@bin_sub) <| And.intro (@bin_mul) <| And.intro (@bin_quo) <| And.intro (@bin_rem) <| And.intro (@bin_and) <| And.intro (@bin_or) <| And.intro (@bin_xor) <| And.intro (@bin_andNot) <| And.intro (@bin_lss) <| And.intro (@bin_leq) <| And.intro (@bin_gtr) <| And.intro (@bin_geq) <| And.intro (@bin_shl_i64) <| And.intro (@bin_shr_i64) <| And.intro (@bin_shl_u64) <| And.intro (@bin_shr_u64) <| And.intro (@eq_int) <| And.intro (@un_neg) <| And.intro (@cv_int) <| (@exec_seq)) :=
  And.intro (@fr00_get) <| And.intro (@fr00_defers) <| And.intro (@put_some) <| And.intro (@put_none) <| And.intro (@set_defers) <| And.intro (@eval_tmp) <| And.intro (@eval_const) <| And.intro (@ofEV_some) <| And.intro (@ofEM_some) <| And.intro (@ofM_some) <| And.intro (@thenV_some) <| And.intro (@thenC_ret) <| And.intro (@thenE_norm) <| And.intro (@thenE_ret) <| And.intro (@thenE_exit) <| And.intro (@leave_norm) <| And.intro (@leave_ret) <| And.intro (@leave_exit) <| And.intro (@selO_t) <| And.intro (@selO_f) <| And.intro (@resR_ret) <| And.intro (@resR_norm) <| And.intro (@resR_pan) <| And.intro (@eq_self.{1}) <| And.intro (@res_nil) <| And.intro (@res_tmp) <| And.intro (@one_one) <| And.intro (@one_two) <| And.intro (@one_nil) <| And.intro (@bin_add) <| And.intro (@bin_sub) <| And.intro (@bin_mul) <| And.intro (@bin_quo) <| And.intro (@bin_rem) <| And.intro (@bin_and) <| And.intro (@bin_or) <| And.intro (@bin_xor) <| And.intro (@bin_andNot) <| And.intro (@bin_lss) <| And.intro (@bin_leq) <| And.intro (@bin_gtr) <| And.intro (@bin_geq) <| And.intro (@bin_shl_i64) <| And.intro (@bin_shr_i64) <| And.intro (@bin_shl_u64) <| And.intro (@bin_shr_u64) <| And.intro (@eq_int) <| And.intro (@un_neg) <| And.intro (@cv_int) <| (@exec_seq)
theorem zz1 : type_of% (And.intro (@exec_region) <| And.intro (@exec_skip) <| And.intro (@exec_ret) <| And.intro (@exec_exit) <| And.intro (@exec_block) <| And.intro (@exec_cond') <| And.intro (@oprs_nil) <| And.intro (@oprs_val) <| And.intro (@oprs_callv) <| And.intro (@Option.map_some.{0,0}) <| And.intro (@Option.map_none.{0,0}) <| And.intro (@List.map_cons.{0,0}) <| And.intro (@List.map_nil.{0,0}) <| And.intro (@bo_decide) <| And.intro (@bo_not_decide) <| And.intro (@bo_tt) <| And.intro (@bo_ff) <| And.intro (@gv_true) <| And.intro (@gv_false) <| And.intro (@cE_bo) <| And.intro (@thenG_val) <| And.intro (@thenH_ret) <| And.intro (@gV_undef) <| And.intro (@gV_bo_t) <| And.intro (@gV_bo_f) <| And.intro (@gV_gv_t) <| And.intro (@gV_gv_f) <| And.intro (@gC_undef) <| And.intro (@gC_bo_t) <| And.intro (@gC_bo_f) <| And.intro (@gC_gv_t) <| And.intro (@gC_gv_f) <| And.intro (@oprs_gval) <| And.intro (@oprs_gcallv) <| And.intro (@runV_func) <| And.intro (@List.nil_append.{0}) <| And.intro (@List.append_nil.{0}) <| And.intro (@List.cons_append.{0}) <| And.intro (@evOp_pick') <| And.intro (@pick_and) <| And.intro (@pick_or) <| And.intro (@pick_and0) <| And.intro (@pick_or0) <| And.intro (@pick_t) <| And.intro (@pick_f) <| And.intro (@un_not_bo) <| And.intro (@eq_boo) <| And.intro (@eq_str) <| And.intro (@thenE_iF) <| (@leave_iF)) :=
  And.intro (@exec_region) <| And.intro (@exec_skip) <| And.intro (@exec_ret) <| And.intro (@exec_exit) <| And.intro (@exec_block) <| And.intro (@exec_cond') <| And.intro (@oprs_nil) <| And.intro (@oprs_val) <| And.intro (@oprs_callv) <| And.intro (@Option.map_some.{0,0}) <| And.intro (@Option.map_none.{0,0}) <| And.intro (@List.map_cons.{0,0}) <| And.intro (@List.map_nil.{0,0}) <| And.intro (@bo_decide) <| And.intro (@bo_not_decide) <| And.intro (@bo_tt) <| And.intro (@bo_ff) <| And.intro (@gv_true) <| And.intro (@gv_false) <| And.intro (@cE_bo) <| And.intro (@thenG_val) <| And.intro (@thenH_ret) <| And.intro (@gV_undef) <| And.intro (@gV_bo_t) <| And.intro (@gV_bo_f) <| And.intro (@gV_gv_t) <| And.intro (@gV_gv_f) <| And.intro (@gC_undef) <| And.intro (@gC_bo_t) <| And.intro (@gC_bo_f) <| And.intro (@gC_gv_t) <| And.intro (@gC_gv_f) <| And.intro (@oprs_gval) <| And.intro (@oprs_gcallv) <| And.intro (@runV_func) <| And.intro (@List.nil_append.{0}) <| And.intro (@List.append_nil.{0}) <| And.intro (@List.cons_append.{0}) <| And.intro (@evOp_pick') <| And.intro (@pick_and) <| And.intro (@pick_or) <| And.intro (@pick_and0) <| And.intro (@pick_or0) <| And.intro (@pick_t) <| And.intro (@pick_f) <| And.intro (@un_not_bo) <| And.intro (@eq_boo) <| And.intro (@eq_str) <| And.intro (@thenE_iF) <| (@leave_iF)
theorem zz2 : type_of% (And.intro (@thenV_iF) <| And.intro (@thenC_iF) <| And.intro (@resR_iF) <| And.intro (@not_true_eq_false) <| And.intro (@not_false_eq_true) <| And.intro (@and_true) <| And.intro (@true_and) <| And.intro (@and_false) <| And.intro (@false_and) <| And.intro (@or_true) <| And.intro (@true_or) <| And.intro (@or_false) <| And.intro (@false_or) <| And.intro (@Classical.not_not) <| And.intro (@Bool.false_bne) <| And.intro (@Bool.true_bne) <| And.intro (@Bool.false_xor) <| And.intro (@Bool.true_xor) <| And.intro (@evOp_mov) <| And.intro (@evOp_build) <| And.intro (@evOp_load) <| And.intro (@evOp_store) <| And.intro (@evOp_nilck) <| And.intro (@evOp_bin) <| And.intro (@evOp_eq) <| And.intro (@evOp_un) <| And.intro (@evOp_conv) <| And.intro (@evOp_iface) <| And.intro (@evOp_mkfn) <| And.intro (@evOp_mkslice) <| And.intro (@evOp_slstr) <| And.intro (@evOp_slarr) <| And.intro (@evOp_faddr) <| And.intro (@evOp_fld) <| And.intro (@evOp_iaddrArr) <| And.intro (@evOp_idxstr) <| And.intro (@evOp_idxagg) <| And.intro (@evOp_lookup) <| And.intro (@evOp_mapupd) <| And.intro (@evOp_delete) <| And.intro (@evOp_lenmap) <| And.intro (@evOp_tassert) <| And.intro (@evOp_extract) <| And.intro (@evOp_lenstr) <| And.intro (@evOp_lenarr) <| And.intro (@evOp_cap) <| And.intro (@evOp_max) <| And.intro (@evOp_min) <| And.intro (@evOp_append) <| (@evOp_copy)) :=
  And.intro (@thenV_iF) <| And.intro (@thenC_iF) <| And.intro (@resR_iF) <| And.intro (@not_true_eq_false) <| And.intro (@not_false_eq_true) <| And.intro (@and_true) <| And.intro (@true_and) <| And.intro (@and_false) <| And.intro (@false_and) <| And.intro (@or_true) <| And.intro (@true_or) <| And.intro (@or_false) <| And.intro (@false_or) <| And.intro (@Classical.not_not) <| And.intro (@Bool.false_bne) <| And.intro (@Bool.true_bne) <| And.intro (@Bool.false_xor) <| And.intro (@Bool.true_xor) <| And.intro (@evOp_mov) <| And.intro (@evOp_build) <| And.intro (@evOp_load) <| And.intro (@evOp_store) <| And.intro (@evOp_nilck) <| And.intro (@evOp_bin) <| And.intro (@evOp_eq) <| And.intro (@evOp_un) <| And.intro (@evOp_conv) <| And.intro (@evOp_iface) <| And.intro (@evOp_mkfn) <| And.intro (@evOp_mkslice) <| And.intro (@evOp_slstr) <| And.intro (@evOp_slarr) <| And.intro (@evOp_faddr) <| And.intro (@evOp_fld) <| And.intro (@evOp_iaddrArr) <| And.intro (@evOp_idxstr) <| And.intro (@evOp_idxagg) <| And.intro (@evOp_lookup) <| And.intro (@evOp_mapupd) <| And.intro (@evOp_delete) <| And.intro (@evOp_lenmap) <| And.intro (@evOp_tassert) <| And.intro (@evOp_extract) <| And.intro (@evOp_lenstr) <| And.intro (@evOp_lenarr) <| And.intro (@evOp_cap) <| And.intro (@evOp_max) <| And.intro (@evOp_min) <| And.intro (@evOp_append) <| (@evOp_copy)
theorem zz3 : type_of% (And.intro (@cE_t) <| And.intro (@cE_f) <| And.intro (@gV_tt) <| And.intro (@gV_tf) <| And.intro (@gV_ft) <| And.intro (@gV_ff) <| And.intro (@gV_gt_t) <| And.intro (@gV_gt_f) <| And.intro (@gV_gf_t) <| And.intro (@gV_gf_f) <| And.intro (@gC_tt) <| And.intro (@gC_tf) <| And.intro (@gC_ft) <| And.intro (@gC_ff) <| And.intro (@gC_gt_t) <| And.intro (@gC_gt_f) <| And.intro (@gC_gf_t) <| And.intro (@gC_gf_f) <| And.intro (@pick_and_t) <| And.intro (@pick_and_f) <| And.intro (@pick_or_t) <| And.intro (@pick_or_f) <| And.intro (@eq_bo_t) <| And.intro (@eq_bo_f) <| And.intro (@eq_t_bo) <| And.intro (@eq_f_bo) <| And.intro (@eq_tt) <| And.intro (@eq_ff) <| And.intro (@eq_tf) <| And.intro (@eq_ft) <| And.intro (@un_not_t) <| And.intro (@un_not_f) <| And.intro (@selE_t) <| And.intro (@selE_f) <| And.intro (@get_set') <| And.intro (@decide_true) <| And.intro (@decide_false) <| And.intro (@Bool.not_true) <| And.intro (@Bool.not_false) <| And.intro (@cond_true.{1}) <| And.intro (@cond_false.{1}) <| And.intro (@Int.cast_ofNat_Int) <| And.intro (@new_eq) <| And.intro (@ext_ext) <| And.intro (@nb_nb) <| And.intro (@next_ext) <| And.intro (@next_set) <| And.intro (@get_set_eq) <| And.intro (@get_set_ne) <| (@get_ext_old)) :=
  And.intro (@cE_t) <| And.intro (@cE_f) <| And.intro (@gV_tt) <| And.intro (@gV_tf) <| And.intro (@gV_ft) <| And.intro (@gV_ff) <| And.intro (@gV_gt_t) <| And.intro (@gV_gt_f) <| And.intro (@gV_gf_t) <| And.intro (@gV_gf_f) <| And.intro (@gC_tt) <| And.intro (@gC_tf) <| And.intro (@gC_ft) <| And.intro (@gC_ff) <| And.intro (@gC_gt_t) <| And.intro (@gC_gt_f) <| And.intro (@gC_gf_t) <| And.intro (@gC_gf_f) <| And.intro (@pick_and_t) <| And.intro (@pick_and_f) <| And.intro (@pick_or_t) <| And.intro (@pick_or_f) <| And.intro (@eq_bo_t) <| And.intro (@eq_bo_f) <| And.intro (@eq_t_bo) <| And.intro (@eq_f_bo) <| And.intro (@eq_tt) <| And.intro (@eq_ff) <| And.intro (@eq_tf) <| And.intro (@eq_ft) <| And.intro (@un_not_t) <| And.intro (@un_not_f) <| And.intro (@selE_t) <| And.intro (@selE_f) <| And.intro (@get_set') <| And.intro (@decide_true) <| And.intro (@decide_false) <| And.intro (@Bool.not_true) <| And.intro (@Bool.not_false) <| And.intro (@cond_true.{1}) <| And.intro (@cond_false.{1}) <| And.intro (@Int.cast_ofNat_Int) <| And.intro (@new_eq) <| And.intro (@ext_ext) <| And.intro (@nb_nb) <| And.intro (@next_ext) <| And.intro (@next_set) <| And.intro (@get_set_eq) <| And.intro (@get_set_ne) <| (@get_ext_old)
theorem zz4 : type_of% (And.intro (@get_ext_nb) <| And.intro (@get_ext_nb') <| And.intro (@load_ptr') <| And.intro (@ldB_cells) <| And.intro (@part_none) <| And.intro (@part_some) <| And.intro (@store_ptr') <| And.intro (@stB_some) <| And.intro (@write_eq) <| And.intro (@wrB_cells) <| And.intro (@set_ext_nb) <| And.intro (@set_ext_nb') <| And.intro (@set_ext_old) <| And.intro (@cells_int) <| And.intro (@cells_bool) <| And.intro (@cells_bo) <| And.intro (@cells_str) <| And.intro (@cells_nilptr) <| And.intro (@cells_ptr) <| And.intro (@cells_nilslice) <| And.intro (@cells_slice) <| And.intro (@cells_nilmap) <| And.intro (@cells_map) <| And.intro (@cells_nilfunc) <| And.intro (@cells_func) <| And.intro (@cells_niliface) <| And.intro (@cells_iface) <| And.intro (@cells_agg) <| And.intro (@fill_nil) <| And.intro (@fill_cons) <| And.intro (@fillB_some) <| And.intro (@evOp_box') <| And.intro (@boxE_some) <| And.intro (@evOp_alloc') <| And.intro (@evOp_mkmap') <| And.intro (@get_bump) <| And.intro (@next_bump) <| And.intro (@set_bump) <| And.intro (@load_bump) <| And.intro (@nb_lt) <| And.intro (@nb_inj) <| And.intro (@lt_nb) <| And.intro (@eq_agg) <| And.intro (@eqs_nil) <| And.intro (@eqs_cons) <| And.intro (@eqsE_some) <| And.intro (@andO_true) <| And.intro (@andO_false) <| And.intro (@andO_t) <| (@andO_f)) :=
  And.intro (@get_ext_nb) <| And.intro (@get_ext_nb') <| And.intro (@load_ptr') <| And.intro (@ldB_cells) <| And.intro (@part_none) <| And.intro (@part_some) <| And.intro (@store_ptr') <| And.intro (@stB_some) <| And.intro (@write_eq) <| And.intro (@wrB_cells) <| And.intro (@set_ext_nb) <| And.intro (@set_ext_nb') <| And.intro (@set_ext_old) <| And.intro (@cells_int) <| And.intro (@cells_bool) <| And.intro (@cells_bo) <| And.intro (@cells_str) <| And.intro (@cells_nilptr) <| And.intro (@cells_ptr) <| And.intro (@cells_nilslice) <| And.intro (@cells_slice) <| And.intro (@cells_nilmap) <| And.intro (@cells_map) <| And.intro (@cells_nilfunc) <| And.intro (@cells_func) <| And.intro (@cells_niliface) <| And.intro (@cells_iface) <| And.intro (@cells_agg) <| And.intro (@fill_nil) <| And.intro (@fill_cons) <| And.intro (@fillB_some) <| And.intro (@evOp_box') <| And.intro (@boxE_some) <| And.intro (@evOp_alloc') <| And.intro (@evOp_mkmap') <| And.intro (@get_bump) <| And.intro (@next_bump) <| And.intro (@set_bump) <| And.intro (@load_bump) <| And.intro (@nb_lt) <| And.intro (@nb_inj) <| And.intro (@lt_nb) <| And.intro (@eq_agg) <| And.intro (@eqs_nil) <| And.intro (@eqs_cons) <| And.intro (@eqsE_some) <| And.intro (@andO_true) <| And.intro (@andO_false) <| And.intro (@andO_t) <| (@andO_f)
theorem zz5 : type_of% (And.intro (@andO_dec) <| And.intro (@res_cell) <| And.intro (@rcE_some) <| And.intro (@List.length_cons.{0}) <| And.intro (@List.length_nil.{0}) <| And.intro (@Nat.zero_add) <| And.intro (@Nat.add_zero) <| And.intro (@List.take_succ_cons.{0}) <| And.intro (@List.take_zero.{0}) <| And.intro (@List.take_nil.{0}) <| And.intro (@List.drop_succ_cons.{0}) <| And.intro (@List.drop_zero.{0}) <| And.intro (@List.drop_nil.{0}) <| And.intro (@List.getElem?_cons_zero.{0}) <| And.intro (@List.getElem?_cons_succ.{0}) <| And.intro (@List.getElem?_nil.{0}) <| And.intro (@Option.getD_some.{0}) <| And.intro (@List.set_cons_zero.{0}) <| And.intro (@List.set_cons_succ.{0}) <| And.intro (@Nat.le_refl) <| And.intro (@ne_eq.{1}) <| And.intro (@Bool.or_true) <| And.intro (@Bool.or_false) <| And.intro (@Bool.true_or) <| And.intro (@Bool.false_or) <| And.intro (@Bool.and_true) <| And.intro (@Bool.true_and) <| And.intro (@Bool.and_false) <| And.intro (@Bool.false_and) <| And.intro (@eq_pn) <| And.intro (@eq_np) <| And.intro (@eq_nn) <| And.intro (@eq_sn) <| And.intro (@eq_ns) <| And.intro (@eq_nsns) <| And.intro (@evOp_bslice1) <| And.intro (@evOp_bslice0) <| (@bsE_some)) :=
  And.intro (@andO_dec) <| And.intro (@res_cell) <| And.intro (@rcE_some) <| And.intro (@List.length_cons.{0}) <| And.intro (@List.length_nil.{0}) <| And.intro (@Nat.zero_add) <| And.intro (@Nat.add_zero) <| And.intro (@List.take_succ_cons.{0}) <| And.intro (@List.take_zero.{0}) <| And.intro (@List.take_nil.{0}) <| And.intro (@List.drop_succ_cons.{0}) <| And.intro (@List.drop_zero.{0}) <| And.intro (@List.drop_nil.{0}) <| And.intro (@List.getElem?_cons_zero.{0}) <| And.intro (@List.getElem?_cons_succ.{0}) <| And.intro (@List.getElem?_nil.{0}) <| And.intro (@Option.getD_some.{0}) <| And.intro (@List.set_cons_zero.{0}) <| And.intro (@List.set_cons_succ.{0}) <| And.intro (@Nat.le_refl) <| And.intro (@ne_eq.{1}) <| And.intro (@Bool.or_true) <| And.intro (@Bool.or_false) <| And.intro (@Bool.true_or) <| And.intro (@Bool.false_or) <| And.intro (@Bool.and_true) <| And.intro (@Bool.true_and) <| And.intro (@Bool.and_false) <| And.intro (@Bool.false_and) <| And.intro (@eq_pn) <| And.intro (@eq_np) <| And.intro (@eq_nn) <| And.intro (@eq_sn) <| And.intro (@eq_ns) <| And.intro (@eq_nsns) <| And.intro (@evOp_bslice1) <| And.intro (@evOp_bslice0) <| (@bsE_some)
theorem zz6 : type_of% (And.intro (@srt_mov) <| And.intro (@srt_alloc) <| And.intro (@srt_box) <| And.intro (@srt_build) <| And.intro (@srt_bslice) <| And.intro (@srt_store) <| And.intro (@srt_nilck) <| And.intro (@srt_bin) <| And.intro (@srt_eq) <| And.intro (@srt_un) <| And.intro (@srt_iface) <| And.intro (@srt_mkfn) <| And.intro (@srt_mkmap) <| And.intro (@srt_mkslice) <| And.intro (@srt_slstr) <| And.intro (@srt_slsl) <| And.intro (@srt_slarr) <| And.intro (@srt_faddr) <| And.intro (@srt_fld) <| And.intro (@srt_iaddr) <| And.intro (@srt_iaddrArr) <| And.intro (@srt_idxstr) <| And.intro (@srt_idxagg) <| And.intro (@srt_lookup) <| And.intro (@srt_mapupd) <| And.intro (@srt_delete) <| And.intro (@srt_lenmap) <| And.intro (@srt_tassert) <| And.intro (@srt_extract) <| And.intro (@srt_len) <| And.intro (@srt_lenstr) <| And.intro (@srt_lenarr) <| And.intro (@srt_cap) <| And.intro (@srt_max) <| And.intro (@srt_min) <| And.intro (@srt_append) <| And.intro (@srt_copy) <| And.intro (@srt_pick) <| And.intro (@srt_cv_int) <| And.intro (@srt_cv_same) <| And.intro (@srt_cv_bytes) <| And.intro (@srt_cv_text) <| And.intro (@exec_draw') <| And.intro (@drw_nil) <| And.intro (@thenL_some) <| And.intro (@ifB_true) <| And.intro (@drw_v0) <| And.intro (@drw_v1) <| And.intro (@thenD_ret) <| (@chk_nil)) :=
  And.intro (@srt_mov) <| And.intro (@srt_alloc) <| And.intro (@srt_box) <| And.intro (@srt_build) <| And.intro (@srt_bslice) <| And.intro (@srt_store) <| And.intro (@srt_nilck) <| And.intro (@srt_bin) <| And.intro (@srt_eq) <| And.intro (@srt_un) <| And.intro (@srt_iface) <| And.intro (@srt_mkfn) <| And.intro (@srt_mkmap) <| And.intro (@srt_mkslice) <| And.intro (@srt_slstr) <| And.intro (@srt_slsl) <| And.intro (@srt_slarr) <| And.intro (@srt_faddr) <| And.intro (@srt_fld) <| And.intro (@srt_iaddr) <| And.intro (@srt_iaddrArr) <| And.intro (@srt_idxstr) <| And.intro (@srt_idxagg) <| And.intro (@srt_lookup) <| And.intro (@srt_mapupd) <| And.intro (@srt_delete) <| And.intro (@srt_lenmap) <| And.intro (@srt_tassert) <| And.intro (@srt_extract) <| And.intro (@srt_len) <| And.intro (@srt_lenstr) <| And.intro (@srt_lenarr) <| And.intro (@srt_cap) <| And.intro (@srt_max) <| And.intro (@srt_min) <| And.intro (@srt_append) <| And.intro (@srt_copy) <| And.intro (@srt_pick) <| And.intro (@srt_cv_int) <| And.intro (@srt_cv_same) <| And.intro (@srt_cv_bytes) <| And.intro (@srt_cv_text) <| And.intro (@exec_draw') <| And.intro (@drw_nil) <| And.intro (@thenL_some) <| And.intro (@ifB_true) <| And.intro (@drw_v0) <| And.intro (@drw_v1) <| And.intro (@thenD_ret) <| (@chk_nil)
theorem zz7 : type_of% (And.intro (@chk_cons) <| And.intro (@snap_nil) <| And.intro (@snap_cons) <| And.intro (@pair_nil) <| And.intro (@pair_cons) <| And.intro (@stands_eq) <| And.intro (@standE_self) <| And.intro (@noL_nil) <| And.intro (@noL_cons) <| And.intro (@noA_nil) <| And.intro (@noA_cons) <| And.intro (@drw_load0) <| And.intro (@drw_load1) <| And.intro (@drw_v30) <| And.intro (@drw_v31) <| And.intro (@drw_call0) <| And.intro (@drw_call1) <| And.intro (@retO_ret) <| And.intro (@drw_gv0) <| And.intro (@drw_gv1) <| And.intro (@drw_gld0) <| And.intro (@drw_gld1) <| And.intro (@drw_gv30) <| And.intro (@drw_gv31) <| And.intro (@drw_gcall0) <| And.intro (@drw_gcall1) <| And.intro (@gE_bo_t) <| And.intro (@gE_bo_f) <| And.intro (@gE_tt) <| And.intro (@gE_tf) <| And.intro (@gE_ft) <| And.intro (@gE_ff) <| And.intro (@gE_undef) <| And.intro (@gE_gv_t) <| And.intro (@gE_gv_f) <| And.intro (@gE_gt_t) <| And.intro (@gE_gt_f) <| And.intro (@gE_gf_t) <| And.intro (@gE_gf_f) <| And.intro (@told_bool) <| And.intro (@told_bo) <| And.intro (@told_int) <| And.intro (@told_str) <| And.intro (@told_nilptr) <| And.intro (@told_ptr) <| And.intro (@told_nilslice) <| And.intro (@told_slice) <| And.intro (@told_nilmap) <| And.intro (@told_map) <| (@told_nilfunc)) :=
  And.intro (@chk_cons) <| And.intro (@snap_nil) <| And.intro (@snap_cons) <| And.intro (@pair_nil) <| And.intro (@pair_cons) <| And.intro (@stands_eq) <| And.intro (@standE_self) <| And.intro (@noL_nil) <| And.intro (@noL_cons) <| And.intro (@noA_nil) <| And.intro (@noA_cons) <| And.intro (@drw_load0) <| And.intro (@drw_load1) <| And.intro (@drw_v30) <| And.intro (@drw_v31) <| And.intro (@drw_call0) <| And.intro (@drw_call1) <| And.intro (@retO_ret) <| And.intro (@drw_gv0) <| And.intro (@drw_gv1) <| And.intro (@drw_gld0) <| And.intro (@drw_gld1) <| And.intro (@drw_gv30) <| And.intro (@drw_gv31) <| And.intro (@drw_gcall0) <| And.intro (@drw_gcall1) <| And.intro (@gE_bo_t) <| And.intro (@gE_bo_f) <| And.intro (@gE_tt) <| And.intro (@gE_tf) <| And.intro (@gE_ft) <| And.intro (@gE_ff) <| And.intro (@gE_undef) <| And.intro (@gE_gv_t) <| And.intro (@gE_gv_f) <| And.intro (@gE_gt_t) <| And.intro (@gE_gt_f) <| And.intro (@gE_gf_t) <| And.intro (@gE_gf_f) <| And.intro (@told_bool) <| And.intro (@told_bo) <| And.intro (@told_int) <| And.intro (@told_str) <| And.intro (@told_nilptr) <| And.intro (@told_ptr) <| And.intro (@told_nilslice) <| And.intro (@told_slice) <| And.intro (@told_nilmap) <| And.intro (@told_map) <| (@told_nilfunc)
theorem zz8 : type_of% (And.intro (@told_niliface) <| And.intro (@told_undef) <| And.intro (@told_agg) <| And.intro (@told_tuple) <| And.intro (@told_iface) <| And.intro (@told_func) <| And.intro (@tolds_nil) <| And.intro (@tolds_cons) <| And.intro (@ifF_ptr) <| And.intro (@ifF_fptr) <| And.intro (@old_nil) <| And.intro (@old_cons) <| And.intro (@Nat.beq_refl) <| And.intro (@evOp_len') <| And.intro (@lenE_nil) <| And.intro (@lenE_slice) <| And.intro (@lenE_fz) <| And.intro (@lenE_row) <| And.intro (@optI_some) <| And.intro (@evOp_iaddr') <| And.intro (@iaddrE_slice) <| And.intro (@iaddrE_fz) <| And.intro (@iaddrE_row) <| And.intro (@ldF_some) <| And.intro (@load_fptr) <| And.intro (@source_fz) <| And.intro (@source_row) <| And.intro (@cells_fz) <| And.intro (@cells_row) <| And.intro (@cells_fptr) <| And.intro (@eq_fn) <| And.intro (@eq_nf) <| And.intro (@eq_rn) <| And.intro (@part2_some) <| And.intro (@consO_some) <| And.intro (@frzL_nil) <| And.intro (@frzL_cons) <| And.intro (@frzV_undef) <| And.intro (@frzV_bool) <| And.intro (@frzV_bo) <| And.intro (@frzV_int) <| And.intro (@frzV_str) <| And.intro (@frzV_nilslice) <| And.intro (@frzV_nilptr) <| And.intro (@frzV_niliface) <| And.intro (@frzV_fz) <| And.intro (@frzV_row) <| And.intro (@frzV_agg) <| And.intro (@frzV_tuple) <| (@closed_row)) :=
  And.intro (@told_niliface) <| And.intro (@told_undef) <| And.intro (@told_agg) <| And.intro (@told_tuple) <| And.intro (@told_iface) <| And.intro (@told_func) <| And.intro (@tolds_nil) <| And.intro (@tolds_cons) <| And.intro (@ifF_ptr) <| And.intro (@ifF_fptr) <| And.intro (@old_nil) <| And.intro (@old_cons) <| And.intro (@Nat.beq_refl) <| And.intro (@evOp_len') <| And.intro (@lenE_nil) <| And.intro (@lenE_slice) <| And.intro (@lenE_fz) <| And.intro (@lenE_row) <| And.intro (@optI_some) <| And.intro (@evOp_iaddr') <| And.intro (@iaddrE_slice) <| And.intro (@iaddrE_fz) <| And.intro (@iaddrE_row) <| And.intro (@ldF_some) <| And.intro (@load_fptr) <| And.intro (@source_fz) <| And.intro (@source_row) <| And.intro (@cells_fz) <| And.intro (@cells_row) <| And.intro (@cells_fptr) <| And.intro (@eq_fn) <| And.intro (@eq_nf) <| And.intro (@eq_rn) <| And.intro (@part2_some) <| And.intro (@consO_some) <| And.intro (@frzL_nil) <| And.intro (@frzL_cons) <| And.intro (@frzV_undef) <| And.intro (@frzV_bool) <| And.intro (@frzV_bo) <| And.intro (@frzV_int) <| And.intro (@frzV_str) <| And.intro (@frzV_nilslice) <| And.intro (@frzV_nilptr) <| And.intro (@frzV_niliface) <| And.intro (@frzV_fz) <| And.intro (@frzV_row) <| And.intro (@frzV_agg) <| And.intro (@frzV_tuple) <| (@closed_row)
theorem zz9 : type_of% (And.intro (@closeds_nil) <| And.intro (@closeds_cons) <| And.intro (@closed_fz) <| And.intro (@closed_int) <| And.intro (@closed_bool) <| And.intro (@closed_bo) <| And.intro (@closed_str) <| And.intro (@closed_nilslice) <| And.intro (@closed_agg) <| And.intro (@closed_tuple) <| And.intro (@tagArgs_nil) <| And.intro (@tagArgs_cons) <| And.intro (@tagV_fz) <| And.intro (@tagV_row) <| And.intro (@tagV_int) <| And.intro (@tagV_bool) <| And.intro (@tagV_bo) <| And.intro (@tagV_str) <| And.intro (@tagV_nilslice) <| And.intro (@tagV_agg) <| And.intro (@p0E_some) <| And.intro (@p1E_some) <| And.intro (@callO_some) <| And.intro (@run_p0) <| And.intro (@run_p1) <| And.intro (@frR_ret) <| And.intro (@frR_iF) <| And.intro (@Flat_int) <| And.intro (@Flat_bool) <| And.intro (@Flat_bo) <| And.intro (@Flat_str) <| And.intro (@Flat_agg) <| And.intro (@Flat_tuple) <| And.intro (@flats_nil) <| And.intro (@flats_cons) <| And.intro (@Bool.and_self) <| And.intro (@List.getElem?_map.{0,0}) <| And.intro (@List.length_map.{0,0}) <| And.intro (@evOp_slsl') <| And.intro (@slslF_nil) <| And.intro (@slslF_some) <| And.intro (@slslF_none) <| And.intro (@slB_cells) <| And.intro (@slslF_row) <| And.intro (@slslF_fz) <| (@List.isEmpty_nil.{0})) :=
  And.intro (@closeds_nil) <| And.intro (@closeds_cons) <| And.intro (@closed_fz) <| And.intro (@closed_int) <| And.intro (@closed_bool) <| And.intro (@closed_bo) <| And.intro (@closed_str) <| And.intro (@closed_nilslice) <| And.intro (@closed_agg) <| And.intro (@closed_tuple) <| And.intro (@tagArgs_nil) <| And.intro (@tagArgs_cons) <| And.intro (@tagV_fz) <| And.intro (@tagV_row) <| And.intro (@tagV_int) <| And.intro (@tagV_bool) <| And.intro (@tagV_bo) <| And.intro (@tagV_str) <| And.intro (@tagV_nilslice) <| And.intro (@tagV_agg) <| And.intro (@p0E_some) <| And.intro (@p1E_some) <| And.intro (@callO_some) <| And.intro (@run_p0) <| And.intro (@run_p1) <| And.intro (@frR_ret) <| And.intro (@frR_iF) <| And.intro (@Flat_int) <| And.intro (@Flat_bool) <| And.intro (@Flat_bo) <| And.intro (@Flat_str) <| And.intro (@Flat_agg) <| And.intro (@Flat_tuple) <| And.intro (@flats_nil) <| And.intro (@flats_cons) <| And.intro (@Bool.and_self) <| And.intro (@List.getElem?_map.{0,0}) <| And.intro (@List.length_map.{0,0}) <| And.intro (@evOp_slsl') <| And.intro (@slslF_nil) <| And.intro (@slslF_some) <| And.intro (@slslF_none) <| And.intro (@slB_cells) <| And.intro (@slslF_row) <| And.intro (@slslF_fz) <| (@List.isEmpty_nil.{0})

theorem zzf : type_of% (And.intro (@get_set') <| And.intro (@selE_t) <| And.intro (@selE_f) <| And.intro (@set_defers) <| And.intro (@fr00_get) <| And.intro (@fr00_defers) <| And.intro (@put_some) <| (@put_none)) :=
  And.intro (@get_set') <| And.intro (@selE_t) <| And.intro (@selE_f) <| And.intro (@set_defers) <| And.intro (@fr00_get) <| And.intro (@fr00_defers) <| And.intro (@put_some) <| (@put_none)
theorem zza : type_of% (And.intro (zz0) <| And.intro (zz1) <| And.intro (zz2) <| And.intro (zz3) <| And.intro (zz4) <| And.intro (zz5) <| And.intro (zz6) <| And.intro (zz7) <| And.intro (zz8) <| (zz9)) :=
  And.intro (zz0) <| And.intro (zz1) <| And.intro (zz2) <| And.intro (zz3) <| And.intro (zz4) <| And.intro (zz5) <| And.intro (zz6) <| And.intro (zz7) <| And.intro (zz8) <| (zz9)
end Go.Proofs.YtblcomejcahkdaaDoor.Ev
end
section
namespace Go.Proofs.YtblcomejcahkdaaDoor.Ev
def LetterP (n : Int) : Prop := (97 ≤ n ∧ n ≤ 122 ∨ 65 ≤ n ∧ n ≤ 90) ∨ n = 95
def DigitP (n : Int) : Prop := 48 ≤ n ∧ n ≤ 57
def BlankP (n : Int) : Prop := ((n = 32 ∨ n = 9) ∨ n = 10) ∨ n = 13
instance (n : Int) : Decidable (LetterP n) := by unfold LetterP; infer_instance
instance (n : Int) : Decidable (DigitP n) := by unfold DigitP; infer_instance
instance (n : Int) : Decidable (BlankP n) := by unfold BlankP; infer_instance
abbrev Txt := List UInt8
abbrev cI (c : UInt8) : Int := (c.toNat : Int)
def wordsL : List Txt := [[102, 110], [118, 97, 114], [105, 102], [101, 108, 115, 101], [119, 104, 105, 108, 101], [102, 111, 114], [98, 114, 101, 97, 107], [99, 111, 110, 116, 105, 110, 117, 101], [114, 101, 116, 117, 114, 110], [112, 114, 105, 110, 116], [108, 101, 110], [110, 101, 119], [116, 114, 117, 101], [102, 97, 108, 115, 101], [110, 105, 108], [105, 110, 116], [98, 111, 111, 108], [97, 114, 114]]
def twoL : List Txt := [[124, 124], [38, 38], [61, 61], [33, 61], [60, 61], [62, 61], [43, 37], [45, 37], [42, 37]]
def oneL : Txt := [60, 62, 43, 45, 42, 47, 37, 33, 61, 40, 41, 123, 125, 91, 93, 44, 59]
def skipF : Bool → Txt → Nat
  | _, [] => 0
  | r, c :: s => let r1 := if cI c = 10 then false else if cI c = 35 then true else r
    if r1 = false ∧ ¬ BlankP (cI c) then 0 else 1 + skipF r1 s
def numF : Nat → Txt → Option Nat
  | n, [] => some n
  | n, c :: s => if 922337203685477580 < n ∨ n = 922337203685477580 ∧ 7 < c.toNat - 48 then none else numF (10 * n + (c.toNat - 48)) s
def signF (s : Txt) : Nat := if 2 ≤ s.length ∧ s.take 2 ∈ twoL then 2 else if ∃ c ∈ oneL, s[0]? = some c then 1 else 0
def lead (p : Int → Prop) [DecidablePred p] : Txt → Nat
  | [] => 0
  | c :: s => if p (cI c) then 1 + lead p s else 0
def nameP (s : Txt) : Prop := (∀ (i : Nat) (c : UInt8), s[i]? = some c → LetterP (cI c) ∨ i ≠ 0 ∧ DigitP (cI c)) ∧ 0 < s.length ∧ s.length ≤ 32 ∧ s ∉ wordsL
def wordF : Txt → Nat
  | [] => 0
  | c :: s => if LetterP (cI c) then 1 + lead (fun n => LetterP n ∨ DigitP n) s else 0
structure Tok where
  kind : Nat
  text : Txt
  n : Nat
  pos : Nat
deriving DecidableEq
inductive Res (α : Type) where
  | ok (a : α)
  | bad (e p : Nat)
def Res.map {α β : Type} (f : α → β) : Res α → Res β
  | .ok a => .ok (f a)
  | .bad e p => .bad e p
def Res.bind {α β : Type} (x : Res α) (f : α → Res β) : Res β := match x with
  | .ok a => f a
  | .bad e p => .bad e p
def numT (k : Txt) (p : Nat) : Res Tok := match numF 0 k with
  | some n => .ok ⟨2, k, n, p⟩
  | none => .bad 7 p
def oneF (s : Txt) (p : Nat) : Res Tok :=
  if ∃ c ∈ s[0]?, DigitP (cI c) then
    numT (s.take (lead DigitP s)) p
  else
    let k := wordF s
    if 0 < k ∧ s.take k ∈ wordsL then .ok ⟨3, s.take k, 0, p⟩
    else if 32 < k then .bad 3 p
    else if 0 < k then .ok ⟨1, s.take k, 0, p⟩
    else if signF s = 0 then .bad 6 p
    else .ok ⟨4, s.take (signF s), 0, p⟩
def toksF : Nat → Txt → Nat → Res (List Tok)
  | 0, _, p => .bad 0 p
  | _ + 1, [], _ => .ok []
  | k + 1, s, p => match oneF s p with
    | .bad e q => .bad e q
    | .ok t =>
      let r := s.drop t.text.length
      let j := skipF false r
      (toksF k (r.drop j) (p + t.text.length + j)).map (t :: ·)
def lexF (s : Txt) : Res (List Tok) :=
  if 65536 < s.length then .bad 3 0
  else (toksF (s.length + 1) (s.drop (skipF false s)) (skipF false s)).map (· ++ [⟨0, [], 0, s.length⟩])
end Go.Proofs.YtblcomejcahkdaaDoor.Ev
end
section
namespace Go.Proofs.YtblcomejcahkdaaDoor.Ev
open Go
set_option maxHeartbeats 4000000

theorem wrap_succ {i : Nat} (h : i < 9223372036854775807) : IntKind.i64.wrap ((i : Int) + 1) = ((i + 1 : Nat) : Int) := by rw [wrap_i64 (by omega) (by omega)]; omega

def Tok.cells (t : Tok) : List EV := [.int .i64 (t.kind : Int), .str t.text, .int .i64 (t.n : Int), .int .i64 (t.pos : Int)]

def toks (l : List Tok) : List (List EV) := l.map Tok.cells

def lexV : Res (List Tok) → EV
  | .ok l => .tuple [.fz 0 4 (toks l), .agg [.int .i64 0, .int .i64 0]]
  | .bad e p => .tuple [.nilslice, .agg [.int .i64 (e : Int), .int .i64 (p : Int)]]

theorem Res.map_map {α β γ : Type} (f : α → β) (g : β → γ) (x : Res α) : (x.map f).map g = x.map (fun a => g (f a)) := by cases x <;> rfl

def Tok.move (d : Nat) (t : Tok) : Tok := { t with pos := t.pos + d }

def textF (p : Nat) (s : Txt) : Res (List Tok) := toksF (s.length + 1) (s.drop (skipF false s)) (p + skipF false s)

end Go.Proofs.YtblcomejcahkdaaDoor.Ev
end
section
namespace Go.Proofs.YtblcomejcahkdaaDoor.Ev
open Go
set_option maxRecDepth 10000
set_option maxHeartbeats 4000000
def strs (l : List Txt) : List (List EV) := l.map fun s => [.str s]
end Go.Proofs.YtblcomejcahkdaaDoor.Ev
end
section
namespace Go.Proofs.YtblcomejcahkdaaDoor.Ev
structure Nd where
  kind : Int
  kids : List Int
  nl : Bool
  n : Int
  s : Txt
  pos : Int
def exprK (k : Int) : Prop := 1 ≤ k ∧ k ≤ 11
def stmtK (k : Int) : Prop := 12 ≤ k ∧ k ≤ 22
def kindOf (l : List Nd) (x : Int) : Int := ((l[x.toNat]?).map Nd.kind).getD 0
def namedL : List Int := [4, 11, 12, 13, 14, 17, 24, 25]
def ownP (d : Nd) : Prop :=
  ¬ (((d.kind < 1 ∨ 26 < d.kind) ∨ d.pos < 0) ∨ ¬ (d.kind ∈ namedL ↔ d.s ≠ [])) ∧ ¬ (d.s ≠ [] ∧ ¬ nameP d.s) ∧
  (if d.kind = 1 then 0 ≤ d.n else if d.kind = 2 then d.n = 0 ∨ d.n = 1 else if d.kind = 5 then 1 ≤ d.n ∧ d.n ≤ 16 else if d.kind = 24 ∨ d.kind = 25 then 1 ≤ d.n ∧ d.n ≤ 3 else d.n = 0)
def exprsP (l : List Nd) (k : List Int) (n : Nat) : Prop := n ≤ k.length ∧ ∀ x ∈ k.take n, exprK (kindOf l x)
def allP (l : List Nd) (k : List Int) (kind : Int) (most : Nat) : Prop := (∀ x ∈ k, kindOf l x = kind) ∧ k.length ≤ most
def kidsP (l : List Nd) (d : Nd) : Prop :=
  if d.kind = 5 ∨ d.kind = 8 ∨ d.kind = 14 then d.kids.length = 2 ∧ exprsP l d.kids 2
  else if d.kind = 6 ∨ d.kind = 7 ∨ d.kind = 9 ∨ d.kind = 10 ∨ d.kind = 12 ∨ d.kind = 13 ∨ d.kind = 20 ∨ d.kind = 21 then d.kids.length = 1 ∧ exprsP l d.kids 1
  else if d.kind = 11 then d.kids.length ≤ 8 ∧ exprsP l d.kids d.kids.length
  else if d.kind = 15 then (exprsP l d.kids 1 ∧ 2 ≤ d.kids.length) ∧ allP l (d.kids.drop 1) 23 2
  else if d.kind = 16 then (exprsP l d.kids 1 ∧ d.kids.length = 2) ∧ allP l (d.kids.drop 1) 23 1
  else if d.kind = 17 then (exprsP l d.kids 2 ∧ d.kids.length = 3) ∧ allP l (d.kids.drop 2) 23 1
  else if d.kind = 22 then d.kids.length = 1 ∧ ∀ x ∈ d.kids, kindOf l x = 11
  else if d.kind = 23 then ∀ x ∈ d.kids, stmtK (kindOf l x)
  else if d.kind = 25 then (1 ≤ d.kids.length ∧ allP l (d.kids.take (d.kids.length - 1)) 24 8) ∧ ∀ x ∈ d.kids.getLast?, kindOf l x = 23
  else if d.kind = 26 then allP l d.kids 25 200
  else d.kids.length = 0
def highF (l : List Nd) : Nat → Nat → Nat
  | 0, _ => 1
  | f + 1, i => match l[i]? with
    | none => 1
    | some d => d.kids.foldl (fun h x => max h (1 + highF l f x.toNat)) 1
def highN (l : List Nd) (i : Nat) : Nat := highF l (i + 1) i
def kidsLt (l : List Nd) : Prop := ∀ (i : Nat) (d : Nd), l[i]? = some d → ∀ x ∈ d.kids, 0 ≤ x ∧ x < (i : Int)
def usedL (l : List Nd) : List Int := (l.map Nd.kids).flatten
def rightP (l : List Nd) : Prop :=
  (kidsLt l ∧ (usedL l).Nodup ∧ ∀ d ∈ l, ownP d ∧ kidsP l d) ∧ 0 < l.length ∧ (usedL l).length = l.length - 1 ∧ highN l (l.length - 1) ≤ 200
end Go.Proofs.YtblcomejcahkdaaDoor.Ev
end
section
namespace Go.Proofs.YtblcomejcahkdaaDoor.Ev
open Go
set_option maxRecDepth 10000
set_option maxHeartbeats 4000000
def ints (l : List Int) : List (List EV) := l.map fun n => [.int .i64 n]
theorem ints_get {l : List Int} {i : Nat} : (ints l)[i]? = (l[i]?).map fun n => [.int .i64 n] := by unfold ints; rw [List.getElem?_map]
theorem ints_len {l : List Int} : (ints l).length = l.length := by unfold ints; rw [List.length_map]
theorem ints_els (l : List Int) : ∀ el ∈ ints l, el.length = 1 := by intro el h; obtain ⟨t, _, rfl⟩ := List.mem_map.1 h; rfl
theorem ints_plain (l : List Int) : ∀ el ∈ ints l, plains el = true := by intro el h; obtain ⟨t, _, rfl⟩ := List.mem_map.1 h; rfl
theorem ints_flat (l : List Int) : (ints l).flatten = l.map (.int .i64) := by
  induction l with
  | nil => rfl
  | cons a l ih => rw [List.map_cons, ← ih]; rfl
theorem ints_drop (l : List Int) (n : Nat) : (ints l).drop n = ints (l.drop n) := by unfold ints; rw [List.map_drop]
theorem ints_take (l : List Int) (n : Nat) : (ints l).take n = ints (l.take n) := by unfold ints; rw [List.map_take]
def Nd.cells (d : Nd) : List EV := [.int .i64 d.kind, row d.nl 0 1 (ints d.kids), .int .i64 d.n, .str d.s, .int .i64 d.pos]
def nds (l : List Nd) : List (List EV) := l.map Nd.cells
theorem nds_get {l : List Nd} {i : Nat} : (nds l)[i]? = (l[i]?).map Nd.cells := by unfold nds; rw [List.getElem?_map]
theorem nds_len {l : List Nd} : (nds l).length = l.length := by unfold nds; rw [List.length_map]
theorem idx_int {n : Nat} {k : IntKind} {x : Int} (h0 : 0 ≤ x) (h : x < (n : Int)) : idx n (.int k x) = some x.toNat := by
  obtain ⟨i, rfl⟩ := Int.eq_ofNat_of_zero_le h0
  exact idx_cast (by omega)
theorem node_at {l : List Nd} {x : Int} (h0 : 0 ≤ x) (h : x < (l.length : Int)) : ∃ d, l[x.toNat]? = some d ∧ kindOf l x = d.kind := by
  have hlt : x.toNat < l.length := by omega
  refine ⟨l[x.toNat], List.getElem?_eq_getElem hlt, ?_⟩
  unfold kindOf; rw [List.getElem?_eq_getElem hlt]; rfl
end Go.Proofs.YtblcomejcahkdaaDoor.Ev
end
section
namespace Go.Proofs.YtblcomejcahkdaaDoor.Ev
open Go
set_option maxRecDepth 20000
set_option maxHeartbeats 8000000
theorem take_same {α : Type} {C D : List α} {i : Nat} {a : α} (h : C.take i = D.take i) (hA : C[i]? = some a) (hB : D[i]? = some a) : C.take (i + 1) = D.take (i + 1) := by
  rw [List.take_add_one, List.take_add_one, h, hA, hB]
theorem take_diff {α : Type} {C D : List α} {i : Nat} {a b : α} (hA : C[i]? = some a) (hB : D[i]? = some b) (hab : a ≠ b) : C ≠ D := by
  rintro rfl; rw [hA] at hB; exact hab (Option.some.inj hB)
theorem sameInts_loop {C D : List Int} {t t' : Nat} {nl nl' : Bool} (hl : C.length ≤ 9223372036854775807) (hCD : D.length = C.length) {m0 : Mem} {fr : Fr} (h0 : fr.get 0 = row nl t 1 (ints C)) (h1 : fr.get 1 = row nl' t' 1 (ints D)) (h5 : fr.get 5 = .int .i64 0) (hd : fr.defers = []) :
    ∃ o, exec U (.loop F_base_SameInts_l0) fr m0 = some o ∧ ((C = D ∧ ∃ fr' m', o = .exit 0 fr' m' ∧ fr'.defers = []) ∨ (C ≠ D ∧ ∃ fr' m', o = .ret fr' m' ∧ fr'.get 4 = .bool false ∧ fr'.defers = [])) := by
  refine loop_w (σ := Nat) (fun i fr m => i ≤ C.length ∧ C.take i = D.take i ∧ fr.get 0 = row nl t 1 (ints C) ∧ fr.get 1 = row nl' t' 1 (ints D) ∧ fr.get 5 = .int .i64 (i : Int) ∧ fr.defers = []) (fun i => C.length - i) _ ?_ 0 fr m0 ⟨Nat.zero_le _, rfl, h0, h1, h5, hd⟩
  rintro i fr m ⟨hi, hs, h0, h1, h5, hd⟩
  generalize hX : exec U F_base_SameInts_l0 fr m = X
  by_cases hlt : i < C.length
  · have hc : (i : Int) < (C.length : Int) := by omega
    have hg : C[i]? = some C[i] := List.getElem?_eq_getElem hlt
    have hg2 : D[i]? = some D[i] := List.getElem?_eq_getElem (by omega)
    have hw1 := wrap_succ (i := i) (by omega)
    have hix : idx C.length (.int .i64 (i : Int)) = some i := idx_cast hlt
    have hix2 : idx D.length (.int .i64 (i : Int)) = some i := idx_cast (by omega)
    generalize C[i] = x at *
    generalize D[i] = y at *
    by_cases e : x = y
    · subst e
      simp +contextual -implicitDefEqProofs (maxSteps := 1000000) (maxDischargeDepth := 8) only [F_base_SameInts_l0, h0, h1, h5, hd, hc, hg, hg2, hix, hix2, hw1, ints_get, ints_len, zza, argsF, reduceIte, reduceCtorEq, Nat.reduceEqDiff, Nat.reduceBEq, Nat.reduceAdd, Int.reduceLT, Int.reduceLE, Int.reduceEq, Int.reduceToNat, Int.reduceNeg, Nat.reduceLeDiff, Int.reducePow, implies_true, UInt8.reduceToNat, Int.reduceSub, Int.reduceAdd, Nat.reduceLT, Nat.reduceMul, Nat.reduceSub, Nat.reduceBNe] at hX
      subst hX
      exact lw_norm (i + 1) (by omega) ⟨hlt, take_same hs hg hg2, by simp only [h0, zzf, Nat.reduceBEq ], by simp only [h1, zzf, Nat.reduceBEq ], by simp only [zzf, Nat.reduceBEq ], by simp only [hd, zzf, Nat.reduceBEq ]⟩
    · simp +contextual -implicitDefEqProofs (maxSteps := 1000000) (maxDischargeDepth := 8) only [F_base_SameInts_l0, h0, h1, h5, hd, hc, hg, hg2, hix, hix2, hw1, e, ints_get, ints_len, zza, argsF, reduceIte, reduceCtorEq, Nat.reduceEqDiff, Nat.reduceBEq, Nat.reduceAdd, Int.reduceLT, Int.reduceLE, Int.reduceEq, Int.reduceToNat, Int.reduceNeg, Nat.reduceLeDiff, Int.reducePow, implies_true, UInt8.reduceToNat, Int.reduceSub, Int.reduceAdd, Nat.reduceLT, Nat.reduceMul, Nat.reduceSub, Nat.reduceBNe] at hX
      subst hX
      exact lw_ret (.inr ⟨take_diff hg hg2 e, _, _, rfl, by simp only [zzf, Nat.reduceBEq ], by simp only [hd, zzf, Nat.reduceBEq ]⟩)
  · have hc : ¬ ((i : Int) < (C.length : Int)) := by omega
    rw [List.take_of_length_le (by omega), List.take_of_length_le (by omega)] at hs
    simp +contextual -implicitDefEqProofs (maxSteps := 1000000) (maxDischargeDepth := 8) only [F_base_SameInts_l0, h0, h1, h5, hd, hc, ints_len, zza, argsF, reduceIte, reduceCtorEq, Nat.reduceEqDiff, Nat.reduceBEq, Nat.reduceAdd, Int.reduceLT, Int.reduceLE, Int.reduceEq, Int.reduceToNat, Int.reduceNeg, Nat.reduceLeDiff, Int.reducePow, implies_true, UInt8.reduceToNat, Int.reduceSub, Int.reduceAdd, Nat.reduceLT, Nat.reduceMul, Nat.reduceSub, Nat.reduceBNe] at hX
    subst hX
    exact lw_exit (.inl ⟨hs, _, _, rfl, by simp only [hd, zzf, Nat.reduceBEq ]⟩)
theorem sameInts_eq {C D : List Int} {t t' : Nat} {nl nl' : Bool} (hl : C.length ≤ 9223372036854775807) : pureR B K n_base_SameInts [row nl t 1 (ints C), row nl' t' 1 (ints D)] = some (bo (C = D)) := by
  rw [pure_at (by simp [F_base_SameInts])]
  generalize hL : exec (UT B K) (ICode.loop F_base_SameInts_l0) = L
  by_cases hCD : D.length = C.length
  · have hc : (C.length : Int) = (D.length : Int) := by omega
    simp +contextual -implicitDefEqProofs (maxSteps := 1000000) (maxDischargeDepth := 8) only [F_base_SameInts, ints_len, hc, zza, argsF, reduceIte, reduceCtorEq, Nat.reduceEqDiff, Nat.reduceBEq, Nat.reduceAdd, Int.reduceLT, Int.reduceLE, Int.reduceEq, Int.reduceToNat, Int.reduceNeg, Nat.reduceLeDiff, Int.reducePow, implies_true, UInt8.reduceToNat, Int.reduceSub, Int.reduceAdd, Nat.reduceLT, Nat.reduceMul, Nat.reduceSub, Nat.reduceBNe]
    subst hL
    generalize hX : exec _ (.loop F_base_SameInts_l0) _ _ = X
    obtain ⟨o, rfl, ⟨e, fr', m', rfl, gd⟩ | ⟨e, fr', m', rfl, g4, gd⟩⟩ := looped hX (sameInts_loop (C := C) (D := D) (nl := nl) (t := t) (nl' := nl') (t' := t') hl hCD (by simp only [zzf, Nat.reduceBEq ]) (by simp only [zzf, Nat.reduceBEq ]) (by simp only [zzf, Nat.reduceBEq ]) (by simp only [zzf, Nat.reduceBEq ]))
    · simp +contextual -implicitDefEqProofs (maxSteps := 1000000) (maxDischargeDepth := 8) only [gd, e, bo_tt, zza, argsF, reduceIte, reduceCtorEq, Nat.reduceEqDiff, Nat.reduceBEq, Nat.reduceAdd, Int.reduceLT, Int.reduceLE, Int.reduceEq, Int.reduceToNat, Int.reduceNeg, Nat.reduceLeDiff, Int.reducePow, implies_true, UInt8.reduceToNat, Int.reduceSub, Int.reduceAdd, Nat.reduceLT, Nat.reduceMul, Nat.reduceSub, Nat.reduceBNe]
    · simp +contextual -implicitDefEqProofs (maxSteps := 1000000) (maxDischargeDepth := 8) only [gd, g4, e, bo_ff, zza, argsF, reduceIte, reduceCtorEq, Nat.reduceEqDiff, Nat.reduceBEq, Nat.reduceAdd, Int.reduceLT, Int.reduceLE, Int.reduceEq, Int.reduceToNat, Int.reduceNeg, Nat.reduceLeDiff, Int.reducePow, implies_true, UInt8.reduceToNat, Int.reduceSub, Int.reduceAdd, Nat.reduceLT, Nat.reduceMul, Nat.reduceSub, Nat.reduceBNe]
  · have hc : ¬ ((C.length : Int) = (D.length : Int)) := by omega
    have e : ¬ (C = D) := by rintro rfl; exact hCD rfl
    simp +contextual -implicitDefEqProofs (maxSteps := 1000000) (maxDischargeDepth := 8) only [F_base_SameInts, ints_len, hc, e, bo_ff, zza, argsF, reduceIte, reduceCtorEq, Nat.reduceEqDiff, Nat.reduceBEq, Nat.reduceAdd, Int.reduceLT, Int.reduceLE, Int.reduceEq, Int.reduceToNat, Int.reduceNeg, Nat.reduceLeDiff, Int.reducePow, implies_true, UInt8.reduceToNat, Int.reduceSub, Int.reduceAdd, Nat.reduceLT, Nat.reduceMul, Nat.reduceSub, Nat.reduceBNe]
theorem equal_loop {C D : List Int} {t t' : Nat} {nl nl' : Bool} (hl : C.length ≤ 9223372036854775807) (hCD : D.length = C.length) {m0 : Mem} {fr : Fr} (h0 : fr.get 0 = row nl t 1 (ints C)) (h1 : fr.get 1 = row nl' t' 1 (ints D)) (h12 : fr.get 12 = .int .i64 (C.length : Int)) (h13 : fr.get 13 = .int .i64 0) (hd : fr.defers = []) :
    ∃ o, exec U (.loop F_slices_Equal_int_l0) fr m0 = some o ∧ ((C = D ∧ ∃ fr' m', o = .exit 0 fr' m' ∧ fr'.defers = []) ∨ (C ≠ D ∧ ∃ fr' m', o = .ret fr' m' ∧ fr'.get 4 = .bool false ∧ fr'.defers = [])) := by
  refine loop_w (σ := Nat) (fun i fr m => i ≤ C.length ∧ C.take i = D.take i ∧ fr.get 0 = row nl t 1 (ints C) ∧ fr.get 1 = row nl' t' 1 (ints D) ∧ fr.get 12 = .int .i64 (C.length : Int) ∧ fr.get 13 = .int .i64 (i : Int) ∧ fr.defers = []) (fun i => C.length - i) _ ?_ 0 fr m0 ⟨Nat.zero_le _, rfl, h0, h1, h12, h13, hd⟩
  rintro i fr m ⟨hi, hs, h0, h1, h12, h13, hd⟩
  generalize hX : exec U F_slices_Equal_int_l0 fr m = X
  by_cases hlt : i < C.length
  · have hc : (i : Int) < (C.length : Int) := by omega
    have hg : C[i]? = some C[i] := List.getElem?_eq_getElem hlt
    have hg2 : D[i]? = some D[i] := List.getElem?_eq_getElem (by omega)
    have hw1 := wrap_succ (i := i) (by omega)
    have hix : idx C.length (.int .i64 (i : Int)) = some i := idx_cast hlt
    have hix2 : idx D.length (.int .i64 (i : Int)) = some i := idx_cast (by omega)
    generalize C[i] = x at *
    generalize D[i] = y at *
    by_cases e : x = y
    · subst e
      simp +contextual -implicitDefEqProofs (maxSteps := 1000000) (maxDischargeDepth := 8) only [F_slices_Equal_int_l0, h0, h1, h12, h13, hd, hc, hg, hg2, hix, hix2, hw1, ints_get, ints_len, zza, argsF, reduceIte, reduceCtorEq, Nat.reduceEqDiff, Nat.reduceBEq, Nat.reduceAdd, Int.reduceLT, Int.reduceLE, Int.reduceEq, Int.reduceToNat, Int.reduceNeg, Nat.reduceLeDiff, Int.reducePow, implies_true, UInt8.reduceToNat, Int.reduceSub, Int.reduceAdd, Nat.reduceLT, Nat.reduceMul, Nat.reduceSub, Nat.reduceBNe] at hX
      subst hX
      exact lw_norm (i + 1) (by omega) ⟨hlt, take_same hs hg hg2, by simp only [h0, zzf, Nat.reduceBEq ], by simp only [h1, zzf, Nat.reduceBEq ], by simp only [h12, zzf, Nat.reduceBEq ], by simp only [zzf, Nat.reduceBEq ], by simp only [hd, zzf, Nat.reduceBEq ]⟩
    · simp +contextual -implicitDefEqProofs (maxSteps := 1000000) (maxDischargeDepth := 8) only [F_slices_Equal_int_l0, h0, h1, h12, h13, hd, hc, hg, hg2, hix, hix2, hw1, e, ints_get, ints_len, zza, argsF, reduceIte, reduceCtorEq, Nat.reduceEqDiff, Nat.reduceBEq, Nat.reduceAdd, Int.reduceLT, Int.reduceLE, Int.reduceEq, Int.reduceToNat, Int.reduceNeg, Nat.reduceLeDiff, Int.reducePow, implies_true, UInt8.reduceToNat, Int.reduceSub, Int.reduceAdd, Nat.reduceLT, Nat.reduceMul, Nat.reduceSub, Nat.reduceBNe] at hX
      subst hX
      exact lw_ret (.inr ⟨take_diff hg hg2 e, _, _, rfl, by simp only [zzf, Nat.reduceBEq ], by simp only [hd, zzf, Nat.reduceBEq ]⟩)
  · have hc : ¬ ((i : Int) < (C.length : Int)) := by omega
    rw [List.take_of_length_le (by omega), List.take_of_length_le (by omega)] at hs
    simp +contextual -implicitDefEqProofs (maxSteps := 1000000) (maxDischargeDepth := 8) only [F_slices_Equal_int_l0, h0, h1, h12, h13, hd, hc, ints_len, zza, argsF, reduceIte, reduceCtorEq, Nat.reduceEqDiff, Nat.reduceBEq, Nat.reduceAdd, Int.reduceLT, Int.reduceLE, Int.reduceEq, Int.reduceToNat, Int.reduceNeg, Nat.reduceLeDiff, Int.reducePow, implies_true, UInt8.reduceToNat, Int.reduceSub, Int.reduceAdd, Nat.reduceLT, Nat.reduceMul, Nat.reduceSub, Nat.reduceBNe] at hX
    subst hX
    exact lw_exit (.inl ⟨hs, _, _, rfl, by simp only [hd, zzf, Nat.reduceBEq ]⟩)
theorem equal_run {C D : List Int} {t t' : Nat} {nl nl' : Bool} (hl : C.length ≤ 9223372036854775807) (m : Mem) : ∃ m', run U n_slices_Equal_int [row nl t 1 (ints C), row nl' t' 1 (ints D)] m = some (.ret (bo (C = D)) m') := by
  rw [run_p2 (by simp [F_slices_Equal_int])]
  generalize hL : exec (UT B K) (ICode.loop F_slices_Equal_int_l0) = L
  generalize hY : resR _ _ = Y
  by_cases hCD : D.length = C.length
  · have hc : (C.length : Int) = (D.length : Int) := by omega
    simp +contextual -implicitDefEqProofs (maxSteps := 1000000) (maxDischargeDepth := 8) only [F_slices_Equal_int, ints_len, hc, zza, argsF, reduceIte, reduceCtorEq, Nat.reduceEqDiff, Nat.reduceBEq, Nat.reduceAdd, Int.reduceLT, Int.reduceLE, Int.reduceEq, Int.reduceToNat, Int.reduceNeg, Nat.reduceLeDiff, Int.reducePow, implies_true, UInt8.reduceToNat, Int.reduceSub, Int.reduceAdd, Nat.reduceLT, Nat.reduceMul, Nat.reduceSub, Nat.reduceBNe] at hY
    subst hL
    generalize hX : exec _ (.loop F_slices_Equal_int_l0) _ _ = X at hY
    obtain ⟨o, rfl, ⟨e, fr', m', rfl, gd⟩ | ⟨e, fr', m', rfl, g4, gd⟩⟩ := looped hX (equal_loop (C := C) (D := D) (nl := nl) (t := t) (nl' := nl') (t' := t') hl hCD (by simp only [zzf, Nat.reduceBEq ]) (by simp only [zzf, Nat.reduceBEq ]) (by simp only [hc, zzf, Nat.reduceBEq ]) (by simp only [zzf, Nat.reduceBEq ]) (by simp only [zzf, Nat.reduceBEq ]))
    · simp +contextual -implicitDefEqProofs (maxSteps := 1000000) (maxDischargeDepth := 8) only [gd, e, bo_tt, zza, argsF, reduceIte, reduceCtorEq, Nat.reduceEqDiff, Nat.reduceBEq, Nat.reduceAdd, Int.reduceLT, Int.reduceLE, Int.reduceEq, Int.reduceToNat, Int.reduceNeg, Nat.reduceLeDiff, Int.reducePow, implies_true, UInt8.reduceToNat, Int.reduceSub, Int.reduceAdd, Nat.reduceLT, Nat.reduceMul, Nat.reduceSub, Nat.reduceBNe] at hY
      subst hY
      exact ⟨_, by rw [bo_pos e]⟩
    · simp +contextual -implicitDefEqProofs (maxSteps := 1000000) (maxDischargeDepth := 8) only [gd, g4, e, bo_ff, zza, argsF, reduceIte, reduceCtorEq, Nat.reduceEqDiff, Nat.reduceBEq, Nat.reduceAdd, Int.reduceLT, Int.reduceLE, Int.reduceEq, Int.reduceToNat, Int.reduceNeg, Nat.reduceLeDiff, Int.reducePow, implies_true, UInt8.reduceToNat, Int.reduceSub, Int.reduceAdd, Nat.reduceLT, Nat.reduceMul, Nat.reduceSub, Nat.reduceBNe] at hY
      subst hY
      exact ⟨_, by rw [bo_neg e]⟩
  · have hc : ¬ ((C.length : Int) = (D.length : Int)) := by omega
    have e : ¬ (C = D) := by rintro rfl; exact hCD rfl
    simp +contextual -implicitDefEqProofs (maxSteps := 1000000) (maxDischargeDepth := 8) only [F_slices_Equal_int, ints_len, hc, e, bo_ff, zza, argsF, reduceIte, reduceCtorEq, Nat.reduceEqDiff, Nat.reduceBEq, Nat.reduceAdd, Int.reduceLT, Int.reduceLE, Int.reduceEq, Int.reduceToNat, Int.reduceNeg, Nat.reduceLeDiff, Int.reducePow, implies_true, UInt8.reduceToNat, Int.reduceSub, Int.reduceAdd, Nat.reduceLT, Nat.reduceMul, Nat.reduceSub, Nat.reduceBNe] at hY
    subst hY
    exact ⟨_, by rw [bo_neg e]⟩
def Nd.key (d : Nd) : Int × Int × Txt × List Int := (d.kind, d.n, d.s, d.kids)
theorem ndkey_eq {d e : Nd} : (d.key = e.key) = (d.kind = e.kind ∧ d.n = e.n ∧ d.s = e.s ∧ d.kids = e.kids) := by
  unfold Nd.key; simp only [Prod.mk.injEq]
theorem alike1_eq {d e : Nd} (hl : d.kids.length ≤ 9223372036854775807) : pureR B K n_tree_Alike_1 [.agg d.cells, .agg e.cells] = some (bo (d.key = e.key)) := by
  rw [pure_at (by simp [F_tree_Alike_1]), ndkey_eq]
  obtain ⟨g, hg⟩ := Classical.axiomOfChoice fun M => equal_run (C := d.kids) (D := e.kids) (t := 0) (t' := 0) (nl := d.nl) (nl' := e.nl) hl M
  by_cases c1 : d.kind = e.kind
  · by_cases c2 : d.n = e.n
    · by_cases c3 : d.s = e.s
      · simp +contextual -implicitDefEqProofs (maxSteps := 1000000) (maxDischargeDepth := 8) only [F_tree_Alike_1, Nd.cells, c1, c2, c3, hg, zza, argsF, reduceIte, reduceCtorEq, Nat.reduceEqDiff, Nat.reduceBEq, Nat.reduceAdd, Int.reduceLT, Int.reduceLE, Int.reduceEq, Int.reduceToNat, Int.reduceNeg, Nat.reduceLeDiff, Int.reducePow, implies_true, UInt8.reduceToNat, Int.reduceSub, Int.reduceAdd, Nat.reduceLT, Nat.reduceMul, Nat.reduceSub, Nat.reduceBNe]
      · simp +contextual -implicitDefEqProofs (maxSteps := 1000000) (maxDischargeDepth := 8) only [F_tree_Alike_1, Nd.cells, c1, c2, c3, hg, bo_ff, zza, argsF, reduceIte, reduceCtorEq, Nat.reduceEqDiff, Nat.reduceBEq, Nat.reduceAdd, Int.reduceLT, Int.reduceLE, Int.reduceEq, Int.reduceToNat, Int.reduceNeg, Nat.reduceLeDiff, Int.reducePow, implies_true, UInt8.reduceToNat, Int.reduceSub, Int.reduceAdd, Nat.reduceLT, Nat.reduceMul, Nat.reduceSub, Nat.reduceBNe]
    · simp +contextual -implicitDefEqProofs (maxSteps := 1000000) (maxDischargeDepth := 8) only [F_tree_Alike_1, Nd.cells, c1, c2, hg, bo_ff, zza, argsF, reduceIte, reduceCtorEq, Nat.reduceEqDiff, Nat.reduceBEq, Nat.reduceAdd, Int.reduceLT, Int.reduceLE, Int.reduceEq, Int.reduceToNat, Int.reduceNeg, Nat.reduceLeDiff, Int.reducePow, implies_true, UInt8.reduceToNat, Int.reduceSub, Int.reduceAdd, Nat.reduceLT, Nat.reduceMul, Nat.reduceSub, Nat.reduceBNe]
  · simp +contextual -implicitDefEqProofs (maxSteps := 1000000) (maxDischargeDepth := 8) only [F_tree_Alike_1, Nd.cells, c1, hg, bo_ff, zza, argsF, reduceIte, reduceCtorEq, Nat.reduceEqDiff, Nat.reduceBEq, Nat.reduceAdd, Int.reduceLT, Int.reduceLE, Int.reduceEq, Int.reduceToNat, Int.reduceNeg, Nat.reduceLeDiff, Int.reducePow, implies_true, UInt8.reduceToNat, Int.reduceSub, Int.reduceAdd, Nat.reduceLT, Nat.reduceMul, Nat.reduceSub, Nat.reduceBNe]
end Go.Proofs.YtblcomejcahkdaaDoor.Ev
end
section
namespace Go.Proofs.YtblcomejcahkdaaDoor.Ev
open Go
set_option maxRecDepth 10000
set_option maxHeartbeats 4000000
def validK (l : List Nd) (k : List Int) : Prop := ∀ x ∈ k, 0 ≤ x ∧ x < (l.length : Int)
end Go.Proofs.YtblcomejcahkdaaDoor.Ev
end
section
namespace Go.Proofs.YtblcomejcahkdaaDoor.Ev
open Go
set_option maxRecDepth 10000
set_option maxHeartbeats 4000000
theorem highF_more {l : List Nd} (hk : kidsLt l) : ∀ (f i : Nat), i < f → highF l f i = highN l i := by
  have key : ∀ (i f g : Nat), i < f → i < g → highF l f i = highF l g i := by
    intro i
    induction i using Nat.strongRecOn with
    | _ i ih =>
      intro f g hf hg
      obtain ⟨f, rfl⟩ : ∃ f', f = f' + 1 := ⟨f - 1, by omega⟩
      obtain ⟨g, rfl⟩ : ∃ g', g = g' + 1 := ⟨g - 1, by omega⟩
      simp only [highF]
      cases hd : l[i]? with
      | none => rfl
      | some d =>
        simp only
        have hx := hk i d hd
        generalize d.kids = ks at hx
        have : ∀ (ks : List Int) (a : Nat), (∀ x ∈ ks, 0 ≤ x ∧ x < (i : Int)) → ks.foldl (fun h x => max h (1 + highF l f x.toNat)) a = ks.foldl (fun h x => max h (1 + highF l g x.toNat)) a := by
          intro ks
          induction ks with
          | nil => intro a _; rfl
          | cons x ks ihk =>
            intro a h
            have := h x (by simp)
            rw [List.foldl_cons, List.foldl_cons, ih x.toNat (by omega) f g (by omega) (by omega)]
            exact ihk _ fun y hy => h y (by simp [hy])
        exact this ks 1 hx
  intro f i h
  exact key i f (i + 1) h (by omega)
theorem highN_eq {l : List Nd} (hk : kidsLt l) {i : Nat} {d : Nd} (hd : l[i]? = some d) : highN l i = d.kids.foldl (fun h x => max h (1 + highN l x.toNat)) 1 := by
  unfold highN
  rw [highF]
  simp only [hd]
  have hx := hk i d hd
  generalize d.kids = ks at hx
  have : ∀ (ks : List Int) (a : Nat), (∀ x ∈ ks, 0 ≤ x ∧ x < (i : Int)) → ks.foldl (fun h x => max h (1 + highF l i x.toNat)) a = ks.foldl (fun h x => max h (1 + highF l (x.toNat + 1) x.toNat)) a := by
    intro ks
    induction ks with
    | nil => intro a _; rfl
    | cons x ks ihk =>
      intro a h
      have := h x (by simp)
      rw [List.foldl_cons, List.foldl_cons, highF_more hk i x.toNat (by omega)]
      exact ihk _ fun y hy => h y (by simp [hy])
  exact this ks 1 hx
theorem highN_le {l : List Nd} (hk : kidsLt l) : ∀ i, highN l i ≤ i + 1 := by
  intro i
  induction i using Nat.strongRecOn with
  | _ i ih =>
    cases hd : l[i]? with
    | none => unfold highN highF; rw [hd]; simp
    | some d =>
      rw [highN_eq hk hd]
      have hx := hk i d hd
      generalize d.kids = ks at hx
      have : ∀ (ks : List Int) (a : Nat), a ≤ i + 1 → (∀ x ∈ ks, 0 ≤ x ∧ x < (i : Int)) → ks.foldl (fun h x => max h (1 + highN l x.toNat)) a ≤ i + 1 := by
        intro ks
        induction ks with
        | nil => intro a h _; exact h
        | cons x ks ihk =>
          intro a ha h
          have h1 := h x (by simp)
          have h2 := ih x.toNat (by omega)
          rw [List.foldl_cons]
          exact ihk _ (by omega) fun y hy => h y (by simp [hy])
      exact this ks 1 (by omega) hx
end Go.Proofs.YtblcomejcahkdaaDoor.Ev
end
section
namespace Go.Proofs.YtblcomejcahkdaaDoor.Ev
open Go
theorem len_of_sub {α : Type} [DecidableEq α] : ∀ {a b : List α}, a.Nodup → (∀ x ∈ a, x ∈ b) → a.length ≤ b.length
  | [], b, _, _ => Nat.zero_le _
  | x :: a, b, h, hs => by
    rw [List.nodup_cons] at h
    have h1 := len_of_sub (b := b.erase x) h.2 fun y hy => by
      have hne : y ≠ x := by rintro rfl; exact h.1 hy
      exact (List.mem_erase_of_ne hne).2 (hs y (by simp [hy]))
    have h2 := List.length_erase_of_mem (hs x (by simp))
    have h3 := List.length_pos_of_mem (hs x (by simp))
    rw [List.length_cons]
    omega
def upto (n : Nat) : List Int := (List.range n).map fun (j : Nat) => (j : Int)
theorem upto_len {n : Nat} : (upto n).length = n := by simp [upto]
theorem upto_mem {n : Nat} {x : Int} : x ∈ upto n ↔ 0 ≤ x ∧ x < (n : Int) := by
  unfold upto
  rw [List.mem_map]
  constructor
  · rintro ⟨j, hj, rfl⟩; have := List.mem_range.1 hj; omega
  · rintro ⟨h1, h2⟩; exact ⟨x.toNat, List.mem_range.2 (by omega), by omega⟩
theorem upto_nodup {n : Nat} : (upto n).Nodup := by
  unfold upto
  induction n with
  | zero => simp
  | succ n ih =>
    rw [List.range_succ, List.map_append, List.nodup_append]
    refine ⟨ih, by simp, fun a ha b hb => ?_⟩
    rw [List.mem_map] at ha
    obtain ⟨j, hj, rfl⟩ := ha
    have := List.mem_range.1 hj
    simp at hb
    omega
theorem usedL_mem {l : List Nd} {x : Int} : x ∈ usedL l ↔ ∃ (i : Nat) (d : Nd), l[i]? = some d ∧ x ∈ d.kids := by
  unfold usedL
  rw [List.mem_flatten]
  constructor
  · rintro ⟨k, hk, hx⟩
    obtain ⟨d, hd, rfl⟩ := List.mem_map.1 hk
    obtain ⟨i, hi⟩ := List.mem_iff_getElem?.1 hd
    exact ⟨i, d, hi, hx⟩
  · rintro ⟨i, d, hi, hx⟩
    exact ⟨d.kids, List.mem_map.2 ⟨d, List.mem_iff_getElem?.2 ⟨i, hi⟩, rfl⟩, hx⟩
theorem kids_few {i : Nat} {ks : List Int} (h : ∀ x ∈ ks, 0 ≤ x ∧ x < (i : Int)) (hn : ks.Nodup) : ks.length ≤ i := by
  have := len_of_sub (b := upto i) hn fun x hx => upto_mem.2 (h x hx)
  rwa [upto_len] at this
end Go.Proofs.YtblcomejcahkdaaDoor.Ev
end
section
namespace Go.Proofs.YtblcomejcahkdaaDoor.Ev
open Go
set_option maxRecDepth 10000
set_option maxHeartbeats 4000000
def rightTo (l : List Nd) (i : Nat) : Prop := (∀ (j : Nat) (d : Nd), j < i → l[j]? = some d → (∀ x ∈ d.kids, 0 ≤ x ∧ x < (j : Int)) ∧ ownP d ∧ kidsP l d) ∧ (usedL (l.take i)).Nodup
theorem usedL_snoc {l : List Nd} {i : Nat} {d : Nd} (h : l[i]? = some d) : usedL (l.take (i + 1)) = usedL (l.take i) ++ d.kids := by
  obtain ⟨h1, h2⟩ := List.getElem?_eq_some_iff.1 h
  unfold usedL
  rw [List.take_succ_eq_append_getElem h1, h2]; simp
theorem usedL_pre {l : List Nd} (i : Nat) : List.Sublist (usedL (l.take i)) (usedL l) := by
  unfold usedL
  conv => rhs; rw [← List.take_append_drop i l, List.map_append, List.flatten_append]
  exact List.sublist_append_left _ _
structure Small (l : List Nd) : Prop where
  len : l.length < 100000
  kids : ∀ d ∈ l, d.kids.length ≤ 9223372036854775807
  s : ∀ d ∈ l, d.s.length < 1000000
theorem kids_sub {l : List Nd} {d : Nd} (h : d ∈ l) : List.Sublist d.kids (usedL l) := by
  obtain ⟨i, hi⟩ := List.mem_iff_getElem?.1 h
  have h1 := usedL_snoc hi
  have h2 := usedL_pre (l := l) (i + 1)
  rw [h1] at h2
  exact (List.sublist_append_right _ _).trans h2
theorem kids_of {l : List Nd} (hk : kidsLt l) (hu : (usedL l).Nodup) {d : Nd} (h : d ∈ l) : d.kids.length ≤ l.length := by
  obtain ⟨i, hi⟩ := List.mem_iff_getElem?.1 h
  have h1 := kids_few (hk i d hi) (hu.sublist (kids_sub h))
  have := (List.getElem?_eq_some_iff.1 hi).1
  omega
end Go.Proofs.YtblcomejcahkdaaDoor.Ev
end
section
namespace Go.Proofs.YtblcomejcahkdaaDoor.Ev
open Go
set_option maxRecDepth 10000
set_option maxHeartbeats 4000000
theorem strs1_get {l : List Txt} {i : Nat} : (strs1 l)[i]? = (l[i]?).map fun s => [.str s] := by unfold strs1; rw [List.getElem?_map]
theorem strs1_len {l : List Txt} : (strs1 l).length = l.length := by unfold strs1; rw [List.length_map]
theorem load_gl {l : List Txt} {m : Mem} : m.load none (glV l) = some (.fz 0 1 (strs1 l)) := rfl
def ints1 (l : List Int) : List (List EV) := l.map fun s => [.int .i64 s]
def ixN {α : Type} [DecidableEq α] (x : α) : List α → Nat
  | [] => 0
  | a :: l => if a = x then 0 else ixN x l + 1
theorem ixN_at {α : Type} [DecidableEq α] {x : α} : ∀ {l : List α} {i : Nat}, x ∉ l.take i → l[i]? = some x → ixN x l = i
  | [], i, _, h => by simp at h
  | a :: l, 0, _, h => by simp only [List.getElem?_cons_zero, Option.some.injEq] at h; simp only [ixN, if_pos h]
  | a :: l, i + 1, hn, h => by
    simp only [List.take_succ_cons, List.mem_cons, not_or] at hn
    simp only [ixN, if_neg (Ne.symm hn.1), ixN_at hn.2 (by simpa using h)]
def ixL {α : Type} [DecidableEq α] (x : α) (l : List α) : Int := if x ∈ l then (ixN x l : Int) else -1
theorem ixL_pos {α : Type} [DecidableEq α] {x : α} {l : List α} : (0 ≤ ixL x l) = (x ∈ l) := by
  unfold ixL
  by_cases h : x ∈ l
  · rw [if_pos h]; simp [h]
  · rw [if_neg h]; simp [h]
end Go.Proofs.YtblcomejcahkdaaDoor.Ev
end
section
namespace Go.Proofs.YtblcomejcahkdaaDoor.Ev
open Go
set_option maxRecDepth 10000
set_option maxHeartbeats 4000000
theorem stringidx_loop {l : List Txt} {x : Txt} (hl : l.length < 1000000000) {tg : Nat} {m0 : Mem} {fr : Fr} (h0 : fr.get 0 = .fz tg 1 (strs1 l)) (h1 : fr.get 1 = .str x) (h7 : fr.get 7 = .int .i64 (l.length : Int)) (h8 : fr.get 8 = .int .i64 0) (hd : fr.defers = []) :
    ∃ o, exec U (.loop F_slices_Index_string_l0) fr m0 = some o ∧ ((x ∈ l ∧ ∃ fr', o = .ret fr' m0 ∧ fr'.get 4 = .int .i64 (ixN x l : Int) ∧ fr'.defers = []) ∨ (x ∉ l ∧ ∃ fr', o = .exit 0 fr' m0 ∧ fr'.defers = [])) := by
  refine loop_w (σ := Nat) (fun i fr m => m = m0 ∧ i ≤ l.length ∧ x ∉ l.take i ∧ fr.get 0 = .fz tg 1 (strs1 l) ∧ fr.get 1 = .str x ∧ fr.get 7 = .int .i64 (l.length : Int) ∧ fr.get 8 = .int .i64 (i : Int) ∧ fr.defers = []) (fun i => l.length - i) _ ?_ 0 fr m0 ⟨rfl, Nat.zero_le _, by simp, h0, h1, h7, h8, hd⟩
  rintro i fr m ⟨rfl, hi, hn, h0, h1, h7, h8, hd⟩
  generalize hX : exec U F_slices_Index_string_l0 fr m = X
  by_cases hlt : i < l.length
  · have hc : (i : Int) < (l.length : Int) := by omega
    have hg : l[i]? = some l[i] := List.getElem?_eq_getElem hlt
    have hw1 := wrap_succ (i := i) (by omega)
    simp +contextual -implicitDefEqProofs (maxSteps := 1000000) (maxDischargeDepth := 8) only [F_slices_Index_string_l0, h0, h1, h7, h8, hd, hc, hg, hlt, hw1, idx_cast, strs1_get, strs1_len, zza, argsF, reduceIte, reduceCtorEq, Nat.reduceEqDiff, Nat.reduceBEq, Nat.reduceAdd, Int.reduceLT, Int.reduceLE, Int.reduceEq, Int.reduceToNat, Int.reduceNeg, Nat.reduceLeDiff, Int.reducePow, implies_true, UInt8.reduceToNat, Int.reduceSub, Int.reduceAdd, Nat.reduceLT, Nat.reduceMul, Nat.reduceSub, Nat.reduceBNe] at hX
    subst hX
    refine lw_iF (fun he => lw_ret (.inl ⟨by rw [he]; exact List.getElem_mem hlt, _, rfl, ?_, by simp only [hd, zzf, Nat.reduceBEq ]⟩)) (fun he => lw_norm (i + 1) (by omega) ⟨rfl, hlt, ?_, by simp only [h0, zzf, Nat.reduceBEq ], by simp only [h1, zzf, Nat.reduceBEq ], by simp only [h7, zzf, Nat.reduceBEq ], by simp only [zzf, Nat.reduceBEq ], by simp only [hd, zzf, Nat.reduceBEq ]⟩)
    · have : ixN x l = i := ixN_at hn (by rw [hg, he])
      rw [this]; simp only [zzf, Nat.reduceBEq ]
    · rw [List.take_succ_eq_append_getElem hlt, List.mem_append]
      rintro (q | q)
      · exact hn q
      · exact he (List.mem_singleton.1 q)
  · have hc : ¬ ((i : Int) < (l.length : Int)) := by omega
    simp +contextual -implicitDefEqProofs (maxSteps := 1000000) (maxDischargeDepth := 8) only [F_slices_Index_string_l0, h0, h7, h8, hd, hc, zza, argsF, reduceIte, reduceCtorEq, Nat.reduceEqDiff, Nat.reduceBEq, Nat.reduceAdd, Int.reduceLT, Int.reduceLE, Int.reduceEq, Int.reduceToNat, Int.reduceNeg, Nat.reduceLeDiff, Int.reducePow, implies_true, UInt8.reduceToNat, Int.reduceSub, Int.reduceAdd, Nat.reduceLT, Nat.reduceMul, Nat.reduceSub, Nat.reduceBNe] at hX
    subst hX
    have : l.take i = l := List.take_of_length_le (by omega)
    rw [this] at hn
    exact lw_exit (.inr ⟨hn, _, rfl, by simp only [hd, zzf, Nat.reduceBEq ]⟩)
theorem stringidx_run {l : List Txt} {x : Txt} (hl : l.length < 1000000000) {tg : Nat} {m : Mem} : run U n_slices_Index_string [.fz tg 1 (strs1 l), .str x] m = some (.ret (.int .i64 (ixL x l)) m) := by
  rw [run_p2 (by simp [F_slices_Index_string])]
  generalize hL : exec (UT B K) (ICode.loop F_slices_Index_string_l0) = L
  simp +contextual -implicitDefEqProofs (maxSteps := 1000000) (maxDischargeDepth := 8) only [F_slices_Index_string, strs1_len, zza, argsF, reduceIte, reduceCtorEq, Nat.reduceEqDiff, Nat.reduceBEq, Nat.reduceAdd, Int.reduceLT, Int.reduceLE, Int.reduceEq, Int.reduceToNat, Int.reduceNeg, Nat.reduceLeDiff, Int.reducePow, implies_true, UInt8.reduceToNat, Int.reduceSub, Int.reduceAdd, Nat.reduceLT, Nat.reduceMul, Nat.reduceSub, Nat.reduceBNe]
  subst hL
  generalize hX : exec _ (.loop F_slices_Index_string_l0) _ _ = X
  obtain ⟨o, rfl, h⟩ := looped hX (stringidx_loop (l := l) (x := x) hl (tg := tg) (by simp only [zzf, Nat.reduceBEq ]) (by simp only [zzf, Nat.reduceBEq ]) (by simp only [zzf, Nat.reduceBEq ]) (by simp only [zzf, Nat.reduceBEq ]) (by simp only [zzf, Nat.reduceBEq ]))
  rcases h with ⟨h, fr', rfl, h4, hd⟩ | ⟨h, fr', rfl, hd⟩
  · simp +contextual -implicitDefEqProofs (maxSteps := 1000000) (maxDischargeDepth := 8) only [h, h4, hd, ixL, zza, argsF, reduceIte, reduceCtorEq, Nat.reduceEqDiff, Nat.reduceBEq, Nat.reduceAdd, Int.reduceLT, Int.reduceLE, Int.reduceEq, Int.reduceToNat, Int.reduceNeg, Nat.reduceLeDiff, Int.reducePow, implies_true, UInt8.reduceToNat, Int.reduceSub, Int.reduceAdd, Nat.reduceLT, Nat.reduceMul, Nat.reduceSub, Nat.reduceBNe]
  · simp +contextual -implicitDefEqProofs (maxSteps := 1000000) (maxDischargeDepth := 8) only [h, hd, ixL, zza, argsF, reduceIte, reduceCtorEq, Nat.reduceEqDiff, Nat.reduceBEq, Nat.reduceAdd, Int.reduceLT, Int.reduceLE, Int.reduceEq, Int.reduceToNat, Int.reduceNeg, Nat.reduceLeDiff, Int.reducePow, implies_true, UInt8.reduceToNat, Int.reduceSub, Int.reduceAdd, Nat.reduceLT, Nat.reduceMul, Nat.reduceSub, Nat.reduceBNe]
theorem stringhas_run {l : List Txt} {x : Txt} (hl : l.length < 1000000000) {tg : Nat} {m : Mem} : run U n_slices_Contains_string [.fz tg 1 (strs1 l), .str x] m = some (.ret (bo (x ∈ l)) m) := by
  rw [run_p2 (by simp [F_slices_Contains_string])]
  have h := fun m => stringidx_run (x := x) hl (tg := tg) (m := m)
  simp +contextual -implicitDefEqProofs (maxSteps := 1000000) (maxDischargeDepth := 8) only [F_slices_Contains_string, h, ixL_pos, zza, argsF, reduceIte, reduceCtorEq, Nat.reduceEqDiff, Nat.reduceBEq, Nat.reduceAdd, Int.reduceLT, Int.reduceLE, Int.reduceEq, Int.reduceToNat, Int.reduceNeg, Nat.reduceLeDiff, Int.reducePow, implies_true, UInt8.reduceToNat, Int.reduceSub, Int.reduceAdd, Nat.reduceLT, Nat.reduceMul, Nat.reduceSub, Nat.reduceBNe]
end Go.Proofs.YtblcomejcahkdaaDoor.Ev
end
section
namespace Go.Proofs.YtblcomejcahkdaaDoor.Ev
open Go
set_option maxRecDepth 10000
set_option maxHeartbeats 8000000
def sortP (k s : Int) : Prop := if s = 0 then 1 ≤ k ∧ k ≤ 11 else if s = 1 then 12 ≤ k ∧ k ≤ 22 else if s = 2 then k = 23 else if s = 3 then k = 11 else if s = 4 then k = 24 else k = 25
theorem tree_is {k s : Int} : pureR B K n_tree_is [.int .i64 k, .int .i64 s] = some (bo (sortP k s)) := by
  rw [pure_at (by simp [F_tree_is])]
  unfold sortP
  by_cases a : s = 0
  · subst a; simp +contextual -implicitDefEqProofs (maxSteps := 1000000) (maxDischargeDepth := 8) only [F_tree_is, if_true, zza, argsF, reduceIte, reduceCtorEq, Nat.reduceEqDiff, Nat.reduceBEq, Nat.reduceAdd, Int.reduceLT, Int.reduceLE, Int.reduceEq, Int.reduceToNat, Int.reduceNeg, Nat.reduceLeDiff, Int.reducePow, implies_true, UInt8.reduceToNat, Int.reduceSub, Int.reduceAdd, Nat.reduceLT, Nat.reduceMul, Nat.reduceSub, Nat.reduceBNe]
  · by_cases b : s = 1
    · subst b; simp +contextual -implicitDefEqProofs (maxSteps := 1000000) (maxDischargeDepth := 8) only [F_tree_is, if_true, if_false, zza, argsF, reduceIte, reduceCtorEq, Nat.reduceEqDiff, Nat.reduceBEq, Nat.reduceAdd, Int.reduceLT, Int.reduceLE, Int.reduceEq, Int.reduceToNat, Int.reduceNeg, Nat.reduceLeDiff, Int.reducePow, implies_true, UInt8.reduceToNat, Int.reduceSub, Int.reduceAdd, Nat.reduceLT, Nat.reduceMul, Nat.reduceSub, Nat.reduceBNe]
    · by_cases c : s = 2
      · subst c; simp +contextual -implicitDefEqProofs (maxSteps := 1000000) (maxDischargeDepth := 8) only [F_tree_is, if_true, if_false, zza, argsF, reduceIte, reduceCtorEq, Nat.reduceEqDiff, Nat.reduceBEq, Nat.reduceAdd, Int.reduceLT, Int.reduceLE, Int.reduceEq, Int.reduceToNat, Int.reduceNeg, Nat.reduceLeDiff, Int.reducePow, implies_true, UInt8.reduceToNat, Int.reduceSub, Int.reduceAdd, Nat.reduceLT, Nat.reduceMul, Nat.reduceSub, Nat.reduceBNe]
      · by_cases d : s = 3
        · subst d; simp +contextual -implicitDefEqProofs (maxSteps := 1000000) (maxDischargeDepth := 8) only [F_tree_is, if_true, if_false, zza, argsF, reduceIte, reduceCtorEq, Nat.reduceEqDiff, Nat.reduceBEq, Nat.reduceAdd, Int.reduceLT, Int.reduceLE, Int.reduceEq, Int.reduceToNat, Int.reduceNeg, Nat.reduceLeDiff, Int.reducePow, implies_true, UInt8.reduceToNat, Int.reduceSub, Int.reduceAdd, Nat.reduceLT, Nat.reduceMul, Nat.reduceSub, Nat.reduceBNe]
        · by_cases e : s = 4
          · subst e; simp +contextual -implicitDefEqProofs (maxSteps := 1000000) (maxDischargeDepth := 8) only [F_tree_is, if_true, if_false, zza, argsF, reduceIte, reduceCtorEq, Nat.reduceEqDiff, Nat.reduceBEq, Nat.reduceAdd, Int.reduceLT, Int.reduceLE, Int.reduceEq, Int.reduceToNat, Int.reduceNeg, Nat.reduceLeDiff, Int.reducePow, implies_true, UInt8.reduceToNat, Int.reduceSub, Int.reduceAdd, Nat.reduceLT, Nat.reduceMul, Nat.reduceSub, Nat.reduceBNe]
          · simp +contextual -implicitDefEqProofs (maxSteps := 1000000) (maxDischargeDepth := 8) only [F_tree_is, a, b, c, d, e, if_false, zza, argsF, reduceIte, reduceCtorEq, Nat.reduceEqDiff, Nat.reduceBEq, Nat.reduceAdd, Int.reduceLT, Int.reduceLE, Int.reduceEq, Int.reduceToNat, Int.reduceNeg, Nat.reduceLeDiff, Int.reducePow, implies_true, UInt8.reduceToNat, Int.reduceSub, Int.reduceAdd, Nat.reduceLT, Nat.reduceMul, Nat.reduceSub, Nat.reduceBNe]
theorem or32_all : ∀ n : _root_.Fin 256, (97 ≤ ior .u8 ((n.val : Nat) : Int) 32 ∧ ior .u8 ((n.val : Nat) : Int) 32 ≤ 122) ↔ ((97 ≤ n.val ∧ n.val ≤ 122) ∨ (65 ≤ n.val ∧ n.val ≤ 90)) := by decide +kernel
theorem or32 (c : UInt8) : ((97 ≤ ior .u8 (cI c) 32 ∧ ior .u8 (cI c) 32 ≤ 122) ∨ cI c = 95) ↔ LetterP (cI c) := by
  have h := or32_all ⟨c.toNat, c.toNat_lt⟩
  unfold LetterP
  have e : cI c = ((c.toNat : Nat) : Int) := rfl
  rw [e]
  simp only at h
  rw [h]
  omega
theorem cv_bytes {e : Nat} {m : Mem} {s : Txt} : evConv (.bytes e) m (.str s) = some (.slice (nb m.next 0) 0 s.length none, ext m [.cells (s.map fun b => .int .u8 (b.toNat : Int)) 1 e false]) := by
  simp only [evConv, nb, Nat.add_zero]
  rw [new_eq]
theorem tname_loop {s : Txt} (hs : s.length < 1000000000) {b t : Nat} {m0 : Mem} (hb : m0.get b = .cells (s.map fun c => .int .u8 (cI c)) 1 t false) {fr : Fr} (h0 : fr.get 0 = .str s) (h7 : fr.get 7 = .slice b 0 s.length none) (h8 : fr.get 8 = .int .i64 (s.length : Int)) (h9 : fr.get 9 = .int .i64 0) (hd : fr.defers = []) :
    ∃ o, exec U (.loop S_tree_name_l0) fr m0 = some o ∧ ((¬ (∀ (i : Nat) (c : UInt8), s[i]? = some c → LetterP (cI c) ∨ i ≠ 0 ∧ DigitP (cI c)) ∧ ∃ fr', o = .ret fr' m0 ∧ fr'.get 2 = .bool false ∧ fr'.defers = []) ∨
      ((∀ (i : Nat) (c : UInt8), s[i]? = some c → LetterP (cI c) ∨ i ≠ 0 ∧ DigitP (cI c)) ∧ ∃ fr', o = .exit 0 fr' m0 ∧ fr'.get 0 = .str s ∧ fr'.defers = [])) := by
  refine loop_w (σ := Nat) (fun i fr m => m = m0 ∧ i ≤ s.length ∧ fr.get 0 = .str s ∧ fr.get 7 = .slice b 0 s.length none ∧ fr.get 8 = .int .i64 (s.length : Int) ∧ fr.get 9 = .int .i64 (i : Int) ∧ (∀ (j : Nat) (c : UInt8), j < i → s[j]? = some c → LetterP (cI c) ∨ j ≠ 0 ∧ DigitP (cI c)) ∧ fr.defers = []) (fun i => s.length - i) _ ?_ 0 fr m0 ⟨rfl, Nat.zero_le _, h0, h7, h8, h9, by omega, hd⟩
  rintro i fr m ⟨rfl, hi, h0, h7, h8, h9, hall, hd⟩
  generalize hX : exec U S_tree_name_l0 fr m = X
  by_cases hlt : i < s.length
  · have hc : (i : Int) < (s.length : Int) := by omega
    have hg : s[i]? = some s[i] := List.getElem?_eq_getElem hlt
    have hw1 := wrap_succ (i := i) (by omega)
    have hi0 : ((i : Int) = 0) = (i = 0) := by simp
    generalize s[i] = c at hg
    have hor := or32 c
    simp +contextual -implicitDefEqProofs (maxSteps := 1000000) (maxDischargeDepth := 8) only [S_tree_name_l0, h0, h7, h8, h9, hd, hc, hb, hg, hlt, Nat.mul_one, hw1, hi0, hor, idx_cast, zza, argsF, reduceIte, reduceCtorEq, Nat.reduceEqDiff, Nat.reduceBEq, Nat.reduceAdd, Int.reduceLT, Int.reduceLE, Int.reduceEq, Int.reduceToNat, Int.reduceNeg, Nat.reduceLeDiff, Int.reducePow, implies_true, UInt8.reduceToNat, Int.reduceSub, Int.reduceAdd, Nat.reduceLT, Nat.reduceMul, Nat.reduceSub, Nat.reduceBNe] at hX
    subst hX
    refine lw_iF (fun hp => lw_ret (Or.inl ⟨fun q => ?_, _, rfl, by simp only [zzf, Nat.reduceBEq ], by simp only [hd, zzf, Nat.reduceBEq ]⟩)) (fun hp => lw_norm (i + 1) (by omega) ⟨rfl, hlt, by simp only [h0, zzf, Nat.reduceBEq ], by simp only [h7, zzf, Nat.reduceBEq ], by simp only [h8, zzf, Nat.reduceBEq ], by simp only [zzf, Nat.reduceBEq ], fun j d hj hjd => ?_, by simp only [hd, zzf, Nat.reduceBEq ]⟩)
    · rcases q i c hg with q | ⟨q1, q2⟩
      · exact hp.1 q
      · unfold DigitP at q2; omega
    · by_cases hji : j < i
      · exact hall j d hji hjd
      · obtain rfl : j = i := by omega
        rw [hg] at hjd; cases hjd
        by_cases q : LetterP (cI c)
        · exact .inl q
        · refine .inr ?_
          have : ¬ ((j = 0 ∨ cI c < 48) ∨ 57 < cI c) := fun r => hp ⟨q, r⟩
          unfold DigitP; omega
  · have hc : ¬ ((i : Int) < (s.length : Int)) := by omega
    simp +contextual -implicitDefEqProofs (maxSteps := 1000000) (maxDischargeDepth := 8) only [S_tree_name_l0, h0, h7, h8, h9, hd, hc, zza, argsF, reduceIte, reduceCtorEq, Nat.reduceEqDiff, Nat.reduceBEq, Nat.reduceAdd, Int.reduceLT, Int.reduceLE, Int.reduceEq, Int.reduceToNat, Int.reduceNeg, Nat.reduceLeDiff, Int.reducePow, implies_true, UInt8.reduceToNat, Int.reduceSub, Int.reduceAdd, Nat.reduceLT, Nat.reduceMul, Nat.reduceSub, Nat.reduceBNe] at hX
    subst hX
    exact lw_exit (Or.inr ⟨fun j c hj => hall j c (by have := (List.getElem?_eq_some_iff.1 hj).1; omega) hj, _, rfl, by simp only [h0, zzf, Nat.reduceBEq ], by simp only [hd, zzf, Nat.reduceBEq ]⟩)
theorem words_L : L_tree_words = wordsL := rfl
theorem tree_name {s : Txt} (hs : s.length < 1000000000) : pureR B K n_tree_name [.str s] = some (bo (nameP s)) := by
  rw [pure_at (by simp [S_tree_name])]
  generalize hL : exec (UT B K) (ICode.loop S_tree_name_l0) = L
  have hl := fun m => load_gl (l := wordsL) (m := m)
  have h := fun m => stringhas_run (l := wordsL) (x := s) (by decide) (tg := 0) (m := m)
  simp +contextual -implicitDefEqProofs (maxSteps := 1000000) (maxDischargeDepth := 8) only [S_tree_name, cv_bytes, zza, argsF, reduceIte, reduceCtorEq, Nat.reduceEqDiff, Nat.reduceBEq, Nat.reduceAdd, Int.reduceLT, Int.reduceLE, Int.reduceEq, Int.reduceToNat, Int.reduceNeg, Nat.reduceLeDiff, Int.reducePow, implies_true, UInt8.reduceToNat, Int.reduceSub, Int.reduceAdd, Nat.reduceLT, Nat.reduceMul, Nat.reduceSub, Nat.reduceBNe]
  subst hL
  generalize hX : exec _ (.loop S_tree_name_l0) _ _ = X
  obtain ⟨o, rfl, hq⟩ := looped hX (tname_loop (s := s) (b := nb mem00.next 0) (t := t_uint8) hs (by rw [get_ext_nb rfl (by simp)]; rfl) (by simp only [zzf, Nat.reduceBEq ]) (by simp only [zzf, Nat.reduceBEq ]) (by simp only [zzf, Nat.reduceBEq ]) (by simp only [zzf, Nat.reduceBEq ]) (by simp only [zzf, Nat.reduceBEq ]))
  rcases hq with ⟨hq, fr', rfl, h2, hd⟩ | ⟨hq, fr', rfl, h0, hd⟩
  · have : ¬ nameP s := fun q => hq q.1
    simp +contextual -implicitDefEqProofs (maxSteps := 1000000) (maxDischargeDepth := 8) only [this, h2, hd, bo_ff, zza, argsF, reduceIte, reduceCtorEq, Nat.reduceEqDiff, Nat.reduceBEq, Nat.reduceAdd, Int.reduceLT, Int.reduceLE, Int.reduceEq, Int.reduceToNat, Int.reduceNeg, Nat.reduceLeDiff, Int.reducePow, implies_true, UInt8.reduceToNat, Int.reduceSub, Int.reduceAdd, Nat.reduceLT, Nat.reduceMul, Nat.reduceSub, Nat.reduceBNe]
  · simp +contextual -implicitDefEqProofs (maxSteps := 1000000) (maxDischargeDepth := 8) only [h0, hd, words_L, hl, h, zza, argsF, reduceIte, reduceCtorEq, Nat.reduceEqDiff, Nat.reduceBEq, Nat.reduceAdd, Int.reduceLT, Int.reduceLE, Int.reduceEq, Int.reduceToNat, Int.reduceNeg, Nat.reduceLeDiff, Int.reducePow, implies_true, UInt8.reduceToNat, Int.reduceSub, Int.reduceAdd, Nat.reduceLT, Nat.reduceMul, Nat.reduceSub, Nat.reduceBNe]
    refine congrArg some (bo_iff' ?_)
    have hne : s ≠ [] ↔ 0 < s.length := List.length_pos_iff.symm
    unfold nameP
    constructor
    · rintro ⟨⟨q1, q2⟩, q3⟩; exact ⟨hq, hne.1 q1, by omega, q3⟩
    · rintro ⟨_, q1, q2, q3⟩; exact ⟨⟨hne.2 q1, by omega⟩, q3⟩
end Go.Proofs.YtblcomejcahkdaaDoor.Ev
end
