/- Operations in the order of the text. -/
import Derived.Test.YthlbifjgnhdonaaEvOp
namespace Go.Proofs.Ythlbifjgnhdonaa.Ev
open Go

/-- A call that waits for the function's end. -/
def DefR (ρ : Ren) (e : Nat × List EV) (d : Deferred) : Prop := ∃ c' : Array Value, d.target = .fn (.func e.1) c' ∧ VRs ρ e.2 (d.args.toList ++ c'.toList)
inductive DefsR (ρ : Ren) : List (Nat × List EV) → List Deferred → Prop
  | nil : DefsR ρ [] []
  | cons {e : Nat × List EV} {d : Deferred} {es : List (Nat × List EV)} {ds : List Deferred} (h : DefR ρ e d) (hs : DefsR ρ es ds) : DefsR ρ (e :: es) (d :: ds)
theorem DefsR.ext {ρ ρ' : Ren} (e : Ext ρ ρ') {es : List (Nat × List EV)} {ds : List Deferred} (h : DefsR ρ es ds) : DefsR ρ' es ds := by
  induction h with
  | nil => exact .nil
  | cons h _ ih => obtain ⟨c', h1, h2⟩ := h; exact .cons ⟨c', h1, h2.ext e⟩ ih
/-- A frame and its activation. -/
structure FrR (ρ : Ren) (n : Nat) (fr : Fr) (a : Act) : Prop where
  tm : FR ρ n fr a
  defs : DefsR ρ fr.defers a.defers
theorem FrR.ext {ρ ρ' : Ren} {n : Nat} {fr : Fr} {a : Act} (e : Ext ρ ρ') (h : FrR ρ n fr a) : FrR ρ' n fr a := ⟨h.tm.ext e, h.defs.ext e⟩
theorem put_defers (fr : Fr) (d : Option Nat) (v : EV) : (fr.put d v).defers = fr.defers := by cases d <;> rfl
theorem put_defers' (a : Act) (d : Option Nat) (v : Value) : (a.put d v).defers = a.defers := by cases d <;> rfl
theorem FrR.put {ρ : Ren} {n : Nat} {fr : Fr} {a : Act} (h : FrR ρ n fr a) {d : Option Nat} (hd : ∀ x, d = some x → x < n) {v : EV} {v' : Value} (hv : VR ρ v v') : FrR ρ n (fr.put d v) (a.put d v') :=
  ⟨h.tm.put hd hv, by rw [put_defers, put_defers']; exact h.defs⟩

/-- How an end of a piece of code stands to the machine's. -/
def Reach (base n : Nat) (ρ : Ren) (m : Mem) (w : World) (out : Out) (e : Exit) (a' : Act) (w' : World) : Prop :=
  match out with
  | .norm fr' m' => e = .normal ∧ ∃ ρ', R base ρ' m' w' ∧ Step ρ m w ρ' m' w' ∧ FrR ρ' n fr' a'
  | .exit id fr' m' => e = .exit id ∧ ∃ ρ', R base ρ' m' w' ∧ Step ρ m w ρ' m' w' ∧ FrR ρ' n fr' a'
  | .ret fr' m' => e = .ret ∧ ∃ ρ', R base ρ' m' w' ∧ Step ρ m w ρ' m' w' ∧ FrR ρ' n fr' a'
  | .pan v fr' m' => ∃ ρ' v', e = .panic [{ v := v', recovered := false }] ∧ VR ρ' v v' ∧ R base ρ' m' w' ∧ Step ρ m w ρ' m' w' ∧ FrR ρ' n fr' a'
theorem Reach.after {base n : Nat} {ρ ρ1 : Ren} {m m1 : Mem} {w w1 : World} (s : Step ρ m w ρ1 m1 w1) {out : Out} {e : Exit} {a' : Act} {w' : World} (h : Reach base n ρ1 m1 w1 out e a' w') : Reach base n ρ m w out e a' w' := by
  cases out with
  | norm fr' m' => obtain ⟨he, ρ', h1, h2, h3⟩ := h; exact ⟨he, ρ', h1, s.trans h2, h3⟩
  | exit id fr' m' => obtain ⟨he, ρ', h1, h2, h3⟩ := h; exact ⟨he, ρ', h1, s.trans h2, h3⟩
  | ret fr' m' => obtain ⟨he, ρ', h1, h2, h3⟩ := h; exact ⟨he, ρ', h1, s.trans h2, h3⟩
  | pan v fr' m' => obtain ⟨ρ', v', he, h0, h1, h2, h3⟩ := h; exact ⟨ρ', v', he, h0, h1, s.trans h2, h3⟩
def CallPost (base : Nat) (ρ : Ren) (m : Mem) (w : World) (fin : Fin) (e : Ending) (w' : World) : Prop :=
  match fin with
  | .ret v m' => ∃ ρ' v', e = .returned v' ∧ VR ρ' v v' ∧ R base ρ' m' w' ∧ Step ρ m w ρ' m' w'
  | .pan v m' => ∃ ρ' v', e = .panicked [{ v := v', recovered := false }] ∧ VR ρ' v v' ∧ R base ρ' m' w' ∧ Step ρ m w ρ' m' w'
/-- The machine does what these calls do. -/
def CallOk (P : Program) (G : List Nat) (call : Call) : Prop :=
  ∀ f args m fin, call f args m = some fin → ∀ base ρ w (args' : Array Value), R base ρ m w → Globs G ρ → VRs ρ args args'.toList →
    ((callFunc f args').run P w = .ok (.enter f args') w ∧ Calls P f args' w (CallPost base ρ m w fin)) ∨
    (∃ v v', fin = .ret v m ∧ (callFunc f args').run P w = .ok (.value v') w ∧ VR ρ v v')

section
variable {P : Program} {G : List Nat} {n : Nat} {call : Call}

theorem cOper_of {ops : Array Oper} {o : Oper} {io : IOper} (h : cOper P G n ops o = some io) : cXOp P G o = some io.op ∧ io.dst = o.dst ∧ (∀ x, o.dst = some x → x < n) ∧
    ((o.guard = none ∧ io.guard = none) ∨ (∃ j w t, o.guard = some (j, w) ∧ (ops[j]?).bind (·.dst) = some t ∧ io.guard = some (t, w))) := by
  unfold cOper at h
  cases hx : cXOp P G o with
  | none => simp [hx] at h
  | some op =>
    simp only [hx] at h
    cases hb : dstOk n o.dst with
    | false => simp [hb] at h
    | true =>
    simp only [hb, cond_true] at h
    have hdst : ∀ x, o.dst = some x → x < n := by
      intro x hx
      rw [hx] at hb
      exact Nat.le_of_ble_eq_true hb
    cases hg : o.guard with
    | none => simp only [hg, Option.some.injEq] at h; subst h; exact ⟨rfl, rfl, hdst, .inl ⟨rfl, rfl⟩⟩
    | some jw =>
      obtain ⟨j, w⟩ := jw
      simp only [hg] at h
      cases ht : (ops[j]?).bind (·.dst) with
      | none => simp [ht] at h
      | some t => simp only [ht, Option.some.injEq] at h; subst h; exact ⟨rfl, rfl, hdst, .inr ⟨j, w, t, rfl, ht, rfl⟩⟩
theorem wanted_eq {ρ : Ren} {ops : Array Oper} {o : Oper} {io : IOper} {fr : Fr} {a : Act} (hF : FR ρ n fr a)
    (hg : (o.guard = none ∧ io.guard = none) ∨ (∃ j w t, o.guard = some (j, w) ∧ (ops[j]?).bind (·.dst) = some t ∧ io.guard = some (t, w))) {b : Bool} (h : wantedE fr io.guard = some b) :
    Region.wanted o (yielded ops a.tmps) = b := by
  rcases hg with ⟨h1, h2⟩ | ⟨j, w, t, h1, h2, h3⟩
  · rw [h2] at h; simp [wantedE] at h; subst h; simp [Region.wanted, h1]
  · rw [h3] at h
    simp only [wantedE] at h
    cases hv : fr.get t <;> simp only [hv, reduceCtorEq, Option.some.injEq] at h
    case undef =>
      have ht := hF.tmp t
      rw [hv] at ht
      generalize htv : a.tmps.getD t undef = tv at ht
      cases ht
      subst h
      simp only [Region.wanted, h1, yielded, h2, Option.bind_some]
      cases hq : a.tmps[t]? with
      | none => rfl
      | some x =>
        rw [Array.getD_eq_getD_getElem?, hq] at htv
        simp only [Option.getD_some] at htv
        rw [htv]; rfl
    rename_i c
    have ht := hF.tmp t
    rw [hv] at ht
    generalize htv : a.tmps.getD t undef = tv at ht
    cases ht
    simp only [Region.wanted, h1, yielded, h2, Option.bind_some]
    have : a.tmps[t]? = some (.bool c) := by
      rw [Array.getD_eq_getD_getElem?] at htv
      cases hq : a.tmps[t]? with
      | none => rw [hq] at htv; simp [undef] at htv
      | some x => rw [hq] at htv; simp at htv; rw [htv]
    rw [this]
    subst h
    simp

theorem cXOp_val {o : Oper} {op : IOp} (h : cXOp P G o = some (.val op)) : cOp P G o = some op := by
  unfold cXOp at h
  split at h
  · obtain ⟨_, _, h⟩ := bind_of h; obtain ⟨_, _, h⟩ := map_some' h; cases h
  · obtain ⟨_, _, h⟩ := bind_of h; obtain ⟨_, _, h⟩ := map_some' h; cases h
  · obtain ⟨_, _, h⟩ := map_some' h; cases h
  · obtain ⟨_, hh, h⟩ := map_some' h; cases h; exact hh
theorem cXOp_call {o : Oper} {f : Opd} {ys : List Opd} (h : cXOp P G o = some (.call f ys)) : ∃ f0 xs ts, o.op = .call ⟨.value f0, xs, ts⟩ ∧ cOpd G f0 = some f ∧ cOpds G xs.toList = some ys := by
  unfold cXOp at h
  split at h
  · rename_i f0 xs ts ho
    obtain ⟨_, h1, h⟩ := bind_of h; obtain ⟨_, h2, h⟩ := map_some' h; cases h
    exact ⟨f0, xs, ts, ho, h2, h1⟩
  · obtain ⟨_, _, h⟩ := bind_of h; obtain ⟨_, _, h⟩ := map_some' h; cases h
  · obtain ⟨_, _, h⟩ := map_some' h; cases h
  · obtain ⟨_, hh, h⟩ := map_some' h; cases h
theorem cXOp_defer {o : Oper} {f : Opd} {ys : List Opd} (h : cXOp P G o = some (.defer f ys)) : ∃ f0 xs ts, o.op = .defer ⟨.value f0, xs, ts⟩ ∧ cOpd G f0 = some f ∧ cOpds G xs.toList = some ys := by
  unfold cXOp at h
  split at h
  · obtain ⟨_, _, h⟩ := bind_of h; obtain ⟨_, _, h⟩ := map_some' h; cases h
  · rename_i f0 xs ts ho
    obtain ⟨_, h1, h⟩ := bind_of h; obtain ⟨_, h2, h⟩ := map_some' h; cases h
    exact ⟨f0, xs, ts, ho, h2, h1⟩
  · obtain ⟨_, _, h⟩ := map_some' h; cases h
  · obtain ⟨_, hh, h⟩ := map_some' h; cases h
theorem cXOp_panic {o : Oper} {x : Opd} (h : cXOp P G o = some (.panic x)) : ∃ x0, o.op = .panic x0 ∧ cOpd G x0 = some x := by
  unfold cXOp at h
  split at h
  · obtain ⟨_, _, h⟩ := bind_of h; obtain ⟨_, _, h⟩ := map_some' h; cases h
  · obtain ⟨_, _, h⟩ := bind_of h; obtain ⟨_, _, h⟩ := map_some' h; cases h
  · rename_i x0 ho
    obtain ⟨_, h2, h⟩ := map_some' h; cases h
    exact ⟨x0, ho, h2⟩
  · obtain ⟨_, hh, h⟩ := map_some' h; cases h
theorem upon_mono {o : Oper} {a : Act} {next next' : Act → World → Prop} {Q Q' : Exit → Act → World → Prop} (hn : ∀ a w, next a w → next' a w) (hq : ∀ e a w, Q e a w → Q' e a w) {r : Result Next} (h : o.upon P a next Q r) : o.upon P a next' Q' r := by
  unfold Oper.upon at *
  split at h
  · exact hn _ _ h
  · exact hn _ _ h
  · exact hn _ _ h
  · refine h.mono fun e w hp => ?_
    cases e with
    | returned v => exact hn _ _ hp
    | panicked c => exact hq _ _ _ hp
    | outgrown => obtain ⟨a, w, h⟩ := hp; exact ⟨a, w, hq _ _ _ h⟩
  · exact h.mono fun v w hp => hn _ _ hp
  · exact hq _ _ _ h
  · exact h
theorem wpOps_mono {ops : Array Oper} {Q Q' : Exit → Act → World → Prop} (hq : ∀ e a w, Q e a w → Q' e a w) : ∀ (l : List Nat) (a : Act) (w : World), wpOps P ops Q l a w → wpOps P ops Q' l a w
  | [], a, w, h => hq _ _ _ h
  | i :: l, a, w, h => by
    simp only [wpOps] at h ⊢
    cases ho : ops[i]? with
    | none => simp only [ho] at h ⊢; exact wpOps_mono hq l a w h
    | some o =>
      simp only [ho] at h ⊢
      split
      · rename_i hw
        rw [if_pos hw] at h
        rcases h with h | ⟨h1, a0, w0, h2⟩
        · exact .inl (upon_mono (wpOps_mono hq l) hq h)
        · exact .inr ⟨h1, a0, w0, hq _ _ _ h2⟩
      · rename_i hw
        rw [if_neg hw] at h
        exact wpOps_mono hq l _ w h

/-- Operations, one behind the other. -/
theorem ops_sound (hcall : CallOk P G call) {base : Nat} {ops : Array Oper} : ∀ (is : List IOper) (l : List Nat), is.length = l.length → (∀ (k : Nat) (i : Nat) (io : IOper), l[k]? = some i → is[k]? = some io → ∃ o, ops[i]? = some o ∧ cOper P G n ops o = some io) →
    ∀ (ρ : Ren) (m : Mem) (w : World) (fr : Fr) (a : Act) (out : Out), R base ρ m w → Globs G ρ → FrR ρ n fr a → evOps call is fr m = some out → wpOps P ops (Reach base n ρ m w out) l a w := by
  intro is
  induction is with
  | nil =>
    intro l hl hrel ρ m w fr a out hR hG hF h
    cases l with
    | cons x l => simp at hl
    | nil =>
      simp only [evOps, Option.some.injEq] at h
      subst h
      exact ⟨rfl, ρ, hR, .refl _ _ _, hF⟩
  | cons io is ih =>
    intro l hl hrel ρ m w fr a out hR hG hF h
    cases l with
    | nil => simp at hl
    | cons i l =>
    obtain ⟨o, ho, hc⟩ := hrel 0 i io rfl rfl
    obtain ⟨hx, hdst, hdlt, hgd⟩ := cOper_of hc
    have hl' : is.length = l.length := by simpa using hl
    have hrel' : ∀ (k : Nat) (i : Nat) (io : IOper), l[k]? = some i → is[k]? = some io → ∃ o, ops[i]? = some o ∧ cOper P G n ops o = some io :=
      fun k i io h1 h2 => hrel (k + 1) i io (by simpa using h1) (by simpa using h2)
    -- what follows, from where a step has led
    have next : ∀ {ρ1 : Ren} {m1 : Mem} {w1 : World} {fr1 : Fr} {a1 : Act}, R base ρ1 m1 w1 → Step ρ m w ρ1 m1 w1 → FrR ρ1 n fr1 a1 → evOps call is fr1 m1 = some out → wpOps P ops (Reach base n ρ m w out) l a1 w1 := by
      intro ρ1 m1 w1 fr1 a1 hR1 hs hF1 h1
      have := ih l hl' hrel' ρ1 m1 w1 fr1 a1 out hR1 (hG.ext hs.ext) hF1 h1
      exact wpOps_mono (fun e a w hq => hq.after hs) l a1 w1 this
    simp only [evOps] at h
    simp only [wpOps, ho]
    cases hw : wantedE fr io.guard with
    | none => simp [hw] at h
    | some b =>
    rw [wanted_eq hF.tm hgd hw]
    cases b with
    | false =>
      simp only [hw] at h
      rw [if_neg (by simp)]
      rw [hdst] at h
      exact next hR (.refl _ _ _) (hF.put hdlt .undef) h
    | true =>
      simp only [hw] at h
      rw [if_pos rfl]
      left
      simp only [Oper.wp]
      cases hop : io.op with
      | val op =>
        simp only [hop] at h
        cases hev : evOp fr.eval op m with
        | none => simp [hev] at h
        | some r =>
          obtain ⟨v, m1⟩ := r
          simp only [hev] at h
          rw [hop] at hx
          obtain ⟨ρ1, w1, v', hrun, hv, hR1, hs⟩ := op_sound (cXOp_val hx) hG hR hF.tm hev
          rcases hrun with hrun | ⟨hrun, rfl⟩
          · rw [hrun]
            simp only [Oper.upon]
            rw [hdst] at h
            exact next hR1 hs ((hF.ext hs.ext).put hdlt hv) h
          · rw [hrun]
            simp only [Oper.upon]
            rw [hdst] at h
            exact next hR1 hs ((hF.ext hs.ext).put hdlt hv) h
      | call f args =>
        simp only [hop] at h
        rw [hop] at hx
        obtain ⟨f0, xs0, ts0, hoo, hf, hys⟩ := cXOp_call hx
        cases hfv : fr.eval f <;> simp only [hfv, evCall, reduceCtorEq] at h
        rename_i g x y
        obtain ⟨args', hrun, hv⟩ := op_call (w := w) (P := P) hoo hf hys hG hF.tm hfv
        rw [hrun]
        cases hfin : call g (x ++ args.map fr.eval ++ y) m with
        | none => simp only [hfin, reduceCtorEq] at h
        | some fin =>
          rcases hcall _ _ _ _ hfin base ρ w args' hR hG hv with ⟨h1, h2⟩ | ⟨v, v', rfl, h1, h2⟩
          · rw [h1]
            simp only [Oper.upon]
            refine h2.mono fun e w' hp => ?_
            cases fin with
            | ret v m1 =>
              obtain ⟨ρ1, v', rfl, hvv, hR1, hs⟩ := hp
              simp only [hfin] at h
              rw [hdst] at h
              exact next hR1 hs ((hF.ext hs.ext).put hdlt hvv) h
            | pan v m1 =>
              obtain ⟨ρ1, v', rfl, hvv, hR1, hs⟩ := hp
              simp only [hfin, Option.some.injEq] at h
              subst h
              exact ⟨ρ1, v', rfl, hvv, hR1, hs, hF.ext hs.ext⟩
          · rw [h1]
            simp only [hfin] at h
            simp only [Oper.upon]
            rw [hdst] at h
            exact next hR (.refl _ _ _) (hF.put hdlt h2) h
      | panic x =>
        simp only [hop] at h
        rw [hop] at hx
        obtain ⟨x0, hoo, hxx⟩ := cXOp_panic hx
        cases hxv : fr.eval x <;> simp only [hxv, reduceCtorEq, Option.some.injEq] at h
        rename_i t v
        subst h
        obtain ⟨v', hrun, hv⟩ := op_panic (w := w) (P := P) hoo hxx hG hF.tm hxv
        rw [hrun]
        exact ⟨ρ, v', rfl, hv, hR, .refl _ _ _, hF⟩
      | defer f args =>
        simp only [hop] at h
        rw [hop] at hx
        obtain ⟨f0, xs0, ts0, hoo, hf, hys⟩ := cXOp_defer hx
        cases hfv : fr.eval f <;> simp only [hfv, reduceCtorEq] at h
        rename_i g x y
        have hgv := cOpd_sound hG hF.tm hf
        have hv := cOpds_sound hG hF.tm hys
        rw [hfv] at hgv
        generalize hav : a.eval f0 = av at hgv
        cases hgv with
        | @func _ _ _ x' y' hx' hy' =>
        have hrun : (execOp a.eval o).run P w = .ok (.defer { target := .fn (.func g) ⟨y'⟩, args := ⟨x'⟩ ++ xs0.map a.eval }) w := by
          simp only [execOp, hoo, resolve, hav, Deferred.ofValue, Sem.run_bind, Sem.run_pure, Result.andThen_ok]
        rw [hrun]
        simp only [Oper.upon]
        rw [hdst] at h
        have e1 : ((⟨x'⟩ : Array Value) ++ xs0.map a.eval).toList = x' ++ xs0.toList.map a.eval := by simp
        have hF2 : FrR ρ n ⟨fr.tmps, (g, x ++ args.map fr.eval ++ y) :: fr.defers⟩ { a with defers := { target := .fn (.func g) ⟨y'⟩, args := ⟨x'⟩ ++ xs0.map a.eval } :: a.defers } :=
          ⟨⟨hF.tm.size, hF.tm.tmp⟩, .cons ⟨⟨y'⟩, rfl, by rw [e1]; exact (hx'.append hv).append hy'⟩ hF.defs⟩
        exact next hR (.refl _ _ _) (hF2.put hdlt .undef) h
end
end Go.Proofs.Ythlbifjgnhdonaa.Ev
