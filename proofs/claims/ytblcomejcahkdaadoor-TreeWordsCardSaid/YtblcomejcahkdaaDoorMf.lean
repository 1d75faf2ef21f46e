/- EvFzRun, EvJn, EvIt, EvT, EvPure, EvRec, EvArgs, EvIn, EvFzIn, EvSlice, EvRow, EvUp. -/
import Derived.WideShapes
import Derived.Deep.Slices
import Derived.Test.YtblcomejcahkdaaDoorMe
set_option linter.unusedSimpArgs false
set_option linter.unusedVariables false
section
namespace Go.Proofs.YtblcomejcahkdaaDoor.Ev
open Go
set_option linter.unusedSimpArgs false

def okXop : XOp → Bool
  | .val op => okOp op
  | .call f args | .defer f args => okOpd f && args.all okOpd
  | .panic x => okOpd x
def okOper (o : IOper) : Bool := okXop o.op
def okCode : ICode → Bool
  | .region ops | .draw ops _ => ops.all okOper
  | .seq a b => okCode a && okCode b
  | .cond c a b => okOpd c && okCode a && okCode b
  | .block _ a | .loop a => okCode a
  | _ => true
inductive DefS (θ : Tie) : List (Nat × List EV) → List (Nat × List EV) → Prop
  | nil : DefS θ [] []
  | cons {g : Nat} {x x' : List EV} {l l' : List (Nat × List EV)} (hx : SVs θ x x') (h : DefS θ l l') : DefS θ ((g, x) :: l) ((g, x') :: l')
theorem DefS.ext {θ θ' : Tie} (e : Tie.Ext θ θ') : ∀ {l l' : List (Nat × List EV)}, DefS θ l l' → DefS θ' l l'
  | _, _, .nil => .nil
  | _, _, .cons hx h => .cons (hx.ext e) (DefS.ext e h)
theorem DefS.none {θ : Tie} {l l' : List (Nat × List EV)} (h : DefS θ l l') (e : l = []) : l' = [] := by cases h with | nil => rfl | cons _ _ => cases e
structure FrS (θ : Tie) (fr fr' : Fr) : Prop where
  tmp : ∀ t, SV θ (fr.get t) (fr'.get t)
  dfr : DefS θ fr.defers fr'.defers
theorem FrS.ext {θ θ' : Tie} (e : Tie.Ext θ θ') {fr fr' : Fr} (h : FrS θ fr fr') : FrS θ' fr fr' := ⟨fun t => (h.tmp t).ext e, h.dfr.ext e⟩
theorem FrS.put {θ : Tie} {fr fr' : Fr} (h : FrS θ fr fr') {v v' : EV} (hv : SV θ v v') (d : Option Nat) : FrS θ (fr.put d v) (fr'.put d v') := by
  cases d with
  | none => exact h
  | some d =>
    refine ⟨fun t => ?_, h.dfr⟩
    show SV θ ((fr.set d v).get t) ((fr'.set d v').get t)
    rw [Fr.get_set, Fr.get_set]
    split
    · exact hv
    · exact h.tmp t
theorem FrS.ops {θ : Tie} {fr fr' : Fr} (h : FrS θ fr fr') (g : GlobOk θ) : OpsS θ (fun x => fr.eval (subO x)) fr'.eval := by
  intro x hx
  cases x with
  | tmp t => exact h.tmp t
  | const v => exact subV_sv g hx
structure StepS (θ : Tie) (m m' : Mem) (θ' : Tie) (m1 m1' : Mem) : Prop where
  ext : Tie.Ext θ θ'
  ren : ∀ b c, θ'.ren b = some c → θ.ren b = some c ∨ (m.next ≤ b ∧ m'.next ≤ c)
  sta : ∀ c B, θ'.sta c = some B → θ.sta c = some B ∨ (m'.next ≤ c ∧ m.next < m1.next)
  n1 : m.next ≤ m1.next
  n2 : m'.next ≤ m1'.next
  keep : ∀ c, c < m'.next → (∀ b, θ.ren b ≠ some c) → m1'.get c = m'.get c
theorem StepS.refl (θ : Tie) (m m' : Mem) : StepS θ m m' θ m m' := ⟨.refl θ, fun _ _ h => .inl h, fun _ _ h => .inl h, Nat.le_refl _, Nat.le_refl _, fun _ _ _ => rfl⟩
theorem StepS.trans {θ θ1 θ2 : Tie} {m m' m1 m1' m2 m2' : Mem} (h : StepS θ m m' θ1 m1 m1') (k : StepS θ1 m1 m1' θ2 m2 m2') : StepS θ m m' θ2 m2 m2' := by
  have a1 := h.n1; have a2 := h.n2; have b1 := k.n1; have b2 := k.n2
  refine ⟨h.ext.trans k.ext, fun b c e => ?_, fun c B e => ?_, by omega, by omega, fun c hc hr => ?_⟩
  · rcases k.ren b c e with e | ⟨e1, e2⟩
    · exact h.ren b c e
    · exact .inr ⟨by omega, by omega⟩
  · rcases k.sta c B e with e | ⟨e1, e2⟩
    · rcases h.sta c B e with e | ⟨e1, e2⟩
      · exact .inl e
      · exact .inr ⟨e1, by omega⟩
    · exact .inr ⟨by omega, by omega⟩
  · rw [k.keep c (by omega) fun b e => ?_, h.keep c hc hr]
    rcases h.ren b c e with e | ⟨e1, e2⟩
    · exact hr b e
    · omega
def Fin.mem : Fin → Mem
  | .ret _ m | .pan _ m => m
def Out.mem : Out → Mem
  | .norm _ m | .exit _ _ m | .ret _ m | .pan _ _ m => m
inductive FinS (θ : Tie) : Fin → Fin → Prop
  | ret {v v' : EV} {m m' : Mem} (hv : SV θ v v') (hg : GoodS θ m m') : FinS θ (.ret v m) (.ret v' m')
  | pan {v v' : EV} {m m' : Mem} (hv : SV θ v v') (hg : GoodS θ m m') : FinS θ (.pan v m) (.pan v' m')
inductive OutS (θ : Tie) : Out → Out → Prop
  | norm {fr fr' : Fr} {m m' : Mem} (hf : FrS θ fr fr') (hg : GoodS θ m m') : OutS θ (.norm fr m) (.norm fr' m')
  | exit {id : Nat} {fr fr' : Fr} {m m' : Mem} (hf : FrS θ fr fr') (hg : GoodS θ m m') : OutS θ (.exit id fr m) (.exit id fr' m')
  | ret {fr fr' : Fr} {m m' : Mem} (hf : FrS θ fr fr') (hg : GoodS θ m m') : OutS θ (.ret fr m) (.ret fr' m')
  | pan {v v' : EV} {fr fr' : Fr} {m m' : Mem} (hv : SV θ v v') (hf : FrS θ fr fr') (hg : GoodS θ m m') : OutS θ (.pan v fr m) (.pan v' fr' m')
def FinOk (θ : Tie) (m m' : Mem) (fin : Fin) (o : Option Fin) : Prop := ∃ θ' fin', o = some fin' ∧ FinS θ' fin fin' ∧ StepS θ m m' θ' fin.mem fin'.mem
def OutOk (θ : Tie) (m m' : Mem) (out : Out) (o : Option Out) : Prop := ∃ θ' out', o = some out' ∧ OutS θ' out out' ∧ StepS θ m m' θ' out.mem out'.mem
/-- Calls of the one run stand for calls of the other. -/
def CallS (T : Nat → Option Ent) (call : Call) : Prop := ∀ f args m fin, call f args m = some fin → ∀ θ m' args', GoodS θ m m' → SVs θ args args' → FinOk θ m m' fin (run T f args' m')
theorem OutOk.after {θ θ1 : Tie} {m m' m1 m1' : Mem} {out : Out} {o : Option Out} (h : StepS θ m m' θ1 m1 m1') (k : OutOk θ1 m1 m1' out o) : OutOk θ m m' out o := by
  obtain ⟨θ2, out', e, ho, hs⟩ := k
  exact ⟨θ2, out', e, ho, h.trans hs⟩
section
variable {T : Nat → Option Ent} {call : Call}
theorem OpS.good {θ : Tie} {m m' m1 : Mem} {v : EV} {o : Option R1} (hg : GoodS θ m m') (h : OpS θ m m' v m1 o) : ∃ θ' v' m1', o = some (.val v' m1') ∧ SV θ' v v' ∧ GoodS θ' m1 m1' ∧ StepS θ m m' θ' m1 m1' := by
  obtain ⟨v', m1', e, hc, hk⟩ := h
  rcases hc with ⟨h1, h2, h3, h4⟩ | ⟨h1, h2, h3, h4⟩
  · exact ⟨θ, v', m1', e, h1, ⟨h2, by rw [h3, h4]; exact hg.ok, hg.glb⟩, ⟨.refl θ, fun _ _ h => .inl h, fun _ _ h => .inl h, by omega, by omega, fun c hc hr => hk c (by omega) hr⟩⟩
  · have f := hg.ok.fresh (Nat.le_refl m.next) (Nat.le_refl m'.next)
    refine ⟨_, v', m1', e, h1, ⟨h2, by rw [h3, h4]; exact hg.ok.more f (by omega) (by omega) (by omega) (by omega), hg.glb.ext f.ext⟩, ⟨f.ext, fun b c hb => ?_, fun _ _ h => .inl h, by omega, by omega, fun c hc hr => hk c (by omega) hr⟩⟩
    have hb' : (if b = m.next then some m'.next else θ.ren b) = some c := hb
    by_cases hx : b = m.next
    · rw [if_pos hx] at hb'; cases hb'; exact .inr ⟨by omega, Nat.le_refl _⟩
    · rw [if_neg hx] at hb'; exact .inl hb'
theorem wanted_sim {θ : Tie} {fr fr' : Fr} (h : FrS θ fr fr') {g : Option (Nat × Bool)} {b : Bool} (hw : wantedE fr g = some b) : wantedE fr' g = some b := by
  cases g with
  | none => exact hw
  | some p =>
    obtain ⟨t, w⟩ := p
    simp only [wantedE] at hw ⊢
    have := h.tmp t
    generalize fr.get t = x at this hw; generalize fr'.get t = x' at this
    cases this <;> first | exact hw | simp at hw
theorem oprs_wanted {d : Option Nat} {op : XOp} {g : Option (Nat × Bool)} {l : List IOper} {fr : Fr} {m : Mem} {b : Bool} (h : wantedE fr g = some b) : oprs T (⟨d, op, g⟩ :: l) fr m = bif b then oprs T (⟨d, op, none⟩ :: l) fr m else oprs T l (fr.put d .undef) m := by
  cases g with
  | none => simp only [wantedE, Option.some.injEq] at h; subst h; rfl
  | some p =>
    obtain ⟨t, w⟩ := p
    rw [oprs_guard']
    simp only [wantedE] at h
    cases hx : fr.get t <;> simp only [hx, reduceCtorEq, Option.some.injEq] at h
    · subst h; rfl
    · subst h; rfl
theorem drw_wanted {chk : List (Nat × Nat)} {B0 i : Nat} {sn : List (Nat × Mem)} {se : List Seen} {d : Option Nat} {op : XOp} {g : Option (Nat × Bool)} {l : List IOper} {fr : Fr} {m : Mem} {b : Bool} (h : wantedE fr g = some b) :
    drw T chk B0 (⟨d, op, g⟩ :: l) i fr m sn se = bif b then drw T chk B0 (⟨d, op, none⟩ :: l) i fr m sn se else drw T chk B0 l (i + 1) (fr.put d .undef) m sn se := by
  cases g with
  | none => simp only [wantedE, Option.some.injEq] at h; subst h; rfl
  | some p =>
    obtain ⟨t, w⟩ := p
    rw [drw_guard]
    simp only [wantedE] at h
    cases hx : fr.get t <;> simp only [hx, reduceCtorEq, Option.some.injEq] at h
    · subst h; rfl
    · subst h; rfl
theorem oprs_defer {d : Option Nat} {f : Opd} {args : List Opd} {l : List IOper} {fr : Fr} {m : Mem} {g : Nat} {x y : List EV} (h : fr.eval f = .func g x y) : oprs T (⟨d, .defer f args, none⟩ :: l) fr m = oprs T l (Fr.put ⟨fr.tmps, (g, x ++ args.map fr.eval ++ y) :: fr.defers⟩ d .undef) m := by
  refine opt_ext fun r => ?_
  rw [oprs_iff]
  simp only [evOps, wantedE, h]
  exact oprs_iff.symm
theorem SV.func_inv {θ : Tie} {g : Nat} {x y : List EV} {v' : EV} (h : SV θ (.func g x y) v') : ∃ x' y', v' = .func g x' y' ∧ SVs θ x x' ∧ SVs θ y y' := by
  cases h with | func h1 h2 => exact ⟨_, _, rfl, h1, h2⟩
theorem call_inv {fv : EV} {asx : List EV} {m : Mem} {fin : Fin} (h : evCall call fv asx m = some fin) : ∃ g x y, fv = .func g x y ∧ call g (x ++ asx ++ y) m = some fin := by
  cases fv <;> first | exact ⟨_, _, _, rfl, h⟩ | (simp only [evCall, reduceCtorEq] at h)
theorem SV.notF {θ : Tie} {a b : EV} (h : SV θ a b) : isF b = false := by cases h <;> rfl
theorem ops_sim (hcall : CallS T call) : ∀ (l : List IOper) (fr : Fr) (m : Mem) (out : Out), evOps call (l.map IOper.sub) fr m = some out → l.all okOper = true → ∀ (θ : Tie) (fr' : Fr) (m' : Mem), FrS θ fr fr' → GoodS θ m m' → OutOk θ m m' out (oprs T l fr' m')
  | [], fr, m, out, h, _, θ, fr', m', hf, hg => by
    simp only [List.map_nil, evOps, Option.some.injEq] at h; subst h
    exact ⟨θ, _, oprs_nil, .norm hf hg, .refl _ _ _⟩
  | o :: l, fr, m, out, h, hok, θ, fr', m', hf, hg => by
    have ih := ops_sim hcall l
    simp only [List.all_cons, Bool.and_eq_true] at hok
    obtain ⟨d, op, g⟩ := o
    simp only [List.map_cons, IOper.sub, evOps] at h
    cases hw : wantedE fr g with
    | none => simp [hw] at h
    | some b =>
    rw [oprs_wanted (wanted_sim hf hw)]
    cases b with
    | false =>
      simp only [hw] at h
      exact ih _ _ _ h hok.2 θ _ _ (hf.put .undef d) hg
    | true =>
      simp only [hw] at h
      simp only [cond_true]
      cases op with
      | val op =>
        simp only [XOp.sub, evOp_mapO] at h
        cases he : evOp (fun x => fr.eval (subO x)) op m with
        | none => simp [he] at h
        | some q =>
          obtain ⟨v, m1⟩ := q
          simp only [he] at h
          obtain ⟨θ', v', m1', e1, e2, e3, e4⟩ := OpS.good hg (op_sim (hf.ops hg.glb) hg.toMemS hg.ok (hg.ok.fresh (Nat.le_refl _) (Nat.le_refl _)) hok.1 he)
          rw [oprs_val, e1]
          exact OutOk.after e4 (ih _ _ _ h hok.2 θ' _ _ ((hf.ext e4.ext).put e2 d) e3)
      | call f args =>
        have hok1 := hok.1
        simp only [okOper, okXop, Bool.and_eq_true] at hok1
        simp only [XOp.sub, List.map_map, Function.comp_def] at h
        have hfv : SV θ (fr.eval (subO f)) (fr'.eval f) := (hf.ops hg.glb) f hok1.1
        have hav : SVs θ (args.map fun x => fr.eval (subO x)) (args.map fr'.eval) := OpsS.list (hf.ops hg.glb) hok1.2
        cases hev : evCall call (fr.eval (subO f)) (args.map fun x => fr.eval (subO x)) m with
        | none => rw [hev] at h; cases h
        | some fin =>
          obtain ⟨gg, x, y, hfe, hc⟩ := call_inv hev
          rw [hfe] at hfv
          obtain ⟨x', y', hfe', hx, hy⟩ := hfv.func_inv
          rw [oprs_callv, hfe', runV_func]
          obtain ⟨θ', fin', e1, e2, e3⟩ := hcall _ _ _ _ hc θ m' _ hg ((hx.append hav).append hy)
          rw [e1]
          cases e2 with
          | ret hv hg' =>
            rw [hev] at h; simp only at h
            exact OutOk.after e3 (ih _ _ _ h hok.2 θ' _ _ ((hf.ext e3.ext).put hv d) hg')
          | pan hv hg' =>
            rw [hev] at h; simp only [Option.some.injEq] at h
            subst h
            exact ⟨θ', _, rfl, .pan hv (hf.ext e3.ext) hg', e3⟩
      | panic x =>
        have hx : SV θ (fr.eval (subO x)) (fr'.eval x) := (hf.ops hg.glb) x hok.1
        simp only [XOp.sub] at h
        cases hxe : fr.eval (subO x) <;> simp only [hxe, reduceCtorEq, Option.some.injEq] at h
        rename_i t v
        rw [hxe] at hx
        generalize hxe' : fr'.eval x = w at hx
        cases hx with
        | iface hv =>
          rw [oprs_panic hxe']
          subst h
          exact ⟨θ, _, rfl, .pan (.iface hv) hf hg, .refl _ _ _⟩
      | defer f args =>
        have hok1 := hok.1
        simp only [okOper, okXop, Bool.and_eq_true] at hok1
        simp only [XOp.sub, List.map_map, Function.comp_def] at h
        have hfv : SV θ (fr.eval (subO f)) (fr'.eval f) := (hf.ops hg.glb) f hok1.1
        have hav : SVs θ (args.map fun x => fr.eval (subO x)) (args.map fr'.eval) := OpsS.list (hf.ops hg.glb) hok1.2
        cases hfe : fr.eval (subO f) <;> simp only [hfe, reduceCtorEq] at h
        rename_i gg x y
        rw [hfe] at hfv
        obtain ⟨x', y', hfe', hx, hy⟩ := hfv.func_inv
        rw [oprs_defer hfe']
        exact ih _ _ _ h hok.2 θ _ _ (FrS.put (fr := ⟨fr.tmps, _ :: fr.defers⟩) (fr' := ⟨fr'.tmps, _ :: fr'.defers⟩) ⟨hf.tmp, .cons ((hx.append hav).append hy) hf.dfr⟩ .undef d) hg

/-! ### Regions whose order is open -/
/-- A memory asx it was. -/
structure SnapS (θ : Tie) (m : Mem) (s s' : Nat × Mem) : Prop where
  i : s'.1 = s.1
  blk : MemB θ s.2 s'.2
  le : s.2.next ≤ m.next
  sta : s.2.next = m.next → ∀ c B, θ.sta c = some B → s'.2.get c = B
inductive SnapsS (θ : Tie) (m : Mem) : List (Nat × Mem) → List (Nat × Mem) → Prop
  | nil : SnapsS θ m [] []
  | cons {s s' : Nat × Mem} {l l' : List (Nat × Mem)} (h : SnapS θ m s s') (hs : SnapsS θ m l l') : SnapsS θ m (s :: l) (s' :: l')
def SeenS (θ : Tie) (se : List Seen) (s' : Seen) : Prop :=
  (∃ s, s ∈ se ∧ s'.i = s.i ∧ s'.agg = s.agg ∧ isF s.a = false ∧ SV θ s.a s'.a ∧ SV θ s.v s'.v) ∨ (Told s'.v = true ∧ ∀ q : Mem, (∀ c B, θ.sta c = some B → q.get c = B) → q.load s'.agg s'.a = some s'.v)
theorem SeenS.ext {θ θ' : Tie} {se : List Seen} {s' : Seen} (h : SeenS θ se s') (e : Tie.Ext θ θ') : SeenS θ' se s' := by
  rcases h with ⟨s, h1, h2, h3, h4, h5, h6⟩ | ⟨h1, h2⟩
  · exact .inl ⟨s, h1, h2, h3, h4, h5.ext e, h6.ext e⟩
  · exact .inr ⟨h1, fun q hq => h2 q fun c B hc => hq c B (e.sta c B hc)⟩
theorem SnapsS.step {θ θ' : Tie} {m m1 m' m1' : Mem} (hst : StepS θ m m' θ' m1 m1') (hd : ∀ b c, θ.ren b = none → θ'.ren b = some c → ∀ s : Nat × Mem, s.2.next ≤ m.next → True) : ∀ {l l' : List (Nat × Mem)}, SnapsS θ m l l' → SnapsS θ' m1 l l'
  | _, _, .nil => .nil
  | _, _, .cons h hs => .cons ⟨h.i, h.blk.ext hst.ext fun b c hb _ => h.blk.cl b hb, Nat.le_trans h.le hst.n1, fun e c B hc => by
      have h1 := h.le; have h2 := hst.n1
      rcases hst.sta c B hc with q | ⟨_, q⟩
      · exact h.sta (by omega) c B q
      · omega⟩ (SnapsS.step hst hd hs)
theorem SnapsS.same {θ θ1 : Tie} {m m1 : Mem} (he : Tie.Ext θ θ1) (hs : θ1.sta = θ.sta) (hn : m1.next = m.next) : ∀ {l l' : List (Nat × Mem)}, SnapsS θ m l l' → SnapsS θ1 m1 l l'
  | _, _, .nil => .nil
  | _, _, .cons h hss => .cons ⟨h.i, h.blk.ext he fun b c hb _ => h.blk.cl b hb, by rw [hn]; exact h.le, fun e c B hc => by rw [hs] at hc; exact h.sta (e.trans hn) c B hc⟩ (SnapsS.same he hs hn hss)
theorem stands_told {m : Mem} {g : Option Nat} {a v : EV} (h : m.load g a = some v) (ht : Told v = true) : m.stands g a v = true := by
  unfold Mem.stands; rw [h]; exact same_refl v ht
theorem snap_sim {θ : Tie} {m : Mem} {chk : List (Nat × Nat)} {i : Nat} {g : Option Nat} {a a' v v' : EV} (ha : SV θ a a') (hv : SV θ v v') (hf : isF a = false) : ∀ {l l' : List (Nat × Mem)}, SnapsS θ m l l' → checkSnap chk i g a v l = true → checkSnap chk i g a' v' l' = true
  | _, _, .nil, _ => rfl
  | _, _, .cons (s := (j, mj)) (s' := (j', mj')) h hs, hc => by
    obtain rfl : j' = j := h.i
    simp only [checkSnap] at hc ⊢
    cases hp : hasPair i j' chk <;> simp only [hp, cond_true, cond_false] at hc ⊢
    · exact snap_sim ha hv hf hs hc
    · cases hst : mj.stands g a v <;> simp only [hst, cond_true, cond_false, Bool.false_eq_true] at hc
      have hst' : mj'.stands g a' v' = true := by
        unfold Mem.stands at hst ⊢
        cases hl : mj.load g a with
        | none => simp [hl] at hst
        | some x =>
          obtain ⟨x', hl', hx⟩ := load_b h.blk ha hf hl
          simp only [hl] at hst
          rw [hl']; exact hx.same hv hst
      simp only [hst', cond_true]
      exact snap_sim ha hv hf hs hc
theorem old_sim {θ : Tie} {m : Mem} {chk : List (Nat × Nat)} {i : Nat} {g : Option Nat} {a' v' : EV} (ht : Told v' = true) (hl : ∀ q : Mem, (∀ c B, θ.sta c = some B → q.get c = B) → q.load g a' = some v') : ∀ {l l' : List (Nat × Mem)}, SnapsS θ m l l' → checkOld chk i m.next l = true → checkSnap chk i g a' v' l' = true
  | _, _, .nil, _ => rfl
  | _, _, .cons (s := (j, mj)) (s' := (j', mj')) h hs, hc => by
    obtain rfl : j' = j := h.i
    simp only [checkSnap, checkOld] at hc ⊢
    cases hp : hasPair i j' chk <;> simp only [hp, cond_true, cond_false] at hc ⊢
    · exact old_sim ht hl hs hc
    · cases hn : mj.next.beq m.next <;> simp only [hn, cond_true, cond_false, Bool.false_eq_true] at hc
      have := stands_told (hl mj' (h.sta (of_beq hn))) ht
      simp only [this, cond_true]
      exact old_sim ht hl hs hc
theorem seen_sim {θ : Tie} {m1 m1' : Mem} {chk : List (Nat × Nat)} {j : Nat} (hm : MemS θ m1 m1') {se : List Seen} (hc : checkSeen chk j m1 se = true) : ∀ {se' : List Seen}, (∀ s', s' ∈ se' → SeenS θ se s') → checkSeen chk j m1' se' = true
  | [], _ => rfl
  | s' :: se', h => by
    have ih := seen_sim hm hc (se' := se') fun x hx => h x (by simp [hx])
    simp only [checkSeen, ih]
    cases hp : hasPair s'.i j chk <;> simp only [cond_true, cond_false]
    have : m1'.stands s'.agg s'.a s'.v = true := by
      rcases h s' (by simp) with ⟨s, h1, h2, h3, h4, h5, h6⟩ | ⟨h1, h2⟩
      · rw [h2] at hp
        have hst := checkSeen_of hc s h1 hp
        unfold Mem.stands at hst ⊢
        cases hl : m1.load s.agg s.a with
        | none => simp [hl] at hst
        | some x =>
          obtain ⟨x', hl', hx⟩ := load_b hm.toMemB h5 h4 hl
          simp only [hl] at hst
          rw [h3, hl']; exact hx.same h6 hst
      · exact stands_told (h2 m1' hm.sta) h1
    simp only [this, cond_true]
theorem MemS.nexts {θ : Tie} {m m' : Mem} (h : MemS θ m m') (n n' : Nat) : MemS θ ⟨n, m.tbl⟩ ⟨n', m'.tbl⟩ := ⟨⟨h.blk, h.cl⟩, h.sta⟩
/-- What was set aside is there still. -/
def Kept (θ : Tie) (B0 B0' i n : Nat) : Prop := ∀ j, i ≤ j → j < n → Fresh θ (B0 + j) (B0' + j)
theorem Kept.step {θ θ' : Tie} {m m' m1 m1' : Mem} (hst : StepS θ m m' θ' m1 m1') {B0 B0' i n : Nat} (h : Kept θ B0 B0' i n) (h1 : B0 + n ≤ m.next) (h2 : B0' + n ≤ m'.next) : Kept θ' B0 B0' i n := by
  intro j hj hn
  have f := h j hj hn
  refine ⟨?_, fun a ha => ?_, ?_⟩
  · cases e : θ'.ren (B0 + j) with
    | none => rfl
    | some c =>
      rcases hst.ren _ _ e with q | ⟨q, _⟩
      · rw [f.l] at q; cases q
      · omega
  · rcases hst.ren _ _ ha with q | ⟨_, q⟩
    · exact f.r a q
    · omega
  · cases e : θ'.sta (B0' + j) with
    | none => rfl
    | some c =>
      rcases hst.sta _ _ e with q | ⟨q, _⟩
      · rw [f.s] at q; cases q
      · omega
theorem draw_sim (hcall : CallS T call) {chk : List (Nat × Nat)} {B0 B0' n : Nat} {θ0 : Tie} {m0 m0' : Mem} (e0 : m0.next = B0) (e0' : m0'.next = B0') : ∀ (l : List IOper) (i : Nat) (fr : Fr) (m : Mem) (sn : List (Nat × Mem)) (se : List Seen) (out : Out), i + l.length = n →
    evDraw call chk B0 (l.map IOper.sub) i fr m sn se = some out → l.all okOper = true → ∀ (θ : Tie) (fr' : Fr) (m' : Mem) (sn' : List (Nat × Mem)) (se' : List Seen), FrS θ fr fr' → GoodS θ m m' → B0 + n ≤ m.next → B0' + n ≤ m'.next → Kept θ B0 B0' i n → SnapsS θ m sn sn' → (∀ s', s' ∈ se' → SeenS θ se s') →
    StepS θ0 m0 m0' θ m m' → OutOk θ0 m0 m0' out (drw T chk B0' l i fr' m' sn' se')
  | [], i, fr, m, sn, se, out, hn, h, _, θ, fr', m', sn', se', hf, hg, _, _, _, _, _, hst => by
    simp only [List.map_nil, evDraw, Option.some.injEq] at h; subst h
    exact ⟨θ, _, drw_nil, .norm hf hg, hst⟩
  | o :: l, i, fr, m, sn, se, out, hn, h, hok, θ, fr', m', sn', se', hf, hg, hb, hb', hk, hsn, hse, hst => by
    have ih := draw_sim hcall e0 e0' (chk := chk) (B0 := B0) (B0' := B0') (n := n) (θ0 := θ0) (m0 := m0) (m0' := m0') l (i + 1)
    have hn1 : i + 1 + l.length = n := by rw [List.length_cons] at hn; omega
    have hin : i < n := by rw [List.length_cons] at hn; omega
    have hk1 : Kept θ B0 B0' (i + 1) n := fun j hj => hk j (by omega)
    simp only [List.all_cons, Bool.and_eq_true] at hok
    obtain ⟨d, op, g⟩ := o
    simp only [List.map_cons, IOper.sub, evDraw] at h
    cases hw : wantedE fr g with
    | none => simp [hw] at h
    | some b =>
    rw [drw_wanted (wanted_sim hf hw)]
    cases b with
    | false =>
      simp only [hw] at h
      exact ih _ _ _ _ _ hn1 h hok.2 θ _ _ _ _ (hf.put .undef d) hg hb hb' hk1 hsn hse hst
    | true =>
      simp only [hw] at h
      simp only [cond_true]
      cases op with
      | panic x => simp [XOp.sub] at h
      | defer f args => simp [XOp.sub] at h
      | call f args =>
        have hok1 := hok.1
        simp only [okOper, okXop, Bool.and_eq_true] at hok1
        simp only [XOp.sub, List.map_map, Function.comp_def] at h
        have hfv : SV θ (fr.eval (subO f)) (fr'.eval f) := (hf.ops hg.glb) f hok1.1
        have hav : SVs θ (args.map fun x => fr.eval (subO x)) (args.map fr'.eval) := OpsS.list (hf.ops hg.glb) hok1.2
        cases hev : evCall call (fr.eval (subO f)) (args.map fun x => fr.eval (subO x)) m with
        | none => rw [hev] at h; cases h
        | some fin =>
          obtain ⟨gg, x, y, hfe, hc⟩ := call_inv hev
          rw [hfe] at hfv
          obtain ⟨x', y', hfe', hx, hy⟩ := hfv.func_inv
          rw [drw_call, hfe', runV_func]
          obtain ⟨θ', fin', e1, e2, e3⟩ := hcall _ _ _ _ hc θ m' _ hg ((hx.append hav).append hy)
          rw [e1]
          cases e2 with
          | pan hv hg' => rw [hev] at h; cases h
          | @ret v v' m1 m1' hv hg' =>
            rw [hev] at h; simp only at h
            cases hcs : checkSeen chk i m1 se <;> simp only [hcs, cond_true, cond_false, reduceCtorEq] at h
            have hse1 : ∀ s', s' ∈ se' → SeenS θ' se s' := fun s' hs' => (hse s' hs').ext e3.ext
            have a1 := e3.n1; have a2 := e3.n2
            simp only [Fin.mem] at a1 a2
            simp only [thenD, seen_sim hg'.toMemS hcs hse1, ifB_true]
            refine ih _ _ _ _ _ hn1 h hok.2 θ' _ _ _ _ ((hf.ext e3.ext).put hv d) hg' (by omega) (by omega) (hk1.step e3 hb hb') (.cons ?_ (hsn.step e3 fun _ _ _ _ _ _ => trivial)) hse1 (hst.trans e3)
            refine ⟨rfl, hg.toMemB.ext e3.ext fun b c hb _ => hg.cl b hb, a1, fun e c B hc => ?_⟩
            rcases e3.sta c B hc with q | ⟨_, q⟩
            · exact hg.sta c B q
            · simp only [Fin.mem] at q e; omega
      | val op =>
        simp only [XOp.sub, srt_mapO, evOp_mapO] at h
        have hok1 : okOp op = true := hok.1
        have h3 := srt_le op
        by_cases hs0 : srt op = 0
        · simp only [hs0] at h
          rw [drw_v0 hs0]
          cases he : evOp (fun x => fr.eval (subO x)) op m with
          | none => simp [he] at h
          | some q =>
            obtain ⟨v, m1⟩ := q
            simp only [he] at h
            obtain ⟨rfl, _⟩ := pure_any hs0 he
            obtain ⟨v', m1', hev, hcs, _⟩ := op_sim (hf.ops hg.glb) hg.toMemS hg.ok (hg.ok.fresh (Nat.le_refl _) (Nat.le_refl _)) hok1 he
            rw [hev]
            rcases hcs with ⟨hvv, _, _, _⟩ | ⟨_, _, q, _⟩
            · exact ih _ _ _ _ _ hn1 h hok.2 θ _ _ _ _ (hf.put hvv d) hg hb hb' hk1 hsn hse hst
            · omega
        · by_cases hs1 : srt op = 1
          · simp only [hs1] at h
            rw [drw_v1 hs1]
            cases he : evOp (fun x => fr.eval (subO x)) op ⟨B0 + i, m.tbl⟩ with
            | none => simp [he] at h
            | some q =>
              obtain ⟨v, m1⟩ := q
              simp only [he] at h
              have f := hk i (Nat.le_refl _) hin
              obtain ⟨v', m1', e1, hcs, hkeep⟩ := op_sim (hf.ops hg.glb) (hg.toMemS.nexts (B0 + i) (B0' + i)) hg.ok f hok1 he
              obtain ⟨B, mk, _, hB, _⟩ := make_any hs1 he
              rw [e1]
              rcases hcs with ⟨c1, c2, c3, c4⟩ | ⟨c1, c2, c3, c4⟩
              · rw [hB] at c3
                have c3' : B0 + i + 1 = B0 + i := c3
                omega
              · have hok2 : TieOk (θ.more (B0 + i) (B0' + i)) m.next m'.next := hg.ok.more f (by omega) (by omega) (Nat.le_refl _) (Nat.le_refl _)
                have hren : ∀ b c, (θ.more (B0 + i) (B0' + i)).ren b = some c → θ.ren b = some c ∨ (b = B0 + i ∧ c = B0' + i) := by
                  intro b c hbc
                  have hbc' : (if b = B0 + i then some (B0' + i) else θ.ren b) = some c := hbc
                  by_cases hx : b = B0 + i
                  · rw [if_pos hx] at hbc'; cases hbc'; exact .inr ⟨hx, rfl⟩
                  · rw [if_neg hx] at hbc'; exact .inl hbc'
                refine ih _ _ _ _ _ hn1 h hok.2 (θ.more (B0 + i) (B0' + i)) _ _ _ _ ((hf.ext f.ext).put c1 d) ⟨c2.nexts _ _, hok2, hg.glb.ext f.ext⟩ hb hb' ?_ (SnapsS.same (m := m) (m1 := ⟨m.next, m1.tbl⟩) f.ext rfl rfl hsn) (fun s' hs' => (hse s' hs').ext f.ext) ⟨hst.ext.trans f.ext, ?_, hst.sta, hst.n1, hst.n2, ?_⟩
                · intro j hj hjn
                  have fj := hk j (by omega) hjn
                  refine ⟨?_, fun a ha => ?_, fj.s⟩
                  · cases e : (θ.more (B0 + i) (B0' + i)).ren (B0 + j) with
                    | none => rfl
                    | some c =>
                      rcases hren _ _ e with q | ⟨q, _⟩
                      · rw [fj.l] at q; cases q
                      · omega
                  · rcases hren _ _ ha with q | ⟨_, q⟩
                    · exact fj.r a q
                    · omega
                · intro b c hbc
                  rcases hren b c hbc with q | ⟨rfl, rfl⟩
                  · exact hst.ren b c q
                  · exact .inr ⟨by omega, by omega⟩
                · intro c hc hr
                  have h1 : m1'.get c = m'.get c := by
                    refine hkeep c (show c ≠ B0' + i by omega) fun b hbc => ?_
                    rcases hst.ren b c hbc with q | ⟨_, q⟩
                    · exact hr b q
                    · omega
                  exact h1.trans (hst.keep c hc hr)
          · by_cases hs2 : srt op = 2
            · cases op <;> simp only [srt, reduceCtorEq, Nat.reduceEqDiff] at hs2
              case conv c x => cases c <;> simp at hs2
              rename_i agg a
              simp only [srt, IOp.mapO] at h
              have ha : SV θ (fr.eval (subO a)) (fr'.eval a) := (hf.ops hg.glb) a (by simpa only [okOp, opds, okZero, List.all_cons, List.all_nil, Bool.and_true] using hok1)
              rw [drw_load]
              have hnf := ha.notF
              simp only [ifF, hnf, cond_false]
              cases hl : m.load agg (fr.eval (subO a)) with
              | none => simp [hl] at h
              | some v =>
                simp only [hl] at h
                cases hF : isF (fr.eval (subO a)) <;> simp only [hF, cond_true, cond_false] at h
                · cases hcs : checkSnap chk i agg (fr.eval (subO a)) v sn <;> simp only [hcs, cond_true, cond_false, reduceCtorEq] at h
                  obtain ⟨v', hl', hv⟩ := load_b hg.toMemB ha hF hl
                  simp only [hl', thenL, snap_sim ha hv hF hsn hcs, ifB_true]
                  refine ih _ _ _ _ _ hn1 h hok.2 θ _ _ _ _ (hf.put hv d) hg hb hb' hk1 hsn (fun s' hs' => ?_) hst
                  rcases List.mem_cons.1 hs' with rfl | hs'
                  · exact .inl ⟨⟨i, agg, fr.eval (subO a), v⟩, by simp, rfl, rfl, hF, ha, hv⟩
                  · rcases hse s' hs' with ⟨s, q1, q2⟩ | q
                    · exact .inl ⟨s, by simp [q1], q2⟩
                    · exact .inr q
                · cases hcs : checkOld chk i m.next sn <;> simp only [hcs, cond_true, cond_false, reduceCtorEq] at h
                  generalize hfe : fr.eval (subO a) = y at ha hF hl
                  cases y <;> simp only [isF, Bool.false_eq_true] at hF
                  obtain ⟨v', hv, hall⟩ := load_f ha hl
                  simp only [hall m' hg.sta, thenL, old_sim hv.told hall hsn hcs, ifB_true]
                  refine ih _ _ _ _ _ hn1 h hok.2 θ _ _ _ _ (hf.put hv d) hg hb hb' hk1 hsn (fun s' hs' => ?_) hst
                  rcases List.mem_cons.1 hs' with rfl | hs'
                  · exact .inr ⟨hv.told, hall⟩
                  · exact hse s' hs'
            · have hs3 : srt op = 3 := by omega
              simp only [hs3] at h
              rw [drw_v3 hs3]
              cases he : evOp (fun x => fr.eval (subO x)) op m with
              | none => simp [he] at h
              | some q =>
                obtain ⟨v, m1⟩ := q
                simp only [he] at h
                cases hcs : checkSeen chk i m1 se <;> simp only [hcs, cond_true, cond_false, reduceCtorEq] at h
                obtain ⟨θ', v', m1', e1, e2, e3, e4⟩ := OpS.good hg (op_sim (hf.ops hg.glb) hg.toMemS hg.ok (hg.ok.fresh (Nat.le_refl _) (Nat.le_refl _)) hok1 he)
                rw [e1]
                have hse1 : ∀ s', s' ∈ se' → SeenS θ' se s' := fun s' hs' => (hse s' hs').ext e4.ext
                have a1 := e4.n1; have a2 := e4.n2
                simp only [thenV, seen_sim e3.toMemS hcs hse1, ifB_true]
                refine ih _ _ _ _ _ hn1 h hok.2 θ' _ _ _ _ ((hf.ext e4.ext).put e2 d) e3 (by omega) (by omega) (hk1.step e4 hb hb') (.cons ?_ (hsn.step e4 fun _ _ _ _ _ _ => trivial)) hse1 (hst.trans e4)
                refine ⟨rfl, hg.toMemB.ext e4.ext fun b c hb _ => hg.cl b hb, a1, fun e c B hc => ?_⟩
                rcases e4.sta c B hc with q | ⟨_, q⟩
                · exact hg.sta c B q
                · simp only at e; omega

/-! ### Code -/
theorem OutS.thenE {θ : Tie} {m m' : Mem} {out out2 : Out} {X : Option Out} {K : Fr → Mem → Option Out} {k : Fr → Mem → Option Out} (hX : OutOk θ m m' out X)
    (h : (match out with | .norm fr m1 => k fr m1 | o => some o) = some out2)
    (hk : ∀ θ1 fr m1 fr' m1', FrS θ1 fr fr' → GoodS θ1 m1 m1' → k fr m1 = some out2 → OutOk θ1 m1 m1' out2 (K fr' m1')) : OutOk θ m m' out2 (Ev.thenE X K) := by
  obtain ⟨θ1, out', rfl, hs, hst⟩ := hX
  cases hs with
  | norm hf hg => exact OutOk.after hst (hk _ _ _ _ _ hf hg h)
  | exit hf hg => simp only [Option.some.injEq] at h; subst h; exact ⟨θ1, _, rfl, .exit hf hg, hst⟩
  | ret hf hg => simp only [Option.some.injEq] at h; subst h; exact ⟨θ1, _, rfl, .ret hf hg, hst⟩
  | pan hv hf hg => simp only [Option.some.injEq] at h; subst h; exact ⟨θ1, _, rfl, .pan hv hf hg, hst⟩
theorem bump_good {θ : Tie} {m m' : Mem} (hg : GoodS θ m m') (k : Nat) : GoodS θ ⟨m.next + k, m.tbl⟩ ⟨m'.next + k, m'.tbl⟩ :=
  ⟨hg.toMemS.nexts _ _, ⟨fun b c h => by have := hg.ok.ren b c h; exact ⟨Nat.lt_of_lt_of_le this.1 (Nat.le_add_right _ _), Nat.lt_of_lt_of_le this.2 (Nat.le_add_right _ _)⟩, hg.ok.inj, hg.ok.off, fun b B h => Nat.lt_of_lt_of_le (hg.ok.sta b B h) (Nat.le_add_right _ _)⟩, hg.glb⟩
theorem code_sim (hcall : CallS T call) (n : Nat) : ∀ (c : ICode) (fr : Fr) (m : Mem) (out : Out), evCode call n c.sub fr m = some out → okCode c = true → ∀ (θ : Tie) (fr' : Fr) (m' : Mem), FrS θ fr fr' → GoodS θ m m' → OutOk θ m m' out (exec T c fr' m')
  | .skip, fr, m, out, h, _, θ, fr', m', hf, hg => by
    simp only [ICode.sub, evCode, Option.some.injEq] at h; subst h
    exact ⟨θ, _, exec_skip, .norm hf hg, .refl _ _ _⟩
  | .ret, fr, m, out, h, _, θ, fr', m', hf, hg => by
    simp only [ICode.sub, evCode, Option.some.injEq] at h; subst h
    exact ⟨θ, _, exec_ret, .ret hf hg, .refl _ _ _⟩
  | .exit id, fr, m, out, h, _, θ, fr', m', hf, hg => by
    simp only [ICode.sub, evCode, Option.some.injEq] at h; subst h
    exact ⟨θ, _, exec_exit, .exit hf hg, .refl _ _ _⟩
  | .region ops, fr, m, out, h, hok, θ, fr', m', hf, hg => by
    simp only [ICode.sub, evCode] at h
    rw [exec_region]
    exact ops_sim hcall ops fr m out h (by simpa only [okCode] using hok) θ fr' m' hf hg
  | .draw ops chk, fr, m, out, h, hok, θ, fr', m', hf, hg => by
    simp only [ICode.sub, evCode] at h
    rw [exec_draw]
    rw [List.length_map] at h
    have hg2 := bump_good hg ops.length
    refine draw_sim hcall (n := ops.length) (θ0 := θ) (m0 := m) (m0' := m') rfl rfl ops 0 fr _ [] [] out (Nat.zero_add _) h (by simpa only [okCode] using hok) θ fr' _ [] [] hf hg2 (Nat.le_refl _) (Nat.le_refl _) (fun j _ hj => hg.ok.fresh (Nat.le_add_right _ _) (Nat.le_add_right _ _)) .nil (fun s' hs' => by simp at hs')
      ⟨.refl θ, fun _ _ h => .inl h, fun _ _ h => .inl h, Nat.le_add_right _ _, Nat.le_add_right _ _, fun _ _ _ => rfl⟩
  | .seq a b, fr, m, out, h, hok, θ, fr', m', hf, hg => by
    simp only [okCode, Bool.and_eq_true] at hok
    simp only [ICode.sub, evCode] at h
    rw [exec_seq]
    cases ha : evCode call n a.sub fr m with
    | none => simp [ha] at h
    | some o =>
      refine OutS.thenE (k := evCode call n b.sub) (code_sim hcall n a fr m o ha hok.1 θ fr' m' hf hg) (by rw [ha] at h; cases o <;> exact h) fun θ1 fr1 m1 fr1' m1' hf1 hg1 h1 => code_sim hcall n b _ _ _ h1 hok.2 θ1 _ _ hf1 hg1
  | .cond c a b, fr, m, out, h, hok, θ, fr', m', hf, hg => by
    simp only [okCode, Bool.and_eq_true] at hok
    simp only [ICode.sub, evCode] at h
    have hc : SV θ (fr.eval (subO c)) (fr'.eval c) := (hf.ops hg.glb) c hok.1.1
    cases hce : fr.eval (subO c) <;> simp only [hce, reduceCtorEq] at h
    rename_i t
    simp only [hce] at hc
    rw [exec_cond (bool_of hc)]
    cases t
    · exact code_sim hcall n b _ _ _ h hok.2 θ _ _ hf hg
    · exact code_sim hcall n a _ _ _ h hok.1.2 θ _ _ hf hg
  | .block id a, fr, m, out, h, hok, θ, fr', m', hf, hg => by
    simp only [ICode.sub, evCode] at h
    rw [exec_block]
    cases ha : evCode call n a.sub fr m with
    | none => simp [ha] at h
    | some o =>
      obtain ⟨θ1, out', e, hs, hst⟩ := code_sim hcall n a fr m o ha (by simpa only [okCode] using hok) θ fr' m' hf hg
      rw [e]
      rw [ha] at h
      cases hs with
      | norm hf hg => simp only [Option.some.injEq] at h; subst h; exact ⟨θ1, _, rfl, .norm hf hg, hst⟩
      | ret hf hg => simp only [Option.some.injEq] at h; subst h; exact ⟨θ1, _, rfl, .ret hf hg, hst⟩
      | pan hv hf hg => simp only [Option.some.injEq] at h; subst h; exact ⟨θ1, _, rfl, .pan hv hf hg, hst⟩
      | @exit j fr1 fr1' m1 m1' hf hg =>
        simp only [leaveE]
        simp only at h
        cases hb : j.beq id <;> simp only [hb, cond_true, cond_false, Option.some.injEq] at h ⊢ <;> subst h
        · exact ⟨θ1, _, rfl, .exit hf hg, hst⟩
        · exact ⟨θ1, _, rfl, .norm hf hg, hst⟩
  | .loop a, fr, m, out, h, hok, θ, fr', m', hf, hg => by
    simp only [ICode.sub, evCode] at h
    have hok' : okCode a = true := by simpa only [okCode] using hok
    have ha := code_sim hcall n a
    have go : ∀ (k : Nat) (fr : Fr) (m : Mem) (out : Out), iter (evCode call n a.sub) k fr m = some out → ∀ (θ : Tie) (fr' : Fr) (m' : Mem), FrS θ fr fr' → GoodS θ m m' → OutOk θ m m' out (exec T (.loop a) fr' m') := by
      intro k
      induction k with
      | zero => intro fr m out h; simp [iter] at h
      | succ k ih =>
        intro fr m out h θ fr' m' hf hg
        simp only [iter] at h
        rw [exec_loop]
        cases hb : evCode call n a.sub fr m with
        | none => simp [hb] at h
        | some o =>
          refine OutS.thenE (k := iter (evCode call n a.sub) k) (ha fr m o hb hok' θ fr' m' hf hg) (by rw [hb] at h; cases o <;> exact h) fun θ1 fr1 m1 fr1' m1' hf1 hg1 h1 => ih _ _ _ h1 θ1 _ _ hf1 hg1
    exact go n fr m out h θ fr' m' hf hg
theorem args_sim {θ : Tie} : ∀ {x x' : List EV} (i : Nat) {t t' : Tr EV}, SVs θ x x' → (∀ k, SV θ (((⟨t, []⟩ : Fr)).get k) (((⟨t', []⟩ : Fr)).get k)) → ∀ k, SV θ (((⟨args0 x i t, []⟩ : Fr)).get k) (((⟨args0 x' i t', []⟩ : Fr)).get k)
  | _, _, i, t, t', .nil, h => h
  | _, _, i, t, t', .cons (v := v) (v' := v') hv hs, h => by
    refine args_sim (i + 1) hs fun k => ?_
    show SV θ ((Fr.set ⟨t, []⟩ i v).get k) ((Fr.set ⟨t', []⟩ i v').get k)
    rw [Fr.get_set, Fr.get_set]
    split
    · exact hv
    · exact h k
theorem results_sim {θ : Tie} {m m' : Mem} (hm : MemS θ m m') {fr fr' : Fr} (hf : FrS θ fr fr') : ∀ (rs : List IRes) (vs : List EV), evResults fr m rs = some vs → ∃ vs', evResults fr' m' rs = some vs' ∧ SVs θ vs vs'
  | [], vs, h => by simp only [evResults, Option.some.injEq] at h; subst h; exact ⟨[], rfl, .nil⟩
  | r :: rs, vs, h => by
    simp only [evResults] at h ⊢
    cases hr : evRes fr m r with
    | none => simp [hr] at h
    | some v =>
      have hv : ∃ v', evRes fr' m' r = some v' ∧ SV θ v v' := by
        cases r with
        | tmp t => simp only [evRes, Option.some.injEq] at hr ⊢; subst hr; exact ⟨_, rfl, hf.tmp t⟩
        | cell t agg => simp only [evRes] at hr ⊢; exact load_sim hm (hf.tmp t) hr
      obtain ⟨v', hr', hvv⟩ := hv
      simp only [hr, hr'] at h ⊢
      obtain ⟨ws, hw, rfl⟩ := Option.map_eq_some_iff.1 h
      obtain ⟨ws', hw', hs⟩ := results_sim hm hf rs ws hw
      exact ⟨v' :: ws', by rw [hw']; rfl, .cons hvv hs⟩
theorem one_sim {θ : Tie} {x x' : List EV} (h : SVs θ x x') : SV θ (one x) (one x') := by
  cases h with
  | nil => exact .tuple .nil
  | cons hv hs =>
    cases hs with
    | nil => exact hv
    | cons hv2 hs2 => exact .tuple (.cons hv (.cons hv2 hs2))
def okFun (F : IFun) : Bool := okCode F.body && noGlC F.body
def okFunG (F : IFun) : Bool := okCode F.body
theorem okFun_sub {F : IFun} (h : okFun F = true) : F.sub = F := by
  simp only [okFun, Bool.and_eq_true] at h
  unfold IFun.sub; rw [noGlC_sub h.2]
theorem okFun_G {F : IFun} (h : okFun F = true) : okFunG F = true := by simp only [okFun, Bool.and_eq_true] at h; exact h.1
theorem body_sim (hcall : CallS T call) (n : Nat) {f : Nat} {F : IFun} (hT : T f = some (.go F)) (hok : okFunG F = true) {args : List EV} {m : Mem} {fin : Fin} (h : evBody call n F.sub args m = some fin) {θ : Tie} {m' : Mem} {args' : List EV} (hg : GoodS θ m m') (ha : SVs θ args args') : FinOk θ m m' fin (run T f args' m') := by
  unfold evBody at h
  simp only [IFun.sub] at h
  cases hb : args.length.ble F.ntmps <;> simp only [hb, cond_true, cond_false, reduceCtorEq] at h
  have hlen : args'.length ≤ F.ntmps := by rw [← ha.length]; exact Nat.le_of_ble_eq_true hb
  rw [run_go hT hlen]
  cases hc : evCode call n F.body.sub ⟨args0 args 0 .leaf, []⟩ m with
  | none => simp [hc] at h
  | some out =>
    have hf : FrS θ ⟨args0 args 0 .leaf, []⟩ ⟨args0 args' 0 .leaf, []⟩ := ⟨args_sim 0 ha fun k => by rw [show (⟨.leaf, []⟩ : Fr) = fr00 from rfl, fr00_get]; exact .undef, .nil⟩
    obtain ⟨θ1, out', e, hs, hst⟩ := code_sim hcall n F.body _ _ _ hc hok θ _ m' hf hg
    rw [e]
    simp only [hc] at h
    cases hs with
    | exit hf hg => simp at h
    | @norm fr fr' m1 m1' hf1 hg1 =>
      cases hd : fr.defers with
      | cons d ds => simp [hd] at h
      | nil =>
        simp only [hd] at h
        have hd' : fr'.defers = [] := hf1.dfr.none hd
        simp only [resE, hd']
        obtain ⟨vs, hv, rfl⟩ := Option.map_eq_some_iff.1 h
        obtain ⟨vs', hv', hvs⟩ := results_sim hg1.toMemS hf1 F.results vs hv
        rw [hv']
        exact ⟨θ1, _, rfl, .ret (one_sim hvs) hg1, hst⟩
    | @ret fr fr' m1 m1' hf1 hg1 =>
      cases hd : fr.defers with
      | cons d ds => simp [hd] at h
      | nil =>
        simp only [hd] at h
        have hd' : fr'.defers = [] := hf1.dfr.none hd
        simp only [resE, hd']
        obtain ⟨vs, hv, rfl⟩ := Option.map_eq_some_iff.1 h
        obtain ⟨vs', hv', hvs⟩ := results_sim hg1.toMemS hf1 F.results vs hv
        rw [hv']
        exact ⟨θ1, _, rfl, .ret (one_sim hvs) hg1, hst⟩
    | @pan v v' fr fr' m1 m1' hvv hf1 hg1 =>
      cases hd : fr.defers with
      | cons d ds => simp [hd] at h
      | nil =>
        simp only [hd, Option.some.injEq] at h
        have hd' : fr'.defers = [] := hf1.dfr.none hd
        simp only [resE, hd']
        subst h
        exact ⟨θ1, _, rfl, .pan hvv hg1, hst⟩
/-- Calls that wait for a function's end. -/
def subD (D : List (Nat × Option Nat × IFun)) : List (Nat × Option Nat × IFun) := D.map fun p => (p.1, p.2.1, p.2.2.sub)
theorem dfind_sub {g : Nat} {b : Option Nat} {FD : IFun} : ∀ {D : List (Nat × Option Nat × IFun)}, dfind g (subD D) = some (b, FD) → ∃ F0, dfind g D = some (b, F0) ∧ FD = F0.sub
  | [], h => by simp [subD, dfind] at h
  | (g', b', F') :: D, h => by
    simp only [subD, List.map_cons, dfind] at h ⊢
    cases hb : g'.beq g <;> simp only [hb, cond_true, cond_false] at h ⊢
    · exact dfind_sub (D := D) h
    · simp only [Option.some.injEq, Prod.mk.injEq] at h
      obtain ⟨rfl, rfl⟩ := h
      exact ⟨F', rfl, rfl⟩
def okD (D : List (Nat × Option Nat × IFun)) : Bool := D.all fun p => okFunG p.2.2
theorem okD_find {g : Nat} {b : Option Nat} {F : IFun} : ∀ {D : List (Nat × Option Nat × IFun)}, okD D = true → dfind g D = some (b, F) → okFunG F = true
  | [], _, h => by simp [dfind] at h
  | (g', b', F') :: D, ho, h => by
    simp only [okD, List.all_cons, Bool.and_eq_true] at ho
    simp only [dfind] at h
    cases hb : g'.beq g <;> simp only [hb, cond_true, cond_false] at h
    · exact okD_find (D := D) ho.2 h
    · cases h; exact ho.1
theorem bodyL_sim (hcall : CallS T call) (n : Nat) {F : IFun} (hok : okFunG F = true) {args : List EV} {m : Mem} {fin : Fin} (h : evBody call n F.sub args m = some fin) {θ : Tie} {m' : Mem} {args' : List EV} (hg : GoodS θ m m') (ha : SVs θ args args') : FinOk θ m m' fin (bodyL T F args' m') := by
  unfold evBody at h
  simp only [IFun.sub] at h
  cases hb : args.length.ble F.ntmps <;> simp only [hb, cond_true, cond_false, reduceCtorEq] at h
  have hlen : args'.length ≤ F.ntmps := by rw [← ha.length]; exact Nat.le_of_ble_eq_true hb
  rw [bodyL_eq hlen]
  cases hc : evCode call n F.body.sub ⟨args0 args 0 .leaf, []⟩ m with
  | none => simp [hc] at h
  | some out =>
    have hf : FrS θ ⟨args0 args 0 .leaf, []⟩ ⟨args0 args' 0 .leaf, []⟩ := ⟨args_sim 0 ha fun k => by rw [show (⟨.leaf, []⟩ : Fr) = fr00 from rfl, fr00_get]; exact .undef, .nil⟩
    obtain ⟨θ1, out', e, hs, hst⟩ := code_sim hcall n F.body _ _ _ hc hok θ _ m' hf hg
    rw [e]
    simp only [hc] at h
    cases hs with
    | exit hf hg => simp at h
    | @norm fr fr' m1 m1' hf1 hg1 =>
      cases hd : fr.defers with
      | cons d ds => simp [hd] at h
      | nil =>
        simp only [hd] at h
        have hd' : fr'.defers = [] := hf1.dfr.none hd
        simp only [resE, hd']
        obtain ⟨vs, hv, rfl⟩ := Option.map_eq_some_iff.1 h
        obtain ⟨vs', hv', hvs⟩ := results_sim hg1.toMemS hf1 F.results vs hv
        rw [hv']
        exact ⟨θ1, _, rfl, .ret (one_sim hvs) hg1, hst⟩
    | @ret fr fr' m1 m1' hf1 hg1 =>
      cases hd : fr.defers with
      | cons d ds => simp [hd] at h
      | nil =>
        simp only [hd] at h
        have hd' : fr'.defers = [] := hf1.dfr.none hd
        simp only [resE, hd']
        obtain ⟨vs, hv, rfl⟩ := Option.map_eq_some_iff.1 h
        obtain ⟨vs', hv', hvs⟩ := results_sim hg1.toMemS hf1 F.results vs hv
        rw [hv']
        exact ⟨θ1, _, rfl, .ret (one_sim hvs) hg1, hst⟩
    | @pan v v' fr fr' m1 m1' hvv hf1 hg1 =>
      cases hd : fr.defers with
      | cons d ds => simp [hd] at h
      | nil =>
        simp only [hd, Option.some.injEq] at h
        have hd' : fr'.defers = [] := hf1.dfr.none hd
        simp only [resE, hd']
        subst h
        exact ⟨θ1, _, rfl, .pan hvv hg1, hst⟩
def OptS (θ : Tie) (u u' : Option EV) : Prop := match u with
  | none => u' = none
  | some v => ∃ v', u' = some v' ∧ SV θ v v'
theorem OptS.ext {θ θ' : Tie} (e : Tie.Ext θ θ') {u u' : Option EV} (h : OptS θ u u') : OptS θ' u u' := by
  cases u with
  | none => exact h
  | some v => obtain ⟨v', h1, h2⟩ := h; exact ⟨v', h1, h2.ext e⟩
theorem OptS.get {θ : Tie} {u u' : Option EV} (h : OptS θ u u') : SV θ (u.getD .niliface) (u'.getD .niliface) := by
  cases u with
  | none => cases h; exact .niliface
  | some v => obtain ⟨v', rfl, h2⟩ := h; exact h2
theorem bodyRL_sim (hcall : CallS T call) (n : Nat) {d : Nat} {F : IFun} (hok : okFunG F = true) {args : List EV} {u u' : Option EV} {m m1 : Mem} (h : evBodyR call n d F.sub args u m = some m1) {θ : Tie} {m' : Mem} {args' : List EV} (hg : GoodS θ m m') (ha : SVs θ args args') (hu : OptS θ u u') :
    ∃ θ1 m1', bodyRL T d F args' u' m' = some m1' ∧ GoodS θ1 m1 m1' ∧ StepS θ m m' θ1 m1 m1' := by
  unfold evBodyR at h
  simp only [IFun.sub] at h
  cases hb : args.length.ble F.ntmps <;> simp only [hb, cond_true, cond_false, reduceCtorEq] at h
  have hlen : args'.length ≤ F.ntmps := by rw [← ha.length]; exact Nat.le_of_ble_eq_true hb
  rw [bodyRL_eq hlen]
  cases hc : evCode call n F.body.sub (Fr.set ⟨args0 args 0 .leaf, []⟩ d (u.getD .niliface)) m with
  | none => simp [hc] at h
  | some out =>
    have hf : FrS θ ⟨args0 args 0 .leaf, []⟩ ⟨args0 args' 0 .leaf, []⟩ := ⟨args_sim 0 ha fun k => by rw [show (⟨.leaf, []⟩ : Fr) = fr00 from rfl, fr00_get]; exact .undef, .nil⟩
    obtain ⟨θ1, out', e, hs, hst⟩ := code_sim hcall n F.body _ _ _ hc hok θ _ m' (hf.put hu.get (some d)) hg
    have e' : exec T F.body (Fr.set ⟨args0 args' 0 .leaf, []⟩ d (u'.getD .niliface)) m' = some out' := e
    rw [e']
    simp only [hc] at h
    cases hs with
    | exit hf hg => simp at h
    | @norm fr fr' m2 m2' hf1 hg1 =>
      cases hd : fr.defers with
      | cons d ds => simp [hd] at h
      | nil =>
        simp only [hd] at h
        have hd' : fr'.defers = [] := hf1.dfr.none hd
        simp only [resM, hd']
        obtain ⟨vs, hv, rfl⟩ := Option.map_eq_some_iff.1 h
        obtain ⟨vs', hv', hvs⟩ := results_sim hg1.toMemS hf1 F.results vs hv
        rw [hv']
        exact ⟨θ1, _, rfl, hg1, hst⟩
    | @ret fr fr' m2 m2' hf1 hg1 =>
      cases hd : fr.defers with
      | cons d ds => simp [hd] at h
      | nil =>
        simp only [hd] at h
        have hd' : fr'.defers = [] := hf1.dfr.none hd
        simp only [resM, hd']
        obtain ⟨vs, hv, rfl⟩ := Option.map_eq_some_iff.1 h
        obtain ⟨vs', hv', hvs⟩ := results_sim hg1.toMemS hf1 F.results vs hv
        rw [hv']
        exact ⟨θ1, _, rfl, hg1, hst⟩
    | @pan v v' fr fr' m2 m2' hvv hf1 hg1 => simp at h
theorem FinOk.after {θ θ1 : Tie} {m m' m1 m1' : Mem} {fin : Fin} {o : Option Fin} (hs : StepS θ m m' θ1 m1 m1') (h : FinOk θ1 m1 m1' fin o) : FinOk θ m m' fin o := by
  obtain ⟨θ2, fin', e, h1, h2⟩ := h
  cases h1 with
  | ret hv hg => exact ⟨θ2, _, e, .ret hv hg, hs.trans h2⟩
  | pan hv hg => exact ⟨θ2, _, e, .pan hv hg, hs.trans h2⟩
theorem leave_sim (hcall : CallS T call) (n : Nat) {rs : List IRes} {D : List (Nat × Option Nat × IFun)} (hD : okD D = true) {fr fr' : Fr} : ∀ (ds ds' : List (Nat × List EV)) (u u' : Option EV) (θ : Tie) (m m' : Mem) (fin : Fin), DefS θ ds ds' → OptS θ u u' → GoodS θ m m' → FrS θ fr fr' → evLeave call n rs (subD D) fr ds u m = some fin → FinOk θ m m' fin (leaveL T rs D fr' ds' u' m')
  | [], ds', u, u', θ, m, m', fin, hds, hu, hg, hf, h => by
    cases hds
    cases u with
    | none =>
      cases hu
      simp only [evLeave] at h
      obtain ⟨vs, hv, rfl⟩ := Option.map_eq_some_iff.1 h
      obtain ⟨vs', hv', hvs⟩ := results_sim hg.toMemS hf rs vs hv
      rw [leaveL_nil, hv']
      exact ⟨θ, _, rfl, .ret (one_sim hvs) hg, .refl _ _ _⟩
    | some v =>
      obtain ⟨v', rfl, hv⟩ := hu
      simp only [evLeave, Option.some.injEq] at h
      subst h
      rw [leaveL_pan]
      exact ⟨θ, _, rfl, .pan hv hg, .refl _ _ _⟩
  | (g, args) :: ds, ds', u, u', θ, m, m', fin, hds, hu, hg, hf, h => by
    cases hds with
    | @cons _ _ args' _ dds hx hds =>
    simp only [evLeave] at h
    cases hdf : dfind g (subD D) with
    | none => simp [hdf] at h
    | some q =>
    obtain ⟨b, FD⟩ := q
    obtain ⟨F0, hF0, rfl⟩ := dfind_sub hdf
    have hok := okD_find hD hF0
    cases b with
    | some d =>
      simp only [hdf] at h
      cases hb : evBodyR call n d F0.sub args u m with
      | none => simp [hb] at h
      | some m1 =>
        simp only [hb] at h
        obtain ⟨θ1, m1', e1, hg1, hs1⟩ := bodyRL_sim hcall n hok hb hg hx hu
        rw [leaveL_rec hF0, e1]
        exact (leave_sim hcall n hD ds dds none none θ1 m1 m1' fin (hds.ext hs1.ext) rfl hg1 (hf.ext hs1.ext) h).after hs1
    | none =>
      simp only [hdf] at h
      cases hb : evBody call n F0.sub args m with
      | none => simp [hb] at h
      | some fin1 =>
        simp only [hb] at h
        obtain ⟨θ1, fin1', e1, hf1, hs1⟩ := bodyL_sim hcall n hok hb hg hx
        rw [leaveL_call hF0, e1]
        cases hf1 with
        | ret hv hg1 => exact (leave_sim hcall n hD ds dds u u' θ1 _ _ fin (hds.ext hs1.ext) (hu.ext hs1.ext) hg1 (hf.ext hs1.ext) h).after hs1
        | @pan v v' _ _ hv hg1 =>
          cases u with
          | some x => cases h
          | none =>
            cases hu
            exact (leave_sim hcall n hD ds dds (some v) (some v') θ1 _ _ fin (hds.ext hs1.ext) ⟨v', rfl, hv⟩ hg1 (hf.ext hs1.ext) h).after hs1
theorem bodyD_sim (hcall : CallS T call) (n : Nat) {f : Nat} {F : IFun} {D : List (Nat × Option Nat × IFun)} (hT : T f = some (.dgo F D)) (hok : okFunG F = true) (hD : okD D = true) {args : List EV} {m : Mem} {fin : Fin} (h : evBodyD call n F.sub (subD D) args m = some fin) {θ : Tie} {m' : Mem} {args' : List EV} (hg : GoodS θ m m') (ha : SVs θ args args') : FinOk θ m m' fin (run T f args' m') := by
  unfold evBodyD at h
  simp only [IFun.sub] at h
  cases hb : args.length.ble F.ntmps <;> simp only [hb, cond_true, cond_false, reduceCtorEq] at h
  have hlen : args'.length ≤ F.ntmps := by rw [← ha.length]; exact Nat.le_of_ble_eq_true hb
  rw [run_dgo hT hlen]
  cases hc : evCode call n F.body.sub ⟨args0 args 0 .leaf, []⟩ m with
  | none => simp [hc] at h
  | some out =>
    have hf : FrS θ ⟨args0 args 0 .leaf, []⟩ ⟨args0 args' 0 .leaf, []⟩ := ⟨args_sim 0 ha fun k => by rw [show (⟨.leaf, []⟩ : Fr) = fr00 from rfl, fr00_get]; exact .undef, .nil⟩
    obtain ⟨θ1, out', e, hs, hst⟩ := code_sim hcall n F.body _ _ _ hc hok θ _ m' hf hg
    rw [e]
    simp only [hc] at h
    cases hs with
    | exit hf hg => simp at h
    | norm hf1 hg1 => exact (leave_sim hcall n hD _ _ none none θ1 _ _ fin hf1.dfr rfl hg1 hf1 h).after hst
    | ret hf1 hg1 => exact (leave_sim hcall n hD _ _ none none θ1 _ _ fin hf1.dfr rfl hg1 hf1 h).after hst
    | @pan v v' _ _ _ _ hvv hf1 hg1 => exact (leave_sim hcall n hD _ _ (some v) (some v') θ1 _ _ fin hf1.dfr ⟨v', rfl, hvv⟩ hg1 hf1 h).after hst
/-- An entry of the one table stands for the function in the other. -/
def EntS (T : Nat → Option Ent) (f : Nat) : Ent → Prop
  | .go F1 => ∃ F, T f = some (.go F) ∧ okFunG F = true ∧ F1 = F.sub
  | .ext g => ∀ θ m m' args args' v, GoodS θ m m' → SVs θ args args' → g args = some v → FinOk θ m m' (.ret v m) (run T f args' m')
  | .pure g => ∀ θ m m' args args' v, GoodS θ m m' → SVs θ args args' → g args = some v → FinOk θ m m' (.ret v m) (run T f args' m')
  | .spec g => ∀ θ m m' args args' fin, GoodS θ m m' → SVs θ args args' → g args m = some fin → FinOk θ m m' fin (run T f args' m')
  | .dgo F1 D1 => ∃ F D, T f = some (.dgo F D) ∧ okFunG F = true ∧ okD D = true ∧ F1 = F.sub ∧ D1 = subD D
theorem fun_sim {T1 : Nat → Option Ent} (h1 : ∀ f e, T1 f = some e → EntS T f e) : ∀ k, CallS T (evFun T1 k)
  | 0 => fun f args m fin h => by simp [evFun] at h
  | k + 1 => fun f args m fin h θ m' args' hg ha => by
    simp only [evFun] at h
    cases he : T1 f with
    | none => simp [he] at h
    | some e =>
      have hE := h1 f e he
      simp only [he] at h
      cases e with
      | go F =>
        obtain ⟨F0, hT, hok, rfl⟩ := hE
        exact body_sim (fun_sim h1 k) k hT hok h hg ha
      | ext g =>
        obtain ⟨v, hv, rfl⟩ := Option.map_eq_some_iff.1 h
        exact hE θ m m' args args' v hg ha hv
      | pure g =>
        obtain ⟨v, hv, rfl⟩ := Option.map_eq_some_iff.1 h
        exact hE θ m m' args args' v hg ha hv
      | spec g => exact hE θ m m' args args' fin hg ha h
      | dgo F D =>
        obtain ⟨F0, D0, hT, hok, hD, rfl, rfl⟩ := hE
        exact bodyD_sim (fun_sim h1 k) k hT hok hD h hg ha
end
end Go.Proofs.YtblcomejcahkdaaDoor.Ev
end
section
namespace Go.Proofs.YtblcomejcahkdaaDoor.Ev
open Go Go.RowKit
set_option linter.unusedSimpArgs false
set_option linter.unusedVariables false
def strOf : List EV → Option (List (List UInt8))
  | [] => some []
  | .str s :: r => (strOf r).map (s :: ·)
  | _ => none
theorem strOf_eq : ∀ {cs : List EV} {l : List (List UInt8)}, strOf cs = some l → cs = l.map .str
  | [], l, h => by simp only [strOf, Option.some.injEq] at h; subst h; rfl
  | v :: r, l, h => by
    cases v <;> simp only [strOf, reduceCtorEq] at h
    obtain ⟨l', h1, rfl⟩ := Option.map_eq_some_iff.1 h
    rw [List.map_cons, strOf_eq h1]
theorem strOf_map (l : List (List UInt8)) : strOf (l.map .str) = some l := by
  induction l with
  | nil => rfl
  | cons s l ih => simp only [List.map_cons, strOf, ih, Option.map_some]
def joinV (l : List (List UInt8)) (sep : List UInt8) (m : Mem) : Option Fin := bif l.length.ble 1000000000 && (Go.Lib.join l sep).length.ble 4294967296 then some (.ret (.str (Go.Lib.join l sep)) m) else none
def isStr : EV → Bool
  | .str _ => true
  | _ => false
/-- strings.Join. -/
def joinE (args : List EV) (m : Mem) : Option Fin := match args with
  | [v, .str sep] => match m.source 1 v, isStr v with
    | some (_, cs), false => match strOf cs with
      | some l => joinV l sep m
      | none => none
    | _, _ => none
  | _ => none
theorem joinE_inv {args : List EV} {m : Mem} {fin : Fin} (h : joinE args m = some fin) : ∃ v sep n l, args = [v, .str sep] ∧ isStr v = false ∧ m.source 1 v = some (n, l.map .str) ∧ l.length ≤ 1000000000 ∧ (Go.Lib.join l sep).length ≤ 4294967296 ∧ fin = .ret (.str (Go.Lib.join l sep)) m := by
  unfold joinE at h
  split at h
  · rename_i v sep
    split at h
    · rename_i n cs hs hst
      split at h
      · rename_i l hl
        unfold joinV at h
        cases hc : (l.length.ble 1000000000 && (Go.Lib.join l sep).length.ble 4294967296) <;> simp only [hc, cond_true, cond_false, reduceCtorEq, Option.some.injEq] at h
        simp only [Bool.and_eq_true] at hc
        exact ⟨v, sep, n, l, rfl, hst, by rw [hs, strOf_eq hl], Nat.le_of_ble_eq_true hc.1, Nat.le_of_ble_eq_true hc.2, h.symm⟩
      · cases h
    · cases h
  · cases h
theorem strs_vr {ρ : Ren} : ∀ {l : List (List UInt8)} {vs : List Value}, VRs ρ (l.map .str) vs → ∃ xs : List ByteArray, vs = xs.map .string ∧ xs.map (·.data.toList) = l
  | [], vs, h => by cases h; exact ⟨[], rfl, rfl⟩
  | s :: l, vs, h => by
    rw [List.map_cons] at h
    generalize hx : EV.str s = x at h
    cases h with
    | cons h1 h2 =>
      obtain ⟨xs, rfl, e2⟩ := strs_vr h2
      cases h1 <;> cases hx
      rename_i b
      exact ⟨b :: xs, rfl, by rw [List.map_cons, e2]⟩
theorem R.drift {base : Nat} {ρ : Ren} {m : Mem} {w w' : World} (hR : R base ρ m w) (b : Below w.heap.size w w') : R base ρ m w' ∧ Step ρ m w ρ m w' := by
  refine ⟨⟨hR.lt, fun c L hb => ?_, hR.inj, Nat.le_trans hR.base b.size, hR.clean⟩, ⟨.refl ρ, fun _ h h' => absurd h h', Nat.le_refl _, fun _ _ _ => rfl, fun _ _ h => h, b.size, fun _ _ h => h, fun i hi _ => b.block i hi, b.os, b.tape, b.output⟩⟩
  have hB := hR.blk c L hb
  by_cases hd : m.get c = .dead
  · rw [hd]; trivial
  · exact hB.of_heap (.refl ρ) (b.block _ (hB.lt hd))
theorem vr_str_arr {ρ : Ren} (l : List UInt8) : VR ρ (.str l) (.string ⟨l.toArray⟩) := by
  have := VR.str (ρ := ρ) ⟨l.toArray⟩
  simpa using this
theorem join_ok {G : List Nat} {f : Nat} (hf : lays156_ren.f 156 = f) {fn : Func} (hfn : Tryd.prog.funcs[f]? = some fn) (hnm : (fn.name == "runtime.NumGoroutine") = false) (hb : fn.body.isSome = true) : EntOk Tryd.prog G f (.spec joinE) := by
  intro base ρ m w args args' fin hR hG hv h
  obtain ⟨v, sep, n, l, rfl, hst, hs, hl, hj, rfl⟩ := joinE_inv h
  obtain ⟨args'⟩ := args'
  refine ⟨?_, ?_⟩
  · obtain ⟨c, hc⟩ := Option.isSome_iff_exists.1 hb
    simp [callFunc, hfn, hc]
    simpa using hnm
  have hv' : VRs ρ [v, .str sep] args' := hv
  generalize hq : EV.str sep = q at hv'
  cases hv' with
  | cons h1 h2 =>
  cases h2 with
  | cons h2 h3 =>
  cases h3
  cases h2 <;> cases hq
  rename_i v' sb
  have fin : ∀ {a : Option Addr} {c : Nat} {e : Ending} {w' : World}, e = .returned (.string ⟨(Go.Lib.join l sb.data.toList).toArray⟩) → Below w.heap.size w w' → CallPost base ρ m w (.ret (.str (Go.Lib.join l sb.data.toList)) m) e w' := by
    intro a c e w' he hbel
    obtain ⟨r1, r2⟩ := hR.drift hbel
    exact ⟨ρ, _, he, vr_str_arr _, r1, r2⟩
  subst hf
  by_cases hl0 : l = []
  · subst hl0
    have hval : ∃ a c, v' = .slice a 0 c := by
      cases h1 <;> simp only [Mem.source, reduceCtorEq, Option.some.injEq, Prod.mk.injEq] at hs
      case nilslice => exact ⟨none, 0, rfl⟩
      case slice b off len c o L hL hc ho hr =>
        obtain ⟨cs, hcs, h2⟩ := Option.map_eq_some_iff.1 hs
        simp only [Prod.mk.injEq] at h2
        obtain ⟨rfl, rfl⟩ := h2
        have := row_le hcs
        simp at this
        subst this
        exact ⟨_, _, rfl⟩
      case sliceE => exact ⟨_, _, rfl⟩
      case sliceC b off len c o L hL hc ho =>
        obtain ⟨cs, hcs, h2⟩ := Option.map_eq_some_iff.1 hs
        simp only [Prod.mk.injEq] at h2
        obtain ⟨rfl, rfl⟩ := h2
        have := row_le hcs
        simp at this
        subst this
        exact ⟨_, _, rfl⟩
      case str s => simp [isStr] at hst
    obtain ⟨a, c, rfl⟩ := hval
    refine (Any.strings_Join_none lays156 extra156 a c sb w).mono fun e w' ⟨he, hw⟩ => ?_
    subst hw
    refine fin (a := none) (c := 0) ?_ (Below.refl _ _)
    rw [he]; rfl
  · have hpos : 0 < l.length := List.length_pos_iff.2 hl0
    have key : ∀ (b off c o : Nat) (L : Loc) (cap : Option Nat), ρ b = some L → m.source 1 (.slice b off n cap) = some (n, l.map .str) → n ≤ c → o = L.off + off → Calls Tryd.prog (lays156_ren.f 156) #[.slice (some ⟨L.blk, o, none⟩) n c, .string sb] w (CallPost base ρ m w (.ret (.str (Go.Lib.join l sb.data.toList)) m)) := by
      intro b off c o L cap hL hs hc ho
      simp only [Mem.source, Nat.mul_one] at hs
      obtain ⟨cs, hcs, h2⟩ := Option.map_eq_some_iff.1 hs
      simp only [Prod.mk.injEq, true_and] at h2
      subst h2
      have hn := row_le hcs
      rw [List.length_map] at hn
      rw [Mem.row_pos (by omega)] at hcs
      unfold Mem.row1 at hcs
      cases hm : m.get b with
      | dead => simp [hm] at hcs
      | map es => simp [hm] at hcs
      | cells cs esz el ro =>
        simp only [hm] at hcs
        cases hble : (off + n).ble cs.length <;> simp only [hble, cond_true, cond_false, reduceCtorEq, Option.some.injEq] at hcs
        obtain ⟨vs, q1, q2, q3, q4⟩ := hR.cells hL hm off n (Nat.le_of_ble_eq_true hble)
        rw [hcs] at q3
        obtain ⟨xs, rfl, hx⟩ := strs_vr q3
        rw [List.length_map] at q1
        subst q1
        subst ho
        refine (Any.strings_Join lays156 extra156 L.blk (L.off + off) c xs sb w (fun j x hj => ?_) ?_ (by omega) hc (by rw [hx]; omega)).mono fun e w' ⟨he, hw⟩ => fin (a := none) (c := 0) (by rw [he, hx]) hw
        · rw [q2 j (List.getElem?_eq_some_iff.1 hj).1, List.getElem?_map, hj]; rfl
        · have hB := hR.blk b L hL
          rw [hm] at hB
          obtain ⟨arr, e, fz, e1, _⟩ := hB
          exact (Array.getElem?_eq_some_iff.1 e1).1
    cases h1 <;> simp only [Mem.source, reduceCtorEq, Option.some.injEq, Prod.mk.injEq] at hs
    case nilslice => exact absurd (List.map_eq_nil_iff.1 hs.2.symm) hl0
    case slice b off len c o L hL hc ho hr =>
      have hln : n = len := by
        obtain ⟨cs, hcs, h2⟩ := Option.map_eq_some_iff.1 hs
        simp only [Prod.mk.injEq] at h2
        exact h2.1.symm
      subst hln
      have hn : l.length = n := by
        obtain ⟨cs, hcs, h2⟩ := Option.map_eq_some_iff.1 hs
        simp only [Prod.mk.injEq, true_and] at h2
        subst h2
        have := row_le hcs
        rw [List.length_map] at this; omega
      exact key b off c o L none hL (by simp only [Mem.source]; exact hs) hc (ho (by omega))
    case sliceE =>
      obtain ⟨cs, hcs, h2⟩ := Option.map_eq_some_iff.1 hs
      simp only [Prod.mk.injEq] at h2
      obtain ⟨rfl, rfl⟩ := h2
      have := row_le hcs
      rw [List.length_map] at this; omega
    case sliceC b off len c o L hL hc ho =>
      have hln : n = len := by
        obtain ⟨cs, hcs, h2⟩ := Option.map_eq_some_iff.1 hs
        simp only [Prod.mk.injEq] at h2
        exact h2.1.symm
      subst hln
      have hn : l.length = n := by
        obtain ⟨cs, hcs, h2⟩ := Option.map_eq_some_iff.1 hs
        simp only [Prod.mk.injEq, true_and] at h2
        subst h2
        have := row_le hcs
        rw [List.length_map] at this; omega
      exact key b off c o L (some c) hL (by simp only [Mem.source]; exact hs) hc (ho (by omega))
    case str s => simp [isStr] at hst
theorem join_ent {T : Nat → Option Ent} {f : Nat} (hT : T f = some (.spec joinE)) : EntS T f (.spec joinE) := by
  intro θ m m' args args' fin hg ha h
  obtain ⟨v, sep, n, l, rfl, hst, hs, hl, hj, rfl⟩ := joinE_inv h
  obtain ⟨v', r', rfl, hv, hr⟩ : ∃ v' r', args' = v' :: r' ∧ SV θ v v' ∧ SVs θ [.str sep] r' := by
    cases ha with | cons h hs => exact ⟨_, _, rfl, h, hs⟩
  have : r' = [.str sep] := hr.flat rfl
  subst this
  obtain ⟨cs', h1, h2⟩ := source_sim hg.toMemS hv hs
  have hfl : flats (l.map EV.str) = true := by
    clear hs h2 hl hj h
    induction l with
    | nil => rfl
    | cons s l ih => simp only [List.map_cons, flats, Flat, ih, Bool.true_and]
  have := h2.flat hfl
  subst this
  refine ⟨θ, .ret (.str (Go.Lib.join l sep)) m', ?_, .ret (.str _) hg, .refl _ _ _⟩
  rw [run_spec hT]
  have hst' : isStr v' = false := by cases hv <;> first | rfl | (simp [isStr] at hst)
  unfold joinE
  simp only [h1, hst', strOf_map, joinV, Nat.ble_eq_true_of_le hl, Nat.ble_eq_true_of_le hj, Bool.and_self, cond_true]
end Go.Proofs.YtblcomejcahkdaaDoor.Ev
end
section
namespace Go.Proofs.YtblcomejcahkdaaDoor.Ev
open Go Go.RowKit
set_option linter.unusedSimpArgs false
set_option linter.unusedVariables false
def isTab : Blk → Bool
  | .cells cs _ _ _ => EV.sames cs (Go.Lib.pow10Tab.map (.int .u64))
  | _ => false
def inI64 (n : Int) : Bool := decide (-9223372036854775808 ≤ n) && decide (n ≤ 9223372036854775807)
/-- strconv.Itoa, where its table stands. -/
def itoaE (args : List EV) (m : Mem) : Option Fin := match args with
  | [.int .i64 n] => bif isTab (m.get tabNo) && inI64 n then some (.ret (.str (Go.Lib.itoa n)) m) else none
  | _ => none
def xItoa : List EV → Option EV
  | [.int .i64 n] => bif inI64 n then some (.str (Go.Lib.itoa n)) else none
  | _ => none
theorem inI64_iff {n : Int} : inI64 n = true ↔ -9223372036854775808 ≤ n ∧ n ≤ 9223372036854775807 := by simp [inI64]
theorem itoaE_inv {args : List EV} {m : Mem} {fin : Fin} (h : itoaE args m = some fin) : ∃ n, args = [.int .i64 n] ∧ isTab (m.get tabNo) = true ∧ (-9223372036854775808 ≤ n ∧ n ≤ 9223372036854775807) ∧ fin = .ret (.str (Go.Lib.itoa n)) m := by
  unfold itoaE at h
  split at h
  · rename_i n
    cases hc : (isTab (m.get tabNo) && inI64 n) <;> simp only [hc, cond_true, cond_false, reduceCtorEq, Option.some.injEq] at h
    simp only [Bool.and_eq_true] at hc
    exact ⟨n, rfl, hc.1, inI64_iff.1 hc.2, h.symm⟩
  · cases h
theorem below_grow (w : World) (k : Nat) (os : Array Obj) : Below w.heap.size w (Go.Sort.grow (w.drewN k) os) := by
  refine ⟨rfl, rfl, rfl, ?_, fun i hi => ?_⟩
  · show w.heap.size ≤ (w.heap ++ os).size
    simp
  · show (w.heap ++ os)[i]? = w.heap[i]?
    rw [Array.getElem?_append_left hi]
theorem itoa_ok {G : List Nat} (hGc : G.contains tabNo = true) {f : Nat} (hf : lays171_ren.f 171 = f) {fn : Func} (hfn : Tryd.prog.funcs[f]? = some fn) (hnm : (fn.name == "runtime.NumGoroutine") = false) (hb : fn.body.isSome = true) : EntOk Tryd.prog G f (.spec itoaE) := by
  intro base ρ m w args args' fin hR hG hv h
  obtain ⟨n, rfl, ht, hn, rfl⟩ := itoaE_inv h
  obtain ⟨args'⟩ := args'
  refine ⟨?_, ?_⟩
  · obtain ⟨c, hc⟩ := Option.isSome_iff_exists.1 hb
    simp [callFunc, hfn, hc]
    simpa using hnm
  have hv' : VRs ρ [.int .i64 n] args' := hv
  cases hv' with
  | cons h1 h2 =>
  cases h2
  cases h1
  subst hf
  have htab : Go.Lib.TabIs Tryd.prog w "internal/strconv.uint64pow10" .u64 Go.Lib.pow10Tab := by
    obtain ⟨L, h1, h2, h3, h4⟩ := hG tabNo hGc
    have hB := hR.blk _ L h1
    have htot := h4 _ tab_told
    cases hm : m.get tabNo with
    | dead => rw [hm] at ht; cases ht
    | map es => rw [hm] at ht; cases ht
    | cells cs esz el ro =>
      rw [hm] at hB ht
      have hcs := sames_eq ht
      subst hcs
      obtain ⟨arr, e, fz, q1, q2, q3, q4, q5, q6, q7⟩ := hB
      rw [h2] at q1
      have harr : arr = (Go.Lib.pow10Tab.map fun z => Value.int .u64 z).toArray := by
        apply Array.ext'
        rw [List.toList_toArray]
        refine List.ext_getElem? fun i => ?_
        by_cases hi : i < Go.Lib.pow10Tab.length
        · obtain ⟨v', g1, g2, _⟩ := q6 i (.int .u64 Go.Lib.pow10Tab[i]) (by rw [List.getElem?_map, List.getElem?_eq_getElem hi]; rfl)
          rw [h3, Nat.zero_add] at g1
          cases g2
          rw [Array.getElem?_toList, g1, List.getElem?_map, List.getElem?_eq_getElem hi]; rfl
        · rw [List.getElem?_eq_none (by rw [Array.length_toList]; omega), List.getElem?_eq_none (by rw [List.length_map]; omega)]
      unfold Go.Lib.TabIs World.var?
      rw [tab_no]
      simp only [Option.bind_some, q1, harr]
  refine (Any.strconv_Itoa lays171 n hn.1 hn.2 w htab).mono fun e w' ⟨he, k, os, hw⟩ => ?_
  subst hw
  obtain ⟨r1, r2⟩ := hR.drift (below_grow w k os)
  exact ⟨ρ, _, he, vr_str_arr _, r1, r2⟩
theorem sames_ints (l : List Int) : EV.sames (l.map (.int .u64)) (l.map (.int .u64)) = true := by
  induction l with
  | nil => rfl
  | cons a l ih =>
    have : EV.same (.int .u64 a) (.int .u64 a) = true := same_refl _ rfl
    simp only [List.map_cons, EV.sames, this, cond_true, ih]
theorem itoa_ent {T : Nat → Option Ent} {f : Nat} (hT : T f = some (.spec itoaE)) : EntS T f (.pure xItoa) := by
  intro θ m m' args args' v hg ha h
  unfold xItoa at h
  split at h
  · rename_i n
    cases hc : inI64 n <;> simp only [hc, cond_true, cond_false, reduceCtorEq, Option.some.injEq] at h
    subst h
    have : args' = [.int .i64 n] := ha.flat rfl
    subst this
    have hm := hg.sta _ _ (hg.glb.2 _ _ tab_told)
    refine ⟨θ, .ret (.str (Go.Lib.itoa n)) m', ?_, .ret (.str _) hg, .refl _ _ _⟩
    rw [run_spec hT]
    have ht : isTab (m'.get tabNo) = true := by rw [hm]; exact sames_ints _
    simp only [itoaE, ht, hc, Bool.and_self, cond_true]
  · cases h
end Go.Proofs.YtblcomejcahkdaaDoor.Ev
end
section
namespace Go.Proofs.YtblcomejcahkdaaDoor.Ev
open Go
theorem mix : Tryd.prog.follows .mixedOrders = true := by kernel_rfl
theorem ltG : ∀ g, G.contains g = true → g < 6 := fun g h => by simp [G] at h; try omega
def tree : Bt :=
  (.node 38 (.go F_slices_Contains_bool) (.node 20 (.go F_r06_Signs) (.node 11 (.go F_tree_Text) (.node 7 (.go F_l06_few) (.node 5 (.go F_l06_TreeTells) (.node 4 (.go F_l06_TreeParts) (.node 3 (.go F_l06_TreeAlike) .leaf .leaf) .leaf) (.node 6 (.go F_l06_TreeWords) .leaf .leaf)) (.node 9 (.go F_tree_Alike) (.node 8 (.go F_l06_works) .leaf .leaf) (.node 10 (.go F_base_SameNodes) .leaf .leaf))) (.node 16 (.go F_r06_Tell) (.node 14 (.go F_r06_Part) (.node 13 (.go F_r06_Right) (.node 12 (.go F_tree_Right) .leaf .leaf) .leaf) (.node 15 (.go F_tree_Heights) .leaf .leaf)) (.node 18 (.go F_r06_Whole) (.node 17 (.go F_tree_Whole) .leaf .leaf) (.node 19 (.go F_r06_Height) .leaf .leaf)))) (.node 29 (.go F_tree_Text_1) (.node 25 (.go F_base_SameInts) (.node 23 (.go F_tree_Kind) (.node 22 (.go F_tree_Op) (.node 21 (.go F_tree_Sign) .leaf .leaf) .leaf) (.node 24 (.go F_r06_Kind) .leaf .leaf)) (.node 27 (.go F_tree_Alike_1) (.node 26 (.go F_slices_EqualFunc_api_Node) .leaf .leaf) (.node 28 (.go F_slices_Equal_int) .leaf .leaf))) (.node 34 (.go F_base_HasInt) (.node 32 (.go F_strconv_FormatBool) (.node 31 (.spec itoaE) (.node 30 (.go F_tree_rows) .leaf .leaf) .leaf) (.node 33 (.spec joinE) .leaf .leaf)) (.node 36 (.go F_r06_kids) (.node 35 (.go F_r06_own) .leaf .leaf) (.node 37 (.go F_tree_has) .leaf .leaf))))) (.node 58 (.go F_r05_Letter) (.node 48 (.go F_r05_Name) (.node 43 (.go F_internal_strconv_FormatBool) (.node 41 (.go F_slices_Index_string) (.node 40 (.go F_r06_word) (.node 39 (.go F_base_Itoa) .leaf .leaf) .leaf) (.node 42 (.go F_internal_strconv_Itoa) .leaf .leaf)) (.node 45 (.go F_strings_Builder_WriteString) (.node 44 (.go F_strings_Builder_Grow) .leaf .leaf) (.node 47 (.go F_r06_named) .leaf .leaf))) (.node 53 (.go F_tree_is) (.node 51 (.go F_r06_Stmt) (.node 50 (.go F_r06_all) (.node 49 (.go F_r06_exprs) .leaf .leaf) .leaf) (.node 52 (.go F_tree_name) .leaf .leaf)) (.node 55 (.go F_internal_strconv_FormatInt) (.node 54 (.go F_slices_Index_bool) .leaf .leaf) (.node 57 (.go F_strings_Builder_grow) .leaf .leaf)))) (.node 69 (.go F_r05_Words) (.node 63 (.go F_internal_strconv_small) (.node 61 (.go F_r06_Expr) (.node 60 (.go F_r05_Word) (.node 59 (.go F_r05_Digit) .leaf .leaf) .leaf) (.node 62 (.go F_slices_Contains_string) .leaf .leaf)) (.node 65 (.go F_internal_strconv_formatBase10) (.node 64 (.go F_internal_strconv_numDigits) .leaf .leaf) (.node 66 (.go F_internal_strconv_formatBits) .leaf .leaf))) (.node 73 (.go F_internal_strconv_isPowerOfTwo) (.node 71 (.go F_math_bits_Len64) (.node 70 (.go F_internal_strconv_log10Pow2) .leaf .leaf) (.node 72 (.go F_internal_strconv_bool2_int) .leaf .leaf)) (.node 75 (.go F_math_bits_TrailingZeros32) (.node 74 (.go F_math_bits_TrailingZeros) .leaf .leaf) (.node 76 (.go F_math_bits_TrailingZeros64) .leaf .leaf))))))
def T : Nat → Option Ent := tree.find
theorem okT : ∀ f e, T f = some e → EntOk Tryd.prog G f e := Bt.find_of (t := tree)
  ⟨⟨_, Tryd.func38, ok38⟩, ⟨⟨_, Tryd.func20, ok20⟩, ⟨⟨_, Tryd.func11, ok11⟩, ⟨⟨_, Tryd.func7, ok7⟩, ⟨⟨_, Tryd.func5, ok5⟩, ⟨⟨_, Tryd.func4, ok4⟩, ⟨⟨_, Tryd.func3, ok3⟩, trivial, trivial⟩, trivial⟩, ⟨⟨_, Tryd.func6, ok6⟩, trivial, trivial⟩⟩, ⟨⟨_, Tryd.func9, ok9⟩, ⟨⟨_, Tryd.func8, ok8⟩, trivial, trivial⟩, ⟨⟨_, Tryd.func10, ok10⟩, trivial, trivial⟩⟩⟩, ⟨⟨_, Tryd.func16, ok16⟩, ⟨⟨_, Tryd.func14, ok14⟩, ⟨⟨_, Tryd.func13, ok13⟩, ⟨⟨_, Tryd.func12, ok12⟩, trivial, trivial⟩, trivial⟩, ⟨⟨_, Tryd.func15, ok15⟩, trivial, trivial⟩⟩, ⟨⟨_, Tryd.func18, ok18⟩, ⟨⟨_, Tryd.func17, ok17⟩, trivial, trivial⟩, ⟨⟨_, Tryd.func19, ok19⟩, trivial, trivial⟩⟩⟩⟩, ⟨⟨_, Tryd.func29, ok29⟩, ⟨⟨_, Tryd.func25, ok25⟩, ⟨⟨_, Tryd.func23, ok23⟩, ⟨⟨_, Tryd.func22, ok22⟩, ⟨⟨_, Tryd.func21, ok21⟩, trivial, trivial⟩, trivial⟩, ⟨⟨_, Tryd.func24, ok24⟩, trivial, trivial⟩⟩, ⟨⟨_, Tryd.func27, ok27⟩, ⟨⟨_, Tryd.func26, ok26⟩, trivial, trivial⟩, ⟨⟨_, Tryd.func28, ok28⟩, trivial, trivial⟩⟩⟩, ⟨⟨_, Tryd.func34, ok34⟩, ⟨⟨_, Tryd.func32, ok32⟩, ⟨(itoa_ok (by kernel_rfl) itoaNo itoaFn (by kernel_rfl) (by kernel_rfl)), ⟨⟨_, Tryd.func30, ok30⟩, trivial, trivial⟩, trivial⟩, ⟨(join_ok joinNo joinFn (by kernel_rfl) (by kernel_rfl)), trivial, trivial⟩⟩, ⟨⟨_, Tryd.func36, ok36⟩, ⟨⟨_, Tryd.func35, ok35⟩, trivial, trivial⟩, ⟨⟨_, Tryd.func37, ok37⟩, trivial, trivial⟩⟩⟩⟩⟩, ⟨⟨_, Tryd.func58, ok58⟩, ⟨⟨_, Tryd.func48, ok48⟩, ⟨⟨_, Tryd.func43, ok43⟩, ⟨⟨_, Tryd.func41, ok41⟩, ⟨⟨_, Tryd.func40, ok40⟩, ⟨⟨_, Tryd.func39, ok39⟩, trivial, trivial⟩, trivial⟩, ⟨⟨_, Tryd.func42, ok42⟩, trivial, trivial⟩⟩, ⟨⟨_, Tryd.func45, ok45⟩, ⟨⟨_, Tryd.func44, ok44⟩, trivial, trivial⟩, ⟨⟨_, Tryd.func47, ok47⟩, trivial, trivial⟩⟩⟩, ⟨⟨_, Tryd.func53, ok53⟩, ⟨⟨_, Tryd.func51, ok51⟩, ⟨⟨_, Tryd.func50, ok50⟩, ⟨⟨_, Tryd.func49, ok49⟩, trivial, trivial⟩, trivial⟩, ⟨⟨_, Tryd.func52, ok52⟩, trivial, trivial⟩⟩, ⟨⟨_, Tryd.func55, ok55⟩, ⟨⟨_, Tryd.func54, ok54⟩, trivial, trivial⟩, ⟨⟨_, Tryd.func57, ok57⟩, trivial, trivial⟩⟩⟩⟩, ⟨⟨_, Tryd.func69, ok69⟩, ⟨⟨_, Tryd.func63, ok63⟩, ⟨⟨_, Tryd.func61, ok61⟩, ⟨⟨_, Tryd.func60, ok60⟩, ⟨⟨_, Tryd.func59, ok59⟩, trivial, trivial⟩, trivial⟩, ⟨⟨_, Tryd.func62, ok62⟩, trivial, trivial⟩⟩, ⟨⟨_, Tryd.func65, ok65⟩, ⟨⟨_, Tryd.func64, ok64⟩, trivial, trivial⟩, ⟨⟨_, Tryd.func66, ok66⟩, trivial, trivial⟩⟩⟩, ⟨⟨_, Tryd.func73, ok73⟩, ⟨⟨_, Tryd.func71, ok71⟩, ⟨⟨_, Tryd.func70, ok70⟩, trivial, trivial⟩, ⟨⟨_, Tryd.func72, ok72⟩, trivial, trivial⟩⟩, ⟨⟨_, Tryd.func75, ok75⟩, ⟨⟨_, Tryd.func74, ok74⟩, trivial, trivial⟩, ⟨⟨_, Tryd.func76, ok76⟩, trivial, trivial⟩⟩⟩⟩⟩⟩
theorem at3 : T 3 = some (.go F_l06_TreeAlike) := rfl
theorem at4 : T 4 = some (.go F_l06_TreeParts) := rfl
theorem at5 : T 5 = some (.go F_l06_TreeTells) := rfl
theorem at6 : T 6 = some (.go F_l06_TreeWords) := rfl
theorem at7 : T 7 = some (.go F_l06_few) := rfl
theorem at8 : T 8 = some (.go F_l06_works) := rfl
theorem at9 : T 9 = some (.go F_tree_Alike) := rfl
theorem at10 : T 10 = some (.go F_base_SameNodes) := rfl
theorem at11 : T 11 = some (.go F_tree_Text) := rfl
theorem at12 : T 12 = some (.go F_tree_Right) := rfl
theorem at13 : T 13 = some (.go F_r06_Right) := rfl
theorem at14 : T 14 = some (.go F_r06_Part) := rfl
theorem at15 : T 15 = some (.go F_tree_Heights) := rfl
theorem at16 : T 16 = some (.go F_r06_Tell) := rfl
theorem at17 : T 17 = some (.go F_tree_Whole) := rfl
theorem at18 : T 18 = some (.go F_r06_Whole) := rfl
theorem at19 : T 19 = some (.go F_r06_Height) := rfl
theorem at20 : T 20 = some (.go F_r06_Signs) := rfl
theorem at21 : T 21 = some (.go F_tree_Sign) := rfl
theorem at22 : T 22 = some (.go F_tree_Op) := rfl
theorem at23 : T 23 = some (.go F_tree_Kind) := rfl
theorem at24 : T 24 = some (.go F_r06_Kind) := rfl
theorem at25 : T 25 = some (.go F_base_SameInts) := rfl
theorem at26 : T 26 = some (.go F_slices_EqualFunc_api_Node) := rfl
theorem at27 : T 27 = some (.go F_tree_Alike_1) := rfl
theorem at28 : T 28 = some (.go F_slices_Equal_int) := rfl
theorem at29 : T 29 = some (.go F_tree_Text_1) := rfl
theorem at30 : T 30 = some (.go F_tree_rows) := rfl
theorem at31 : T 31 = some (.spec itoaE) := rfl
theorem at32 : T 32 = some (.go F_strconv_FormatBool) := rfl
theorem at33 : T 33 = some (.spec joinE) := rfl
theorem at34 : T 34 = some (.go F_base_HasInt) := rfl
theorem at35 : T 35 = some (.go F_r06_own) := rfl
theorem at36 : T 36 = some (.go F_r06_kids) := rfl
theorem at37 : T 37 = some (.go F_tree_has) := rfl
theorem at38 : T 38 = some (.go F_slices_Contains_bool) := rfl
theorem at39 : T 39 = some (.go F_base_Itoa) := rfl
theorem at40 : T 40 = some (.go F_r06_word) := rfl
theorem at41 : T 41 = some (.go F_slices_Index_string) := rfl
theorem at42 : T 42 = some (.go F_internal_strconv_Itoa) := rfl
theorem at43 : T 43 = some (.go F_internal_strconv_FormatBool) := rfl
theorem at47 : T 47 = some (.go F_r06_named) := rfl
theorem at48 : T 48 = some (.go F_r05_Name) := rfl
theorem at49 : T 49 = some (.go F_r06_exprs) := rfl
theorem at50 : T 50 = some (.go F_r06_all) := rfl
theorem at51 : T 51 = some (.go F_r06_Stmt) := rfl
theorem at52 : T 52 = some (.go F_tree_name) := rfl
theorem at53 : T 53 = some (.go F_tree_is) := rfl
theorem at54 : T 54 = some (.go F_slices_Index_bool) := rfl
theorem at55 : T 55 = some (.go F_internal_strconv_FormatInt) := rfl
theorem at58 : T 58 = some (.go F_r05_Letter) := rfl
theorem at59 : T 59 = some (.go F_r05_Digit) := rfl
theorem at60 : T 60 = some (.go F_r05_Word) := rfl
theorem at61 : T 61 = some (.go F_r06_Expr) := rfl
theorem at62 : T 62 = some (.go F_slices_Contains_string) := rfl
theorem at63 : T 63 = some (.go F_internal_strconv_small) := rfl
theorem at65 : T 65 = some (.go F_internal_strconv_formatBase10) := rfl
theorem at66 : T 66 = some (.go F_internal_strconv_formatBits) := rfl
theorem at69 : T 69 = some (.go F_r05_Words) := rfl
theorem at70 : T 70 = some (.go F_internal_strconv_log10Pow2) := rfl
theorem at71 : T 71 = some (.go F_math_bits_Len64) := rfl
theorem at72 : T 72 = some (.go F_internal_strconv_bool2_int) := rfl
theorem at73 : T 73 = some (.go F_internal_strconv_isPowerOfTwo) := rfl
theorem at74 : T 74 = some (.go F_math_bits_TrailingZeros) := rfl
end Go.Proofs.YtblcomejcahkdaaDoor.Ev
end
section
namespace Go.Proofs.YtblcomejcahkdaaDoor.Ev
open Go
set_option linter.unusedSimpArgs false

/-! ### Values asx they stand, told by their elements -/
def chunk (e : Nat) : Nat → List EV → List (List EV)
  | 0, _ => []
  | n + 1, l => l.take e :: chunk e n (l.drop e)
def capOk (cap : Option Nat) (n : Nat) : Bool := match cap with
  | none => true
  | some c => n.ble c
mutual
def frz (F : List EV → Option (List EV)) (m : Mem) : EV → Option EV
  | .slice b off n cap => match m.get b with
    | .cells cs e _ _ => bif capOk cap n then (bif (off + n * e).ble cs.length then (F ((cs.drop off).take (n * e))).map fun ys => .fz 0 e (chunk e n ys) else none) else none
    | _ => none
  | .agg xs => (frzs F m xs).map .agg
  | .tuple xs => (frzs F m xs).map .tuple
  | .iface t v => (frz F m v).map (.iface t)
  | .func f x y => match frzs F m x, frzs F m y with
    | some x, some y => some (.func f x y)
    | _, _ => none
  | .fz _ e els => some (.fz 0 e els)
  | .ptr _ _ | .map _ | .fptr _ _ _ _ => none
  | .undef => some .undef
  | .bool b => some (.bool b)
  | .int k n => some (.int k n)
  | .str s => some (.str s)
  | .nilptr => some .nilptr
  | .nilslice => some .nilslice
  | .nilmap => some .nilmap
  | .nilfunc => some .nilfunc
  | .niliface => some .niliface
def frzs (F : List EV → Option (List EV)) (m : Mem) : List EV → Option (List EV)
  | [] => some []
  | v :: l => match frz F m v, frzs F m l with
    | some v, some l => some (v :: l)
    | _, _ => none
end
def freezes : Nat → Mem → List EV → Option (List EV)
  | 0, _, _ => none
  | d + 1, m, l => frzs (freezes d m) m l
mutual
/-- It names no block. -/
def closed : EV → Bool
  | .ptr _ _ | .slice _ _ _ _ | .map _ | .fptr _ _ _ _ => false
  | .func _ x y => closeds x && closeds y
  | .iface _ v => closed v
  | .agg x | .tuple x => closeds x
  | _ => true
def closeds : List EV → Bool
  | [] => true
  | v :: x => closed v && closeds x
end
theorem chunk_len {e : Nat} : ∀ (n : Nat) (l : List EV), (chunk e n l).length = n
  | 0, _ => rfl
  | n + 1, l => by simp [chunk, chunk_len n]
theorem chunk_els {e : Nat} : ∀ (n : Nat) (l : List EV), l.length = n * e → (∀ el ∈ chunk e n l, el.length = e) ∧ (chunk e n l).flatten = l
  | 0, l, h => by
    rw [Nat.zero_mul] at h
    have := List.eq_nil_of_length_eq_zero h
    subst this; simp [chunk]
  | n + 1, l, h => by
    rw [Nat.succ_mul] at h
    obtain ⟨h1, h2⟩ := chunk_els (e := e) n (l.drop e) (by rw [List.length_drop]; omega)
    refine ⟨fun el hel => ?_, ?_⟩
    · simp only [chunk, List.mem_cons] at hel
      rcases hel with rfl | hel
      · rw [List.length_take]; omega
      · exact h1 el hel
    · simp only [chunk, List.flatten_cons, h2, List.take_append_drop]
open Classical in
/-- How a value stands when nothing is written any more. -/
noncomputable def Tie.end_ (θ : Tie) (m' : Mem) : Tie := ⟨fun _ => none, fun _ => none, fun c => if ∃ b, θ.ren b = some c then some (m'.get c) else θ.sta c⟩
theorem end_ren {θ : Tie} {m' : Mem} {b c : Nat} (h : θ.ren b = some c) : (θ.end_ m').sta c = some (m'.get c) := by
  unfold Tie.end_; simp only; exact if_pos ⟨b, h⟩
theorem end_inv {θ : Tie} {m' : Mem} {c : Nat} {B : Blk} (h : (θ.end_ m').sta c = some B) : ((∃ b, θ.ren b = some c) ∧ B = m'.get c) ∨ θ.sta c = some B := by
  unfold Tie.end_ at h; simp only at h
  split at h
  · rename_i hx; cases h; exact .inl ⟨hx, rfl⟩
  · exact .inr h
theorem low_end {θ : Tie} {m' : Mem} {n n' : Nat} (k : TieOk θ n n') : Tie.Ext θ.low (θ.end_ m') := by
  refine ⟨fun _ _ h => (by simp [Tie.low] at h), fun _ _ h => (by simp [Tie.low] at h), fun c B h => ?_⟩
  have h' : θ.sta c = some B := h
  unfold Tie.end_; simp only
  rw [if_neg, h']
  rintro ⟨b, hb⟩
  rw [k.off b c hb] at h'; cases h'
theorem SR.low {θ : Tie} {e : Nat} {els : List (List EV)} {b off : Nat} (h : SR θ e els b off) : SR θ.low e els b off := by
  cases h with | mk hs hl hn hx => exact .mk hs hl hn hx
section
variable {θ : Tie} {m m' : Mem} {F : List EV → Option (List EV)}
theorem SVs.nil_inv {l' : List EV} (h : SVs θ [] l') : l' = [] := by cases h; rfl
theorem SVs.cons_inv {v : EV} {l l' : List EV} (h : SVs θ (v :: l) l') : ∃ v' r', l' = v' :: r' ∧ SV θ v v' ∧ SVs θ l r' := by
  cases h with | cons h hs => exact ⟨_, _, rfl, h, hs⟩
theorem frzs_cons {v : EV} {l r : List EV} (h : frzs F m (v :: l) = some r) : ∃ a b, frz F m v = some a ∧ frzs F m l = some b ∧ r = a :: b := by
  simp only [frzs] at h
  cases h1 : frz F m v with
  | none => simp [h1] at h
  | some a =>
    cases h2 : frzs F m l with
    | none => simp [h1, h2] at h
    | some b => simp only [h1, h2, Option.some.injEq] at h; exact ⟨a, b, rfl, rfl, h.symm⟩
mutual
theorem frz_sim (hg : GoodS θ m m') (hF : ∀ l r l', F l = some r → SVs θ l l' → SVs (θ.end_ m') r l') : ∀ {v r v' : EV}, frz F m v = some r → SV θ v v' → SV (θ.end_ m') r v'
  | .undef, r, v', h, hv => by cases hv; cases h; exact .undef
  | .bool b, r, v', h, hv => by cases hv; cases h; exact .bool b
  | .int k n, r, v', h, hv => by cases hv; cases h; exact .int k n
  | .str s, r, v', h, hv => by cases hv; cases h; exact .str s
  | .nilptr, r, v', h, hv => by cases hv; cases h; exact .nilptr
  | .nilslice, r, v', h, hv => by cases hv; cases h; exact .nilslice
  | .nilmap, r, v', h, hv => by cases hv; cases h; exact .nilmap
  | .nilfunc, r, v', h, hv => by cases hv; cases h; exact .nilfunc
  | .niliface, r, v', h, hv => by cases hv; cases h; exact .niliface
  | .ptr _ _, r, v', h, hv => by simp [frz] at h
  | .map _, r, v', h, hv => by simp [frz] at h
  | .fptr _ _ _ _, r, v', h, hv => by simp [frz] at h
  | .fz t e els, r, v', h, hv => by
    simp only [frz, Option.some.injEq] at h; subst h
    cases hv with
    | fz hr ht hc => exact .fz (hr.low.ext (low_end hg.ok)) (.inl rfl) hc
    | fz0 ht => exact .fz0 (.inl rfl)
  | .slice b off n cap, r, v', h, hv => by
    cases hv with
    | @slice _ _ c _ _ _ hb =>
    simp only [frz] at h
    have hB := hg.blk b c hb
    cases hgt : m.get b with
    | dead => simp [hgt] at h
    | map es => simp [hgt] at h
    | cells cs e k ro =>
      rw [hgt] at hB
      obtain ⟨cs', hg', hs⟩ := hB
      simp only [hgt] at h
      cases hcap : capOk cap n <;> simp only [hcap, cond_true, cond_false, reduceCtorEq] at h
      cases hl : (off + n * e).ble cs.length <;> simp only [hl, cond_true, cond_false, reduceCtorEq] at h
      have hle := Nat.le_of_ble_eq_true hl
      obtain ⟨ys, hy, rfl⟩ := Option.map_eq_some_iff.1 h
      have hseg := hF _ _ _ hy ((hs.drop off).take (n * e))
      have hyl : ys.length = n * e := by rw [hseg.length, List.length_take, List.length_drop, ← hs.length]; omega
      obtain ⟨q1, q2⟩ := chunk_els n ys hyl
      have hst := end_ren (m' := m') hb
      rw [hg'] at hst
      have hr : SR (θ.end_ m') e (chunk e n ys) c off := .mk hst q1 (by rw [chunk_len, ← hs.length]; exact hle) (by rw [q2, chunk_len]; exact hseg)
      have := SV.fz (t := 0) (cap := cap) hr (.inl rfl) (fun q hq => by subst hq; rw [chunk_len]; exact Nat.le_of_ble_eq_true hcap)
      rw [chunk_len] at this; exact this
  | .agg x, r, v', h, hv => by
    simp only [frz] at h
    obtain ⟨y, hy, rfl⟩ := Option.map_eq_some_iff.1 h
    cases hv with | agg hx => exact .agg (frzs_sim hg hF hy hx)
  | .tuple x, r, v', h, hv => by
    simp only [frz] at h
    obtain ⟨y, hy, rfl⟩ := Option.map_eq_some_iff.1 h
    cases hv with | tuple hx => exact .tuple (frzs_sim hg hF hy hx)
  | .iface t x, r, v', h, hv => by
    simp only [frz] at h
    obtain ⟨y, hy, rfl⟩ := Option.map_eq_some_iff.1 h
    cases hv with | iface hx => exact .iface (frz_sim hg hF hy hx)
  | .func f x y, r, v', h, hv => by
    simp only [frz] at h
    cases h1 : frzs F m x with
    | none => simp [h1] at h
    | some a =>
      cases h2 : frzs F m y with
      | none => simp [h1, h2] at h
      | some b =>
        simp only [h1, h2, Option.some.injEq] at h; subst h
        cases hv with | func hx hy => exact .func (frzs_sim hg hF h1 hx) (frzs_sim hg hF h2 hy)
theorem frzs_sim (hg : GoodS θ m m') (hF : ∀ l r l', F l = some r → SVs θ l l' → SVs (θ.end_ m') r l') : ∀ {l r l' : List EV}, frzs F m l = some r → SVs θ l l' → SVs (θ.end_ m') r l'
  | [], r, l', h, hv => by
    have := hv.nil_inv; subst this
    simp only [frzs, Option.some.injEq] at h; subst h; exact .nil
  | v :: l, r, l', h, hv => by
    obtain ⟨a, b, h1, h2, rfl⟩ := frzs_cons h
    obtain ⟨v', r', rfl, g1, g2⟩ := hv.cons_inv
    exact .cons (frz_sim hg hF h1 g1) (frzs_sim hg hF h2 g2)
end
theorem freezes_sim (hg : GoodS θ m m') : ∀ (d : Nat) (l r l' : List EV), freezes d m l = some r → SVs θ l l' → SVs (θ.end_ m') r l'
  | 0, l, r, l', h, _ => by simp [freezes] at h
  | d + 1, l, r, l', h, hv => frzs_sim hg (freezes_sim hg d) h hv
mutual
theorem frz_closed : ∀ {v r v' : EV}, frz F m v = some r → closed v = true → SV θ v v' → SV θ.low r v'
  | .undef, r, v', h, _, hv => by cases hv; cases h; exact .undef
  | .bool b, r, v', h, _, hv => by cases hv; cases h; exact .bool b
  | .int k n, r, v', h, _, hv => by cases hv; cases h; exact .int k n
  | .str s, r, v', h, _, hv => by cases hv; cases h; exact .str s
  | .nilptr, r, v', h, _, hv => by cases hv; cases h; exact .nilptr
  | .nilslice, r, v', h, _, hv => by cases hv; cases h; exact .nilslice
  | .nilmap, r, v', h, _, hv => by cases hv; cases h; exact .nilmap
  | .nilfunc, r, v', h, _, hv => by cases hv; cases h; exact .nilfunc
  | .niliface, r, v', h, _, hv => by cases hv; cases h; exact .niliface
  | .ptr _ _, r, v', h, _, hv => by simp [frz] at h
  | .map _, r, v', h, _, hv => by simp [frz] at h
  | .fptr _ _ _ _, r, v', h, _, hv => by simp [frz] at h
  | .slice _ _ _ _, r, v', h, hc, hv => by simp [closed] at hc
  | .fz t e els, r, v', h, _, hv => by
    simp only [frz, Option.some.injEq] at h; subst h
    cases hv with
    | fz hr ht hc => exact .fz hr.low (.inl rfl) hc
    | fz0 ht => exact .fz0 (.inl rfl)
  | .agg x, r, v', h, hc, hv => by
    simp only [frz] at h
    obtain ⟨y, hy, rfl⟩ := Option.map_eq_some_iff.1 h
    cases hv with | agg hx => exact .agg (frzs_closed hy (by simpa only [closed] using hc) hx)
  | .tuple x, r, v', h, hc, hv => by
    simp only [frz] at h
    obtain ⟨y, hy, rfl⟩ := Option.map_eq_some_iff.1 h
    cases hv with | tuple hx => exact .tuple (frzs_closed hy (by simpa only [closed] using hc) hx)
  | .iface t x, r, v', h, hc, hv => by
    simp only [frz] at h
    obtain ⟨y, hy, rfl⟩ := Option.map_eq_some_iff.1 h
    cases hv with | iface hx => exact .iface (frz_closed hy (by simpa only [closed] using hc) hx)
  | .func f x y, r, v', h, hc, hv => by
    simp only [frz] at h
    simp only [closed, Bool.and_eq_true] at hc
    cases h1 : frzs F m x with
    | none => simp [h1] at h
    | some a =>
      cases h2 : frzs F m y with
      | none => simp [h1, h2] at h
      | some b =>
        simp only [h1, h2, Option.some.injEq] at h; subst h
        cases hv with | func hx hy => exact .func (frzs_closed h1 hc.1 hx) (frzs_closed h2 hc.2 hy)
theorem frzs_closed : ∀ {l r l' : List EV}, frzs F m l = some r → closeds l = true → SVs θ l l' → SVs θ.low r l'
  | [], r, l', h, _, hv => by
    have := hv.nil_inv; subst this
    simp only [frzs, Option.some.injEq] at h; subst h; exact .nil
  | v :: l, r, l', h, hc, hv => by
    simp only [closeds, Bool.and_eq_true] at hc
    obtain ⟨a, b, h1, h2, rfl⟩ := frzs_cons h
    obtain ⟨v', r', rfl, g1, g2⟩ := hv.cons_inv
    exact .cons (frz_closed h1 hc.1 g1) (frzs_closed h2 hc.2 g2)
end

/-! ### Arguments by number -/
def tagArgs : Nat → List EV → List EV
  | _, [] => []
  | i, v :: r => (match v with | .fz _ e els => .fz i e els | v => v) :: tagArgs (i + 1) r
def tagOf (l : List EV) (t : Nat) : Option (Nat × Nat × Option Nat) := match l[t - 1]? with
  | some (.slice b off _ cap) => some (b, off, cap)
  | _ => none
theorem tag_sim {S : Nat → Option Blk} {tg : Nat → Option (Nat × Nat × Option Nat)} : ∀ (l l' : List EV) (i : Nat), (∀ j b off n cap, l'[j]? = some (.slice b off n cap) → tg (i + j) = some (b, off, cap)) → SVs ⟨fun _ => none, fun _ => none, S⟩ l l' → SVs ⟨fun _ => none, tg, S⟩ (tagArgs i l) l'
  | [], l', i, _, h => by have := h.nil_inv; subst this; exact .nil
  | v :: l, l', i, ht, h => by
    obtain ⟨v', r', rfl, g1, g2⟩ := h.cons_inv
    have e : Tie.Ext ⟨fun _ => none, fun _ => none, S⟩ ⟨fun _ => none, tg, S⟩ := ⟨fun _ _ h => by simp at h, fun _ _ h => by simp at h, fun _ _ h => h⟩
    refine .cons ?_ (tag_sim l r' (i + 1) (fun j b off n cap hj => by have := ht (j + 1) b off n cap (by simpa using hj); rw [show i + 1 + j = i + (j + 1) by omega]; exact this) g2)
    have keep : SV ⟨fun _ => none, tg, S⟩ v v' := g1.ext e
    cases v <;> try exact keep
    cases g1 with
    | fz hr _ hc => exact .fz (hr.ext e) (.inr (by have := ht 0 _ _ _ _ rfl; exact this)) hc
    | fz0 _ => exact .fz0 (.inr (by have := ht 0 _ _ _ _ rfl; exact this))
theorem tagOf_at (l : List EV) : ∀ j b off n cap, l[j]? = some (.slice b off n cap) → tagOf l (1 + j) = some (b, off, cap) := by
  intro j b off n cap h
  unfold tagOf
  rw [show 1 + j - 1 = j by omega, h]
end

/-! ### Calls that keep nothing -/
def mem00 : Mem := ⟨0, .leaf⟩
theorem mem00_get (b : Nat) : mem00.get b = .dead := mem0_get 0 b
def deep : Nat := 8
/-- A call that tells a plain value. -/
def pureG0 (g : List EV → Option EV) (args : List EV) (m : Mem) : Option Fin := match freezes deep m args with
  | some asx => match g (tagArgs 1 asx) with
    | some V => bif Flat V then some (.ret V m) else none
    | none => none
  | none => none
/-- A call that tells rows. -/
def pureG1 (g : List EV → Option EV) (args : List EV) (m : Mem) : Option Fin := bif closeds args then match freezes deep m args with
  | some asx => match g (tagArgs 1 asx) with
    | some V => some (.ret V ⟨m.next + 1, m.tbl⟩)
    | none => none
  | none => none else none
noncomputable def bodyP (T : Nat → Option Ent) (F : IFun) (asx : List EV) : Option EV := bif asx.length.ble F.ntmps then
  match resE F (exec T F.body ⟨args0 asx 0 .leaf, []⟩ mem00) with
  | some (.ret v m) => match freezes deep m [v] with
    | some [V] => some V
    | _ => none
  | _ => none else none
section
variable {T T1 : Nat → Option Ent}
theorem body_ex {F : IFun} {asx : List EV} {fin : Fin} (hl : asx.length.ble F.ntmps = true) (h : resE F (exec T1 F.body ⟨args0 asx 0 .leaf, []⟩ mem00) = some fin) : ∃ n, evBody (evFun T1 n) n F asx mem00 = some fin := by
  cases hc : exec T1 F.body ⟨args0 asx 0 .leaf, []⟩ mem00 with
  | none => simp [hc, resE] at h
  | some o =>
    obtain ⟨n, hn⟩ := exec_iff.1 hc
    refine ⟨n, ?_⟩
    rw [hc] at h
    simp only [evBody, hl, cond_true, hn]
    cases o <;> exact h
theorem ex_body {F : IFun} {asx : List EV} {fin : Fin} {n : Nat} (h : evBody (evFun T1 n) n F asx mem00 = some fin) : asx.length.ble F.ntmps = true ∧ resE F (exec T1 F.body ⟨args0 asx 0 .leaf, []⟩ mem00) = some fin := by
  unfold evBody at h
  cases hl : asx.length.ble F.ntmps <;> simp only [hl, cond_true, cond_false, reduceCtorEq] at h
  refine ⟨rfl, ?_⟩
  cases hc : evCode (evFun T1 n) n F.body ⟨args0 asx 0 .leaf, []⟩ mem00 with
  | none => simp [hc] at h
  | some o =>
    rw [exec_iff.2 ⟨n, hc⟩]
    simp only [hc] at h
    cases o <;> exact h
theorem bodyP_inv {F : IFun} {asx : List EV} {V : EV} (h : bodyP T1 F asx = some V) : ∃ n v m, evBody (evFun T1 n) n F asx mem00 = some (.ret v m) ∧ freezes deep m [v] = some [V] := by
  unfold bodyP at h
  cases hl : asx.length.ble F.ntmps <;> simp only [hl, cond_true, cond_false, reduceCtorEq] at h
  cases hr : resE F (exec T1 F.body ⟨args0 asx 0 .leaf, []⟩ mem00) with
  | none => simp [hr] at h
  | some fin =>
    cases fin with
    | pan v m => simp [hr] at h
    | ret v m =>
      simp only [hr] at h
      obtain ⟨n, hn⟩ := body_ex hl hr
      refine ⟨n, v, m, hn, ?_⟩
      split at h
      · rename_i q; cases h; exact q
      · cases h
theorem bodyP_of {F : IFun} {asx : List EV} {V v : EV} {m : Mem} {n : Nat} (h : evBody (evFun T1 n) n F asx mem00 = some (.ret v m)) (hv : freezes deep m [v] = some [V]) : bodyP T1 F asx = some V := by
  obtain ⟨h1, h2⟩ := ex_body h
  unfold bodyP
  simp only [h1, cond_true, h2, hv]
/-- What a function tells of rows and plain values, in the other run. -/
theorem pure_run (h1 : ∀ f e, T1 f = some e → EntS T f e) {f : Nat} {F : IFun} (hT : T f = some (.go F)) (hok : okFunG F = true) {asx : List EV} {V : EV} (h : bodyP T1 F.sub asx = some V) {tg : Nat → Option (Nat × Nat × Option Nat)} {S : Nat → Option Blk} {m' : Mem} {args' : List EV}
    (hsta : ∀ b B, S b = some B → m'.get b = B ∧ b < m'.next) (ha : SVs ⟨fun _ => none, tg, S⟩ asx args') (hgl : GlobOk ⟨fun _ => none, tg, S⟩) :
    ∃ v' m1 m1' θ, run T f args' m' = some (.ret v' m1') ∧ StepS ⟨fun _ => none, tg, S⟩ mem00 m' θ m1 m1' ∧ GoodS θ m1 m1' ∧ SV (θ.end_ m1') V v' := by
  obtain ⟨n, v, m, hb, hf⟩ := bodyP_inv h
  have hg : GoodS ⟨fun _ => none, tg, S⟩ mem00 m' := ⟨⟨⟨fun b c hb => by simp at hb, fun b _ => mem00_get b⟩, fun b B hb => (hsta b B hb).1⟩, ⟨fun b c hb => by simp at hb, fun a b c hb => by simp at hb, fun b c hb => by simp at hb, fun b B hb => (hsta b B hb).2⟩, hgl⟩
  obtain ⟨θ, fin', e, hs, hst⟩ := body_sim (fun_sim h1 n) n hT hok hb hg ha
  cases hs with
  | @ret _ v' _ m1' hv hg1 =>
    have := freezes_sim hg1 deep [v] [V] [v'] hf (.cons hv .nil)
    obtain ⟨w, r, hw, q1, q2⟩ := this.cons_inv
    cases hw
    exact ⟨v', m, m1', θ, e, hst, hg1, q1⟩
theorem pure0_ent (h1 : ∀ f e, T1 f = some e → EntS T f e) {f : Nat} {F : IFun} (hT : T f = some (.go F)) (hok : okFunG F = true) {g : List EV → Option EV} (hg : ∀ asx V, g asx = some V → bodyP T1 F.sub asx = some V) : EntS T f (.spec (pureG0 g)) := by
  intro θ m m' args args' fin hgd ha h
  unfold pureG0 at h
  cases hfz : freezes deep m args with
  | none => simp [hfz] at h
  | some asx =>
    simp only [hfz] at h
    cases hv : g (tagArgs 1 asx) with
    | none => simp [hv] at h
    | some V =>
      simp only [hv] at h
      cases hfl : Flat V <;> simp only [hfl, cond_true, cond_false, reduceCtorEq, Option.some.injEq] at h
      subst h
      have hs := freezes_sim hgd deep args asx args' hfz ha
      obtain ⟨v', m1, m1', θ1, e, hst, hg1, hvv⟩ := pure_run h1 hT hok (hg _ _ hv) (m' := m') (S := (θ.end_ m').sta) (fun b B hb => by
        rcases end_inv hb with ⟨⟨x, hx⟩, rfl⟩ | hb
        · exact ⟨rfl, (hgd.ok.ren x b hx).2⟩
        · exact ⟨hgd.sta b B hb, hgd.ok.sta b B hb⟩) (tag_sim asx args' 1 (tagOf_at args') hs) (hgd.glb.down ⟨fun _ _ h => (by simp [Tie.low] at h), fun _ _ h => (by simp [Tie.low] at h), (low_end hgd.ok).sta⟩)
      have := hvv.flat hfl
      subst this
      have keep : ∀ c, c < m'.next → m1'.get c = m'.get c := fun c hc => hst.keep c hc fun b hb => by simp at hb
      refine ⟨θ, _, e, .ret (SV.of_flat hfl) ⟨⟨⟨fun b c hb => ?_, hgd.cl⟩, fun b B hb => ?_⟩, ⟨fun b c hb => ⟨(hgd.ok.ren b c hb).1, Nat.lt_of_lt_of_le (hgd.ok.ren b c hb).2 hst.n2⟩, hgd.ok.inj, hgd.ok.off, fun b B hb => Nat.lt_of_lt_of_le (hgd.ok.sta b B hb) hst.n2⟩, hgd.glb⟩,
        ⟨.refl θ, fun _ _ h => .inl h, fun _ _ h => .inl h, Nat.le_refl _, hst.n2, fun c hc _ => keep c hc⟩⟩
      · rw [keep c (hgd.ok.ren b c hb).2]; exact hgd.blk b c hb
      · rw [keep b (hgd.ok.sta b B hb)]; exact hgd.sta b B hb
theorem pure1_ent (h1 : ∀ f e, T1 f = some e → EntS T f e) {f : Nat} {F : IFun} (hT : T f = some (.go F)) (hok : okFunG F = true) {g : List EV → Option EV} (hg : ∀ asx V, g asx = some V → bodyP T1 F.sub asx = some V) : EntS T f (.spec (pureG1 g)) := by
  intro θ m m' args args' fin hgd ha h
  unfold pureG1 at h
  cases hcl : closeds args <;> simp only [hcl, cond_true, cond_false, reduceCtorEq] at h
  cases hfz : freezes deep m args with
  | none => simp [hfz] at h
  | some asx =>
    simp only [hfz] at h
    cases hv : g (tagArgs 1 asx) with
    | none => simp [hv] at h
    | some V =>
      simp only [hv, Option.some.injEq] at h
      subst h
      have hs : SVs θ.low asx args' := frzs_closed (F := freezes 7 m) (m := m) hfz hcl ha
      obtain ⟨v', m1, m1', θ1, e, hst, hg1, hvv⟩ := pure_run h1 hT hok (hg _ _ hv) (m' := m') (S := θ.sta) (fun b B hb => ⟨hgd.sta b B hb, hgd.ok.sta b B hb⟩) (tag_sim asx args' 1 (tagOf_at args') hs) (hgd.glb.down ⟨fun _ _ h => (by simp [Tie.low] at h), fun _ _ h => (by simp [Tie.low] at h), fun _ _ h => h⟩)
      have keep : ∀ c, c < m'.next → m1'.get c = m'.get c := fun c hc => hst.keep c hc fun b hb => by simp at hb
      let θ2 : Tie := ⟨θ.ren, θ.tag, fun c => if c < m'.next then θ.sta c else (θ1.end_ m1').sta c⟩
      have s1 : ∀ c, c < m'.next → θ2.sta c = θ.sta c := fun c hc => if_pos hc
      have s2 : ∀ c, ¬ c < m'.next → θ2.sta c = (θ1.end_ m1').sta c := fun c hc => if_neg hc
      have hbd : ∀ c B, (θ1.end_ m1').sta c = some B → m1'.get c = B ∧ c < m1'.next := by
        intro c B hb
        rcases end_inv hb with ⟨⟨x, hx⟩, rfl⟩ | hb
        · exact ⟨rfl, (hg1.ok.ren x c hx).2⟩
        · exact ⟨hg1.sta c B hb, hg1.ok.sta c B hb⟩
      have ext2 : Tie.Ext (θ1.end_ m1') θ2 := by
        refine ⟨fun _ _ h => (by simp [Tie.end_] at h), fun _ _ h => (by simp [Tie.end_] at h), fun c B hb => ?_⟩
        by_cases hc : c < m'.next
        · rw [s1 c hc]
          rcases end_inv hb with ⟨⟨x, hx⟩, rfl⟩ | hb
          · rcases hst.ren x c hx with q | ⟨_, q⟩
            · simp at q
            · omega
          · rcases hst.sta c B hb with q | ⟨q, _⟩
            · exact q
            · omega
        · rw [s2 c hc]; exact hb
      have ext : Tie.Ext θ θ2 := ⟨fun _ _ h => h, fun _ _ h => h, fun c B hb => by rw [s1 c (hgd.ok.sta c B hb)]; exact hb⟩
      refine ⟨θ2, _, e, .ret (hvv.ext ext2) ⟨⟨⟨fun b c hb => ?_, hgd.cl⟩, fun c B hb => ?_⟩, ⟨fun b c hb => ⟨Nat.lt_succ_of_lt (hgd.ok.ren b c hb).1, Nat.lt_of_lt_of_le (hgd.ok.ren b c hb).2 hst.n2⟩, hgd.ok.inj, fun b c hb => ?_, fun c B hb => ?_⟩, hgd.glb.ext ext⟩,
        ⟨ext, fun _ _ h => .inl h, fun c B hb => ?_, Nat.le_succ _, hst.n2, fun c hc _ => keep c hc⟩⟩
      · have := hgd.ok.ren b c hb
        rw [keep c this.2]; exact (hgd.blk b c hb).ext ext
      · by_cases hc : c < m'.next
        · rw [s1 c hc] at hb; rw [keep c hc]; exact hgd.sta c B hb
        · rw [s2 c hc] at hb; exact (hbd c B hb).1
      · rw [s1 c (hgd.ok.ren b c hb).2]; exact hgd.ok.off b c hb
      · by_cases hc : c < m'.next
        · exact Nat.lt_of_lt_of_le hc hst.n2
        · rw [s2 c hc] at hb; exact (hbd c B hb).2
      · by_cases hc : c < m'.next
        · rw [s1 c hc] at hb; exact .inl hb
        · exact .inr ⟨Nat.le_of_not_lt hc, Nat.lt_succ_self _⟩
end
end Go.Proofs.YtblcomejcahkdaaDoor.Ev
end
section
namespace Go.Proofs.YtblcomejcahkdaaDoor.Ev
open Go
set_option linter.unusedSimpArgs false
set_option linter.unusedSectionVars false

/-- A table in which the functions of a sort are asx they are told: 1 a plain value, 2 rows too. -/
def PT (T : Nat → Option Ent) (K : Nat → Nat) (P : Nat → List EV → Option EV) (f : Nat) : Option Ent := match K f with
  | 0 => T f
  | 1 => some (.spec (pureG0 (P f)))
  | _ => some (.spec (pureG1 (P f)))
noncomputable def PF (T : Nat → Option Ent) (K : Nat → Nat) : Nat → Nat → List EV → Option EV
  | 0, _, _ => none
  | k + 1, f, asx => match T f with
    | some (.go F) => bodyP (PT T K (PF T K k)) F asx
    | _ => none
noncomputable def pureR (T : Nat → Option Ent) (K : Nat → Nat) (f : Nat) (asx : List EV) : Option EV := lim fun k => PF T K k f asx
noncomputable def UT (T : Nat → Option Ent) (K : Nat → Nat) : Nat → Option Ent := PT T K (pureR T K)

/-! ### More is told of more -/
def PLe (P P' : Nat → List EV → Option EV) : Prop := ∀ f asx V, P f asx = some V → P' f asx = some V
theorem pureG0_le {g g' : List EV → Option EV} (h : ∀ asx V, g asx = some V → g' asx = some V) {args : List EV} {m : Mem} {r : Fin} (e : pureG0 g args m = some r) : pureG0 g' args m = some r := by
  unfold pureG0 at e ⊢
  cases hf : freezes deep m args with
  | none => simp [hf] at e
  | some asx =>
    simp only [hf] at e ⊢
    cases hv : g (tagArgs 1 asx) with
    | none => simp [hv] at e
    | some V => rw [h _ _ hv]; simp only [hv] at e ⊢; exact e
theorem pureG1_le {g g' : List EV → Option EV} (h : ∀ asx V, g asx = some V → g' asx = some V) {args : List EV} {m : Mem} {r : Fin} (e : pureG1 g args m = some r) : pureG1 g' args m = some r := by
  unfold pureG1 at e ⊢
  cases hc : closeds args <;> simp only [hc, cond_true, cond_false, reduceCtorEq] at e ⊢
  cases hf : freezes deep m args with
  | none => simp [hf] at e
  | some asx =>
    simp only [hf] at e ⊢
    cases hv : g (tagArgs 1 asx) with
    | none => simp [hv] at e
    | some V => rw [h _ _ hv]; simp only [hv] at e ⊢; exact e
theorem PT_le {T : Nat → Option Ent} {K : Nat → Nat} {P P' : Nat → List EV → Option EV} (h : PLe P P') : ∀ n, CallLe (evFun (PT T K P) n) (evFun (PT T K P') n)
  | 0 => fun f a m r e => by simp [evFun] at e
  | n + 1 => fun f a m r e => by
    simp only [evFun] at e ⊢
    rcases hK : K f with _ | _ | q <;> simp only [PT, hK] at e ⊢
    · cases hT : T f with
      | none => simp [hT] at e
      | some x =>
        simp only [hT] at e ⊢
        cases x with
        | go F => simp only [evEnt] at e ⊢; exact evBody_le (PT_le h n) (Nat.le_refl _) e
        | ext g => exact e
        | pure g => exact e
        | spec g => exact e
        | dgo F D => simp only [evEnt] at e ⊢; exact evBodyD_le (PT_le h n) (Nat.le_refl _) e
    · simp only [evEnt] at e ⊢; exact pureG0_le (h f) e
    · simp only [evEnt] at e ⊢; exact pureG1_le (h f) e
theorem bodyP_le {T1 T2 : Nat → Option Ent} (h : ∀ n, CallLe (evFun T1 n) (evFun T2 n)) {F : IFun} {asx : List EV} {V : EV} (e : bodyP T1 F asx = some V) : bodyP T2 F asx = some V := by
  obtain ⟨n, v, m, hb, hf⟩ := bodyP_inv e
  exact bodyP_of (evBody_le (h n) (Nat.le_refl _) hb) hf
theorem PF_step {T : Nat → Option Ent} {K : Nat → Nat} : ∀ k, PLe (PF T K k) (PF T K (k + 1))
  | 0 => fun f asx V e => by simp [PF] at e
  | k + 1 => fun f asx V e => by
    simp only [PF] at e ⊢
    cases hT : T f with
    | none => simp [hT] at e
    | some x =>
      cases x with
      | go F => simp only [hT] at e ⊢; exact bodyP_le (PT_le (PF_step k)) e
      | ext g => simp [hT] at e
      | pure g => simp [hT] at e
      | spec g => simp [hT] at e
      | dgo F D => simp [hT] at e
theorem PF_le {T : Nat → Option Ent} {K : Nat → Nat} {k k' : Nat} (h : k ≤ k') : PLe (PF T K k) (PF T K k') := by
  induction h with
  | refl => exact fun _ _ _ e => e
  | step _ ih => exact fun f asx V e => PF_step _ f asx V (ih f asx V e)
theorem mono_PF {T : Nat → Option Ent} {K : Nat → Nat} {f : Nat} {asx : List EV} : Mono fun k => PF T K k f asx := fun _ _ _ h e => PF_le h f asx _ e
theorem pureR_iff {T : Nat → Option Ent} {K : Nat → Nat} {f : Nat} {asx : List EV} {V : EV} : pureR T K f asx = some V ↔ ∃ k, PF T K k f asx = some V := lim_iff mono_PF

/-! ### A run makes so many calls alone -/
section
variable {c : Call} {ck : Nat → Call} (hm : ∀ k k', k ≤ k' → CallLe (ck k) (ck k')) (hc : ∀ f a m r, c f a m = some r → ∃ k, ck k f a m = some r)
include hm hc
theorem evCall_fin {fv : EV} {a : List EV} {m : Mem} {r : Fin} (e : evCall c fv a m = some r) : ∃ k, evCall (ck k) fv a m = some r := by
  cases fv <;> simp only [evCall, reduceCtorEq] at e ⊢
  exact hc _ _ _ _ e
theorem evOps_fin : ∀ (ops : List IOper) (fr : Fr) (m : Mem) (r : Out), evOps c ops fr m = some r → ∃ k, evOps (ck k) ops fr m = some r
  | [], fr, m, r, e => ⟨0, e⟩
  | o :: ops, fr, m, r, e => by
    simp only [evOps] at e ⊢
    cases hw : wantedE fr o.guard with
    | none => simp [hw] at e
    | some b =>
    cases b with
    | false => simp only [hw] at e ⊢; exact evOps_fin ops _ _ _ e
    | true =>
      simp only [hw] at e ⊢
      cases ho : o.op with
      | val op =>
        simp only [ho] at e ⊢
        cases hv : evOp fr.eval op m with
        | none => simp [hv] at e
        | some q => obtain ⟨v, m1⟩ := q; simp only [hv] at e ⊢; exact evOps_fin ops _ _ _ e
      | call f args =>
        simp only [ho] at e ⊢
        cases hv : evCall c (fr.eval f) (args.map fr.eval) m with
        | none => simp [hv] at e
        | some q =>
          obtain ⟨k1, h1⟩ := evCall_fin hm hc hv
          cases q with
          | ret v m1 =>
            simp only [hv] at e
            obtain ⟨k2, h2⟩ := evOps_fin ops _ _ _ e
            refine ⟨max k1 k2, ?_⟩
            rw [evCall_le (hm k1 _ (Nat.le_max_left _ _)) h1]
            exact evOps_le (hm k2 _ (Nat.le_max_right _ _)) _ _ _ _ h2
          | pan v m1 => simp only [hv] at e; exact ⟨k1, by rw [h1]; exact e⟩
      | panic x => simp only [ho] at e ⊢; exact ⟨0, e⟩
      | defer f args =>
        simp only [ho] at e ⊢
        split at e
        · rename_i hx
          obtain ⟨k, h⟩ := evOps_fin ops _ _ _ e
          exact ⟨k, h⟩
        · cases e
theorem evDraw_fin {chk : List (Nat × Nat)} {B0 : Nat} : ∀ (ops : List IOper) (i : Nat) (fr : Fr) (m : Mem) (sn : List (Nat × Mem)) (se : List Seen) (r : Out), evDraw c chk B0 ops i fr m sn se = some r → ∃ k, evDraw (ck k) chk B0 ops i fr m sn se = some r
  | [], i, fr, m, sn, se, r, e => ⟨0, e⟩
  | o :: ops, i, fr, m, sn, se, r, e => by
    simp only [evDraw] at e ⊢
    cases hw : wantedE fr o.guard with
    | none => simp [hw] at e
    | some b =>
    cases b with
    | false => simp only [hw] at e ⊢; exact evDraw_fin ops _ _ _ _ _ _ e
    | true =>
      simp only [hw] at e ⊢
      cases ho : o.op with
      | val op =>
        simp only [ho] at e ⊢
        split at e
        · cases hv : evOp fr.eval op m with
          | none => simp [hv] at e
          | some q => obtain ⟨v, m1⟩ := q; simp only [hv] at e ⊢; exact evDraw_fin ops _ _ _ _ _ _ e
        · cases hv : evOp fr.eval op ⟨B0 + i, m.tbl⟩ with
          | none => simp [hv] at e
          | some q => obtain ⟨v, m1⟩ := q; simp only [hv] at e ⊢; exact evDraw_fin ops _ _ _ _ _ _ e
        · split at e
          · rename_i agg x _
            cases hl : m.load agg (fr.eval x) with
            | none => simp [hl] at e
            | some v =>
              simp only [hl] at e ⊢
              cases hf : isF (fr.eval x) <;> simp only [hf, cond_true, cond_false] at e ⊢
              · cases hk : checkSnap chk i agg (fr.eval x) v sn <;> simp only [hk, cond_true, cond_false, reduceCtorEq] at e ⊢
                exact evDraw_fin ops _ _ _ _ _ _ e
              · cases hk : checkOld chk i m.next sn <;> simp only [hk, cond_true, cond_false, reduceCtorEq] at e ⊢
                exact evDraw_fin ops _ _ _ _ _ _ e
          · cases e
        · rename_i h0 h1 h2
          cases hv : evOp fr.eval op m with
          | none => simp [hv] at e
          | some q =>
            obtain ⟨v, m1⟩ := q
            simp only [hv] at e ⊢
            cases hk : checkSeen chk i m1 se <;> simp only [hk, cond_true, cond_false, reduceCtorEq] at e ⊢
            exact evDraw_fin ops _ _ _ _ _ _ e
      | call f args =>
        simp only [ho] at e ⊢
        cases hv : evCall c (fr.eval f) (args.map fr.eval) m with
        | none => simp [hv] at e
        | some q =>
          obtain ⟨k1, h1⟩ := evCall_fin hm hc hv
          cases q with
          | ret v m1 =>
            simp only [hv] at e
            cases hk : checkSeen chk i m1 se <;> simp only [hk, cond_true, cond_false, reduceCtorEq] at e
            obtain ⟨k2, h2⟩ := evDraw_fin ops _ _ _ _ _ _ e
            refine ⟨max k1 k2, ?_⟩
            rw [evCall_le (hm k1 _ (Nat.le_max_left _ _)) h1]
            simp only [hk, cond_true]
            exact evDraw_le (hm k2 _ (Nat.le_max_right _ _)) _ _ _ _ _ _ _ h2
          | pan v m1 => simp [hv] at e
      | panic x => simp [ho] at e
      | defer f args => simp [ho] at e
theorem iter_fin {n : Nat} {a : ICode} (ha : ∀ fr m r, evCode c n a fr m = some r → ∃ k, evCode (ck k) n a fr m = some r) : ∀ (j : Nat) (fr : Fr) (m : Mem) (r : Out), iter (evCode c n a) j fr m = some r → ∃ k, iter (evCode (ck k) n a) j fr m = some r
  | 0, fr, m, r, e => by simp [iter] at e
  | j + 1, fr, m, r, e => by
    simp only [iter] at e ⊢
    cases hb : evCode c n a fr m with
    | none => simp [hb] at e
    | some o =>
      obtain ⟨k1, h1⟩ := ha _ _ _ hb
      simp only [hb] at e
      cases o with
      | norm fr1 m1 =>
        obtain ⟨k2, h2⟩ := iter_fin ha j fr1 m1 r e
        refine ⟨max k1 k2, ?_⟩
        rw [evCode_le (hm k1 _ (Nat.le_max_left k1 k2)) (Nat.le_refl _) _ _ _ _ h1]
        exact iter_le (fun fr m r e => evCode_le (hm k2 _ (Nat.le_max_right k1 k2)) (Nat.le_refl _) _ _ _ _ e) j j (Nat.le_refl _) _ _ _ h2
      | exit id fr1 m1 => exact ⟨k1, by rw [h1]; exact e⟩
      | ret fr1 m1 => exact ⟨k1, by rw [h1]; exact e⟩
      | pan v fr1 m1 => exact ⟨k1, by rw [h1]; exact e⟩
theorem evCode_fin {n : Nat} : ∀ (x : ICode) (fr : Fr) (m : Mem) (r : Out), evCode c n x fr m = some r → ∃ k, evCode (ck k) n x fr m = some r
  | .skip, fr, m, r, e => ⟨0, e⟩
  | .ret, fr, m, r, e => ⟨0, e⟩
  | .exit id, fr, m, r, e => ⟨0, e⟩
  | .region ops, fr, m, r, e => by simp only [evCode] at e ⊢; exact evOps_fin hm hc _ _ _ _ e
  | .draw ops chk, fr, m, r, e => by simp only [evCode] at e ⊢; exact evDraw_fin hm hc _ _ _ _ _ _ _ e
  | .seq a b, fr, m, r, e => by
    simp only [evCode] at e ⊢
    cases ha : evCode c n a fr m with
    | none => simp [ha] at e
    | some o =>
      obtain ⟨k1, h1⟩ := evCode_fin a _ _ _ ha
      simp only [ha] at e
      cases o with
      | norm fr1 m1 =>
        obtain ⟨k2, h2⟩ := evCode_fin b _ _ _ e
        refine ⟨max k1 k2, ?_⟩
        rw [evCode_le (hm k1 _ (Nat.le_max_left k1 k2)) (Nat.le_refl _) _ _ _ _ h1]
        exact evCode_le (hm k2 _ (Nat.le_max_right k1 k2)) (Nat.le_refl _) _ _ _ _ h2
      | exit id fr1 m1 => exact ⟨k1, by rw [h1]; exact e⟩
      | ret fr1 m1 => exact ⟨k1, by rw [h1]; exact e⟩
      | pan v fr1 m1 => exact ⟨k1, by rw [h1]; exact e⟩
  | .cond x a b, fr, m, r, e => by
    simp only [evCode] at e ⊢
    split at e
    · rename_i t _
      cases t <;> simp only [cond_true, cond_false] at e ⊢
      · exact evCode_fin b _ _ _ e
      · exact evCode_fin a _ _ _ e
    · cases e
  | .block id a, fr, m, r, e => by
    simp only [evCode] at e ⊢
    cases ha : evCode c n a fr m with
    | none => simp [ha] at e
    | some o =>
      obtain ⟨k1, h1⟩ := evCode_fin a _ _ _ ha
      simp only [ha] at e
      exact ⟨k1, by rw [h1]; exact e⟩
  | .loop a, fr, m, r, e => by
    simp only [evCode] at e ⊢
    exact iter_fin hm hc (fun fr m r => evCode_fin a fr m r) n fr m r e
theorem evBody_fin {n : Nat} {F : IFun} {args : List EV} {m : Mem} {r : Fin} (e : evBody c n F args m = some r) : ∃ k, evBody (ck k) n F args m = some r := by
  unfold evBody at e ⊢
  cases hl : args.length.ble F.ntmps <;> simp only [hl, cond_true, cond_false, reduceCtorEq] at e ⊢
  cases hcd : evCode c n F.body ⟨args0 args 0 .leaf, []⟩ m with
  | none => simp [hcd] at e
  | some o =>
    obtain ⟨k, h⟩ := evCode_fin hm hc _ _ _ _ hcd
    simp only [hcd] at e
    exact ⟨k, by rw [h]; exact e⟩
theorem evBodyR_fin {n d : Nat} {F : IFun} {args : List EV} {u : Option EV} {m r : Mem} (e : evBodyR c n d F args u m = some r) : ∃ k, evBodyR (ck k) n d F args u m = some r := by
  unfold evBodyR at e ⊢
  cases hl : args.length.ble F.ntmps <;> simp only [hl, cond_true, cond_false, reduceCtorEq] at e ⊢
  cases hcd : evCode c n F.body (Fr.set ⟨args0 args 0 .leaf, []⟩ d (u.getD .niliface)) m with
  | none => simp [hcd] at e
  | some o =>
    obtain ⟨k, h⟩ := evCode_fin hm hc _ _ _ _ hcd
    simp only [hcd] at e
    exact ⟨k, by rw [h]; exact e⟩
theorem evLeave_fin {n : Nat} {rs : List IRes} {D : List (Nat × Option Nat × IFun)} {fr : Fr} : ∀ (ds : List (Nat × List EV)) (u : Option EV) (m : Mem) (r : Fin), evLeave c n rs D fr ds u m = some r → ∃ k, evLeave (ck k) n rs D fr ds u m = some r
  | [], none, m, r, e => ⟨0, e⟩
  | [], some v, m, r, e => ⟨0, e⟩
  | (g, args) :: ds, u, m, r, e => by
    simp only [evLeave] at e ⊢
    cases hd : dfind g D with
    | none => simp [hd] at e
    | some q =>
      obtain ⟨b, F⟩ := q
      cases b with
      | some d =>
        simp only [hd] at e ⊢
        cases hb : evBodyR c n d F args u m with
        | none => simp [hb] at e
        | some m1 =>
          simp only [hb] at e
          obtain ⟨k1, h1⟩ := evBodyR_fin hm hc hb
          obtain ⟨k2, h2⟩ := evLeave_fin ds none m1 r e
          refine ⟨max k1 k2, ?_⟩
          rw [evBodyR_le (hm _ _ (Nat.le_max_left k1 k2)) (Nat.le_refl _) h1]
          exact evLeave_le (hm _ _ (Nat.le_max_right k1 k2)) (Nat.le_refl _) _ _ _ _ h2
      | none =>
        simp only [hd] at e ⊢
        cases hb : evBody c n F args m with
        | none => simp [hb] at e
        | some fin =>
          simp only [hb] at e
          obtain ⟨k1, h1⟩ := evBody_fin hm hc hb
          have fin2 : ∀ {u2 : Option EV} {m2 : Mem}, (∃ k, evLeave (ck k) n rs D fr ds u2 m2 = some r) → ∃ k2, evBody (ck k2) n F args m = some fin ∧ evLeave (ck k2) n rs D fr ds u2 m2 = some r := fun ⟨k2, h2⟩ =>
            ⟨max k1 k2, evBody_le (hm _ _ (Nat.le_max_left k1 k2)) (Nat.le_refl _) h1, evLeave_le (hm _ _ (Nat.le_max_right k1 k2)) (Nat.le_refl _) _ _ _ _ h2⟩
          cases fin with
          | ret v m1 =>
            obtain ⟨k2, g1, g2⟩ := fin2 (evLeave_fin ds u m1 r e)
            exact ⟨k2, by simp only [g1]; exact g2⟩
          | pan v m1 =>
            cases u with
            | none =>
              obtain ⟨k2, g1, g2⟩ := fin2 (evLeave_fin ds (some v) m1 r e)
              exact ⟨k2, by simp only [g1]; exact g2⟩
            | some x => cases e
theorem evBodyD_fin {n : Nat} {F : IFun} {D : List (Nat × Option Nat × IFun)} {args : List EV} {m : Mem} {r : Fin} (e : evBodyD c n F D args m = some r) : ∃ k, evBodyD (ck k) n F D args m = some r := by
  unfold evBodyD at e ⊢
  cases hl : args.length.ble F.ntmps <;> simp only [hl, cond_true, cond_false, reduceCtorEq] at e ⊢
  cases hcd : evCode c n F.body ⟨args0 args 0 .leaf, []⟩ m with
  | none => simp [hcd] at e
  | some o =>
    obtain ⟨k1, h1⟩ := evCode_fin hm hc _ _ _ _ hcd
    simp only [hcd] at e
    have fin2 : ∀ {fr : Fr} {ds : List (Nat × List EV)} {u2 : Option EV} {m2 : Mem}, (∃ k, evLeave (ck k) n F.results D fr ds u2 m2 = some r) → ∃ k2, evCode (ck k2) n F.body ⟨args0 args 0 .leaf, []⟩ m = some o ∧ evLeave (ck k2) n F.results D fr ds u2 m2 = some r := fun ⟨k2, h2⟩ =>
      ⟨max k1 k2, evCode_le (hm _ _ (Nat.le_max_left k1 k2)) (Nat.le_refl _) _ _ _ _ h1, evLeave_le (hm _ _ (Nat.le_max_right k1 k2)) (Nat.le_refl _) _ _ _ _ h2⟩
    cases o with
    | exit id fr m1 => cases e
    | norm fr m1 =>
      obtain ⟨k2, g1, g2⟩ := fin2 (evLeave_fin hm hc _ _ _ _ e)
      exact ⟨k2, by simp only [g1]; exact g2⟩
    | ret fr m1 =>
      obtain ⟨k2, g1, g2⟩ := fin2 (evLeave_fin hm hc _ _ _ _ e)
      exact ⟨k2, by simp only [g1]; exact g2⟩
    | pan v fr m1 =>
      obtain ⟨k2, g1, g2⟩ := fin2 (evLeave_fin hm hc _ _ _ _ e)
      exact ⟨k2, by simp only [g1]; exact g2⟩
end
section
variable {T : Nat → Option Ent} {K : Nat → Nat}
theorem PF_all (k : Nat) : PLe (PF T K k) (pureR T K) := fun _ _ _ e => pureR_iff.2 ⟨k, e⟩
theorem UT_fin : ∀ (n f : Nat) (a : List EV) (m : Mem) (r : Fin), evFun (UT T K) n f a m = some r → ∃ k, evFun (PT T K (PF T K k)) n f a m = some r
  | 0, f, a, m, r, e => by simp [evFun] at e
  | n + 1, f, a, m, r, e => by
    have ih := UT_fin n
    simp only [evFun] at e ⊢
    rcases hK : K f with _ | _ | q <;> simp only [UT, PT, hK] at e ⊢
    · cases hT : T f with
      | none => simp [hT] at e
      | some x =>
        simp only [hT] at e ⊢
        cases x with
        | go F =>
          simp only [evEnt] at e ⊢
          exact evBody_fin (c := evFun (UT T K) n) (ck := fun k => evFun (PT T K (PF T K k)) n) (fun k k' h => PT_le (PF_le h) n) ih e
        | ext g => exact ⟨0, e⟩
        | pure g => exact ⟨0, e⟩
        | spec g => exact ⟨0, e⟩
        | dgo F D =>
          simp only [evEnt] at e ⊢
          exact evBodyD_fin (c := evFun (UT T K) n) (ck := fun k => evFun (PT T K (PF T K k)) n) (fun k k' h => PT_le (PF_le h) n) ih e
    · simp only [evEnt] at e ⊢
      unfold pureG0 at e ⊢
      cases hf : freezes deep m a with
      | none => simp [hf] at e
      | some asx =>
        simp only [hf] at e ⊢
        cases hv : pureR T K f (tagArgs 1 asx) with
        | none => simp [hv] at e
        | some V =>
          obtain ⟨k, hk⟩ := pureR_iff.1 hv
          simp only [hv] at e
          exact ⟨k, by simp only [hk]; exact e⟩
    · simp only [evEnt] at e ⊢
      unfold pureG1 at e ⊢
      cases hcl : closeds a <;> simp only [hcl, cond_true, cond_false, reduceCtorEq] at e ⊢
      cases hf : freezes deep m a with
      | none => simp [hf] at e
      | some asx =>
        simp only [hf] at e ⊢
        cases hv : pureR T K f (tagArgs 1 asx) with
        | none => simp [hv] at e
        | some V =>
          obtain ⟨k, hk⟩ := pureR_iff.1 hv
          simp only [hv] at e
          exact ⟨k, by simp only [hk]; exact e⟩
/-- What a function tells: what its code tells, where calls keep nothing. -/
theorem pureR_eq {f : Nat} {F : IFun} (hT : T f = some (.go F)) {asx : List EV} : pureR T K f asx = bodyP (UT T K) F asx := by
  refine opt_ext fun V => ⟨fun h => ?_, fun h => ?_⟩
  · obtain ⟨k, hk⟩ := pureR_iff.1 h
    cases k with
    | zero => simp [PF] at hk
    | succ k =>
      simp only [PF, hT] at hk
      exact bodyP_le (PT_le (PF_all k)) hk
  · obtain ⟨n, v, m, hb, hf⟩ := bodyP_inv h
    obtain ⟨k, hk⟩ := evBody_fin (c := evFun (UT T K) n) (ck := fun k => evFun (PT T K (PF T K k)) n) (fun k k' h => PT_le (PF_le h) n) (UT_fin n) hb
    refine pureR_iff.2 ⟨k + 1, ?_⟩
    simp only [PF, hT]
    exact bodyP_of hk hf
theorem PT_ent {T0 : Nat → Option Ent} (hT : ∀ f e, T f = some e → EntS T0 f e) {P : Nat → List EV → Option EV} (hP : ∀ f, K f ≠ 0 → EntS T0 f (.spec (pureG0 (P f))) ∧ EntS T0 f (.spec (pureG1 (P f)))) : ∀ f e, PT T K P f = some e → EntS T0 f e := by
  intro f e h
  unfold PT at h
  split at h
  · exact hT f e h
  · rename_i hk; cases h; exact (hP f (by omega)).1
  · rename_i hk _; cases h; exact (hP f (by omega)).2
theorem none_ent {T0 : Nat → Option Ent} {f : Nat} {g : List EV → Option EV} (h : ∀ asx, g asx = none) : EntS T0 f (.spec (pureG0 g)) ∧ EntS T0 f (.spec (pureG1 g)) := by
  constructor
  · intro θ m m' args args' fin _ _ e
    unfold pureG0 at e
    split at e
    · rw [h] at e; cases e
    · cases e
  · intro θ m m' args args' fin _ _ e
    unfold pureG1 at e
    cases hcl : closeds args <;> simp only [hcl, cond_true, cond_false, reduceCtorEq] at e
    split at e
    · rw [h] at e; cases e
    · cases e
theorem PF_ent {T0 : Nat → Option Ent} (hT : ∀ f e, T f = some e → EntS T0 f e) : ∀ k f, EntS T0 f (.spec (pureG0 (PF T K k f))) ∧ EntS T0 f (.spec (pureG1 (PF T K k f)))
  | 0, f => none_ent fun asx => rfl
  | k + 1, f => by
    have ih := PT_ent (K := K) hT fun f _ => PF_ent hT k f
    cases he : T f with
    | none => exact none_ent fun asx => by simp only [PF, he]
    | some e =>
      cases e with
      | go F =>
        have hE := hT f _ he
        have hp : ∀ asx V, PF T K (k + 1) f asx = some V → bodyP (PT T K (PF T K k)) F asx = some V := fun asx V h => by simpa only [PF, he] using h
        obtain ⟨F0, h1, h2, rfl⟩ := hE
        exact ⟨pure0_ent ih h1 h2 hp, pure1_ent ih h1 h2 hp⟩
      | ext g => exact none_ent fun asx => by simp only [PF, he]
      | pure g => exact none_ent fun asx => by simp only [PF, he]
      | spec g => exact none_ent fun asx => by simp only [PF, he]
      | dgo F D => exact none_ent fun asx => by simp only [PF, he]
theorem pureR_ent {T0 : Nat → Option Ent} (hT : ∀ f e, T f = some e → EntS T0 f e) (f : Nat) : EntS T0 f (.spec (pureG0 (pureR T K f))) ∧ EntS T0 f (.spec (pureG1 (pureR T K f))) := by
  constructor
  · intro θ m m' args args' fin hg ha e
    unfold pureG0 at e
    split at e
    · rename_i asx hf
      cases hv : pureR T K f (tagArgs 1 asx) with
      | none => rw [hv] at e; cases e
      | some V =>
        obtain ⟨k, hk⟩ := pureR_iff.1 hv
        refine (PF_ent (K := K) hT k f).1 θ m m' args args' fin hg ha ?_
        unfold pureG0
        rw [hf]; simp only [hk]; rw [hv] at e; exact e
    · cases e
  · intro θ m m' args args' fin hg ha e
    unfold pureG1 at e
    cases hcl : closeds args <;> simp only [hcl, cond_true, cond_false, reduceCtorEq] at e
    split at e
    · rename_i asx hf
      cases hv : pureR T K f (tagArgs 1 asx) with
      | none => rw [hv] at e; cases e
      | some V =>
        obtain ⟨k, hk⟩ := pureR_iff.1 hv
        refine (PF_ent (K := K) hT k f).2 θ m m' args args' fin hg ha ?_
        unfold pureG1
        rw [hcl, hf]; simp only [hk, cond_true]; rw [hv] at e; exact e
    · cases e
theorem UT_ent {T0 : Nat → Option Ent} (hT : ∀ f e, T f = some e → EntS T0 f e) : ∀ f e, UT T K f = some e → EntS T0 f e := PT_ent hT fun f _ => pureR_ent hT f
end
/-! ### Calls that look alone -/
open Classical in
/-- A call that tells a plain value and leaves all asx it was: what it made is forgotten. -/
noncomputable def lookT (T : Nat → Option Ent) (F : IFun) (args : List EV) (m : Mem) : Option Fin := if args.length ≤ F.ntmps then
  match resE F (exec T F.body ⟨args0 args 0 .leaf, []⟩ m) with
  | some (.ret v m1) => if Flat v = true ∧ m.next ≤ m1.next ∧ ∀ b, b < m.next → m1.get b = m.get b then some (.ret v ⟨m1.next, m.tbl⟩) else none
  | _ => none else none
end Go.Proofs.YtblcomejcahkdaaDoor.Ev
end
section
namespace Go.Proofs.YtblcomejcahkdaaDoor.Ev
open Go

structure InB where
  blk : Nat
  off : Nat
  total : Nat
  esz : Nat
  cs : List EV
def tabV (l : List Int) : List EV := l.map (.int .u64)
def gtot (b : Nat) : Nat := match tabl b with | some l => l.length | none => match glob b with | some _ => 1 | none => 0
def inRen (n0 : Nat) (bs : List InB) : Ren := fun b => if b < n0 then some ⟨b, 0, gtot b, 1, true⟩ else (bs[b - n0]?).map fun B => ⟨B.blk, B.off, B.total, B.esz, true⟩
def tblOf : List InB → Nat → Tr Blk → Tr Blk
  | [], _, t => t
  | B :: r, i, t => tblOf r (i + 1) (t.set i (.cells B.cs B.esz 0 true))
/-- Package variables that are tables of numbers. -/
def ttab : List (Nat × List Int) → Tr Blk
  | [] => .leaf
  | (g, l) :: r => (ttab r).set g (.cells (tabV l) 1 0 true)
theorem ttab_get {b : Nat} : ∀ ts : List (Nat × List Int), (ttab ts).get b = (tabIn ts b).map fun l => .cells (tabV l) 1 0 true
  | [] => by simp only [ttab, tabIn, Tr.get_leaf, Option.map_none]
  | (g, l) :: r => by
    simp only [ttab, tabIn]
    rw [Tr.get_set]
    by_cases h : b = g
    · rw [if_pos h, if_pos h]; rfl
    · rw [if_neg h, if_neg h]; exact ttab_get r
/-- Package variables that hold rows of texts: the rows lie at the first places behind. -/
def gtab (n0 : Nat) : List (Nat × List (List UInt8)) → Nat → Tr Blk
  | [], _ => ttab tabs
  | (g, l) :: r, j => (gtab n0 r (j + 1)).set g (.cells [.slice (n0 + j) 0 l.length none] 1 0 true)
def gfind : List (Nat × List (List UInt8)) → Nat → Nat → Option (Nat × List (List UInt8))
  | [], _, _ => none
  | (g, l) :: r, j, b => if b = g then some (j, l) else gfind r (j + 1) b
theorem gtab_get {n0 : Nat} : ∀ (gs : List (Nat × List (List UInt8))) (j b : Nat), (gtab n0 gs j).get b = (match gfind gs j b with | some p => some (.cells [.slice (n0 + p.1) 0 p.2.length none] 1 0 true) | none => (tabl b).map fun l => .cells (tabV l) 1 0 true)
  | [], _, b => by simp only [gtab, gfind, ttab_get, tabl]
  | (g, l) :: r, j, b => by
    simp only [gtab, gfind]
    rw [Tr.get_set]
    by_cases h : b = g
    · rw [if_pos h, if_pos h]
    · rw [if_neg h, if_neg h]; exact gtab_get r (j + 1) b
theorem gfind_glob {b : Nat} : ∀ (gs : List (Nat × List (List UInt8))) (j : Nat), (gfind gs j b).map (·.2) = globIn gs b
  | [], _ => rfl
  | (g, l) :: r, j => by
    simp only [gfind, globIn]
    by_cases h : b = g
    · rw [if_pos h, if_pos h]; rfl
    · rw [if_neg h, if_neg h]; exact gfind_glob r (j + 1)
theorem gfind_at {b p : Nat} {l : List (List UInt8)} : ∀ (gs : List (Nat × List (List UInt8))) (j : Nat), gfind gs j b = some (p, l) → j ≤ p ∧ gs[p - j]? = some (b, l)
  | [], _, h => by cases h
  | (g, x) :: r, j, h => by
    simp only [gfind] at h
    by_cases e : b = g
    · rw [if_pos e] at h; cases h; subst e; exact ⟨Nat.le_refl _, by rw [Nat.sub_self]; rfl⟩
    · rw [if_neg e] at h
      obtain ⟨h1, h2⟩ := gfind_at r (j + 1) h
      refine ⟨by omega, ?_⟩
      rw [show p - j = (p - (j + 1)) + 1 by omega]; exact h2
def inMem (n0 : Nat) (bs : List InB) : Mem := ⟨n0 + bs.length, tblOf bs n0 (gtab n0 globs 0)⟩
theorem tblOf_get : ∀ (bs : List InB) (i : Nat) (t : Tr Blk) (b : Nat), (tblOf bs i t).get b = if i ≤ b ∧ b < i + bs.length then (bs[b - i]?).map (fun B => .cells B.cs B.esz 0 true) else t.get b
  | [], i, t, b => by rw [if_neg (fun h => by have := h.2; simp at this; omega)]; rfl
  | B :: bs, i, t, b => by
    simp only [tblOf]
    rw [tblOf_get bs (i + 1) _ b, Tr.get_set]
    by_cases h : b = i
    · subst h
      rw [if_neg (by omega), if_pos rfl, if_pos (by simp)]
      simp
    · by_cases h2 : i + 1 ≤ b ∧ b < i + 1 + bs.length
      · rw [if_pos h2, if_pos (by simp; omega), show b - i = (b - (i + 1)) + 1 by omega]
        simp
      · rw [if_neg h2, if_neg h, if_neg (by simp; omega)]
theorem inMem_at {n0 : Nat} {bs : List InB} {i : Nat} {B : InB} (h : bs[i]? = some B) : (inMem n0 bs).get (n0 + i) = .cells B.cs B.esz 0 true := by
  have hlt := (List.getElem?_eq_some_iff.1 h).1
  unfold Mem.get inMem
  simp only
  rw [tblOf_get, if_pos (by omega), show n0 + i - n0 = i by omega, h]
  rfl
theorem inMem_low {n0 : Nat} {bs : List InB} {b : Nat} (h : b < n0) : (inMem n0 bs).get b = (match gfind globs 0 b with | some p => some (Blk.cells [.slice (n0 + p.1) 0 p.2.length none] 1 0 true) | none => (tabl b).map fun l => .cells (tabV l) 1 0 true).getD .dead := by
  unfold Mem.get inMem
  simp only
  rw [tblOf_get, if_neg (by omega), gtab_get]
theorem inMem_dead {n0 : Nat} {bs : List InB} {b : Nat} (hl : (∀ p ∈ globs, p.1 < n0) ∧ ∀ g l, tabl g = some l → g < n0) (h : n0 + bs.length ≤ b) : (inMem n0 bs).get b = .dead := by
  unfold Mem.get inMem
  simp only
  rw [tblOf_get, if_neg (by omega), gtab_get]
  cases hf : gfind globs 0 b with
  | none =>
    cases ht : tabl b with
    | none => rfl
    | some l => have := hl.2 _ _ ht; omega
  | some p =>
    obtain ⟨p, l⟩ := p
    have h2 := (gfind_at _ _ hf).2
    have := hl.1 _ (List.mem_of_getElem? h2)
    omega
theorem inRen_at {n0 : Nat} {bs : List InB} {i : Nat} {B : InB} (h : bs[i]? = some B) : inRen n0 bs (n0 + i) = some ⟨B.blk, B.off, B.total, B.esz, true⟩ := by
  unfold inRen
  rw [if_neg (by omega), show n0 + i - n0 = i by omega, h]
  rfl
theorem inRen_ro {n0 : Nat} {bs : List InB} : ∀ b L, inRen n0 bs b = some L → L.ro = true := by
  intro b L h
  unfold inRen at h
  split at h
  · cases h; rfl
  · obtain ⟨B, _, rfl⟩ := Option.map_eq_some_iff.1 h; rfl
/-- They stand in the world. -/
def InOk (w : World) (n0 : Nat) (bs : List InB) : Prop := ∀ (i : Nat) (B : InB), bs[i]? = some B → ∃ (arr : Array Value) (e : TypeId) (fz : Nat × Nat), w.heap[B.blk]? = some (.cells arr e fz) ∧ arr.size = B.total ∧ B.off + B.cs.length ≤ B.total ∧
  ∀ (j : Nat) (v : EV), B.cs[j]? = some v → ∃ v', arr[B.off + j]? = some v' ∧ VR (inRen n0 bs) v v' ∧ v'.oneCell' = true
/-- A table of numbers, asx the world holds it. -/
def TFact (w : World) (g : Nat) (l : List Int) : Prop := glob g = none ∧ ∃ (arr : Array Value) (e : TypeId) (fz : Nat × Nat), w.heap[g]? = some (.cells arr e fz) ∧ arr.toList = l.map (Value.int .u64)
/-- Package variables stand in the world asx they are told. -/
def GlobIn (w : World) (n0 : Nat) (bs : List InB) : Prop := ((∀ p ∈ globs, p.1 < n0) ∧ ∀ g l, tabl g = some l → g < n0) ∧ (∀ g l, tabl g = some l → TFact w g l) ∧ ∀ (j g : Nat) (l : List (List UInt8)), globs[j]? = some (g, l) →
  (∃ (arr : Array Value) (e : TypeId) (fz : Nat × Nat) (v' : Value), w.heap[g]? = some (.cells arr e fz) ∧ arr.size = 1 ∧ arr[0]? = some v' ∧ VR (inRen n0 bs) (.slice (n0 + j) 0 l.length none) v' ∧ v'.oneCell' = true) ∧
  ∃ B, bs[j]? = some B ∧ B.cs = l.map .str ∧ B.esz = 1
theorem in_R {w : World} {n0 : Nat} {bs : List InB} (h : InOk w n0 bs) (hg : GlobIn w n0 bs) : R w.heap.size (inRen n0 bs) (inMem n0 bs) w := by
  have cases_ : ∀ b L, inRen n0 bs b = some L → (b < n0 ∧ L = ⟨b, 0, gtot b, 1, true⟩) ∨ ∃ i B, b = n0 + i ∧ bs[i]? = some B := by
    intro b L hb
    unfold inRen at hb
    split at hb
    · cases hb; exact .inl ⟨‹_›, rfl⟩
    · obtain ⟨B, hB, rfl⟩ := Option.map_eq_some_iff.1 hb
      exact .inr ⟨b - n0, B, by omega, hB⟩
  refine ⟨fun b L hb => ?_, fun b L hb => ?_, fun b c L L' h1 _ _ _ h5 => ?_, Nat.le_refl _, fun b hb => inMem_dead hg.1 hb⟩
  · rcases cases_ b L hb with ⟨hlt, _⟩ | ⟨i, B, rfl, hB⟩
    · show b < n0 + bs.length; omega
    · have := (List.getElem?_eq_some_iff.1 hB).1; show n0 + i < n0 + bs.length; omega
  · rcases cases_ b L hb with ⟨hlt, rfl⟩ | ⟨i, B, rfl, hB⟩
    · rw [inMem_low hlt]
      cases hf : gfind globs 0 b with
      | none =>
        cases ht : tabl b with
        | none => trivial
        | some l =>
          obtain ⟨hgn, arr, e, fz, h1, h2⟩ := hg.2.1 b l ht
          have hsz : arr.size = l.length := by rw [← Array.length_toList, h2, List.length_map]
          have htot : gtot b = l.length := by unfold gtot; rw [ht]
          refine ⟨arr, e, fz, h1, by rw [htot]; exact hsz, rfl, rfl, by rw [htot]; show 0 + (tabV l).length ≤ l.length; simp [tabV], fun i v hv => ?_, (fun e => by cases e), fun _ => (Array.getElem?_eq_some_iff.1 h1).1⟩
          unfold tabV at hv
          rw [List.getElem?_map] at hv
          obtain ⟨n, hn, rfl⟩ := Option.map_eq_some_iff.1 hv
          refine ⟨.int .u64 n, ?_, .int _ _, rfl⟩
          rw [← Array.getElem?_toList, h2, List.getElem?_map, show 0 + i = i by omega, hn]; rfl
      | some p =>
        obtain ⟨p, l⟩ := p
        have h2 := (gfind_at _ _ hf).2
        rw [Nat.sub_zero] at h2
        obtain ⟨⟨arr, e, fz, v', h1, h3, h4, h5, h6⟩, _⟩ := hg.2.2 p b l h2
        have ht : gtot b = 1 := by
          have := gfind_glob (b := b) globs 0
          rw [hf] at this
          have tn : tabl b = none := by
            cases e : tabl b with
            | none => rfl
            | some l' => have := (hg.2.1 b l' e).1; unfold glob at this; simp_all
          unfold gtot glob
          rw [tn, ← this]; rfl
        refine ⟨arr, e, fz, h1, by rw [ht]; exact h3, rfl, rfl, by show 0 + 1 ≤ gtot b; rw [ht]; exact Nat.le_refl _, fun i v hv => ?_, (fun e => by cases e), fun _ => (Array.getElem?_eq_some_iff.1 h1).1⟩
        cases i with
        | zero => simp only [List.getElem?_cons_zero, Option.some.injEq] at hv; subst hv; exact ⟨v', h4, h5, h6⟩
        | succ i => simp at hv
    · rw [inMem_at hB]
      rw [inRen_at hB] at hb
      cases hb
      obtain ⟨arr, e, fz, h1, h2, h3, h4⟩ := h i B hB
      exact ⟨arr, e, fz, h1, h2, rfl, rfl, h3, h4, (fun e => by cases e), fun _ => (Array.getElem?_eq_some_iff.1 h1).1⟩
  · rw [inRen_ro b L h1] at h5; cases h5
theorem in_G {n0 : Nat} {bs : List InB} {G : List Nat} (h : ∀ g, G.contains g = true → g < n0) : Globs G (inRen n0 bs) := fun g hg => ⟨⟨g, 0, gtot g, 1, true⟩, by unfold inRen; rw [if_pos (h g hg)], rfl, rfl, fun l hl => by unfold gtot; simp only [hl]⟩
/-- A slice of what came in. -/
theorem in_slice {n0 : Nat} {bs : List InB} {i : Nat} {B : InB} (h : bs[i]? = some B) {a : Addr} (hb : a.block = B.blk) (hs : a.spot = none) {len cap : Nat} (hl : len ≤ cap) (ho : 0 < len → a.off = B.off) : VR (inRen n0 bs) (.slice (n0 + i) 0 len none) (.slice (some a) len cap) := by
  obtain ⟨blk, off, spot⟩ := a
  cases hs; cases hb
  exact .slice (inRen_at h) hl (fun hh => by have := ho hh; simpa using this) (fun e => by cases e)
/-- A law that tells true: the machine's call returns true, and what was there stands asx it stood. -/
theorem law_walk {P : Program} {G : List Nat} (hmix : P.follows .mixedOrders = true) {T : Nat → Option Ent} (hT : ∀ f e, T f = some e → EntOk P G f e) {f : Nat} {F : IFun} (hf : T f = some (.go F)) {n0 : Nat} (hG : ∀ g, G.contains g = true → g < n0)
    {w : World} {bs : List InB} (hb : InOk w n0 bs) (hgl : GlobIn w n0 bs) {args : List EV} {args' : Array Value} (hv : VRs (inRen n0 bs) args args'.toList) {b : Bool} {m' : Mem} (h : run T f args (inMem n0 bs) = some (.ret (.bool b) m')) :
    Calls P f args' w fun e w' => e = .returned (.bool b) ∧ Go.RowKit.Below w.heap.size w w' := by
  obtain ⟨k, hk⟩ := run_iff.1 h
  exact law_calls hmix hT hf hk (in_R hb hgl) (in_G hG) (fun b L h _ => inRen_ro b L h) hv
end Go.Proofs.YtblcomejcahkdaaDoor.Ev
end
section
namespace Go.Proofs.YtblcomejcahkdaaDoor.Ev
open Go Go.Deep
set_option linter.unusedSimpArgs false

/-- Shapes of what comes in; what it tells. -/
inductive Sh where
  | int (k : IntKind)
  | bool
  | str
  | slice (e : TypeId) (esz : Nat) (s : Sh)
  | struct (l : List Sh)
inductive Dt where
  | int (n : Int)
  | bool (b : Bool)
  | str (s : List UInt8)
  | list (l : List Dt)
  | tup (l : List Dt)
mutual
/-- A shape's cells, in a memory, and what they tell. -/
inductive Rep (m : Mem) : Sh → List EV → Dt → Prop
  | int {k : IntKind} {n : Int} (h : (Lit.int k n).wf = true) : Rep m (.int k) [.int k n] (.int n)
  | bool (b : Bool) : Rep m .bool [.bool b] (.bool b)
  | str {s : List UInt8} (h : s.length ≤ maxLen) : Rep m .str [.str s] (.str s)
  | nil {e esz : Nat} {s : Sh} : Rep m (.slice e esz s) [.nilslice] (.list [])
  | empty {e esz b off : Nat} {s : Sh} : Rep m (.slice e esz s) [.slice b off 0 (some 0)] (.list [])
  | slice {e esz b : Nat} {s : Sh} {ess : List (List EV)} {ds : List Dt} (hl : ds.length ≤ maxLen) (hm : m.get b = .cells ess.flatten esz 0 true) (h : Reps m (List.replicate ds.length s) ess ds) : Rep m (.slice e esz s) [.slice b 0 ds.length none] (.list ds)
  | struct {shs : List Sh} {ess : List (List EV)} {ds : List Dt} (h : Reps m shs ess ds) : Rep m (.struct shs) ess.flatten (.tup ds)
inductive Reps (m : Mem) : List Sh → List (List EV) → List Dt → Prop
  | nil : Reps m [] [] []
  | cons {s : Sh} {es : List EV} {d : Dt} {shs : List Sh} {ess : List (List EV)} {ds : List Dt} (h : Rep m s es d) (hs : Reps m shs ess ds) : Reps m (s :: shs) (es :: ess) (d :: ds)
end

section
variable {P : Program} {w : World} {H : Type} {enc : TypeId × Value → H} {base : Nat} {held : Bool} {n0 : Nat}
def BOk (w : World) (ρ : Ren) (B : InB) : Prop := ∃ (arr : Array Value) (e : TypeId) (fz : Nat × Nat), w.heap[B.blk]? = some (.cells arr e fz) ∧ arr.size = B.total ∧ B.off + B.cs.length ≤ B.total ∧
  ∀ (j : Nat) (v : EV), B.cs[j]? = some v → ∃ v', arr[B.off + j]? = some v' ∧ VR ρ v v' ∧ v'.oneCell' = true
/-- So many blocks, wherever they are put. -/
def Put (all : List InB) (s : Nat) (bs : List InB) : Prop := ∀ i, i < bs.length → all[s + i]? = bs[i]?
def Dec (w : World) (n0 : Nat) (sh : Sh) (cs : List Value) : Prop :=
  ∃ (k : Nat) (d : Dt), ∀ s, ∃ (es : List EV) (bs : List InB), bs.length = k ∧ es.length = cs.length ∧ ∀ all, Put all s bs →
    VRs (inRen n0 all) es cs ∧ (∀ c ∈ cs, c.oneCell' = true) ∧ (∀ (i : Nat) (B : InB), bs[i]? = some B → BOk w (inRen n0 all) B) ∧ Rep (inMem n0 all) sh es d
def Decs (w : World) (n0 : Nat) (shs : List Sh) (css : List (List Value)) : Prop :=
  ∃ (k : Nat) (ds : List Dt), ds.length = shs.length ∧ ∀ s, ∃ (ess : List (List EV)) (bs : List InB), bs.length = k ∧ ess.flatten.length = css.flatten.length ∧ ∀ all, Put all s bs →
    VRs (inRen n0 all) ess.flatten css.flatten ∧ (∀ c ∈ css.flatten, c.oneCell' = true) ∧ (∀ (i : Nat) (B : InB), bs[i]? = some B → BOk w (inRen n0 all) B) ∧ Reps (inMem n0 all) shs ess ds
theorem Put.left {all bs cs : List InB} {s : Nat} (h : Put all s (bs ++ cs)) : Put all s bs := fun i hi => by
  rw [h i (by simp; omega), List.getElem?_append_left hi]
theorem Put.right {all bs cs : List InB} {s : Nat} (h : Put all s (bs ++ cs)) : Put all (s + bs.length) cs := fun i hi => by
  have := h (bs.length + i) (by simp; omega)
  rw [Nat.add_assoc, this, List.getElem?_append_right (by omega)]; congr 1; omega
theorem Decs.nil : Decs w n0 [] [] := ⟨0, [], rfl, fun s => ⟨[], [], rfl, rfl, fun all _ => ⟨.nil, by simp, by simp, .nil⟩⟩⟩
theorem Decs.cons {sh : Sh} {cs : List Value} {shs : List Sh} {css : List (List Value)} (h : Dec w n0 sh cs) (hs : Decs w n0 shs css) : Decs w n0 (sh :: shs) (cs :: css) := by
  obtain ⟨k, d, h⟩ := h
  obtain ⟨k2, ds, hl, hs⟩ := hs
  refine ⟨k + k2, d :: ds, by simp [hl], fun s => ?_⟩
  obtain ⟨es, bs, h1, h2, h3⟩ := h s
  obtain ⟨ess, bs2, g1, g2, g3⟩ := hs (s + k)
  refine ⟨es :: ess, bs ++ bs2, by simp [h1, g1], by simp [h2, g2], fun all hp => ?_⟩
  obtain ⟨a1, a2, a3, a4⟩ := h3 all hp.left
  obtain ⟨b1, b2, b3, b4⟩ := g3 all (by rw [← h1]; exact hp.right)
  refine ⟨?_, ?_, ?_, .cons a4 b4⟩
  · rw [List.flatten_cons, List.flatten_cons]; exact a1.append b1
  · intro c hc
    rw [List.flatten_cons, List.mem_append] at hc
    rcases hc with hc | hc
    · exact a2 c hc
    · exact b2 c hc
  · intro i B hB
    by_cases hi : i < bs.length
    · rw [List.getElem?_append_left hi] at hB; exact a3 i B hB
    · rw [List.getElem?_append_right (by omega)] at hB; exact b3 _ B hB

/-! ### Shapes of types -/
def fieldsOk (ok : Sh → TypeId → Bool) (size : TypeId → Nat) : List Sh → List Field → Nat → Nat → Bool
  | [], [], off, total => off.beq total
  | s :: shs, g :: gs, off, total => g.offset.beq off && (ok s g.type && fieldsOk ok size shs gs (off + size g.type) total)
  | _, _, _, _ => false
def shOk (P : Program) : Nat → Sh → TypeId → Bool
  | 0, _, _ => false
  | n + 1, sh, t => match sh, P.underlying t with
    | .int k, some (.int k') => (kindNo k).beq (kindNo k')
    | .bool, some .bool => true
    | .str, some .string => true
    | .slice e esz s, some (.slice e') => e.beq e' && ((P.cellsOf e).beq esz && (Nat.ble 1 esz && shOk P n s e))
    | .struct l, some (.struct gs) => fieldsOk (shOk P n) P.cellsOf l gs.toList 0 (P.cellsOf t)
    | _, _ => false
theorem fields_flat {ok : Sh → TypeId → Bool} {size : TypeId → Nat} {cs : List Value} : ∀ (shs : List Sh) (gs : List Field) (off : Nat), fieldsOk ok size shs gs off cs.length = true → off ≤ cs.length →
    cs.drop off = (gs.map fun g => (cs.drop g.offset).take (size g.type)).flatten
  | [], [], off, h, hl => by
    have := of_beq h
    subst this; simp
  | s :: shs, g :: gs, off, h, hl => by
    simp only [fieldsOk, Bool.and_eq_true] at h
    obtain ⟨h1, h2, h3⟩ := h
    have e := of_beq h1
    have hle : off + size g.type ≤ cs.length := by
      revert h3
      generalize off + size g.type = o
      clear h1 h2 e hl
      induction gs generalizing shs o with
      | nil => intro h3; cases shs <;> simp only [fieldsOk] at h3; exact Nat.le_of_eq (of_beq h3); cases h3
      | cons g' gs ih =>
        intro h3
        cases shs with
        | nil => simp [fieldsOk] at h3
        | cons s' shs =>
          simp only [fieldsOk, Bool.and_eq_true] at h3
          have := ih shs _ h3.2.2
          omega
    have ih := fields_flat shs gs (off + size g.type) h3 hle
    rw [List.map_cons, List.flatten_cons, ← ih, e]
    rw [← List.drop_drop, List.take_append_drop]
  | [], _ :: _, _, h, _ => by simp [fieldsOk] at h
  | _ :: _, [], _, h, _ => by simp [fieldsOk] at h
theorem decs_fields {cs : List Value} {size : TypeId → Nat} {ok : Sh → TypeId → Bool} : ∀ (shs : List Sh) (gs : List Field) (off total : Nat), fieldsOk ok size shs gs off total = true →
    (∀ (s : Sh) (g : Field), g ∈ gs → ok s g.type = true → Dec w n0 s ((cs.drop g.offset).take (size g.type))) → Decs w n0 shs (gs.map fun g => (cs.drop g.offset).take (size g.type))
  | [], [], _, _, _, _ => .nil
  | s :: shs, g :: gs, off, total, h, hd => by
    simp only [fieldsOk, Bool.and_eq_true] at h
    rw [List.map_cons]
    exact .cons (hd s g (by simp) h.2.1) (decs_fields shs gs _ total h.2.2 fun s' g' hg => hd s' g' (by simp [hg]))
  | [], _ :: _, _, _, h, _ => by simp [fieldsOk] at h
  | _ :: _, [], _, _, h, _ => by simp [fieldsOk] at h
theorem flat_len {α : Type} {sz : Nat} : ∀ {css : List (List α)}, (∀ c ∈ css, c.length = sz) → css.flatten.length = css.length * sz
  | [], _ => by simp
  | c :: css, h => by
    rw [List.flatten_cons, List.length_append, flat_len fun c hc => h c (by simp [hc]), h c (by simp), List.length_cons, Nat.add_mul]; omega
theorem flat_get {α : Type} {sz : Nat} : ∀ {css : List (List α)}, (∀ c ∈ css, c.length = sz) → ∀ (q p : Nat), p < sz → css.flatten[q * sz + p]? = (css[q]?).bind fun c => c[p]?
  | [], _, q, p, _ => by simp
  | c :: css, h, q, p, hp => by
    have hc := h c (by simp)
    rw [List.flatten_cons]
    cases q with
    | zero => rw [Nat.zero_mul, Nat.zero_add, List.getElem?_append_left (by omega)]; simp
    | succ q =>
      have ih := flat_get (css := css) (fun c hc => h c (by simp [hc])) q p hp
      rw [List.getElem?_append_right (by rw [hc, Nat.add_mul]; omega), show (q + 1) * sz + p - c.length = q * sz + p by rw [hc, Nat.add_mul]; omega, ih]
      simp
theorem lit_add (b o n : Nat) : (⟨b, o, none⟩ : Addr).add n = ⟨b, o + n, none⟩ := Addr.add_lit b o n
/-- A row's elements. -/
theorem decs_row {a : Addr} {sz len : Nat} {s : Sh} (hd : ∀ i, i < len → ∃ cs', w.cells? base (a.add (i * sz)) sz = some cs' ∧ Dec w n0 s cs') : ∀ (r i : Nat), i + r = len →
    ∃ css : List (List Value), css.length = r ∧ (∀ q, q < r → ∃ cs', css[q]? = some cs' ∧ w.cells? base (a.add ((i + q) * sz)) sz = some cs') ∧ Decs w n0 (List.replicate r s) css
  | 0, i, _ => ⟨[], rfl, fun q hq => by omega, .nil⟩
  | r + 1, i, h => by
    obtain ⟨cs', h1, h2⟩ := hd i (by omega)
    obtain ⟨css, g1, g2, g3⟩ := decs_row hd r (i + 1) (by omega)
    refine ⟨cs' :: css, by simp [g1], fun q hq => ?_, .cons h2 g3⟩
    cases q with
    | zero => exact ⟨cs', rfl, h1⟩
    | succ q =>
      obtain ⟨c, c1, c2⟩ := g2 q (by omega)
      exact ⟨c, by simpa using c1, by rw [show i + (q + 1) = i + 1 + q by omega]; exact c2⟩
theorem dec_slice {a : Addr} {e sz len cap : Nat} {s : Sh} (hsz : 1 ≤ sz) (hlc : len ≤ cap) (hcm : cap ≤ maxLen) (hc0 : cap ≠ 0) (hd : ∀ i, i < cap → ∃ cs', w.cells? base (a.add (i * sz)) sz = some cs' ∧ Dec w n0 s cs') :
    Dec w n0 (.slice e sz s) [.slice (some a) len cap] := by
  have hcell : ∀ i, i < cap → ∀ p, p < sz → ∃ v, w.cell? ((a.add (i * sz)).add p) = some v := by
    intro i hi p hp
    obtain ⟨cs', h1, _⟩ := hd i hi
    obtain ⟨_, h2, h3⟩ := World.cells?_some h1
    exact ⟨cs'[p]'(by omega), by rw [h3 p hp, List.getElem?_eq_getElem]⟩
  obtain ⟨blk, off, arr, ty, fz, rfl, harr⟩ : ∃ blk off arr ty fz, a = ⟨blk, off, none⟩ ∧ w.heap[blk]? = some (.cells arr ty fz) := by
    obtain ⟨v, hv⟩ := hcell 0 (by omega) 0 (by omega)
    rw [Nat.zero_mul] at hv
    have hv : w.cell? a = some v := hv
    obtain ⟨blk, off, spot⟩ := a
    unfold World.cell? at hv
    split at hv
    · rename_i c t z hh
      cases spot with
      | none => exact ⟨blk, off, c, t, z, rfl, hh⟩
      | some x => simp at hv
    · cases hv
  have hat : ∀ n, w.cell? ⟨blk, off + n, none⟩ = arr[off + n]? := fun n => by unfold World.cell?; simp [harr]
  obtain ⟨css, g1, g2, kin, ds, hds, g3⟩ := decs_row (w := w) (n0 := n0) (base := base) (fun i hi => hd i (Nat.lt_of_lt_of_le hi hlc)) len 0 (by omega)
  have hcl : ∀ c ∈ css, c.length = sz := by
    intro c hc
    obtain ⟨q, hq⟩ := List.getElem?_of_mem hc
    have hql : q < len := by have := (List.getElem?_eq_some_iff.1 hq).1; omega
    obtain ⟨cs', h1, h2⟩ := g2 q hql
    rw [hq] at h1; cases h1
    exact (World.cells?_some h2).2.1
  have hfl : css.flatten.length = len * sz := by rw [flat_len hcl, g1]
  have hget : ∀ j v, css.flatten[j]? = some v → arr[off + j]? = some v := by
    intro j v hj
    have hjl : j < len * sz := by have := (List.getElem?_eq_some_iff.1 hj).1; omega
    have hp : j % sz < sz := Nat.mod_lt _ (by omega)
    have hq : j / sz < len := Nat.div_lt_of_lt_mul (by rw [Nat.mul_comm]; exact hjl)
    have hj' : j / sz * sz + j % sz = j := Nat.div_add_mod' j sz
    rw [← hj', flat_get hcl _ _ hp] at hj
    obtain ⟨cs', h1, h2⟩ := g2 _ hq
    rw [h1] at hj
    obtain ⟨_, _, h3⟩ := World.cells?_some h2
    have h4 := h3 _ hp
    rw [Nat.zero_add, lit_add, lit_add, Nat.add_assoc, hj', hat] at h4
    rw [h4]; exact hj
  have hle : off + len * sz ≤ arr.size := by
    rcases Nat.eq_zero_or_pos (len * sz) with h0 | h0
    · obtain ⟨v, hv⟩ := hcell 0 (by omega) 0 (by omega)
      have h00 := hat 0
      rw [Nat.add_zero] at h00
      simp only [lit_add, Nat.zero_mul, Nat.add_zero] at hv
      rw [h00] at hv
      have := (Array.getElem?_eq_some_iff.1 hv).1
      omega
    · obtain ⟨v, hv⟩ : ∃ v, css.flatten[len * sz - 1]? = some v := ⟨_, List.getElem?_eq_getElem (by omega)⟩
      have := (Array.getElem?_eq_some_iff.1 (hget _ _ hv)).1
      omega
  rw [List.length_replicate] at hds
  refine ⟨kin + 1, .list ds, fun st => ?_⟩
  obtain ⟨ess, bs, b1, b2, b3⟩ := g3 (st + 1)
  let B : InB := ⟨blk, off, arr.size, sz, ess.flatten⟩
  refine ⟨[.slice (n0 + st) 0 len none], B :: bs, by simp [b1], rfl, fun all hp => ?_⟩
  have hB : all[st]? = some B := by have := hp 0 (by simp); simpa using this
  obtain ⟨c1, c2, c3, c4⟩ := b3 all (by have := Put.right (bs := [B]) hp; simpa using this)
  refine ⟨.cons (in_slice hB rfl rfl hlc fun _ => rfl) .nil, by simp [Value.oneCell'], fun i C hC => ?_, ?_⟩
  · cases i with
    | succ i => exact c3 i C (by simpa using hC)
    | zero =>
      simp at hC; subst hC
      refine ⟨arr, ty, fz, harr, rfl, by show off + ess.flatten.length ≤ arr.size; omega, fun j v hj => ?_⟩
      obtain ⟨v', h1, h2⟩ := c1.get j v hj
      exact ⟨v', hget j v' h1, h2, c2 v' (List.mem_of_getElem? h1)⟩
  · have h1 := inMem_at (n0 := n0) hB
    have h2 := Rep.slice (m := inMem n0 all) (e := e) (b := n0 + st) (s := s) (ds := ds) (Nat.le_trans (Nat.le_of_eq hds) (Nat.le_trans hlc hcm)) h1 (by rw [hds]; exact c4)
    rw [hds] at h2
    exact h2
theorem dec_all (n0 : Nat) : ∀ (K : Nat) (sh : Sh) (t : TypeId) (fuel : Nat) (cs : List Value) (x : DataW H × List MemPlace), shOk P K sh t = true → DataW.trod enc P w base (fun _ => true) held fuel t cs = some x → Dec w n0 sh cs
  | 0, _, _, _, _, _, h, _ => by simp [shOk] at h
  | K + 1, sh, t, fuel, cs, x, h, hx => by
    simp only [shOk] at h
    split at h
    · rename_i k k' hu
      obtain rfl := kindNo_inj h
      obtain ⟨n, rfl, _, hw⟩ := DataW.trod_int hu hx
      exact ⟨0, .int n, fun s => ⟨[.int k n], [], rfl, rfl, fun all _ => ⟨.cons (.int _ _) .nil, by simp [Value.oneCell'], by simp, .int hw⟩⟩⟩
    · rename_i hu
      obtain ⟨b, rfl, _⟩ := DataW.trod_bool hu hx
      exact ⟨0, .bool b, fun s => ⟨[.bool b], [], rfl, rfl, fun all _ => ⟨.cons (.bool _) .nil, by simp [Value.oneCell'], by simp, .bool b⟩⟩⟩
    · rename_i hu
      obtain ⟨b, rfl, _, hm⟩ := DataW.trod_string hu hx
      exact ⟨0, .str b.data.toList, fun s => ⟨[.str b.data.toList], [], rfl, rfl, fun all _ => ⟨.cons (.str _) .nil, by simp [Value.oneCell'], by simp, .str (by simpa using hm)⟩⟩⟩
    · rename_i e esz s e' hu
      simp only [Bool.and_eq_true] at h
      obtain ⟨h1, h2, h3, h4⟩ := h
      have := of_beq h1; subst this
      have := of_beq h2; subst this
      have hpos : 1 ≤ P.cellsOf e := Nat.le_of_ble_eq_true h3
      rcases open_slice hu hx with ⟨rfl, _⟩ | ⟨a, len, cap, m, n, D, Pl, rfl, hb, hlc, hcm, hm, _, hel⟩
      · exact ⟨0, .list [], fun s => ⟨[.nilslice], [], rfl, rfl, fun all _ => ⟨.cons .nilslice .nil, by simp [Value.oneCell'], by simp, .nil⟩⟩⟩
      · simp only [if_true] at hm
        subst hm
        by_cases hc0 : m = 0
        · subst hc0
          obtain rfl : len = 0 := by omega
          exact ⟨0, .list [], fun s => ⟨[.slice 0 0 0 (some 0)], [], rfl, rfl, fun all _ => ⟨.cons .sliceE .nil, by simp [Value.oneCell'], by simp, .empty⟩⟩⟩
        · exact dec_slice hpos hlc hcm hc0 fun i hi => by
            obtain ⟨cs', h5, h6⟩ := hel i hi
            exact ⟨cs', h5, dec_all n0 K s e n cs' _ h4 h6⟩
    · rename_i l gs hu
      obtain ⟨xs, n, _, _, hlen, hxl, hf⟩ := DataW.trod_struct hu hx
      rw [← hlen] at h
      have hD := decs_fields (w := w) (n0 := n0) (cs := cs) l gs.toList 0 cs.length h fun s g hg hok => by
        obtain ⟨i, hi⟩ := List.getElem?_of_mem hg
        have hi' : gs[i]? = some g := by simpa using hi
        have hlt : i < xs.length := by have := (Array.getElem?_eq_some_iff.1 hi').1; omega
        have h1 := hf i g hi'
        rw [List.getElem?_eq_getElem hlt] at h1
        exact dec_all n0 K s g.type n _ _ hok h1
      have hfl := fields_flat l gs.toList 0 h (Nat.zero_le _)
      rw [List.drop_zero] at hfl
      obtain ⟨k, ds, _, hs⟩ := hD
      refine ⟨k, .tup ds, fun s => ?_⟩
      obtain ⟨ess, bs, h1, h2, h3⟩ := hs s
      rw [← hfl] at h2 h3
      refine ⟨ess.flatten, bs, h1, h2, fun all hp => ?_⟩
      obtain ⟨c1, c2, c3, c4⟩ := h3 all hp
      exact ⟨c1, c2, c3, .struct c4⟩
    · cases h

/-! ### Arguments -/
/-- An argument: a struct's cells together. -/
def RepV (m : Mem) (sh : Sh) (e : EV) (d : Dt) : Prop := match sh with
  | .struct l => ∃ cs, e = .agg cs ∧ Rep m (.struct l) cs d
  | sh => Rep m sh [e] d
inductive RepVs (m : Mem) : List Sh → List EV → List Dt → Prop
  | nil : RepVs m [] [] []
  | cons {s : Sh} {e : EV} {d : Dt} {shs : List Sh} {es : List EV} {ds : List Dt} (h : RepV m s e d) (hs : RepVs m shs es ds) : RepVs m (s :: shs) (e :: es) (d :: ds)
def DecV (w : World) (n0 : Nat) (sh : Sh) (v : Value) : Prop :=
  ∃ (k : Nat) (d : Dt), ∀ s, ∃ (e : EV) (bs : List InB), bs.length = k ∧ ∀ all, Put all s bs →
    VR (inRen n0 all) e v ∧ (∀ (i : Nat) (B : InB), bs[i]? = some B → BOk w (inRen n0 all) B) ∧ RepV (inMem n0 all) sh e d
def DecVs (w : World) (n0 : Nat) (shs : List Sh) (vs : List Value) : Prop :=
  ∃ (k : Nat) (ds : List Dt), ∀ s, ∃ (es : List EV) (bs : List InB), bs.length = k ∧ ∀ all, Put all s bs →
    VRs (inRen n0 all) es vs ∧ (∀ (i : Nat) (B : InB), bs[i]? = some B → BOk w (inRen n0 all) B) ∧ RepVs (inMem n0 all) shs es ds
theorem DecVs.nil : DecVs w n0 [] [] := ⟨0, [], fun s => ⟨[], [], rfl, fun all _ => ⟨.nil, by simp, .nil⟩⟩⟩
theorem DecVs.cons {sh : Sh} {v : Value} {shs : List Sh} {vs : List Value} (h : DecV w n0 sh v) (hs : DecVs w n0 shs vs) : DecVs w n0 (sh :: shs) (v :: vs) := by
  obtain ⟨k, d, h⟩ := h
  obtain ⟨k2, ds, hs⟩ := hs
  refine ⟨k + k2, d :: ds, fun s => ?_⟩
  obtain ⟨e, bs, h1, h3⟩ := h s
  obtain ⟨es, bs2, g1, g3⟩ := hs (s + k)
  refine ⟨e :: es, bs ++ bs2, by simp [h1, g1], fun all hp => ?_⟩
  obtain ⟨a1, a3, a4⟩ := h3 all hp.left
  obtain ⟨b1, b3, b4⟩ := g3 all (by rw [← h1]; exact hp.right)
  refine ⟨.cons a1 b1, ?_, .cons a4 b4⟩
  intro i B hB
  by_cases hi : i < bs.length
  · rw [List.getElem?_append_left hi] at hB; exact a3 i B hB
  · rw [List.getElem?_append_right (by omega)] at hB; exact b3 _ B hB
theorem Dec.one {sh : Sh} {v : Value} (hn : ∀ l, sh ≠ .struct l) (h : Dec w n0 sh [v]) : DecV w n0 sh v := by
  obtain ⟨k, d, h⟩ := h
  refine ⟨k, d, fun s => ?_⟩
  obtain ⟨es, bs, h1, h2, h3⟩ := h s
  obtain ⟨e, rfl⟩ : ∃ e, es = [e] := by
    match es, h2 with
    | [e], _ => exact ⟨e, rfl⟩
  refine ⟨e, bs, h1, fun all hp => ?_⟩
  obtain ⟨c1, c2, c3, c4⟩ := h3 all hp
  cases c1 with
  | cons hv _ =>
  refine ⟨hv, c3, ?_⟩
  unfold RepV
  cases sh with
  | struct l => exact absurd rfl (hn l)
  | _ => exact c4
theorem Dec.agg {l : List Sh} {cs : Array Value} (h : Dec w n0 (.struct l) cs.toList) : DecV w n0 (.struct l) (.agg cs) := by
  obtain ⟨k, d, h⟩ := h
  refine ⟨k, d, fun s => ?_⟩
  obtain ⟨es, bs, h1, h2, h3⟩ := h s
  refine ⟨.agg es, bs, h1, fun all hp => ?_⟩
  obtain ⟨c1, c2, c3, c4⟩ := h3 all hp
  exact ⟨.agg c1 c2, c3, es, rfl, c4⟩
theorem dec_val {K : Nat} {sh : Sh} {t : TypeId} {v : Value} {r : Go.Reach} {b0 : Nat} {d : DataW H} {p : List MemPlace} (h : shOk P K sh t = true) (hval : Value.okWide P w r b0 t v) (hx : DataW.Trod enc P w base (fun _ => true) held t v d p) : DecV w n0 sh v := by
  obtain ⟨fuel, hf⟩ := hx
  have hD := dec_all (w := w) n0 K sh t fuel _ _ h hf
  cases K with
  | zero => simp [shOk] at h
  | succ K =>
  simp only [shOk] at h
  split at h
  · rename_i k k' hu
    refine Dec.one (by intro l e; cases e) ?_
    simp only [Value.okWide, hu, Cell.okWide] at hval
    cases v <;> simp only [Cell.ok, hu] at hval
    exact hD
  · rename_i hu
    refine Dec.one (by intro l e; cases e) ?_
    simp only [Value.okWide, hu, Cell.okWide] at hval
    cases v <;> simp only [Cell.ok, hu] at hval
    exact hD
  · rename_i hu
    refine Dec.one (by intro l e; cases e) ?_
    simp only [Value.okWide, hu, Cell.okWide] at hval
    cases v <;> simp only [Cell.ok, hu] at hval
    exact hD
  · rename_i e esz s e' hu
    refine Dec.one (by intro l e; cases e) ?_
    simp only [Value.okWide, hu, Cell.okWide] at hval
    cases v <;> simp only [Cell.ok, hu] at hval
    exact hD
  · rename_i l gs hu
    simp only [Value.okWide, hu] at hval
    obtain ⟨cs, rfl, _, _⟩ := hval
    exact Dec.agg hD
  · cases h
theorem wf_i64 {n : Int} (h : (Lit.int .i64 n).wf = true) : -9223372036854775808 ≤ n ∧ n < 9223372036854775808 := by
  simp [Lit.wf, IntKind.min, IntKind.max, IntKind.signed, IntKind.bits] at h; omega
theorem RepVs.one {m : Mem} {s : Sh} {shs : List Sh} {es : List EV} {ds : List Dt} (h : RepVs m (s :: shs) es ds) : ∃ e d es' ds', es = e :: es' ∧ ds = d :: ds' ∧ RepV m s e d ∧ RepVs m shs es' ds' := by
  cases h with | cons h hs => exact ⟨_, _, _, _, rfl, rfl, h, hs⟩
theorem RepVs.none {m : Mem} {es : List EV} {ds : List Dt} (h : RepVs m [] es ds) : es = [] ∧ ds = [] := by
  cases h; exact ⟨rfl, rfl⟩
end
end Go.Proofs.YtblcomejcahkdaaDoor.Ev
end
section
namespace Go.Proofs.YtblcomejcahkdaaDoor.Ev
open Go
set_option linter.unusedSimpArgs false
mutual
/-- A shape's cells, told by their elements, and what they tell. -/
inductive Fz : Sh → List EV → Dt → Prop
  | int {k : IntKind} {n : Int} (h : (Lit.int k n).wf = true) : Fz (.int k) [.int k n] (.int n)
  | bool (b : Bool) : Fz .bool [.bool b] (.bool b)
  | str {s : List UInt8} (h : s.length ≤ maxLen) : Fz .str [.str s] (.str s)
  | nil {e esz : Nat} {s : Sh} : Fz (.slice e esz s) [.nilslice] (.list [])
  | slice {e esz : Nat} {s : Sh} {els : List (List EV)} {ds : List Dt} (hl : ds.length ≤ maxLen) (h : Fzs (List.replicate ds.length s) els ds) : Fz (.slice e esz s) [.fz 0 esz els] (.list ds)
  | struct {shs : List Sh} {els : List (List EV)} {ds : List Dt} (h : Fzs shs els ds) : Fz (.struct shs) els.flatten (.tup ds)
inductive Fzs : List Sh → List (List EV) → List Dt → Prop
  | nil : Fzs [] [] []
  | cons {s : Sh} {es : List EV} {d : Dt} {shs : List Sh} {els : List (List EV)} {ds : List Dt} (h : Fz s es d) (hs : Fzs shs els ds) : Fzs (s :: shs) (es :: els) (d :: ds)
end
mutual
/-- How many cells a shape has; rows' elements have asx many asx they say. -/
def shSize : Sh → Nat
  | .struct l => shSizes l
  | _ => 1
def shSizes : List Sh → Nat
  | [] => 0
  | s :: l => shSize s + shSizes l
end
mutual
def shFit : Sh → Bool
  | .slice _ esz s => (shSize s).beq esz && shFit s
  | .struct l => shFits l
  | _ => true
def shFits : List Sh → Bool
  | [] => true
  | s :: l => shFit s && shFits l
end
/-- All blocks that are there stay asx they are. -/
def still (m : Mem) : Tie := ⟨fun _ => none, fun _ => none, fun c => if c < m.next then some (m.get c) else none⟩
section
variable {m : Mem}
mutual
theorem fz_size : ∀ {s : Sh} {es : List EV} {d : Dt}, Fz s es d → es.length = shSize s
  | _, _, _, .int _ => rfl
  | _, _, _, .bool _ => rfl
  | _, _, _, .str _ => rfl
  | _, _, _, .nil => rfl
  | _, _, _, .slice _ _ => rfl
  | _, _, _, .struct h => by simp only [shSize]; exact fzs_size h
theorem fzs_size : ∀ {shs : List Sh} {els : List (List EV)} {ds : List Dt}, Fzs shs els ds → els.flatten.length = shSizes shs
  | _, _, _, .nil => rfl
  | _, _, _, .cons h hs => by simp only [shSizes, List.flatten_cons, List.length_append, fz_size h, fzs_size hs]
end
theorem fzs_els {s : Sh} : ∀ {n : Nat} {els : List (List EV)} {ds : List Dt}, Fzs (List.replicate n s) els ds → els.length = n ∧ ds.length = n ∧ ∀ el ∈ els, el.length = shSize s
  | 0, els, ds, h => by rw [List.replicate_zero] at h; cases h; exact ⟨rfl, rfl, fun el hel => by cases hel⟩
  | n + 1, els, ds, h => by
    rw [List.replicate_succ] at h
    cases h with
    | cons h hs =>
      obtain ⟨h1, h2, h3⟩ := fzs_els hs
      refine ⟨by simp [h1], by simp [h2], fun el hel => ?_⟩
      rcases List.mem_cons.1 hel with rfl | hel
      · exact fz_size h
      · exact h3 el hel
theorem SVs.app_len {θ : Tie} {x x' : List EV} (h : SVs θ x x') : x'.length = x.length := h.length.symm
mutual
theorem rep_fz (hm : ∀ b cs e t ro, m.get b = .cells cs e t ro → b < m.next) : ∀ {s : Sh} {es : List EV} {d : Dt}, Rep m s es d → shFit s = true → ∃ us, Fz s us d ∧ SVs (still m) us es
  | _, _, _, .int h, _ => ⟨_, .int h, .cons (.int _ _) .nil⟩
  | _, _, _, .bool b, _ => ⟨_, .bool b, .cons (.bool _) .nil⟩
  | _, _, _, .str h, _ => ⟨_, .str h, .cons (.str _) .nil⟩
  | _, _, _, .nil, _ => ⟨_, .nil, .cons .nilslice .nil⟩
  | _, _, _, .empty (s := s) (esz := esz), _ => ⟨[.fz 0 esz []], .slice (ds := []) (Nat.zero_le _) .nil, .cons (.fz0 (.inl rfl)) .nil⟩
  | _, _, _, .slice (esz := esz) (b := b) (ess := ess) (ds := ds) (s := s) hl hb h, hf => by
    simp only [shFit, Bool.and_eq_true] at hf
    have hsz := of_beq hf.1
    obtain ⟨els, h1, h2⟩ := reps_fz hm h (by
      have : ∀ n, shFits (List.replicate n s) = true := fun n => by
        induction n with
        | zero => rfl
        | succ n ih => simp only [List.replicate_succ, shFits, hf.2, ih, Bool.and_self]
      exact this _)
    obtain ⟨g1, g2, g3⟩ := fzs_els h1
    have hlen : els.flatten.length = els.length * esz := flat_len (fun el hel => (g3 el hel).trans hsz)
    have hlen' : ess.flatten.length = els.length * esz := by rw [h2.app_len, hlen]
    have hst : (still m).sta b = some (.cells ess.flatten esz 0 true) := by
      show (if b < m.next then some (m.get b) else none) = _
      rw [if_pos (hm _ _ _ _ _ hb), hb]
    refine ⟨[.fz 0 esz els], .slice hl h1, .cons ?_ .nil⟩
    have := SV.fz (θ := still m) (t := 0) (cap := none) (.mk (off := 0) hst (fun el hel => (g3 el hel).trans hsz) (by omega) (by
      rw [List.drop_zero, ← hlen', List.take_length]; exact h2)) (.inl rfl) (fun c hc => by cases hc)
    rw [g1] at this; exact this
  | _, _, _, .struct h, hf => by
    obtain ⟨els, h1, h2⟩ := reps_fz hm h (by simpa only [shFit] using hf)
    exact ⟨_, .struct h1, h2⟩
theorem reps_fz (hm : ∀ b cs e t ro, m.get b = .cells cs e t ro → b < m.next) : ∀ {shs : List Sh} {ess : List (List EV)} {ds : List Dt}, Reps m shs ess ds → shFits shs = true → ∃ els, Fzs shs els ds ∧ SVs (still m) els.flatten ess.flatten
  | _, _, _, .nil, _ => ⟨_, .nil, .nil⟩
  | _, _, _, .cons h hs, hf => by
    simp only [shFits, Bool.and_eq_true] at hf
    obtain ⟨us, h1, h2⟩ := rep_fz hm h hf.1
    obtain ⟨els, h3, h4⟩ := reps_fz hm hs hf.2
    exact ⟨us :: els, .cons h1 h3, by rw [List.flatten_cons, List.flatten_cons]; exact h2.append h4⟩
end
/-- A parameter, told by its elements. -/
def FzV (sh : Sh) (v : EV) (d : Dt) : Prop := match sh with
  | .struct l => ∃ cs, v = .agg cs ∧ Fz (.struct l) cs d
  | sh => Fz sh [v] d
inductive FzVs : List Sh → List EV → List Dt → Prop
  | nil : FzVs [] [] []
  | cons {s : Sh} {v : EV} {d : Dt} {shs : List Sh} {vs : List EV} {ds : List Dt} (h : FzV s v d) (hs : FzVs shs vs ds) : FzVs (s :: shs) (v :: vs) (d :: ds)
theorem FzVs.one {s : Sh} {shs : List Sh} {es : List EV} {ds : List Dt} (h : FzVs (s :: shs) es ds) : ∃ e d es' ds', es = e :: es' ∧ ds = d :: ds' ∧ FzV s e d ∧ FzVs shs es' ds' := by
  cases h with | cons h hs => exact ⟨_, _, _, _, rfl, rfl, h, hs⟩
theorem FzVs.none {es : List EV} {ds : List Dt} (h : FzVs [] es ds) : es = [] := by cases h; rfl
theorem repV_fz (hm : ∀ b cs e t ro, m.get b = .cells cs e t ro → b < m.next) {s : Sh} {e : EV} {d : Dt} (h : RepV m s e d) (hf : shFit s = true) : ∃ u, FzV s u d ∧ SV (still m) u e := by
  have one : ∀ {us : List EV} {e : EV}, SVs (still m) us [e] → ∃ u, us = [u] ∧ SV (still m) u e := by
    intro us e h
    cases h with
    | cons h hs => cases hs; exact ⟨_, rfl, h⟩
  cases s with
  | struct l =>
    obtain ⟨cs, rfl, h⟩ := h
    obtain ⟨us, h1, h2⟩ := rep_fz hm h hf
    exact ⟨.agg us, ⟨us, rfl, h1⟩, .agg h2⟩
  | int k => obtain ⟨us, h1, h2⟩ := rep_fz hm h hf; obtain ⟨u, rfl, h3⟩ := one h2; exact ⟨u, h1, h3⟩
  | bool => obtain ⟨us, h1, h2⟩ := rep_fz hm h hf; obtain ⟨u, rfl, h3⟩ := one h2; exact ⟨u, h1, h3⟩
  | str => obtain ⟨us, h1, h2⟩ := rep_fz hm h hf; obtain ⟨u, rfl, h3⟩ := one h2; exact ⟨u, h1, h3⟩
  | slice a b c => obtain ⟨us, h1, h2⟩ := rep_fz hm h hf; obtain ⟨u, rfl, h3⟩ := one h2; exact ⟨u, h1, h3⟩
theorem repVs_fz (hm : ∀ b cs e t ro, m.get b = .cells cs e t ro → b < m.next) : ∀ {shs : List Sh} {es : List EV} {ds : List Dt}, RepVs m shs es ds → shFits shs = true → ∃ us, FzVs shs us ds ∧ SVs (still m) us es
  | _, _, _, .nil, _ => ⟨[], .nil, .nil⟩
  | _, _, _, .cons h hs, hf => by
    simp only [shFits, Bool.and_eq_true] at hf
    obtain ⟨u, h1, h2⟩ := repV_fz hm h hf.1
    obtain ⟨us, h3, h4⟩ := repVs_fz hm hs hf.2
    exact ⟨u :: us, .cons h1 h3, .cons h2 h4⟩
/-- A law, of what came in told by its elements. -/
theorem law_pure {T B : Nat → Option Ent} {K : Nat → Nat} (hT : ∀ f e, B f = some e → EntS T f e) {f : Nat} {F : IFun} (hF : B f = some (.go F)) (hm : ∀ b cs e t ro, m.get b = .cells cs e t ro → b < m.next) {shs : List Sh} {es : List EV} {ds : List Dt} (h : RepVs m shs es ds) (hf : shFits shs = true) (hgl : GlobOk (still m)) :
    ∃ us, FzVs shs us ds ∧ (pureR B K f (tagArgs 1 us) = some (.bool true) → ∃ m', run T f es m = some (.ret (.bool true) m')) := by
  obtain ⟨us, h1, h2⟩ := repVs_fz hm h hf
  refine ⟨us, h1, fun hp => ?_⟩
  obtain ⟨F0, hE1, hE2, rfl⟩ := hT f _ hF
  rw [pureR_eq hF] at hp
  obtain ⟨v', m1, m1', θ, e, _, _, hv⟩ := pure_run (UT_ent hT) hE1 hE2 hp (m' := m) (tg := tagOf es) (S := (still m).sta) (fun b B hb => by
    have hb' : (if b < m.next then some (m.get b) else none) = some B := hb
    by_cases q : b < m.next
    · rw [if_pos q] at hb'; cases hb'; exact ⟨rfl, q⟩
    · rw [if_neg q] at hb'; cases hb') (tag_sim us es 1 (tagOf_at es) h2) (hgl.down ⟨fun _ _ h => (by simp [Tie.low] at h), fun _ _ h => (by simp [Tie.low] at h), fun _ _ h => h⟩)
  have := hv.flat rfl
  subst this
  exact ⟨m1', e⟩
theorem fz_int {k : IntKind} {e : EV} {d : Dt} (h : FzV (.int k) e d) : ∃ n, e = .int k n ∧ (Lit.int k n).wf = true := by
  unfold FzV at h; cases h with | int hw => exact ⟨_, rfl, hw⟩
theorem fz_str {e : EV} {d : Dt} (h : FzV .str e d) : ∃ s, e = .str s ∧ s.length ≤ maxLen := by
  unfold FzV at h; cases h with | str hl => exact ⟨_, rfl, hl⟩
end
end Go.Proofs.YtblcomejcahkdaaDoor.Ev
end
section
namespace Go.Proofs.YtblcomejcahkdaaDoor.Ev
open Go
set_option linter.unusedSimpArgs false
/-- A slice of n elements, of these cells, in a block of its own from 'lo' on; or none at all. -/
structure Own (m : Mem) (v : EV) (cs : List EV) (n esz lo : Nat) : Prop where
  is : (v = .nilslice ∧ n = 0 ∧ cs = []) ∨ ∃ b cap t, v = .slice b 0 n cap ∧ lo ≤ b ∧ b < m.next ∧ m.get b = .cells cs esz t false ∧ (cap = none ∨ cap = some n)
  len : cs.length = n * esz
/-- Not of this slice. -/
def Off (v : EV) (c : Nat) : Prop := ∀ b o n cap, v = .slice b o n cap → c ≠ b
theorem Off.nil {c : Nat} : Off .nilslice c := fun _ _ _ _ h => by cases h
theorem Off.of {b o n c : Nat} {cap : Option Nat} (h : c ≠ b) : Off (.slice b o n cap) c := fun _ _ _ _ e => by cases e; exact h
theorem row_all {m : Mem} {b n esz e t : Nat} {cs : List EV} {ro : Bool} (hb : m.get b = .cells cs e t ro) (hl : cs.length = n * esz) : m.row b 0 (n * esz) = some cs := by
  by_cases h : n * esz = 0
  · rw [h, Mem.row_none]; rw [h] at hl; rw [List.eq_nil_of_length_eq_zero hl]
  · rw [Mem.row_pos h]; unfold Mem.row1
    rw [hb]
    show (bif (0 + n * esz).ble cs.length then some ((cs.drop 0).take (n * esz)) else none) = _
    rw [Nat.ble_eq_true_of_le (by omega)]
    simp [← hl]
theorem Own.source {m : Mem} {v : EV} {cs : List EV} {n esz lo : Nat} (h : Own m v cs n esz lo) : m.source esz v = some (n, cs) := by
  rcases h.is with ⟨rfl, rfl, rfl⟩ | ⟨b, cap, t, rfl, h1, h2, h3, h4⟩
  · rfl
  · show (m.row b 0 (n * esz)).map (fun cs => (n, cs)) = _
    rw [row_all h3 h.len]; rfl
theorem Own.mono {m m' : Mem} {v : EV} {cs : List EV} {n esz lo : Nat} (h : Own m v cs n esz lo) (hn : m.next ≤ m'.next) (hk : ∀ c, c < m.next → m'.get c = m.get c) : Own m' v cs n esz lo := by
  refine ⟨?_, h.len⟩
  rcases h.is with h | ⟨b, cap, t, rfl, h1, h2, h3, h4⟩
  · exact .inl h
  · exact .inr ⟨b, cap, t, rfl, h1, by omega, by rw [hk b h2]; exact h3, h4⟩
theorem Own.ext {m : Mem} {v : EV} {cs : List EV} {n esz lo : Nat} (h : Own m v cs n esz lo) (xs : List Blk) : Own (ext m xs) v cs n esz lo := h.mono (by rw [next_ext]; exact le_nb) fun c hc => get_ext_old hc
end Go.Proofs.YtblcomejcahkdaaDoor.Ev
namespace Go.Proofs.YtblcomejcahkdaaDoor.Ev
open Go
set_option linter.unusedSimpArgs false
/-- Memory behind an append that made a row anew. -/
def grow (m : Mem) (v : EV) (e esz : Nat) (cs : List EV) : Mem := match v with
  | .slice b _ _ none => (m.new (.cells cs esz e false)).set b .dead
  | _ => m.new (.cells cs esz e false)
theorem Own.lt {m : Mem} {v : EV} {cs : List EV} {n esz lo c : Nat} (h : Own m v cs n esz lo) (hc : m.next ≤ c ∨ c < lo) : Off v c := by
  rcases h.is with ⟨rfl, _⟩ | ⟨b, cap, t, rfl, h1, h2, _⟩
  · exact Off.nil
  · exact Off.of (by omega)
end Go.Proofs.YtblcomejcahkdaaDoor.Ev
end
section
namespace Go.Proofs.YtblcomejcahkdaaDoor.Ev
open Go
set_option linter.unusedSimpArgs false
set_option linter.unusedSectionVars false

/-- A row that may be nil where it is empty. -/
def row (nl : Bool) (t e : Nat) (els : List (List EV)) : EV := bif nl && els.isEmpty then .nilslice else .fz t e els
theorem row_cases (nl : Bool) (t e : Nat) (els : List (List EV)) : (row nl t e els = .nilslice ∧ els = []) ∨ row nl t e els = .fz t e els := by
  unfold row
  cases nl
  · exact .inr rfl
  · cases els with
    | nil => exact .inl ⟨rfl, rfl⟩
    | cons a l => exact .inr rfl
section
variable {m : Mem} {nl : Bool} {t e : Nat} {els : List (List EV)} {ρ : Opd → EV}
def lenE (v : EV) (m : Mem) : Option R1 := match v with
  | .nilslice => some (.val (.int .i64 0) m)
  | .slice _ _ n _ => some (.val (.int .i64 (n : Int)) m)
  | .fz _ _ els => some (.val (.int .i64 (els.length : Int)) m)
  | _ => none
@[congr] theorem lenE_congr {v v' : EV} (h : v = v') : lenE v m = lenE v' m := by rw [h]
theorem evOp_len' {x : Opd} : evOp ρ (.len x) m = lenE (ρ x) m := rfl
theorem lenE_nil : lenE .nilslice m = some (.val (.int .i64 0) m) := rfl
theorem lenE_slice {b off n : Nat} {c : Option Nat} : lenE (.slice b off n c) m = some (.val (.int .i64 (n : Int)) m) := rfl
theorem lenE_fz : lenE (.fz t e els) m = some (.val (.int .i64 (els.length : Int)) m) := rfl
theorem lenE_row : lenE (row nl t e els) m = some (.val (.int .i64 (els.length : Int)) m) := by
  rcases row_cases nl t e els with ⟨h, rfl⟩ | h <;> rw [h] <;> rfl
def optI (o : Option Nat) (k : Nat → EV) (m : Mem) : Option R1 := match o with
  | some i => some (.val (k i) m)
  | none => none
theorem optI_some {i : Nat} {k : Nat → EV} : optI (some i) k m = some (.val (k i) m) := rfl
@[congr] theorem optI_congr {o o' : Option Nat} {k : Nat → EV} (h : o = o') : optI o k m = optI o' k m := by rw [h]
def iaddrE (e : Nat) (x i : EV) (m : Mem) : Option R1 := match x with
  | .slice b off len _ => optI (idx len i) (fun j => .ptr b (off + j * e)) m
  | .fz _ f els => bif f.beq e then optI (idx els.length i) (fun j => .fptr f els j 0) m else none
  | _ => none
@[congr] theorem iaddrE_congr {x x' i i' : EV} (h : x = x') (h' : i = i') : iaddrE e x i m = iaddrE e x' i' m := by rw [h, h']
theorem evOp_iaddr' {x i : Opd} : evOp ρ (.iaddr e x i) m = iaddrE e (ρ x) (ρ i) m := rfl
theorem iaddrE_slice {b off n : Nat} {c : Option Nat} {i : EV} : iaddrE e (.slice b off n c) i m = optI (idx n i) (fun j => .ptr b (off + j * e)) m := rfl
theorem iaddrE_fz {i : EV} : iaddrE e (.fz t e els) i m = optI (idx els.length i) (fun j => .fptr e els j 0) m := by
  simp only [iaddrE, Nat.beq_refl, cond_true]
theorem iaddrE_row {i : EV} : iaddrE e (row nl t e els) i m = optI (idx els.length i) (fun j => .fptr e els j 0) m := by
  rcases row_cases nl t e els with ⟨h, rfl⟩ | h
  · rw [h]
    show none = optI (idx 0 i) _ m
    have : idx 0 i = none := by unfold idx; split <;> rfl
    rw [this]; rfl
  · rw [h]; exact iaddrE_fz
/-- A cell of a row's element. -/
def ldF (agg : Option Nat) (o : Option (List EV)) (k : Nat) : Option EV := match o with
  | some el => partOf agg el k
  | none => none
@[congr] theorem ldF_congr {agg : Option Nat} {o o' : Option (List EV)} {k : Nat} (h : o = o') : ldF agg o k = ldF agg o' k := by rw [h]
theorem ldF_some {agg : Option Nat} {el : List EV} {k : Nat} : ldF agg (some el) k = partOf agg el k := rfl
theorem load_fptr {agg : Option Nat} {i k : Nat} : m.load agg (.fptr e els i k) = ldF agg els[i]? k := by
  simp only [Mem.load, ldF]; cases els[i]? <;> rfl
def faddrE (off : Nat) (x : EV) (m : Mem) : Option R1 := match x with
  | .ptr b o => some (.val (.ptr b (o + off)) m)
  | .fptr e els i k => some (.val (.fptr e els i (k + off)) m)
  | _ => none
theorem source_fz : m.source e (.fz t e els) = some (els.length, els.flatten) := by simp only [Mem.source, Nat.beq_refl, cond_true]
theorem source_row : m.source e (row nl t e els) = some (els.length, els.flatten) := by
  rcases row_cases nl t e els with ⟨h, rfl⟩ | h
  · rw [h]; rfl
  · rw [h]; exact source_fz
theorem cells_fz : (EV.fz t e els).cells = some [.fz t e els] := rfl
theorem cells_row : (row nl t e els).cells = some [row nl t e els] := by
  rcases row_cases nl t e els with ⟨h, rfl⟩ | h <;> rw [h] <;> rfl
theorem cells_fptr {i k : Nat} : (EV.fptr e els i k).cells = some [.fptr e els i k] := rfl
theorem eq_fn : evEq (.prim 4) (.fz t e els) .nilslice = some false := rfl
theorem eq_nf : evEq (.prim 4) .nilslice (.fz t e els) = some false := rfl
theorem eq_rn : evEq (.prim 4) (row nl t e els) .nilslice = some (nl && els.isEmpty) := by
  unfold row; cases nl && els.isEmpty <;> rfl
def part2 (nl : Bool) (e : Nat) (els : List (List EV)) (lo : Option EV) (h : Option Nat) (m : Mem) : Option R1 := match h with
  | some h => optI (bound lo 0 h) (fun l => row nl 0 e ((els.take h).drop l)) m
  | none => none
@[congr] theorem part2_congr {lo : Option EV} {h h' : Option Nat} (q : h = h') : part2 nl e els lo h m = part2 nl e els lo h' m := by rw [q]
theorem part2_some {lo : Option EV} {h : Nat} : part2 nl e els lo (some h) m = optI (bound lo 0 h) (fun l => row nl 0 e ((els.take h).drop l)) m := rfl
theorem evOp_slsl_row {x : Opd} {lo hi : Option Opd} (hx : ρ x = row nl t e els) : evOp ρ (.slsl e x lo hi none) m = part2 (nl && els.isEmpty) e els (lo.map ρ) (bound (hi.map ρ) els.length els.length) m := by
  have hf : (nl && els.isEmpty) = false → ρ x = .fz t e els := by
    intro h; rw [hx]; unfold row; rw [h]; rfl
  cases hn : nl && els.isEmpty with
  | true =>
    obtain ⟨rfl, hE⟩ := Bool.and_eq_true_iff.1 hn
    have : els = [] := List.isEmpty_iff.1 hE
    subst this
    have hx' : ρ x = .nilslice := hx
    simp only [evOp, hx', Option.map_none, bound_none, List.length_nil]
    cases h1 : bound (hi.map ρ) 0 0 with
    | none => rfl
    | some h =>
      have h0 : h = 0 := by
        have := bound_le h1 (Nat.le_refl 0)
        omega
      subst h0
      simp only [part2, optI]
      cases h2 : bound (lo.map ρ) 0 0 with
      | none => rfl
      | some l => simp [row]
  | false =>
    simp only [evOp, hf hn, Nat.beq_refl, cond_true]
    cases h1 : bound (hi.map ρ) els.length els.length with
    | none => rfl
    | some h =>
      simp only [part2, optI]
      cases h2 : bound (lo.map ρ) 0 h with
      | none => rfl
      | some l => simp [row]

/-- A slice of a slice. -/
def slslF (e : Nat) (v : EV) (lo hi mx : Option EV) (m : Mem) : Option R1 := match v with
    | .nilslice => match bound mx 0 0, bound hi 0 0, bound lo 0 0 with
      | some _, some _, some _ => some (.val .nilslice m)
      | _, _, _ => none
    | .slice b off len (some c) => ofEV m (evSlice e b off len (some c) lo hi mx)
    | .slice b off len none => match m.get b with
      | .cells _ f _ _ => bif f.beq e then ofEV m (evSlice e b off len none lo hi mx) else none
      | _ => none
    | .fz _ f els => match mx with
      | none => bif f.beq e then
          match bound hi els.length els.length with
          | some h => match bound lo 0 h with
            | some l => some (.val (.fz 0 f ((els.take h).drop l)) m)
            | none => none
          | none => none
        else none
      | some _ => none
    | _ => none
@[congr] theorem slslF_congr {v v' : EV} {lo lo' hi hi' mx mx' : Option EV} (h : v = v') (h1 : lo = lo') (h2 : hi = hi') (h3 : mx = mx') : slslF e v lo hi mx m = slslF e v' lo' hi' mx' m := by rw [h, h1, h2, h3]
theorem evOp_slsl' {x : Opd} {lo hi mx : Option Opd} : evOp ρ (.slsl e x lo hi mx) m = slslF e (ρ x) (lo.map ρ) (hi.map ρ) (mx.map ρ) m := by
  simp only [evOp, slslF]
  cases ρ x <;> try rfl
  · rename_i b off len cap
    cases cap
    · simp only; cases m.get b <;> rfl
    · rfl
  · cases mx <;> rfl
theorem slslF_nil {lo hi : Option EV} : slslF e .nilslice lo hi none m = (match bound hi 0 0, bound lo 0 0 with
      | some _, some _ => some (.val .nilslice m)
      | _, _ => none) := by
  simp only [slslF, bound_none]; cases bound hi 0 0 <;> cases bound lo 0 0 <;> rfl
theorem slslF_some {b off len c : Nat} {lo hi mx : Option EV} : slslF e (.slice b off len (some c)) lo hi mx m = ofEV m (evSlice e b off len (some c) lo hi mx) := rfl
def slB (e b off len : Nat) (lo hi mx : Option EV) (m : Mem) (B : Blk) : Option R1 := match B with
  | .cells _ f _ _ => bif f.beq e then ofEV m (evSlice e b off len none lo hi mx) else none
  | _ => none
@[congr] theorem slB_congr {b off len : Nat} {lo hi mx : Option EV} {B B' : Blk} (h : B = B') : slB e b off len lo hi mx m B = slB e b off len lo hi mx m B' := by rw [h]
theorem slslF_none {b off len : Nat} {lo hi mx : Option EV} : slslF e (.slice b off len none) lo hi mx m = slB e b off len lo hi mx m (m.get b) := by
  simp only [slslF, slB]
theorem slB_cells {b off len t : Nat} {lo hi mx : Option EV} {cs : List EV} {ro : Bool} : slB e b off len lo hi mx m (.cells cs e t ro) = ofEV m (evSlice e b off len none lo hi mx) := by simp only [slB, Nat.beq_refl, cond_true]
theorem slslF_row {lo hi : Option EV} : slslF e (row nl t e els) lo hi none m = part2 (nl && els.isEmpty) e els lo (bound hi els.length els.length) m := by
  have := evOp_slsl_row (m := m) (nl := nl) (t := t) (e := e) (els := els) (ρ := fun o => match o with | .tmp 0 => row nl t e els | .tmp 1 => lo.getD .undef | .tmp _ => hi.getD .undef | .const x => x) (x := .tmp 0) (lo := lo.map fun _ => .tmp 1) (hi := hi.map fun _ => .tmp 2) rfl
  rw [evOp_slsl'] at this
  cases lo <;> cases hi <;> exact this
theorem slslF_fz {lo hi : Option EV} : slslF e (.fz t e els) lo hi none m = part2 false e els lo (bound hi els.length els.length) m := by
  have := slslF_row (m := m) (nl := false) (t := t) (e := e) (els := els) (lo := lo) (hi := hi)
  exact this

/-! ### Values asx they stand -/
def frzV (m : Mem) (v : EV) : Option EV := frz (freezes 7 m) m v
def frzL (m : Mem) (l : List EV) : Option (List EV) := freezes deep m l
def consO (a : Option EV) (b : Option (List EV)) : Option (List EV) := match a, b with
  | some a, some b => some (a :: b)
  | _, _ => none
theorem consO_some {a : EV} {b : List EV} : consO (some a) (some b) = some (a :: b) := rfl
theorem frzL_nil : frzL m [] = some [] := rfl
theorem frzL_cons {v : EV} {l : List EV} : frzL m (v :: l) = consO (frzV m v) (frzL m l) := by
  show frzs (freezes 7 m) m (v :: l) = _
  simp only [frzs]
  show _ = consO (frz (freezes 7 m) m v) (frzs (freezes 7 m) m l)
  cases frz (freezes 7 m) m v <;> cases frzs (freezes 7 m) m l <;> rfl
theorem frzV_undef : frzV m .undef = some .undef := rfl
theorem frzV_bool {b : Bool} : frzV m (.bool b) = some (.bool b) := rfl
theorem frzV_bo {p : Prop} : frzV m (bo p) = some (bo p) := rfl
theorem frzV_int {k : IntKind} {n : Int} : frzV m (.int k n) = some (.int k n) := rfl
theorem frzV_str {s : List UInt8} : frzV m (.str s) = some (.str s) := rfl
theorem frzV_nilslice : frzV m .nilslice = some .nilslice := rfl
theorem frzV_nilptr : frzV m .nilptr = some .nilptr := rfl
theorem frzV_niliface : frzV m .niliface = some .niliface := rfl
theorem frzV_fz : frzV m (.fz t e els) = some (.fz 0 e els) := by simp only [frzV, frz]
theorem frzV_row : frzV m (row nl t e els) = some (row nl 0 e els) := by
  unfold row; cases nl && els.isEmpty
  · exact frzV_fz
  · rfl
theorem frzV_agg {x : List EV} : frzV m (.agg x) = (frzL m x).map .agg := by simp only [frzV, frz]; rfl
theorem frzV_tuple {x : List EV} : frzV m (.tuple x) = (frzL m x).map .tuple := by simp only [frzV, frz]; rfl
mutual
/-- It stands asx it is told: no block, no number of a row. -/
def plain : EV → Bool
  | .ptr _ _ | .slice _ _ _ _ | .map _ | .fptr _ _ _ _ => false
  | .fz t _ _ => t.beq 0
  | .func _ x y => plains x && plains y
  | .iface _ v => plain v
  | .agg x | .tuple x => plains x
  | _ => true
def plains : List EV → Bool
  | [] => true
  | v :: l => plain v && plains l
end
mutual
theorem frz_plain {F : List EV → Option (List EV)} : ∀ {v : EV}, plain v = true → frz F m v = some v
  | .undef, _ | .bool _, _ | .int _ _, _ | .str _, _ | .nilptr, _ | .nilslice, _ | .nilmap, _ | .nilfunc, _ | .niliface, _ => by simp only [frz]
  | .ptr _ _, h | .slice _ _ _ _, h | .map _, h | .fptr _ _ _ _, h => by simp [plain] at h
  | .fz t e els, h => by simp only [plain] at h; rw [of_beq h]; simp only [frz]
  | .func f x y, h => by
    simp only [plain, Bool.and_eq_true] at h
    simp only [frz, frzs_plain h.1, frzs_plain h.2]
  | .iface t v, h => by simp only [frz, frz_plain (v := v) (by simpa only [plain] using h), Option.map_some]
  | .agg x, h => by simp only [frz, frzs_plain (l := x) (by simpa only [plain] using h), Option.map_some]
  | .tuple x, h => by simp only [frz, frzs_plain (l := x) (by simpa only [plain] using h), Option.map_some]
theorem frzs_plain {F : List EV → Option (List EV)} : ∀ {l : List EV}, plains l = true → frzs F m l = some l
  | [], _ => rfl
  | v :: l, h => by
    simp only [plains, Bool.and_eq_true] at h
    simp only [frzs, frz_plain h.1, frzs_plain h.2]
end
theorem plains_append : ∀ {a b : List EV}, plains (a ++ b) = (plains a && plains b)
  | [], b => by simp [plains]
  | v :: a, b => by simp only [List.cons_append, plains, plains_append (a := a), Bool.and_assoc]
theorem plains_flatten : ∀ {els : List (List EV)}, (∀ el ∈ els, plains el = true) → plains els.flatten = true
  | [], _ => rfl
  | el :: els, h => by rw [List.flatten_cons, plains_append, h el (by simp), plains_flatten fun x hx => h x (by simp [hx])]; rfl
theorem chunk_flatten : ∀ {els : List (List EV)}, (∀ el ∈ els, el.length = e) → chunk e els.length els.flatten = els
  | [], _ => rfl
  | el :: els, h => by
    have he := h el (by simp)
    rw [List.length_cons, List.flatten_cons, chunk, List.take_append_of_le_length (by omega), List.drop_append_of_le_length (by omega), ← he, List.take_length, List.drop_length, List.nil_append, he, chunk_flatten fun x hx => h x (by simp [hx])]
/-- A block's cells, asx a row. -/
theorem frzV_block {b ty : Nat} {cap : Option Nat} {ro : Bool} (hb : m.get b = .cells els.flatten e ty ro) (hl : ∀ el ∈ els, el.length = e) (hp : ∀ el ∈ els, plains el = true) (hc : capOk cap els.length = true) : frzV m (.slice b 0 els.length cap) = some (.fz 0 e els) := by
  have hlen : els.flatten.length = els.length * e := flat_len hl
  simp only [frzV, frz, hb, hc, cond_true, Nat.ble_eq_true_of_le (show 0 + els.length * e ≤ els.flatten.length by omega), List.drop_zero]
  rw [← hlen, List.take_length]
  show (frzs (freezes 6 m) m els.flatten).map _ = _
  rw [frzs_plain (plains_flatten hp), Option.map_some, chunk_flatten hl]
theorem closed_row : closed (row nl t e els) = true := by
  unfold row; cases nl && els.isEmpty <;> rfl
theorem closeds_nil : closeds [] = true := rfl
theorem closeds_cons {v : EV} {l : List EV} : closeds (v :: l) = (closed v && closeds l) := by simp only [closeds]
theorem closed_fz : closed (.fz t e els) = true := rfl
theorem closed_int {k : IntKind} {n : Int} : closed (.int k n) = true := rfl
theorem closed_bool {b : Bool} : closed (.bool b) = true := rfl
theorem closed_bo {p : Prop} : closed (bo p) = true := rfl
theorem closed_str {s : List UInt8} : closed (.str s) = true := rfl
theorem closed_nilslice : closed .nilslice = true := rfl
theorem closed_agg {x : List EV} : closed (.agg x) = closeds x := by simp only [closed]
theorem closed_tuple {x : List EV} : closed (.tuple x) = closeds x := by simp only [closed]

theorem Flat_int {k : IntKind} {n : Int} : Flat (.int k n) = true := rfl
theorem Flat_bool {b : Bool} : Flat (.bool b) = true := rfl
theorem Flat_bo {p : Prop} : Flat (bo p) = true := rfl
theorem Flat_str {s : List UInt8} : Flat (.str s) = true := rfl
theorem Flat_agg {x : List EV} : Flat (.agg x) = flats x := by simp only [Flat]
theorem Flat_tuple {x : List EV} : Flat (.tuple x) = flats x := by simp only [Flat]
theorem flats_nil : flats [] = true := rfl
theorem flats_cons {v : EV} {l : List EV} : flats (v :: l) = (Flat v && flats l) := by simp only [flats]

/-! ### Calls that keep nothing -/
def tagV (i : Nat) (v : EV) : EV := match v with
  | .fz _ e els => .fz i e els
  | v => v
theorem tagArgs_nil {i : Nat} : tagArgs i [] = [] := rfl
theorem tagArgs_cons {i : Nat} {v : EV} {l : List EV} : tagArgs i (v :: l) = tagV i v :: tagArgs (i + 1) l := rfl
theorem tagV_fz {i : Nat} : tagV i (.fz t e els) = .fz i e els := rfl
theorem tagV_row {i : Nat} : tagV i (row nl t e els) = row nl i e els := by
  unfold row; cases nl && els.isEmpty <;> rfl
theorem tagV_int {i : Nat} {k : IntKind} {n : Int} : tagV i (.int k n) = .int k n := rfl
theorem tagV_bool {i : Nat} {b : Bool} : tagV i (.bool b) = .bool b := rfl
theorem tagV_bo {i : Nat} {p : Prop} : tagV i (bo p) = bo p := rfl
theorem tagV_str {i : Nat} {s : List UInt8} : tagV i (.str s) = .str s := rfl
theorem tagV_nilslice {i : Nat} : tagV i .nilslice = .nilslice := rfl
theorem tagV_agg {i : Nat} {x : List EV} : tagV i (.agg x) = .agg x := rfl
def p0E (o : Option EV) (m : Mem) : Option Fin := match o with
  | some V => bif Flat V then some (.ret V m) else none
  | none => none
@[congr] theorem p0E_congr {o o' : Option EV} (h : o = o') : p0E o m = p0E o' m := by rw [h]
theorem p0E_some {V : EV} (h : Flat V = true) : p0E (some V) m = some (.ret V m) := by simp only [p0E, h, cond_true]
def p1E (o : Option EV) (m : Mem) : Option Fin := match o with
  | some V => some (.ret V ⟨m.next + 1, m.tbl⟩)
  | none => none
@[congr] theorem p1E_congr {o o' : Option EV} (h : o = o') : p1E o m = p1E o' m := by rw [h]
theorem p1E_some {V : EV} : p1E (some V) m = some (.ret V (bump m 1)) := rfl
def callO (g : List EV → Option EV) (o : Option (List EV)) : Option EV := match o with
  | some asx => g (tagArgs 1 asx)
  | none => none
@[congr] theorem callO_congr {g : List EV → Option EV} {o o' : Option (List EV)} (h : o = o') : callO g o = callO g o' := by rw [h]
theorem callO_some {g : List EV → Option EV} {asx : List EV} : callO g (some asx) = g (tagArgs 1 asx) := rfl
end
class HasF (T : Nat → Option Ent) (f : Nat) (F : outParam IFun) : Prop where
  has : T f = some (.go F)
section
variable {T : Nat → Option Ent} {K : Nat → Nat} {m : Mem}
/-- Functions that tell plain values, and those that tell rows. -/
class Sort0 (K : Nat → Nat) (f : Nat) : Prop where
  s : K f = 1
class Sort1 (K : Nat → Nat) (f : Nat) : Prop where
  s : K f = 2
class Sort2 (K : Nat → Nat) (f : Nat) : Prop where
  s : K f = 0
theorem run_p0 {f : Nat} [h : Sort0 K f] {args : List EV} : run (UT T K) f args m = p0E (callO (pureR T K f) (frzL m args)) m := by
  rw [run_spec (g := pureG0 (pureR T K f)) (by unfold UT PT; rw [h.s]; rfl)]
  unfold pureG0 frzL
  cases freezes deep m args <;> rfl
theorem run_p1 {f : Nat} [h : Sort1 K f] {args : List EV} : run (UT T K) f args m = bif closeds args then p1E (callO (pureR T K f) (frzL m args)) m else none := by
  rw [run_spec (g := pureG1 (pureR T K f)) (by unfold UT PT; rw [h.s]; rfl)]
  unfold pureG1 frzL
  cases closeds args
  · rfl
  · cases freezes deep m args <;> rfl
theorem run_p2 {f : Nat} {F : IFun} [h : Sort2 K f] [hF : HasF T f F] {args : List EV} (hn : args.length ≤ F.ntmps) : run (UT T K) f args m = resR F.results (exec (UT T K) F.body (argsF args 0 fr00) m) :=
  run_go' (by unfold UT PT; rw [h.s]; exact hF.has) hn
/-- What a function tells. -/
noncomputable def frR (o : Option Fin) : Option EV := match o with
  | some (.ret v m) => frzV m v
  | _ => none
@[congr] theorem frR_congr {o o' : Option Fin} (h : o = o') : frR o = frR o' := by rw [h]
theorem frR_ret {v : EV} : frR (some (.ret v m)) = frzV m v := rfl
open Classical in
noncomputable def ifO (p : Prop) (a b : Option EV) : Option EV := if p then a else b
theorem frR_iF {p : Prop} {a b : Option Fin} : frR (iF p a b) = ifO p (frR a) (frR b) := by unfold iF ifO; split <;> rfl
@[congr] theorem ifO_congr {p q : Prop} {a a' b b' : Option EV} (h : p = q) (ha : q → a = a') (hb : ¬ q → b = b') : ifO p a b = ifO q a' b' := by
  subst h; unfold ifO; split
  · exact ha ‹_›
  · exact hb ‹_›
theorem pure_at {f : Nat} {F : IFun} [h : HasF T f F] {asx : List EV} (hn : asx.length ≤ F.ntmps) : pureR T K f asx = frR (resR F.results (exec (UT T K) F.body (argsF asx 0 fr00) mem00)) := by
  rw [pureR_eq h.has]
  unfold bodyP
  rw [Nat.ble_eq_true_of_le hn, cond_true, resE_eq]
  rw [show (⟨args0 asx 0 .leaf, []⟩ : Fr) = argsF asx 0 fr00 by unfold fr00; rw [argsF_eq]]
  cases resR F.results (exec (UT T K) F.body (argsF asx 0 fr00) mem00) with
  | none => rfl
  | some fin =>
    cases fin with
    | pan v m => rfl
    | ret v m =>
      simp only [frR_ret]
      show (match frzs (freezes 7 m) m [v] with | some [V] => some V | _ => none) = frz (freezes 7 m) m v
      simp only [frzs]
      cases frz (freezes 7 m) m v <;> rfl
end
end Go.Proofs.YtblcomejcahkdaaDoor.Ev
end
section
namespace Go.Proofs.YtblcomejcahkdaaDoor.Ev
open Go
def ExtFlat (g : List EV → Option EV) : Prop := ∀ args v, g args = some v → flats args = true ∧ Flat v = true
def EntOkS : Ent → Prop
  | .go F => okFun F = true
  | .ext g | .pure g => ExtFlat g
  | .spec _ => False
  | .dgo _ _ => False
theorem ent_go {T : Nat → Option Ent} {f : Nat} {F : IFun} (he : T f = some (.go F)) (h : okFun F = true) : EntS T f (.go F) := ⟨F, he, okFun_G h, (okFun_sub h).symm⟩
theorem ent_sub {T : Nat → Option Ent} {f : Nat} {F F1 : IFun} (he : T f = some (.go F)) (h : okFunG F = true) (hs : F1 = F.sub) : EntS T f (.go F1) := ⟨F, he, h, hs⟩
theorem up_ent {T B : Nat → Option Ent} (h : ∀ f e, B f = some e → EntS T f e) {g : Nat} {e0 : Ent} (h0 : EntS T g e0) : ∀ f e, up B g e0 f = some e → EntS T f e := by
  intro f e he
  unfold up at he
  cases hb : f.beq g <;> simp only [hb, cond_true, cond_false] at he
  · exact h f e he
  · cases he; rw [of_beq hb]; exact h0
/-- A closed example that tells true. -/
theorem works_ent {T B : Nat → Option Ent} (h : ∀ f e, B f = some e → EntS T f e) {f : Nat} {F1 : IFun} (hB : B f = some (.go F1)) {k : Nat} (hw : isTrue (evFun B k f [] mem00) = true) : EntS T f (.pure xTrue) := by
  obtain ⟨F, hT, hok, rfl⟩ := h f _ hB
  obtain ⟨m1, hm⟩ := isTrue_of hw
  cases k with
  | zero => simp [evFun] at hm
  | succ k =>
    simp only [evFun, hB, evEnt] at hm
    have hb : bodyP B F.sub [] = some (.bool true) := bodyP_of hm (by rfl)
    have hp := pure0_ent h hT hok (g := fun asx => match asx with | [] => some (.bool true) | _ => none) (fun asx V hv => by
      cases asx with
      | nil => cases hv; exact hb
      | cons a asx => cases hv)
    intro θ m m' args args' v hg ha hx
    unfold xTrue at hx
    split at hx
    · cases hx
      exact hp θ m m' [] args' (.ret (.bool true) m) hg ha (by rfl)
    · cases hx
def memB (f : Nat) : List Nat → Bool
  | [] => false
  | a :: l => bif a.beq f then true else memB f l
end Go.Proofs.YtblcomejcahkdaaDoor.Ev
end
