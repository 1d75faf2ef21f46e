/- EvFzRun, EvPure, EvRec, EvArgs, EvIn, EvFzIn, EvSlice, EvRow, EvUp, EvS, EvA. -/
import Derived.WideShapes
import Derived.Deep.Slices
import Derived.Test.YtdiccmapankckaaDoorMe
set_option linter.unusedSimpArgs false
set_option linter.unusedVariables false
set_option linter.unusedSectionVars false
set_option linter.defProp false
set_option maxRecDepth 20000
set_option maxHeartbeats 8000000
namespace Go.Proofs.YtdiccmapankckaaDoor.Ev
open Go
section
def MP : Aq -> Bool
 | .val op => QC op
 | .call f args | .defer f args => Bn f && args.all Bn
 | .panic x => Bn x
def AJ (o : ba) : Bool := MP o.op
def kP : aE -> Bool
 | .region ops | .draw ops _ => ops.all AJ
 | .seq a b => kP a && kP b
 | .cond c a b => Bn c && kP a && kP b
 | .block _ a | .loop a => kP a
 | _ => true
inductive Fu (θ : cF) : List (Nat × List EV) -> List (Nat × List EV) -> Prop
 | nil : Fu θ [] []
 | cons {g : Nat} {x x' : List EV} {l l' : List (Nat × List EV)} (hx : dT θ x x') (h : Fu θ l l') : Fu θ ((g, x) :: l) ((g, x') :: l')
theorem Fu.ext {θ θ' : cF} (e : cF.Ext θ θ') : ∀ {l l' : List (Nat × List EV)}, Fu θ l l' -> Fu θ' l l'
 | _, _, .nil => .nil
 | _, _, .cons hx h => .cons (hx.ext e) (Fu.ext e h)
theorem Fu.none {θ : cF} {l l' : List (Nat × List EV)} (h : Fu θ l l') (e : l = []) : l' = [] := by cases h with | nil => rfl | cons _ _ => cases e
structure BU (θ : cF) (fr fr' : Fr) : Prop where
 tmp : ∀ t, SV θ (fr.get t) (fr'.get t)
 NX : Fu θ fr.defers fr'.defers
theorem BU.ext {θ θ' : cF} (e : cF.Ext θ θ') {fr fr' : Fr} (h : BU θ fr fr') : BU θ' fr fr' := ⟨fun t => (h.tmp t).ext e, h.NX.ext e⟩
theorem BU.put {θ : cF} {fr fr' : Fr} (h : BU θ fr fr') {v v' : EV} (hv : SV θ v v') (d : Option Nat) : BU θ (fr.put d v) (fr'.put d v') := by
 cases d with
 | none => exact h
 | some d =>
  refine ⟨fun t => ?_, h.NX⟩
  show SV θ ((fr.set d v).get t) ((fr'.set d v').get t)
  rw [Fr.bW, Fr.bW]
  split
  ·exact hv
  ·exact h.tmp t
theorem BU.ops {θ : cF} {fr fr' : Fr} (h : BU θ fr fr') (g : mG θ) : ya θ (fun x => fr.eval (jE x)) fr'.eval := by
 intro x hx
 cases x with
 | tmp t => exact h.tmp t
 | const v => exact SE g hx
structure ob (θ : cF) (m m' : Mem) (θ' : cF) (m1 fU : Mem) : Prop where
 ext : cF.Ext θ θ'
 g9 : ∀ b c, θ'.g9 b = some c -> θ.g9 b = some c \/ (m.next <= b /\ m'.next <= c)
 gQ : ∀ c B, θ'.gQ c = some B -> θ.gQ c = some B \/ (m'.next <= c /\ m.next < m1.next)
 n1 : m.next <= m1.next
 n2 : m'.next <= fU.next
 rJ : ∀ c, c < m'.next -> (∀ b, θ.g9 b ≠ some c) -> fU.get c = m'.get c
theorem ob.refl (θ : cF) (m m' : Mem) : ob θ m m' θ m m' := ⟨.refl θ, fun _ _ h => .inl h, fun _ _ h => .inl h, fy _, fy _, fun _ _ _ => rfl⟩
theorem ob.trans {θ θ1 θ2 : cF} {m m' m1 fU m2 Sr : Mem} (h : ob θ m m' θ1 m1 fU) (k : ob θ1 m1 fU θ2 m2 Sr) : ob θ m m' θ2 m2 Sr := by
 have a1 := h.n1; have a2 := h.n2; have b1 := k.n1; have b2 := k.n2
 refine ⟨h.ext.trans k.ext, fun b c e => ?_, fun c B e => ?_, by omega, by omega, fun c hc hr => ?_⟩
 ·rcases k.g9 b c e with e | ⟨e1, e2⟩
  ·exact h.g9 b c e
  ·exact .inr ⟨by omega, by omega⟩
 ·rcases k.gQ c B e with e | ⟨e1, e2⟩
  ·rcases h.gQ c B e with e | ⟨e1, e2⟩
   ·exact .inl e
   ·exact .inr ⟨e1, by omega⟩
  ·exact .inr ⟨by omega, by omega⟩
 ·rw [k.rJ c (by omega) fun b e => ?_, h.rJ c hc hr]
  rcases h.g9 b c e with e | ⟨e1, e2⟩
  ·exact hr b e
  ·omega
def Fin.mem : Fin -> Mem
 | .ret _ m | .gI _ m => m
def Out.mem : Out -> Mem
 | .norm _ m | .exit _ _ m | .ret _ m | .gI _ _ m => m
inductive Wp (θ : cF) : Fin -> Fin -> Prop
 | ret {v v' : EV} {m m' : Mem} (hv : SV θ v v') (hg : gM θ m m') : Wp θ (.ret v m) (.ret v' m')
 | gI {v v' : EV} {m m' : Mem} (hv : SV θ v v') (hg : gM θ m m') : Wp θ (.gI v m) (.gI v' m')
inductive KA (θ : cF) : Out -> Out -> Prop
 | norm {fr fr' : Fr} {m m' : Mem} (hf : BU θ fr fr') (hg : gM θ m m') : KA θ (.norm fr m) (.norm fr' m')
 | exit {id : Nat} {fr fr' : Fr} {m m' : Mem} (hf : BU θ fr fr') (hg : gM θ m m') : KA θ (.exit id fr m) (.exit id fr' m')
 | ret {fr fr' : Fr} {m m' : Mem} (hf : BU θ fr fr') (hg : gM θ m m') : KA θ (.ret fr m) (.ret fr' m')
 | gI {v v' : EV} {fr fr' : Fr} {m m' : Mem} (hv : SV θ v v') (hf : BU θ fr fr') (hg : gM θ m m') : KA θ (.gI v fr m) (.gI v' fr' m')
def vu (θ : cF) (m m' : Mem) (fin : Fin) (o : Option Fin) : Prop := ∃ θ' JY, o = some JY /\ Wp θ' fin JY /\ ob θ m m' θ' fin.mem JY.mem
def si (θ : cF) (m m' : Mem) (out : Out) (o : Option Out) : Prop := ∃ θ' BH, o = some BH /\ KA θ' out BH /\ ob θ m m' θ' out.mem BH.mem
def Ao (T : Nat -> Option iq) (call : Call) : Prop := ∀ f args m fin, call f args m = some fin -> ∀ θ m' ay, gM θ m m' -> dT θ args ay -> vu θ m m' fin (run T f ay m')
theorem si.after {θ θ1 : cF} {m m' m1 fU : Mem} {out : Out} {o : Option Out} (h : ob θ m m' θ1 m1 fU) (k : si θ1 m1 fU out o) : si θ m m' out o := by
 obtain ⟨θ2, BH, e, ho, hs⟩ := k
 exact ⟨θ2, BH, e, ho, h.trans hs⟩
section
variable {T : Nat -> Option iq} {call : Call}
theorem IC.ux {θ : cF} {m m' m1 : Mem} {v : EV} {o : Option R1} (hg : gM θ m m') (h : IC θ m m' v m1 o) : ∃ θ' v' fU, o = some (.val v' fU) /\ SV θ' v v' /\ gM θ' m1 fU /\ ob θ m m' θ' m1 fU := by
 obtain ⟨v', fU, e, hc, hk⟩ := h
 rcases hc with ⟨h1, h2, h3, h4⟩ | ⟨h1, h2, h3, h4⟩
 ·exact ⟨θ, v', fU, e, h1, ⟨h2, by rw [h3, h4]; exact hg.ok, hg.Fy⟩, ⟨.refl θ, fun _ _ h => .inl h, fun _ _ h => .inl h, by omega, by omega, fun c hc hr => hk c (by omega) hr⟩⟩
 ·have f := hg.ok.fresh (fy m.next) (fy m'.next)
  refine ⟨_, v', fU, e, h1, ⟨h2, by rw [h3, h4]; exact hg.ok.more f (by omega) (by omega) (by omega) (by omega), hg.Fy.ext f.ext⟩, ⟨f.ext, fun b c hb => ?_, fun _ _ h => .inl h, by omega, by omega, fun c hc hr => hk c (by omega) hr⟩⟩
  have BQ : (if b = m.next then some m'.next else θ.g9 b) = some c := hb
  by_cases hx : b = m.next
  ·rw [if_pos hx] at BQ; cases BQ; exact .inr ⟨by omega, fy _⟩
  ·rw [if_neg hx] at BQ; exact .inl BQ
theorem DP {θ : cF} {fr fr' : Fr} (h : BU θ fr fr') {g : Option (Nat × Bool)} {b : Bool} (hw : bh fr g = some b) : bh fr' g = some b := by
 cases g with
 | none => exact hw
 | some p =>
  obtain ⟨t, w⟩ := p
  simp only [bh] at hw ⊢
  have := h.tmp t
  generalize fr.get t = x at this hw; generalize fr'.get t = x' at this
  cases this <;> first | exact hw | simp at hw
theorem Jg {d : Option Nat} {op : Aq} {g : Option (Nat × Bool)} {l : List ba} {fr : Fr} {m : Mem} {b : Bool} (h : bh fr g = some b) : oq T (⟨d, op, g⟩ :: l) fr m = bif b then oq T (⟨d, op, none⟩ :: l) fr m else oq T l (fr.put d .undef) m := by
 cases g with
 | none => simp only [bh, bf] at h; subst h; rfl
 | some p =>
  obtain ⟨t, w⟩ := p
  rw [uQ];simp only [bh] at h
  cases hx : fr.get t <;> simp only [hx, reduceCtorEq, bf] at h
  ·subst h; rfl
  ·subst h; rfl
theorem L2 {chk : List (Nat × Nat)} {B0 i : Nat} {sn : List (Nat × Mem)} {se : List Seen} {d : Option Nat} {op : Aq} {g : Option (Nat × Bool)} {l : List ba} {fr : Fr} {m : Mem} {b : Bool} (h : bh fr g = some b) :
  kZ T chk B0 (⟨d, op, g⟩ :: l) i fr m sn se = bif b then kZ T chk B0 (⟨d, op, none⟩ :: l) i fr m sn se else kZ T chk B0 l (i + 1) (fr.put d .undef) m sn se := by
 cases g with
 | none => simp only [bh, bf] at h; subst h; rfl
 | some p =>
  obtain ⟨t, w⟩ := p
  rw [j4];simp only [bh] at h
  cases hx : fr.get t <;> simp only [hx, reduceCtorEq, bf] at h
  ·subst h; rfl
  ·subst h; rfl
theorem Lf {d : Option Nat} {f : aW} {args : List aW} {l : List ba} {fr : Fr} {m : Mem} {g : Nat} {x y : List EV} (h : fr.eval f = .func g x y) : oq T (⟨d, .defer f args, none⟩ :: l) fr m = oq T l (Fr.put ⟨fr.tmps, (g, x ++ args.map fr.eval ++ y) :: fr.defers⟩ d .undef) m := by
 refine dh fun r => ?_
 rw [gu];simp only [gR, bh, h];exact gu.symm
theorem SV.EM {θ : cF} {g : Nat} {x y : List EV} {v' : EV} (h : SV θ (.func g x y) v') : ∃ x' y', v' = .func g x' y' /\ dT θ x x' /\ dT θ y y' := by
 cases h with | func h1 h2 => exact ⟨_, _, rfl, h1, h2⟩
theorem Kg {fv : EV} {eQ : List EV} {m : Mem} {fin : Fin} (h : fP call fv eQ m = some fin) : ∃ g x y, fv = .func g x y /\ call g (x ++ eQ ++ y) m = some fin := by
 cases fv <;> first | exact ⟨_, _, _, rfl, h⟩ | (simp only [fP, reduceCtorEq] at h)
theorem SV.abb {θ : cF} {a b : EV} (h : SV θ a b) : Gz b = false := by cases h <;> rfl
theorem ML (bD : Ao T call) : ∀ (l : List ba) (fr : Fr) (m : Mem) (out : Out), gR call (l.map ba.sub) fr m = some out -> l.all AJ = true -> ∀ (θ : cF) (fr' : Fr) (m' : Mem), BU θ fr fr' -> gM θ m m' -> si θ m m' out (oq T l fr' m')
 | [], fr, m, out, h, _, θ, fr', m', hf, hg => by
  simp only [List.map_nil, gR, bf] at h; subst h
  exact ⟨θ, _, uP, .norm hf hg, .refl _ _ _⟩
 | o :: l, fr, m, out, h, eh, θ, fr', m', hf, hg => by
  have ih := ML bD l
  simp only [List.all_cons, pI] at eh;obtain ⟨d, op, g⟩ := o
  simp only [List.map_cons, ba.sub, gR] at h
  cases hw : bh fr g with
  | none => simp [hw] at h
  | some b =>
  rw [Jg (DP hf hw)]
  cases b with
  | false =>
   simp only [hw] at h;exact ih _ _ _ h eh.2 θ _ _ (hf.put .undef d) hg
  | true =>
   simp only [hw] at h;simp only [cond_true]
   cases op with
   | val op =>
    simp only [Aq.sub, GM] at h
    cases he : aB (fun x => fr.eval (jE x)) op m with
    | none => simp [he] at h
    | some q =>
     obtain ⟨v, m1⟩ := q
     simp only [he] at h;obtain ⟨θ', v', fU, e1, e2, e3, e4⟩ := IC.ux hg (Hu (hf.ops hg.Fy) hg.toMemS hg.ok (hg.ok.fresh (fy _) (fy _)) eh.1 he)
     rw [rB, e1];exact si.after e4 (ih _ _ _ h eh.2 θ' _ _ ((hf.ext e4.ext).put e2 d) e3)
   | call f args =>
    have xj := eh.1
    simp only [AJ, MP, pI] at xj;simp only [Aq.sub, List.map_map, Function.comp_def] at h;have JN : SV θ (fr.eval (jE f)) (fr'.eval f) := (hf.ops hg.Fy) f xj.1
    have HX : dT θ (args.map fun x => fr.eval (jE x)) (args.map fr'.eval) := ya.list (hf.ops hg.Fy) xj.2
    cases rP : fP call (fr.eval (jE f)) (args.map fun x => fr.eval (jE x)) m with
    | none => rw [rP] at h; cases h
    | some fin =>
     obtain ⟨gg, x, y, ji, hc⟩ := Kg rP
     rw [ji] at JN;obtain ⟨x', y', Rx, hx, hy⟩ := JN.EM
     rw [mw, Rx, oM];obtain ⟨θ', JY, e1, e2, e3⟩ := bD _ _ _ _ hc θ m' _ hg ((hx.append HX).append hy)
     rw [e1]
     cases e2 with
     | ret hv uA =>
      rw [rP] at h; simp only at h
      exact si.after e3 (ih _ _ _ h eh.2 θ' _ _ ((hf.ext e3.ext).put hv d) uA)
     | gI hv uA =>
      rw [rP] at h; simp only [bf] at h
      subst h;exact ⟨θ', _, rfl, .gI hv (hf.ext e3.ext) uA, e3⟩
   | panic x =>
    have hx : SV θ (fr.eval (jE x)) (fr'.eval x) := (hf.ops hg.Fy) x eh.1
    simp only [Aq.sub] at h
    cases XF : fr.eval (jE x) <;> simp only [XF, reduceCtorEq, bf] at h
    rename_i t v
    rw [XF] at hx;generalize abq : fr'.eval x = w at hx
    cases hx with
    | iface hv =>
     rw [Ld abq];subst h;exact ⟨θ, _, rfl, .gI (.iface hv) hf hg, .refl _ _ _⟩
   | defer f args =>
    have xj := eh.1
    simp only [AJ, MP, pI] at xj;simp only [Aq.sub, List.map_map, Function.comp_def] at h;have JN : SV θ (fr.eval (jE f)) (fr'.eval f) := (hf.ops hg.Fy) f xj.1
    have HX : dT θ (args.map fun x => fr.eval (jE x)) (args.map fr'.eval) := ya.list (hf.ops hg.Fy) xj.2
    cases ji : fr.eval (jE f) <;> simp only [ji, reduceCtorEq] at h
    rename_i gg x y
    rw [ji] at JN;obtain ⟨x', y', Rx, hx, hy⟩ := JN.EM
    rw [Lf Rx];exact ih _ _ _ h eh.2 θ _ _ (BU.put (fr := ⟨fr.tmps, _ :: fr.defers⟩) (fr' := ⟨fr'.tmps, _ :: fr'.defers⟩) ⟨hf.tmp, .cons ((hx.append HX).append hy) hf.NX⟩ .undef d) hg
structure YS (θ : cF) (m : Mem) (s s' : Nat × Mem) : Prop where
 i : s'.1 = s.1
 de : MemB θ s.2 s'.2
 le : s.2.next <= m.next
 gQ : s.2.next = m.next -> ∀ c B, θ.gQ c = some B -> s'.2.get c = B
inductive la (θ : cF) (m : Mem) : List (Nat × Mem) -> List (Nat × Mem) -> Prop
 | nil : la θ m [] []
 | cons {s s' : Nat × Mem} {l l' : List (Nat × Mem)} (h : YS θ m s s') (hs : la θ m l l') : la θ m (s :: l) (s' :: l')
def Fg (θ : cF) (se : List Seen) (s' : Seen) : Prop :=
 (∃ s, s ∈ se /\ s'.i = s.i /\ s'.agg = s.agg /\ Gz s.a = false /\ SV θ s.a s'.a /\ SV θ s.v s'.v) \/ (Told s'.v = true /\ ∀ q : Mem, (∀ c B, θ.gQ c = some B -> q.get c = B) -> q.load s'.agg s'.a = some s'.v)
theorem Fg.ext {θ θ' : cF} {se : List Seen} {s' : Seen} (h : Fg θ se s') (e : cF.Ext θ θ') : Fg θ' se s' := by
 rcases h with ⟨s, h1, h2, h3, h4, h5, h6⟩ | ⟨h1, h2⟩
 ·exact .inl ⟨s, h1, h2, h3, h4, h5.ext e, h6.ext e⟩
 ·exact .inr ⟨h1, fun q hq => h2 q fun c B hc => hq c B (e.gQ c B hc)⟩
theorem la.step {θ θ' : cF} {m m1 m' fU : Mem} (eo : ob θ m m' θ' m1 fU) (hd : ∀ b c, θ.g9 b = none -> θ'.g9 b = some c -> ∀ s : Nat × Mem, s.2.next <= m.next -> True) : ∀ {l l' : List (Nat × Mem)}, la θ m l l' -> la θ' m1 l l'
 | _, _, .nil => .nil
 | _, _, .cons h hs => .cons ⟨h.i, h.de.ext eo.ext fun b c hb _ => h.de.cl b hb, pN h.le eo.n1, fun e c B hc => by
   have h1 := h.le; have h2 := eo.n1
   rcases eo.gQ c B hc with q | ⟨_, q⟩
   ·exact h.gQ (by omega) c B q
   ·omega⟩ (la.step eo hd hs)
theorem la.same {θ θ1 : cF} {m m1 : Mem} (he : cF.Ext θ θ1) (hs : θ1.gQ = θ.gQ) (hn : m1.next = m.next) : ∀ {l l' : List (Nat × Mem)}, la θ m l l' -> la θ1 m1 l l'
 | _, _, .nil => .nil
 | _, _, .cons h hss => .cons ⟨h.i, h.de.ext he fun b c hb _ => h.de.cl b hb, by rw [hn]; exact h.le, fun e c B hc => by rw [hs] at hc; exact h.gQ (e.trans hn) c B hc⟩ (la.same he hs hn hss)
theorem Bg {m : Mem} {g : Option Nat} {a v : EV} (h : m.load g a = some v) (ht : Told v = true) : m.eI g a v = true := by
 unfold Mem.eI; rw [h]; exact rq v ht
theorem D4 {θ : cF} {m : Mem} {chk : List (Nat × Nat)} {i : Nat} {g : Option Nat} {a a' v v' : EV} (ha : SV θ a a') (hv : SV θ v v') (hf : Gz a = false) : ∀ {l l' : List (Nat × Mem)}, la θ m l l' -> bE chk i g a v l = true -> bE chk i g a' v' l' = true
 | _, _, .nil, _ => rfl
 | _, _, .cons (s := (j, mj)) (s' := (j', mj')) h hs, hc => by
  obtain rfl : j' = j := h.i
  simp only [bE] at hc ⊢
  cases hp : bV i j' chk <;> simp only [hp, cond_true, cond_false] at hc ⊢
  ·exact D4 ha hv hf hs hc
  ·cases eo : mj.eI g a v <;> simp only [eo, cond_true, cond_false, re] at hc
   have abz : mj'.eI g a' v' = true := by
    unfold Mem.eI at eo ⊢
    cases hl : mj.load g a with
    | none => simp [hl] at eo
    | some x =>
     obtain ⟨x', zl, hx⟩ := HK h.de ha hf hl
     simp only [hl] at eo;rw [zl]; exact hx.same hv eo
   simp only [abz, cond_true];exact D4 ha hv hf hs hc
theorem Hv {θ : cF} {m : Mem} {chk : List (Nat × Nat)} {i : Nat} {g : Option Nat} {a' v' : EV} (ht : Told v' = true) (hl : ∀ q : Mem, (∀ c B, θ.gQ c = some B -> q.get c = B) -> q.load g a' = some v') : ∀ {l l' : List (Nat × Mem)}, la θ m l l' -> dQ chk i m.next l = true -> bE chk i g a' v' l' = true
 | _, _, .nil, _ => rfl
 | _, _, .cons (s := (j, mj)) (s' := (j', mj')) h hs, hc => by
  obtain rfl : j' = j := h.i
  simp only [bE, dQ] at hc ⊢
  cases hp : bV i j' chk <;> simp only [hp, cond_true, cond_false] at hc ⊢
  ·exact Hv ht hl hs hc
  ·cases hn : mj.next.beq m.next <;> simp only [hn, cond_true, cond_false, re] at hc
   have := Bg (hl mj' (h.gQ (aS hn))) ht
   simp only [this, cond_true];exact Hv ht hl hs hc
theorem Eb {θ : cF} {m1 fU : Mem} {chk : List (Nat × Nat)} {j : Nat} (hm : MemS θ m1 fU) {se : List Seen} (hc : aY chk j m1 se = true) : ∀ {se' : List Seen}, (∀ s', s' ∈ se' -> Fg θ se s') -> aY chk j fU se' = true
 | [], _ => rfl
 | s' :: se', h => by
  have ih := Eb hm hc (se' := se') fun x hx => h x (by simp [hx])
  simp only [aY, ih]
  cases hp : bV s'.i j chk <;> simp only [cond_true, cond_false]
  have : fU.eI s'.agg s'.a s'.v = true := by
   rcases h s' (by simp) with ⟨s, h1, h2, h3, h4, h5, h6⟩ | ⟨h1, h2⟩
   ·rw [h2] at hp
    have eo := oG hc s h1 hp
    unfold Mem.eI at eo ⊢
    cases hl : m1.load s.agg s.a with
    | none => simp [hl] at eo
    | some x =>
     obtain ⟨x', zl, hx⟩ := HK hm.toMemB h5 h4 hl
     simp only [hl] at eo;rw [h3, zl]; exact hx.same h6 eo
   ·exact Bg (h2 fU hm.gQ) h1
  simp only [this, cond_true]
theorem MemS.QM {θ : cF} {m m' : Mem} (h : MemS θ m m') (n n' : Nat) : MemS θ ⟨n, m.gH⟩ ⟨n', m'.gH⟩ := ⟨⟨h.de, h.cl⟩, h.gQ⟩
def Kept (θ : cF) (B0 B0' i n : Nat) : Prop := ∀ j, i <= j -> j < n -> Ak θ (B0 + j) (B0' + j)
theorem Kept.step {θ θ' : cF} {m m' m1 fU : Mem} (eo : ob θ m m' θ' m1 fU) {B0 B0' i n : Nat} (h : Kept θ B0 B0' i n) (h1 : B0 + n <= m.next) (h2 : B0' + n <= m'.next) : Kept θ' B0 B0' i n := by
 intro j hj hn
 have f := h j hj hn
 refine ⟨?_, fun a ha => ?_, ?_⟩
 ·cases e : θ'.g9 (B0 + j) with
  | none => rfl
  | some c =>
   rcases eo.g9 _ _ e with q | ⟨q, _⟩
   ·rw [f.l] at q; cases q
   ·omega
 ·rcases eo.g9 _ _ ha with q | ⟨_, q⟩
  ·exact f.r a q
  ·omega
 ·cases e : θ'.gQ (B0' + j) with
  | none => rfl
  | some c =>
   rcases eo.gQ _ _ e with q | ⟨q, _⟩
   ·rw [f.s] at q; cases q
   ·omega
theorem Ka (bD : Ao T call) {chk : List (Nat × Nat)} {B0 B0' n : Nat} {θ0 : cF} {m0 m0' : Mem} (e0 : m0.next = B0) (e0' : m0'.next = B0') : ∀ (l : List ba) (i : Nat) (fr : Fr) (m : Mem) (sn : List (Nat × Mem)) (se : List Seen) (out : Out), i + l.length = n ->
  dL call chk B0 (l.map ba.sub) i fr m sn se = some out -> l.all AJ = true -> ∀ (θ : cF) (fr' : Fr) (m' : Mem) (D5 : List (Nat × Mem)) (se' : List Seen), BU θ fr fr' -> gM θ m m' -> B0 + n <= m.next -> B0' + n <= m'.next -> Kept θ B0 B0' i n -> la θ m sn D5 -> (∀ s', s' ∈ se' -> Fg θ se s') ->
  ob θ0 m0 m0' θ m m' -> si θ0 m0 m0' out (kZ T chk B0' l i fr' m' D5 se')
 | [], i, fr, m, sn, se, out, hn, h, _, θ, fr', m', D5, se', hf, hg, _, _, _, _, _, eo => by
  simp only [List.map_nil, dL, bf] at h; subst h
  exact ⟨θ, _, zR, .norm hf hg, eo⟩
 | o :: l, i, fr, m, sn, se, out, hn, h, eh, θ, fr', m', D5, se', hf, hg, hb, BQ, hk, LN, Th, eo => by
  have ih := Ka bD e0 e0' (chk := chk) (B0 := B0) (B0' := B0') (n := n) (θ0 := θ0) (m0 := m0) (m0' := m0') l (i + 1)
  have Sw : i + 1 + l.length = n := by rw [List.length_cons] at hn; omega
  have EG : i < n := by rw [List.length_cons] at hn; omega
  have Ni : Kept θ B0 B0' (i + 1) n := fun j hj => hk j (by omega)
  simp only [List.all_cons, pI] at eh;obtain ⟨d, op, g⟩ := o
  simp only [List.map_cons, ba.sub, dL] at h
  cases hw : bh fr g with
  | none => simp [hw] at h
  | some b =>
  rw [L2 (DP hf hw)]
  cases b with
  | false =>
   simp only [hw] at h;exact ih _ _ _ _ _ Sw h eh.2 θ _ _ _ _ (hf.put .undef d) hg hb BQ Ni LN Th eo
  | true =>
   simp only [hw] at h;simp only [cond_true]
   cases op with
   | panic x => simp [Aq.sub] at h
   | defer f args => simp [Aq.sub] at h
   | call f args =>
    have xj := eh.1
    simp only [AJ, MP, pI] at xj;simp only [Aq.sub, List.map_map, Function.comp_def] at h;have JN : SV θ (fr.eval (jE f)) (fr'.eval f) := (hf.ops hg.Fy) f xj.1
    have HX : dT θ (args.map fun x => fr.eval (jE x)) (args.map fr'.eval) := ya.list (hf.ops hg.Fy) xj.2
    cases rP : fP call (fr.eval (jE f)) (args.map fun x => fr.eval (jE x)) m with
    | none => rw [rP] at h; cases h
    | some fin =>
     obtain ⟨gg, x, y, ji, hc⟩ := Kg rP
     rw [ji] at JN;obtain ⟨x', y', Rx, hx, hy⟩ := JN.EM
     rw [zX, Rx, oM];obtain ⟨θ', JY, e1, e2, e3⟩ := bD _ _ _ _ hc θ m' _ hg ((hx.append HX).append hy)
     rw [e1]
     cases e2 with
     | gI hv uA => rw [rP] at h; cases h
     | @ret v v' m1 fU hv uA =>
      rw [rP] at h; simp only at h
      cases mg : aY chk i m1 se <;> simp only [mg, cond_true, cond_false, reduceCtorEq] at h
      have Rl : ∀ s', s' ∈ se' -> Fg θ' se s' := fun s' HT => (Th s' HT).ext e3.ext
      have a1 := e3.n1; have a2 := e3.n2
      simp only [Fin.mem] at a1 a2;simp only [rj, Eb uA.toMemS mg Rl, jO];refine ih _ _ _ _ _ Sw h eh.2 θ' _ _ _ _ ((hf.ext e3.ext).put hv d) uA (by omega) (by omega) (Ni.step e3 hb BQ) (.cons ?_ (LN.step e3 fun _ _ _ _ _ _ => trivial)) Rl (eo.trans e3)
      refine ⟨rfl, hg.toMemB.ext e3.ext fun b c hb _ => hg.cl b hb, a1, fun e c B hc => ?_⟩
      rcases e3.gQ c B hc with q | ⟨_, q⟩
      ·exact hg.gQ c B q
      ·simp only [Fin.mem] at q e; omega
   | val op =>
    simp only [Aq.sub, Qg, GM] at h;have xj : QC op = true := eh.1
    have h3 := Qh op
    by_cases PR : cW op = 0
    ·simp only [PR] at h
     rw [A3 PR]
     cases he : aB (fun x => fr.eval (jE x)) op m with
     | none => simp [he] at h
     | some q =>
      obtain ⟨v, m1⟩ := q
      simp only [he] at h;obtain ⟨rfl, _⟩ := Ja PR he
      obtain ⟨v', fU, rP, mg, _⟩ := Hu (hf.ops hg.Fy) hg.toMemS hg.ok (hg.ok.fresh (fy _) (fy _)) xj he
      rw [rP];rcases mg with ⟨zi, _, _, _⟩ | ⟨_, _, q, _⟩
      ·exact ih _ _ _ _ _ Sw h eh.2 θ _ _ _ _ (hf.put zi d) hg hb BQ Ni LN Th eo
      ·omega
    ·by_cases rN : cW op = 1
     ·simp only [rN] at h
      rw [A2 rN]
      cases he : aB (fun x => fr.eval (jE x)) op ⟨B0 + i, m.gH⟩ with
      | none => simp [he] at h
      | some q =>
       obtain ⟨v, m1⟩ := q
       simp only [he] at h;have f := hk i (fy _) EG
       obtain ⟨v', fU, e1, mg, X2⟩ := Hu (hf.ops hg.Fy) (hg.toMemS.QM (B0 + i) (B0' + i)) hg.ok f xj he
       obtain ⟨B, mk, _, hB, _⟩ := En rN he
       rw [e1];rcases mg with ⟨c1, c2, c3, c4⟩ | ⟨c1, c2, c3, c4⟩
       ·rw [hB] at c3
        have c3' : B0 + i + 1 = B0 + i := c3
        omega
       ·have abE : qR (θ.more (B0 + i) (B0' + i)) m.next m'.next := hg.ok.more f (by omega) (by omega) (fy _) (fy _)
        have Vz : ∀ b c, (θ.more (B0 + i) (B0' + i)).g9 b = some c -> θ.g9 b = some c \/ (b = B0 + i /\ c = B0' + i) := by
         intro b c Rz
         have Tt : (if b = B0 + i then some (B0' + i) else θ.g9 b) = some c := Rz
         by_cases hx : b = B0 + i
         ·rw [if_pos hx] at Tt; cases Tt; exact .inr ⟨hx, rfl⟩
         ·rw [if_neg hx] at Tt; exact .inl Tt
        refine ih _ _ _ _ _ Sw h eh.2 (θ.more (B0 + i) (B0' + i)) _ _ _ _ ((hf.ext f.ext).put c1 d) ⟨c2.QM _ _, abE, hg.Fy.ext f.ext⟩ hb BQ ?_ (la.same (m := m) (m1 := ⟨m.next, m1.gH⟩) f.ext rfl rfl LN) (fun s' HT => (Th s' HT).ext f.ext) ⟨eo.ext.trans f.ext, ?_, eo.gQ, eo.n1, eo.n2, ?_⟩
        ·intro j hj hjn
         have fj := hk j (by omega) hjn
         refine ⟨?_, fun a ha => ?_, fj.s⟩
         ·cases e : (θ.more (B0 + i) (B0' + i)).g9 (B0 + j) with
          | none => rfl
          | some c =>
           rcases Vz _ _ e with q | ⟨q, _⟩
           ·rw [fj.l] at q; cases q
           ·omega
         ·rcases Vz _ _ ha with q | ⟨_, q⟩
          ·exact fj.r a q
          ·omega
        ·intro b c Rz
         rcases Vz b c Rz with q | ⟨rfl, rfl⟩
         ·exact eo.g9 b c q
         ·exact .inr ⟨by omega, by omega⟩
        ·intro c hc hr
         have h1 : fU.get c = m'.get c := by
          refine X2 c (show c ≠ B0' + i by omega) fun b Rz => ?_
          rcases eo.g9 b c Rz with q | ⟨_, q⟩
          ·exact hr b q
          ·omega
         exact h1.trans (eo.rJ c hc hr)
     ·by_cases Sv : cW op = 2
      ·cases op <;> simp only [cW, reduceCtorEq, Nat.reduceEqDiff] at Sv
       case conv c x => cases c <;> simp at Sv
       rename_i agg a
       simp only [cW, lD.xh] at h;have ha : SV θ (fr.eval (jE a)) (fr'.eval a) := (hf.ops hg.Fy) a (by simpa only [QC, iA, Lh, List.all_cons, List.all_nil, Bool.and_true] using xj)
       rw [zS];have Uv := ha.abb
       simp only [St, Uv, cond_false]
       cases hl : m.load agg (fr.eval (jE a)) with
       | none => simp [hl] at h
       | some v =>
        simp only [hl] at h
        cases hF : Gz (fr.eval (jE a)) <;> simp only [hF, cond_true, cond_false] at h
        ·cases mg : bE chk i agg (fr.eval (jE a)) v sn <;> simp only [mg, cond_true, cond_false, reduceCtorEq] at h
         obtain ⟨v', zl, hv⟩ := HK hg.toMemB ha hF hl
         simp only [zl, ue, D4 ha hv hF LN mg, jO];refine ih _ _ _ _ _ Sw h eh.2 θ _ _ _ _ (hf.put hv d) hg hb BQ Ni LN (fun s' HT => ?_) eo
         rcases oU.1 HT with rfl | HT
         ·exact .inl ⟨⟨i, agg, fr.eval (jE a), v⟩, by simp, rfl, rfl, hF, ha, hv⟩
         ·rcases Th s' HT with ⟨s, q1, q2⟩ | q
          ·exact .inl ⟨s, by simp [q1], q2⟩
          ·exact .inr q
        ·cases mg : dQ chk i m.next sn <;> simp only [mg, cond_true, cond_false, reduceCtorEq] at h
         generalize ji : fr.eval (jE a) = y at ha hF hl
         cases y <;> simp only [Gz, re] at hF
         obtain ⟨v', hv, hall⟩ := Q0 ha hl
         simp only [hall m' hg.gQ, ue, Hv hv.told hall LN mg, jO];refine ih _ _ _ _ _ Sw h eh.2 θ _ _ _ _ (hf.put hv d) hg hb BQ Ni LN (fun s' HT => ?_) eo
         rcases oU.1 HT with rfl | HT
         ·exact .inr ⟨hv.told, hall⟩
         ·exact Th s' HT
      ·have hs3 : cW op = 3 := by omega
       simp only [hs3] at h;rw [Ig hs3]
       cases he : aB (fun x => fr.eval (jE x)) op m with
       | none => simp [he] at h
       | some q =>
        obtain ⟨v, m1⟩ := q
        simp only [he] at h
        cases mg : aY chk i m1 se <;> simp only [mg, cond_true, cond_false, reduceCtorEq] at h
        obtain ⟨θ', v', fU, e1, e2, e3, e4⟩ := IC.ux hg (Hu (hf.ops hg.Fy) hg.toMemS hg.ok (hg.ok.fresh (fy _) (fy _)) xj he)
        rw [e1];have Rl : ∀ s', s' ∈ se' -> Fg θ' se s' := fun s' HT => (Th s' HT).ext e4.ext
        have a1 := e4.n1; have a2 := e4.n2
        simp only [gG, Eb e3.toMemS mg Rl, jO];refine ih _ _ _ _ _ Sw h eh.2 θ' _ _ _ _ ((hf.ext e4.ext).put e2 d) e3 (by omega) (by omega) (Ni.step e4 hb BQ) (.cons ?_ (LN.step e4 fun _ _ _ _ _ _ => trivial)) Rl (eo.trans e4)
        refine ⟨rfl, hg.toMemB.ext e4.ext fun b c hb _ => hg.cl b hb, a1, fun e c B hc => ?_⟩
        rcases e4.gQ c B hc with q | ⟨_, q⟩
        ·exact hg.gQ c B q
        ·simp only at e; omega
theorem KA.l7 {θ : cF} {m m' : Mem} {out SU : Out} {X : Option Out} {K : Fr -> Mem -> Option Out} {k : Fr -> Mem -> Option Out} (hX : si θ m m' out X)
  (h : (match out with | .norm fr m1 => k fr m1 | o => some o) = some SU)
  (hk : ∀ θ1 fr m1 fr' fU, BU θ1 fr fr' -> gM θ1 m1 fU -> k fr m1 = some SU -> si θ1 m1 fU SU (K fr' fU)) : si θ m m' SU (Ev.l7 X K) := by
 obtain ⟨θ1, BH, rfl, hs, eo⟩ := hX
 cases hs with
 | norm hf hg => exact si.after eo (hk _ _ _ _ _ hf hg h)
 | exit hf hg => simp only [bf] at h; subst h; exact ⟨θ1, _, rfl, .exit hf hg, eo⟩
 | ret hf hg => simp only [bf] at h; subst h; exact ⟨θ1, _, rfl, .ret hf hg, eo⟩
 | gI hv hf hg => simp only [bf] at h; subst h; exact ⟨θ1, _, rfl, .gI hv hf hg, eo⟩
theorem PA {θ : cF} {m m' : Mem} (hg : gM θ m m') (k : Nat) : gM θ ⟨m.next + k, m.gH⟩ ⟨m'.next + k, m'.gH⟩ :=
 ⟨hg.toMemS.QM _ _, ⟨fun b c h => by have := hg.ok.g9 b c h; exact ⟨mn this.1 (Nat.le_add_right _ _), mn this.2 (Nat.le_add_right _ _)⟩, hg.ok.inj, hg.ok.off, fun b B h => mn (hg.ok.gQ b B h) (Nat.le_add_right _ _)⟩, hg.Fy⟩
theorem kF (bD : Ao T call) (n : Nat) : ∀ (c : aE) (fr : Fr) (m : Mem) (out : Out), ap call n c.sub fr m = some out -> kP c = true -> ∀ (θ : cF) (fr' : Fr) (m' : Mem), BU θ fr fr' -> gM θ m m' -> si θ m m' out (exec T c fr' m')
 | .skip, fr, m, out, h, _, θ, fr', m', hf, hg => by
  simp only [aE.sub, ap, bf] at h; subst h
  exact ⟨θ, _, rW, .norm hf hg, .refl _ _ _⟩
 | .ret, fr, m, out, h, _, θ, fr', m', hf, hg => by
  simp only [aE.sub, ap, bf] at h; subst h
  exact ⟨θ, _, ve, .ret hf hg, .refl _ _ _⟩
 | .exit id, fr, m, out, h, _, θ, fr', m', hf, hg => by
  simp only [aE.sub, ap, bf] at h; subst h
  exact ⟨θ, _, rX, .exit hf hg, .refl _ _ _⟩
 | .region ops, fr, m, out, h, eh, θ, fr', m', hf, hg => by
  simp only [aE.sub, ap] at h;rw [nE];exact ML bD ops fr m out h (by simpa only [kP] using eh) θ fr' m' hf hg
 | .draw ops chk, fr, m, out, h, eh, θ, fr', m', hf, hg => by
  simp only [aE.sub, ap] at h;rw [Pp];rw [List.length_map] at h;have VV := PA hg ops.length
  refine Ka bD (n := ops.length) (θ0 := θ) (m0 := m) (m0' := m') rfl rfl ops 0 fr _ [] [] out (Nat.zero_add _) h (by simpa only [kP] using eh) θ fr' _ [] [] hf VV (fy _) (fy _) (fun j _ hj => hg.ok.fresh (Nat.le_add_right _ _) (Nat.le_add_right _ _)) .nil (fun s' HT => by simp at HT)
   ⟨.refl θ, fun _ _ h => .inl h, fun _ _ h => .inl h, Nat.le_add_right _ _, Nat.le_add_right _ _, fun _ _ _ => rfl⟩
 | .seq a b, fr, m, out, h, eh, θ, fr', m', hf, hg => by
  simp only [kP, pI] at eh;simp only [aE.sub, ap] at h;rw [vd]
  cases ha : ap call n a.sub fr m with
  | none => simp [ha] at h
  | some o =>
   refine KA.l7 (k := ap call n b.sub) (kF bD n a fr m o ha eh.1 θ fr' m' hf hg) (by rw [ha] at h; cases o <;> exact h) fun θ1 fX m1 Ys fU sk hg1 h1 => kF bD n b _ _ _ h1 eh.2 θ1 _ _ sk hg1
 | .cond c a b, fr, m, out, h, eh, θ, fr', m', hf, hg => by
  simp only [kP, pI] at eh;simp only [aE.sub, ap] at h;have hc : SV θ (fr.eval (jE c)) (fr'.eval c) := (hf.ops hg.Fy) c eh.1.1
  cases hce : fr.eval (jE c) <;> simp only [hce, reduceCtorEq] at h
  rename_i t
  simp only [hce] at hc;rw [GL (TN hc)]
  cases t
  ·exact kF bD n b _ _ _ h eh.2 θ _ _ hf hg
  ·exact kF bD n a _ _ _ h eh.1.2 θ _ _ hf hg
 | .block id a, fr, m, out, h, eh, θ, fr', m', hf, hg => by
  simp only [aE.sub, ap] at h;rw [pu]
  cases ha : ap call n a.sub fr m with
  | none => simp [ha] at h
  | some o =>
   obtain ⟨θ1, BH, e, hs, eo⟩ := kF bD n a fr m o ha (by simpa only [kP] using eh) θ fr' m' hf hg
   rw [e];rw [ha] at h
   cases hs with
   | norm hf hg => simp only [bf] at h; subst h; exact ⟨θ1, _, rfl, .norm hf hg, eo⟩
   | ret hf hg => simp only [bf] at h; subst h; exact ⟨θ1, _, rfl, .ret hf hg, eo⟩
   | gI hv hf hg => simp only [bf] at h; subst h; exact ⟨θ1, _, rfl, .gI hv hf hg, eo⟩
   | @exit j fX Ys m1 fU hf hg =>
    simp only [pi];simp only at h
    cases hb : j.beq id <;> simp only [hb, cond_true, cond_false, bf] at h ⊢ <;> subst h
    ·exact ⟨θ1, _, rfl, .exit hf hg, eo⟩
    ·exact ⟨θ1, _, rfl, .norm hf hg, eo⟩
 | .loop a, fr, m, out, h, eh, θ, fr', m', hf, hg => by
  simp only [aE.sub, ap] at h;have abF : kP a = true := by simpa only [kP] using eh
  have ha := kF bD n a
  have go : ∀ (k : Nat) (fr : Fr) (m : Mem) (out : Out), iter (ap call n a.sub) k fr m = some out -> ∀ (θ : cF) (fr' : Fr) (m' : Mem), BU θ fr fr' -> gM θ m m' -> si θ m m' out (exec T (.loop a) fr' m') := by
   intro k
   induction k with
   | zero => intro fr m out h; simp [iter] at h
   | succ k ih =>
    intro fr m out h θ fr' m' hf hg
    simp only [iter] at h;rw [eB]
    cases hb : ap call n a.sub fr m with
    | none => simp [hb] at h
    | some o =>
     refine KA.l7 (k := iter (ap call n a.sub) k) (ha fr m o hb abF θ fr' m' hf hg) (by rw [hb] at h; cases o <;> exact h) fun θ1 fX m1 Ys fU sk hg1 h1 => ih _ _ _ h1 θ1 _ _ sk hg1
  exact go n fr m out h θ fr' m' hf hg
theorem vr {θ : cF} : ∀ {x x' : List EV} (i : Nat) {t t' : Tr EV}, dT θ x x' -> (∀ k, SV θ (((⟨t, []⟩ : Fr)).get k) (((⟨t', []⟩ : Fr)).get k)) -> ∀ k, SV θ (((⟨cK x i t, []⟩ : Fr)).get k) (((⟨cK x' i t', []⟩ : Fr)).get k)
 | _, _, i, t, t', .nil, h => h
 | _, _, i, t, t', .cons (v := v) (v' := v') hv hs, h => by
  refine vr (i + 1) hs fun k => ?_
  show SV θ ((Fr.set ⟨t, []⟩ i v).get k) ((Fr.set ⟨t', []⟩ i v').get k)
  rw [Fr.bW, Fr.bW]
  split
  ·exact hv
  ·exact h k
theorem iR {θ : cF} {m m' : Mem} (hm : MemS θ m m') {fr fr' : Fr} (hf : BU θ fr fr') : ∀ (rs : List lX) (vs : List EV), bN fr m rs = some vs -> ∃ uE, bN fr' m' rs = some uE /\ dT θ vs uE
 | [], vs, h => by simp only [bN, bf] at h; subst h; exact ⟨[], rfl, .nil⟩
 | r :: rs, vs, h => by
  simp only [bN] at h ⊢
  cases hr : zH fr m r with
  | none => simp [hr] at h
  | some v =>
   have hv : ∃ v', zH fr' m' r = some v' /\ SV θ v v' := by
    cases r with
    | tmp t => simp only [zH, bf] at hr ⊢; subst hr; exact ⟨_, rfl, hf.tmp t⟩
    | cell t agg => simp only [zH] at hr ⊢; exact Jw hm (hf.tmp t) hr
   obtain ⟨v', uZ, zi⟩ := hv
   simp only [hr, uZ] at h ⊢
   obtain ⟨ws, hw, rfl⟩ := j8.1 h
   obtain ⟨ws', XI, hs⟩ := iR hm hf rs ws hw
   exact ⟨v' :: ws', by rw [XI]; rfl, .cons zi hs⟩
theorem yS {θ : cF} {x x' : List EV} (h : dT θ x x') : SV θ (one x) (one x') := by
 cases h with
 | nil => exact .tuple .nil
 | cons hv hs =>
  cases hs with
  | nil => exact hv
  | cons Vw Sv => exact .tuple (.cons hv (.cons Vw Sv))
def Gn (F : au) : Bool := kP F.body && rD F.body
def lG (F : au) : Bool := kP F.body
theorem OL {F : au} (h : Gn F = true) : F.sub = F := by
 simp only [Gn, pI] at h;unfold au.sub; rw [my h.2]
theorem SX {F : au} (h : Gn F = true) : lG F = true := by simp only [Gn, pI] at h; exact h.1
theorem E9 (bD : Ao T call) (n : Nat) {f : Nat} {F : au} (hT : T f = some (.go F)) (eh : lG F = true) {args : List EV} {m : Mem} {fin : Fin} (h : dz call n F.sub args m = some fin) {θ : cF} {m' : Mem} {ay : List EV} (hg : gM θ m m') (ha : dT θ args ay) : vu θ m m' fin (run T f ay m') := by
 unfold dz at h;simp only [au.sub] at h
 cases hb : args.length.ble F.ntmps <;> simp only [hb, cond_true, cond_false, reduceCtorEq] at h
 have hlen : ay.length <= F.ntmps := by rw [<- ha.length]; exact qS hb
 rw [Qm hT hlen]
 cases hc : ap call n F.body.sub ⟨cK args 0 .leaf, []⟩ m with
 | none => simp [hc] at h
 | some out =>
  have hf : BU θ ⟨cK args 0 .leaf, []⟩ ⟨cK ay 0 .leaf, []⟩ := ⟨vr 0 ha fun k => by rw [show (⟨.leaf, []⟩ : Fr) = pq from rfl, lS]; exact .undef, .nil⟩
  obtain ⟨θ1, BH, e, hs, eo⟩ := kF bD n F.body _ _ _ hc eh θ _ m' hf hg
  rw [e];simp only [hc] at h
  cases hs with
  | exit hf hg => simp at h
  | @norm fr fr' m1 fU sk hg1 =>
   cases hd : fr.defers with
   | cons d ds => simp [hd] at h
   | nil =>
    simp only [hd] at h;have FT : fr'.defers = [] := sk.NX.none hd
    simp only [sV, FT];obtain ⟨vs, hv, rfl⟩ := j8.1 h
    obtain ⟨uE, rM, yd⟩ := iR hg1.toMemS sk F.results vs hv
    rw [rM];exact ⟨θ1, _, rfl, .ret (yS yd) hg1, eo⟩
  | @ret fr fr' m1 fU sk hg1 =>
   cases hd : fr.defers with
   | cons d ds => simp [hd] at h
   | nil =>
    simp only [hd] at h;have FT : fr'.defers = [] := sk.NX.none hd
    simp only [sV, FT];obtain ⟨vs, hv, rfl⟩ := j8.1 h
    obtain ⟨uE, rM, yd⟩ := iR hg1.toMemS sk F.results vs hv
    rw [rM];exact ⟨θ1, _, rfl, .ret (yS yd) hg1, eo⟩
  | @gI v v' fr fr' m1 fU zi sk hg1 =>
   cases hd : fr.defers with
   | cons d ds => simp [hd] at h
   | nil =>
    simp only [hd, bf] at h;have FT : fr'.defers = [] := sk.NX.none hd
    simp only [sV, FT];subst h;exact ⟨θ1, _, rfl, .gI zi hg1, eo⟩
def KS (D : List (Nat × Option Nat × au)) : List (Nat × Option Nat × au) := D.map fun p => (p.1, p.2.1, p.2.2.sub)
theorem GO {g : Nat} {b : Option Nat} {FD : au} : ∀ {D : List (Nat × Option Nat × au)}, mh g (KS D) = some (b, FD) -> ∃ F0, mh g D = some (b, F0) /\ FD = F0.sub
 | [], h => by simp [KS, mh] at h
 | (g', b', F') :: D, h => by
  simp only [KS, List.map_cons, mh] at h ⊢
  cases hb : g'.beq g <;> simp only [hb, cond_true, cond_false] at h ⊢
  ·exact GO (D := D) h
  ·simp only [bf, eO] at h
   obtain ⟨rfl, rfl⟩ := h
   exact ⟨F', rfl, rfl⟩
def Xm (D : List (Nat × Option Nat × au)) : Bool := D.all fun p => lG p.2.2
theorem Jk {g : Nat} {b : Option Nat} {F : au} : ∀ {D : List (Nat × Option Nat × au)}, Xm D = true -> mh g D = some (b, F) -> lG F = true
 | [], _, h => by simp [mh] at h
 | (g', b', F') :: D, ho, h => by
  simp only [Xm, List.all_cons, pI] at ho;simp only [mh] at h
  cases hb : g'.beq g <;> simp only [hb, cond_true, cond_false] at h
  ·exact Jk (D := D) ho.2 h
  ·cases h; exact ho.1
theorem PD (bD : Ao T call) (n : Nat) {F : au} (eh : lG F = true) {args : List EV} {m : Mem} {fin : Fin} (h : dz call n F.sub args m = some fin) {θ : cF} {m' : Mem} {ay : List EV} (hg : gM θ m m') (ha : dT θ args ay) : vu θ m m' fin (Kr T F ay m') := by
 unfold dz at h;simp only [au.sub] at h
 cases hb : args.length.ble F.ntmps <;> simp only [hb, cond_true, cond_false, reduceCtorEq] at h
 have hlen : ay.length <= F.ntmps := by rw [<- ha.length]; exact qS hb
 rw [R5 hlen]
 cases hc : ap call n F.body.sub ⟨cK args 0 .leaf, []⟩ m with
 | none => simp [hc] at h
 | some out =>
  have hf : BU θ ⟨cK args 0 .leaf, []⟩ ⟨cK ay 0 .leaf, []⟩ := ⟨vr 0 ha fun k => by rw [show (⟨.leaf, []⟩ : Fr) = pq from rfl, lS]; exact .undef, .nil⟩
  obtain ⟨θ1, BH, e, hs, eo⟩ := kF bD n F.body _ _ _ hc eh θ _ m' hf hg
  rw [e];simp only [hc] at h
  cases hs with
  | exit hf hg => simp at h
  | @norm fr fr' m1 fU sk hg1 =>
   cases hd : fr.defers with
   | cons d ds => simp [hd] at h
   | nil =>
    simp only [hd] at h;have FT : fr'.defers = [] := sk.NX.none hd
    simp only [sV, FT];obtain ⟨vs, hv, rfl⟩ := j8.1 h
    obtain ⟨uE, rM, yd⟩ := iR hg1.toMemS sk F.results vs hv
    rw [rM];exact ⟨θ1, _, rfl, .ret (yS yd) hg1, eo⟩
  | @ret fr fr' m1 fU sk hg1 =>
   cases hd : fr.defers with
   | cons d ds => simp [hd] at h
   | nil =>
    simp only [hd] at h;have FT : fr'.defers = [] := sk.NX.none hd
    simp only [sV, FT];obtain ⟨vs, hv, rfl⟩ := j8.1 h
    obtain ⟨uE, rM, yd⟩ := iR hg1.toMemS sk F.results vs hv
    rw [rM];exact ⟨θ1, _, rfl, .ret (yS yd) hg1, eo⟩
  | @gI v v' fr fr' m1 fU zi sk hg1 =>
   cases hd : fr.defers with
   | cons d ds => simp [hd] at h
   | nil =>
    simp only [hd, bf] at h;have FT : fr'.defers = [] := sk.NX.none hd
    simp only [sV, FT];subst h;exact ⟨θ1, _, rfl, .gI zi hg1, eo⟩
def Mq (θ : cF) (u u' : Option EV) : Prop := match u with
 | none => u' = none
 | some v => ∃ v', u' = some v' /\ SV θ v v'
theorem Mq.ext {θ θ' : cF} (e : cF.Ext θ θ') {u u' : Option EV} (h : Mq θ u u') : Mq θ' u u' := by
 cases u with
 | none => exact h
 | some v => obtain ⟨v', h1, h2⟩ := h; exact ⟨v', h1, h2.ext e⟩
theorem Mq.get {θ : cF} {u u' : Option EV} (h : Mq θ u u') : SV θ (u.getD .aD) (u'.getD .aD) := by
 cases u with
 | none => cases h; exact .aD
 | some v => obtain ⟨v', rfl, h2⟩ := h; exact h2
theorem Mj (bD : Ao T call) (n : Nat) {d : Nat} {F : au} (eh : lG F = true) {args : List EV} {u u' : Option EV} {m m1 : Mem} (h : fF call n d F.sub args u m = some m1) {θ : cF} {m' : Mem} {ay : List EV} (hg : gM θ m m') (ha : dT θ args ay) (hu : Mq θ u u') :
  ∃ θ1 fU, It T d F ay u' m' = some fU /\ gM θ1 m1 fU /\ ob θ m m' θ1 m1 fU := by
 unfold fF at h;simp only [au.sub] at h
 cases hb : args.length.ble F.ntmps <;> simp only [hb, cond_true, cond_false, reduceCtorEq] at h
 have hlen : ay.length <= F.ntmps := by rw [<- ha.length]; exact qS hb
 rw [PB hlen]
 cases hc : ap call n F.body.sub (Fr.set ⟨cK args 0 .leaf, []⟩ d (u.getD .aD)) m with
 | none => simp [hc] at h
 | some out =>
  have hf : BU θ ⟨cK args 0 .leaf, []⟩ ⟨cK ay 0 .leaf, []⟩ := ⟨vr 0 ha fun k => by rw [show (⟨.leaf, []⟩ : Fr) = pq from rfl, lS]; exact .undef, .nil⟩
  obtain ⟨θ1, BH, e, hs, eo⟩ := kF bD n F.body _ _ _ hc eh θ _ m' (hf.put hu.get (some d)) hg
  have e' : exec T F.body (Fr.set ⟨cK ay 0 .leaf, []⟩ d (u'.getD .aD)) m' = some BH := e
  rw [e'];simp only [hc] at h
  cases hs with
  | exit hf hg => simp at h
  | @norm fr fr' m2 Sr sk hg1 =>
   cases hd : fr.defers with
   | cons d ds => simp [hd] at h
   | nil =>
    simp only [hd] at h;have FT : fr'.defers = [] := sk.NX.none hd
    simp only [SN, FT];obtain ⟨vs, hv, rfl⟩ := j8.1 h
    obtain ⟨uE, rM, yd⟩ := iR hg1.toMemS sk F.results vs hv
    rw [rM];exact ⟨θ1, _, rfl, hg1, eo⟩
  | @ret fr fr' m2 Sr sk hg1 =>
   cases hd : fr.defers with
   | cons d ds => simp [hd] at h
   | nil =>
    simp only [hd] at h;have FT : fr'.defers = [] := sk.NX.none hd
    simp only [SN, FT];obtain ⟨vs, hv, rfl⟩ := j8.1 h
    obtain ⟨uE, rM, yd⟩ := iR hg1.toMemS sk F.results vs hv
    rw [rM];exact ⟨θ1, _, rfl, hg1, eo⟩
  | @gI v v' fr fr' m2 Sr zi sk hg1 => simp at h
theorem vu.after {θ θ1 : cF} {m m' m1 fU : Mem} {fin : Fin} {o : Option Fin} (hs : ob θ m m' θ1 m1 fU) (h : vu θ1 m1 fU fin o) : vu θ m m' fin o := by
 obtain ⟨θ2, JY, e, h1, h2⟩ := h
 cases h1 with
 | ret hv hg => exact ⟨θ2, _, e, .ret hv hg, hs.trans h2⟩
 | gI hv hg => exact ⟨θ2, _, e, .gI hv hg, hs.trans h2⟩
theorem oO (bD : Ao T call) (n : Nat) {rs : List lX} {D : List (Nat × Option Nat × au)} (hD : Xm D = true) {fr fr' : Fr} : ∀ (ds vj : List (Nat × List EV)) (u u' : Option EV) (θ : cF) (m m' : Mem) (fin : Fin), Fu θ ds vj -> Mq θ u u' -> gM θ m m' -> BU θ fr fr' -> cO call n rs (KS D) fr ds u m = some fin -> vu θ m m' fin (mD T rs D fr' vj u' m')
 | [], vj, u, u', θ, m, m', fin, EJ, hu, hg, hf, h => by
  cases EJ
  cases u with
  | none =>
   cases hu
   simp only [cO] at h;obtain ⟨vs, hv, rfl⟩ := j8.1 h
   obtain ⟨uE, rM, yd⟩ := iR hg.toMemS hf rs vs hv
   rw [LA, rM];exact ⟨θ, _, rfl, .ret (yS yd) hg, .refl _ _ _⟩
  | some v =>
   obtain ⟨v', rfl, hv⟩ := hu
   simp only [cO, bf] at h;subst h;rw [Lz];exact ⟨θ, _, rfl, .gI hv hg, .refl _ _ _⟩
 | (g, args) :: ds, vj, u, u', θ, m, m', fin, EJ, hu, hg, hf, h => by
  cases EJ with
  | @cons _ _ ay _ TK hx EJ =>
  simp only [cO] at h
  cases FQ : mh g (KS D) with
  | none => simp [FQ] at h
  | some q =>
  obtain ⟨b, FD⟩ := q
  obtain ⟨F0, hF0, rfl⟩ := GO FQ
  have eh := Jk hD hF0
  cases b with
  | some d =>
   simp only [FQ] at h
   cases hb : fF call n d F0.sub args u m with
   | none => simp [hb] at h
   | some m1 =>
    simp only [hb] at h;obtain ⟨θ1, fU, e1, hg1, rN⟩ := Mj bD n eh hb hg hx hu
    rw [Ly hF0, e1];exact (oO bD n hD ds TK none none θ1 m1 fU fin (EJ.ext rN.ext) rfl hg1 (hf.ext rN.ext) h).after rN
  | none =>
   simp only [FQ] at h
   cases hb : dz call n F0.sub args m with
   | none => simp [hb] at h
   | some Yt =>
    simp only [hb] at h;obtain ⟨θ1, aeP, e1, sk, rN⟩ := PD bD n eh hb hg hx
    rw [Jy hF0, e1]
    cases sk with
    | ret hv hg1 => exact (oO bD n hD ds TK u u' θ1 _ _ fin (EJ.ext rN.ext) (hu.ext rN.ext) hg1 (hf.ext rN.ext) h).after rN
    | @gI v v' _ _ hv hg1 =>
     cases u with
     | some x => cases h
     | none =>
      cases hu
      exact (oO bD n hD ds TK (some v) (some v') θ1 _ _ fin (EJ.ext rN.ext) ⟨v', rfl, hv⟩ hg1 (hf.ext rN.ext) h).after rN
theorem PE (bD : Ao T call) (n : Nat) {f : Nat} {F : au} {D : List (Nat × Option Nat × au)} (hT : T f = some (.NW F D)) (eh : lG F = true) (hD : Xm D = true) {args : List EV} {m : Mem} {fin : Fin} (h : jf call n F.sub (KS D) args m = some fin) {θ : cF} {m' : Mem} {ay : List EV} (hg : gM θ m m') (ha : dT θ args ay) : vu θ m m' fin (run T f ay m') := by
 unfold jf at h;simp only [au.sub] at h
 cases hb : args.length.ble F.ntmps <;> simp only [hb, cond_true, cond_false, reduceCtorEq] at h
 have hlen : ay.length <= F.ntmps := by rw [<- ha.length]; exact qS hb
 rw [SM hT hlen]
 cases hc : ap call n F.body.sub ⟨cK args 0 .leaf, []⟩ m with
 | none => simp [hc] at h
 | some out =>
  have hf : BU θ ⟨cK args 0 .leaf, []⟩ ⟨cK ay 0 .leaf, []⟩ := ⟨vr 0 ha fun k => by rw [show (⟨.leaf, []⟩ : Fr) = pq from rfl, lS]; exact .undef, .nil⟩
  obtain ⟨θ1, BH, e, hs, eo⟩ := kF bD n F.body _ _ _ hc eh θ _ m' hf hg
  rw [e];simp only [hc] at h
  cases hs with
  | exit hf hg => simp at h
  | norm sk hg1 => exact (oO bD n hD _ _ none none θ1 _ _ fin sk.NX rfl hg1 sk h).after eo
  | ret sk hg1 => exact (oO bD n hD _ _ none none θ1 _ _ fin sk.NX rfl hg1 sk h).after eo
  | @gI v v' _ _ _ _ zi sk hg1 => exact (oO bD n hD _ _ (some v) (some v') θ1 _ _ fin sk.NX ⟨v', rfl, zi⟩ hg1 sk h).after eo
def gZ (T : Nat -> Option iq) (f : Nat) : iq -> Prop
 | .go F1 => ∃ F, T f = some (.go F) /\ lG F = true /\ F1 = F.sub
 | .ext g => ∀ θ m m' args ay v, gM θ m m' -> dT θ args ay -> g args = some v -> vu θ m m' (.ret v m) (run T f ay m')
 | .pure g => ∀ θ m m' args ay v, gM θ m m' -> dT θ args ay -> g args = some v -> vu θ m m' (.ret v m) (run T f ay m')
 | .spec g => ∀ θ m m' args ay fin, gM θ m m' -> dT θ args ay -> g args m = some fin -> vu θ m m' fin (run T f ay m')
 | .NW F1 D1 => ∃ F D, T f = some (.NW F D) /\ lG F = true /\ Xm D = true /\ F1 = F.sub /\ D1 = KS D
theorem De {T1 : Nat -> Option iq} (h1 : ∀ f e, T1 f = some e -> gZ T f e) : ∀ k, Ao T (aT T1 k)
 | 0 => fun f args m fin h => by simp [aT] at h
 | k + 1 => fun f args m fin h θ m' ay hg ha => by
  simp only [aT] at h
  cases he : T1 f with
  | none => simp [he] at h
  | some e =>
   have hE := h1 f e he
   simp only [he] at h
   cases e with
   | go F =>
    obtain ⟨F0, hT, eh, rfl⟩ := hE
    exact E9 (De h1 k) k hT eh h hg ha
   | ext g =>
    obtain ⟨v, hv, rfl⟩ := j8.1 h
    exact hE θ m m' args ay v hg ha hv
   | pure g =>
    obtain ⟨v, hv, rfl⟩ := j8.1 h
    exact hE θ m m' args ay v hg ha hv
   | spec g => exact hE θ m m' args ay fin hg ha h
   | NW F D =>
    obtain ⟨F0, D0, hT, eh, hD, rfl, rfl⟩ := hE
    exact PE (De h1 k) k hT eh hD h hg ha
end
end
section
def chunk (e : Nat) : Nat -> List EV -> List (List EV)
 | 0, _ => []
 | n + 1, l => l.take e :: chunk e n (l.drop e)
def Ac (cap : Option Nat) (n : Nat) : Bool := match cap with
 | none => true
 | some c => n.ble c
mutual
def po (F : List EV -> Option (List EV)) (m : Mem) : EV -> Option EV
 | .slice b off n cap => match m.get b with
  | .cells cs e _ _ => bif Ac cap n then (bif (off + n * e).ble cs.length then (F ((cs.drop off).take (n * e))).map fun ys => .fz 0 e (chunk e n ys) else none) else none
  | _ => none
 | .agg xs => (jd F m xs).map .agg
 | .tuple xs => (jd F m xs).map .tuple
 | .iface t v => (po F m v).map (.iface t)
 | .func f x y => match jd F m x, jd F m y with
  | some x, some y => some (.func f x y)
  | _, _ => none
 | .fz _ e els => some (.fz 0 e els)
 | .ptr _ _ | .map _ | .fI _ _ _ _ => none
 | .undef => some .undef
 | .bool b => some (.bool b)
 | .int k n => some (.int k n)
 | .str s => some (.str s)
 | .bL => some .bL
 | .ae => some .ae
 | .bz => some .bz
 | .aO => some .aO
 | .aD => some .aD
def jd (F : List EV -> Option (List EV)) (m : Mem) : List EV -> Option (List EV)
 | [] => some []
 | v :: l => match po F m v, jd F m l with
  | some v, some l => some (v :: l)
  | _, _ => none
end
def cB : Nat -> Mem -> List EV -> Option (List EV)
 | 0, _, _ => none
 | d + 1, m, l => jd (cB d m) m l
mutual
def closed : EV -> Bool
 | .ptr _ _ | .slice _ _ _ _ | .map _ | .fI _ _ _ _ => false
 | .func _ x y => fO x && fO y
 | .iface _ v => closed v
 | .agg x | .tuple x => fO x
 | _ => true
def fO : List EV -> Bool
 | [] => true
 | v :: x => closed v && fO x
end
theorem sc {e : Nat} : ∀ (n : Nat) (l : List EV), (chunk e n l).length = n
 | 0, _ => rfl
 | n + 1, l => by simp [chunk, sc n]
theorem GQ {e : Nat} : ∀ (n : Nat) (l : List EV), l.length = n * e -> (∀ el ∈ chunk e n l, el.length = e) /\ (chunk e n l).flatten = l
 | 0, l, h => by
  rw [Nat.zero_mul] at h;have := List.eq_nil_of_length_eq_zero h
  subst this; simp [chunk]
 | n + 1, l, h => by
  rw [Nat.succ_mul] at h;obtain ⟨h1, h2⟩ := GQ (e := e) n (l.drop e) (by rw [uy]; omega)
  refine ⟨fun el EI => ?_, ?_⟩
  ·simp only [chunk, oU] at EI
   rcases EI with rfl | EI
   ·rw [List.length_take]; omega
   ·exact h1 el EI
  ·simp only [chunk, List.flatten_cons, h2, List.take_append_drop]
open Classical in
noncomputable def cF.end_ (θ : cF) (m' : Mem) : cF := ⟨fun _ => none, fun _ => none, fun c => if ∃ b, θ.g9 b = some c then some (m'.get c) else θ.gQ c⟩
theorem TH {θ : cF} {m' : Mem} {b c : Nat} (h : θ.g9 b = some c) : (θ.end_ m').gQ c = some (m'.get c) := by
 unfold cF.end_; simp only; exact if_pos ⟨b, h⟩
theorem Ie {θ : cF} {m' : Mem} {c : Nat} {B : fK} (h : (θ.end_ m').gQ c = some B) : ((∃ b, θ.g9 b = some c) /\ B = m'.get c) \/ θ.gQ c = some B := by
 unfold cF.end_ at h; simp only at h
 split at h
 ·rename_i hx; cases h; exact .inl ⟨hx, rfl⟩
 ·exact .inr h
theorem MX {θ : cF} {m' : Mem} {n n' : Nat} (k : qR θ n n') : cF.Ext θ.low (θ.end_ m') := by
 refine ⟨fun _ _ h => (by simp [cF.low] at h), fun _ _ h => (by simp [cF.low] at h), fun c B h => ?_⟩
 have h' : θ.gQ c = some B := h
 unfold cF.end_; simp only
 rw [if_neg, h']
 rintro ⟨b, hb⟩
 rw [k.off b c hb] at h'; cases h'
theorem SR.low {θ : cF} {e : Nat} {els : List (List EV)} {b off : Nat} (h : SR θ e els b off) : SR θ.low e els b off := by
 cases h with | mk hs hl hn hx => exact .mk hs hl hn hx
section
variable {θ : cF} {m m' : Mem} {F : List EV -> Option (List EV)}
theorem dT.Hw {l' : List EV} (h : dT θ [] l') : l' = [] := by cases h; rfl
theorem dT.cons_inv {v : EV} {l l' : List EV} (h : dT θ (v :: l) l') : ∃ v' r', l' = v' :: r' /\ SV θ v v' /\ dT θ l r' := by
 cases h with | cons h hs => exact ⟨_, _, rfl, h, hs⟩
theorem GI {v : EV} {l r : List EV} (h : jd F m (v :: l) = some r) : ∃ a b, po F m v = some a /\ jd F m l = some b /\ r = a :: b := by
 simp only [jd] at h
 cases h1 : po F m v with
 | none => simp [h1] at h
 | some a =>
  cases h2 : jd F m l with
  | none => simp [h1, h2] at h
  | some b => simp only [h1, h2, bf] at h; exact ⟨a, b, rfl, rfl, h.symm⟩
mutual
theorem ND (hg : gM θ m m') (hF : ∀ l r l', F l = some r -> dT θ l l' -> dT (θ.end_ m') r l') : ∀ {v r v' : EV}, po F m v = some r -> SV θ v v' -> SV (θ.end_ m') r v'
 | .undef, r, v', h, hv => by cases hv; cases h; exact .undef
 | .bool b, r, v', h, hv => by cases hv; cases h; exact .bool b
 | .int k n, r, v', h, hv => by cases hv; cases h; exact .int k n
 | .str s, r, v', h, hv => by cases hv; cases h; exact .str s
 | .bL, r, v', h, hv => by cases hv; cases h; exact .bL
 | .ae, r, v', h, hv => by cases hv; cases h; exact .ae
 | .bz, r, v', h, hv => by cases hv; cases h; exact .bz
 | .aO, r, v', h, hv => by cases hv; cases h; exact .aO
 | .aD, r, v', h, hv => by cases hv; cases h; exact .aD
 | .ptr _ _, r, v', h, hv => by simp [po] at h
 | .map _, r, v', h, hv => by simp [po] at h
 | .fI _ _ _ _, r, v', h, hv => by simp [po] at h
 | .fz t e els, r, v', h, hv => by
  simp only [po, bf] at h; subst h
  cases hv with
  | fz hr ht hc => exact .fz (hr.low.ext (MX hg.ok)) (.inl rfl) hc
  | BR ht => exact .BR (.inl rfl)
 | .slice b off n cap, r, v', h, hv => by
  cases hv with
  | @slice _ _ c _ _ _ hb =>
  simp only [po] at h;have hB := hg.de b c hb
  cases VU : m.get b with
  | dead => simp [VU] at h
  | map es => simp [VU] at h
  | cells cs e k ro =>
   rw [VU] at hB;obtain ⟨lT, uA, hs⟩ := hB
   simp only [VU] at h
   cases JQ : Ac cap n <;> simp only [JQ, cond_true, cond_false, reduceCtorEq] at h
   cases hl : (off + n * e).ble cs.length <;> simp only [hl, cond_true, cond_false, reduceCtorEq] at h
   have hle := qS hl
   obtain ⟨ys, hy, rfl⟩ := j8.1 h
   have Tg := hF _ _ _ hy ((hs.drop off).take (n * e))
   have hyl : ys.length = n * e := by rw [Tg.length, List.length_take, uy, <- hs.length]; omega
   obtain ⟨q1, q2⟩ := GQ n ys hyl
   have eo := TH (m' := m') hb
   rw [uA] at eo;have hr : SR (θ.end_ m') e (chunk e n ys) c off := .mk eo q1 (by rw [sc, <- hs.length]; exact hle) (by rw [q2, sc]; exact Tg)
   have := SV.fz (t := 0) (cap := cap) hr (.inl rfl) (fun q hq => by subst hq; rw [sc]; exact qS JQ)
   rw [sc] at this; exact this
 | .agg x, r, v', h, hv => by
  simp only [po] at h;obtain ⟨y, hy, rfl⟩ := j8.1 h
  cases hv with | agg hx => exact .agg (rS hg hF hy hx)
 | .tuple x, r, v', h, hv => by
  simp only [po] at h;obtain ⟨y, hy, rfl⟩ := j8.1 h
  cases hv with | tuple hx => exact .tuple (rS hg hF hy hx)
 | .iface t x, r, v', h, hv => by
  simp only [po] at h;obtain ⟨y, hy, rfl⟩ := j8.1 h
  cases hv with | iface hx => exact .iface (ND hg hF hy hx)
 | .func f x y, r, v', h, hv => by
  simp only [po] at h
  cases h1 : jd F m x with
  | none => simp [h1] at h
  | some a =>
   cases h2 : jd F m y with
   | none => simp [h1, h2] at h
   | some b =>
    simp only [h1, h2, bf] at h; subst h
    cases hv with | func hx hy => exact .func (rS hg hF h1 hx) (rS hg hF h2 hy)
theorem rS (hg : gM θ m m') (hF : ∀ l r l', F l = some r -> dT θ l l' -> dT (θ.end_ m') r l') : ∀ {l r l' : List EV}, jd F m l = some r -> dT θ l l' -> dT (θ.end_ m') r l'
 | [], r, l', h, hv => by
  have := hv.Hw; subst this
  simp only [jd, bf] at h; subst h; exact .nil
 | v :: l, r, l', h, hv => by
  obtain ⟨a, b, h1, h2, rfl⟩ := GI h
  obtain ⟨v', r', rfl, g1, g2⟩ := hv.cons_inv
  exact .cons (ND hg hF h1 g1) (rS hg hF h2 g2)
end
theorem va (hg : gM θ m m') : ∀ (d : Nat) (l r l' : List EV), cB d m l = some r -> dT θ l l' -> dT (θ.end_ m') r l'
 | 0, l, r, l', h, _ => by simp [cB] at h
 | d + 1, l, r, l', h, hv => rS hg (va hg d) h hv
mutual
theorem EP : ∀ {v r v' : EV}, po F m v = some r -> closed v = true -> SV θ v v' -> SV θ.low r v'
 | .undef, r, v', h, _, hv => by cases hv; cases h; exact .undef
 | .bool b, r, v', h, _, hv => by cases hv; cases h; exact .bool b
 | .int k n, r, v', h, _, hv => by cases hv; cases h; exact .int k n
 | .str s, r, v', h, _, hv => by cases hv; cases h; exact .str s
 | .bL, r, v', h, _, hv => by cases hv; cases h; exact .bL
 | .ae, r, v', h, _, hv => by cases hv; cases h; exact .ae
 | .bz, r, v', h, _, hv => by cases hv; cases h; exact .bz
 | .aO, r, v', h, _, hv => by cases hv; cases h; exact .aO
 | .aD, r, v', h, _, hv => by cases hv; cases h; exact .aD
 | .ptr _ _, r, v', h, _, hv => by simp [po] at h
 | .map _, r, v', h, _, hv => by simp [po] at h
 | .fI _ _ _ _, r, v', h, _, hv => by simp [po] at h
 | .slice _ _ _ _, r, v', h, hc, hv => by simp [closed] at hc
 | .fz t e els, r, v', h, _, hv => by
  simp only [po, bf] at h; subst h
  cases hv with
  | fz hr ht hc => exact .fz hr.low (.inl rfl) hc
  | BR ht => exact .BR (.inl rfl)
 | .agg x, r, v', h, hc, hv => by
  simp only [po] at h;obtain ⟨y, hy, rfl⟩ := j8.1 h
  cases hv with | agg hx => exact .agg (li hy (by simpa only [closed] using hc) hx)
 | .tuple x, r, v', h, hc, hv => by
  simp only [po] at h;obtain ⟨y, hy, rfl⟩ := j8.1 h
  cases hv with | tuple hx => exact .tuple (li hy (by simpa only [closed] using hc) hx)
 | .iface t x, r, v', h, hc, hv => by
  simp only [po] at h;obtain ⟨y, hy, rfl⟩ := j8.1 h
  cases hv with | iface hx => exact .iface (EP hy (by simpa only [closed] using hc) hx)
 | .func f x y, r, v', h, hc, hv => by
  simp only [po] at h;simp only [closed, pI] at hc
  cases h1 : jd F m x with
  | none => simp [h1] at h
  | some a =>
   cases h2 : jd F m y with
   | none => simp [h1, h2] at h
   | some b =>
    simp only [h1, h2, bf] at h; subst h
    cases hv with | func hx hy => exact .func (li h1 hc.1 hx) (li h2 hc.2 hy)
theorem li : ∀ {l r l' : List EV}, jd F m l = some r -> fO l = true -> dT θ l l' -> dT θ.low r l'
 | [], r, l', h, _, hv => by
  have := hv.Hw; subst this
  simp only [jd, bf] at h; subst h; exact .nil
 | v :: l, r, l', h, hc, hv => by
  simp only [fO, pI] at hc;obtain ⟨a, b, h1, h2, rfl⟩ := GI h
  obtain ⟨v', r', rfl, g1, g2⟩ := hv.cons_inv
  exact .cons (EP h1 hc.1 g1) (li h2 hc.2 g2)
end
def gD : Nat -> List EV -> List EV
 | _, [] => []
 | i, v :: r => (match v with | .fz _ e els => .fz i e els | v => v) :: gD (i + 1) r
def Qc (l : List EV) (t : Nat) : Option (Nat × Nat × Option Nat) := match l[t - 1]? with
 | some (.slice b off _ cap) => some (b, off, cap)
 | _ => none
theorem B7 {S : Nat -> Option fK} {tg : Nat -> Option (Nat × Nat × Option Nat)} : ∀ (l l' : List EV) (i : Nat), (∀ j b off n cap, l'[j]? = some (.slice b off n cap) -> tg (i + j) = some (b, off, cap)) -> dT ⟨fun _ => none, fun _ => none, S⟩ l l' -> dT ⟨fun _ => none, tg, S⟩ (gD i l) l'
 | [], l', i, _, h => by have := h.Hw; subst this; exact .nil
 | v :: l, l', i, ht, h => by
  obtain ⟨v', r', rfl, g1, g2⟩ := h.cons_inv
  have e : cF.Ext ⟨fun _ => none, fun _ => none, S⟩ ⟨fun _ => none, tg, S⟩ := ⟨fun _ _ h => by simp at h, fun _ _ h => by simp at h, fun _ _ h => h⟩
  refine .cons ?_ (B7 l r' (i + 1) (fun j b off n cap hj => by have := ht (j + 1) b off n cap (by simpa using hj); rw [show i + 1 + j = i + (j + 1) by omega]; exact this) g2)
  have rJ : SV ⟨fun _ => none, tg, S⟩ v v' := g1.ext e
  cases v <;> try exact rJ
  cases g1 with
  | fz hr _ hc => exact .fz (hr.ext e) (.inr (by have := ht 0 _ _ _ _ rfl; exact this)) hc
  | BR _ => exact .BR (.inr (by have := ht 0 _ _ _ _ rfl; exact this))
theorem DX (l : List EV) : ∀ j b off n cap, l[j]? = some (.slice b off n cap) -> Qc l (1 + j) = some (b, off, cap) := by
 intro j b off n cap h
 unfold Qc;rw [show 1 + j - 1 = j by omega, h]
end
def bH : Mem := ⟨0, .leaf⟩
theorem OV (b : Nat) : bH.get b = .dead := QT 0 b
def deep : Nat := 8
def kh (g : List EV -> Option EV) (args : List EV) (m : Mem) : Option Fin := match cB deep m args with
 | some eQ => match g (gD 1 eQ) with
  | some V => bif Flat V then some (.ret V m) else none
  | none => none
 | none => none
def kg (g : List EV -> Option EV) (args : List EV) (m : Mem) : Option Fin := bif fO args then match cB deep m args with
 | some eQ => match g (gD 1 eQ) with
  | some V => some (.ret V ⟨m.next + 1, m.gH⟩)
  | none => none
 | none => none else none
noncomputable def qL (T : Nat -> Option iq) (F : au) (eQ : List EV) : Option EV := bif eQ.length.ble F.ntmps then
 match sV F (exec T F.body ⟨cK eQ 0 .leaf, []⟩ bH) with
 | some (.ret v m) => match cB deep m [v] with
  | some [V] => some V
  | _ => none
 | _ => none else none
section
variable {T T1 : Nat -> Option iq}
theorem TO {F : au} {eQ : List EV} {fin : Fin} (hl : eQ.length.ble F.ntmps = true) (h : sV F (exec T1 F.body ⟨cK eQ 0 .leaf, []⟩ bH) = some fin) : ∃ n, dz (aT T1 n) n F eQ bH = some fin := by
 cases hc : exec T1 F.body ⟨cK eQ 0 .leaf, []⟩ bH with
 | none => simp [hc, sV] at h
 | some o =>
  obtain ⟨n, hn⟩ := cj.1 hc
  refine ⟨n, ?_⟩
  rw [hc] at h;simp only [dz, hl, cond_true, hn]
  cases o <;> exact h
theorem TF {F : au} {eQ : List EV} {fin : Fin} {n : Nat} (h : dz (aT T1 n) n F eQ bH = some fin) : eQ.length.ble F.ntmps = true /\ sV F (exec T1 F.body ⟨cK eQ 0 .leaf, []⟩ bH) = some fin := by
 unfold dz at h
 cases hl : eQ.length.ble F.ntmps <;> simp only [hl, cond_true, cond_false, reduceCtorEq] at h
 refine ⟨rfl, ?_⟩
 cases hc : ap (aT T1 n) n F.body ⟨cK eQ 0 .leaf, []⟩ bH with
 | none => simp [hc] at h
 | some o =>
  rw [cj.2 ⟨n, hc⟩];simp only [hc] at h
  cases o <;> exact h
theorem A8 {F : au} {eQ : List EV} {V : EV} (h : qL T1 F eQ = some V) : ∃ n v m, dz (aT T1 n) n F eQ bH = some (.ret v m) /\ cB deep m [v] = some [V] := by
 unfold qL at h
 cases hl : eQ.length.ble F.ntmps <;> simp only [hl, cond_true, cond_false, reduceCtorEq] at h
 cases hr : sV F (exec T1 F.body ⟨cK eQ 0 .leaf, []⟩ bH) with
 | none => simp [hr] at h
 | some fin =>
  cases fin with
  | gI v m => simp [hr] at h
  | ret v m =>
   simp only [hr] at h;obtain ⟨n, hn⟩ := TO hl hr
   refine ⟨n, v, m, hn, ?_⟩
   split at h
   ·rename_i q; cases h; exact q
   ·cases h
theorem Af {F : au} {eQ : List EV} {V v : EV} {m : Mem} {n : Nat} (h : dz (aT T1 n) n F eQ bH = some (.ret v m)) (hv : cB deep m [v] = some [V]) : qL T1 F eQ = some V := by
 obtain ⟨h1, h2⟩ := TF h
 unfold qL;simp only [h1, cond_true, h2, hv]
theorem pure_run (h1 : ∀ f e, T1 f = some e -> gZ T f e) {f : Nat} {F : au} (hT : T f = some (.go F)) (eh : lG F = true) {eQ : List EV} {V : EV} (h : qL T1 F.sub eQ = some V) {tg : Nat -> Option (Nat × Nat × Option Nat)} {S : Nat -> Option fK} {m' : Mem} {ay : List EV}
  (Pa : ∀ b B, S b = some B -> m'.get b = B /\ b < m'.next) (ha : dT ⟨fun _ => none, tg, S⟩ eQ ay) (Rw : mG ⟨fun _ => none, tg, S⟩) :
  ∃ v' m1 fU θ, run T f ay m' = some (.ret v' fU) /\ ob ⟨fun _ => none, tg, S⟩ bH m' θ m1 fU /\ gM θ m1 fU /\ SV (θ.end_ fU) V v' := by
 obtain ⟨n, v, m, hb, hf⟩ := A8 h
 have hg : gM ⟨fun _ => none, tg, S⟩ bH m' := ⟨⟨⟨fun b c hb => by simp at hb, fun b _ => OV b⟩, fun b B hb => (Pa b B hb).1⟩, ⟨fun b c hb => by simp at hb, fun a b c hb => by simp at hb, fun b c hb => by simp at hb, fun b B hb => (Pa b B hb).2⟩, Rw⟩
 obtain ⟨θ, JY, e, hs, eo⟩ := E9 (De h1 n) n hT eh hb hg ha
 cases hs with
 | @ret _ v' _ fU hv hg1 =>
  have := va hg1 deep [v] [V] [v'] hf (.cons hv .nil)
  obtain ⟨w, r, hw, q1, q2⟩ := this.cons_inv
  cases hw
  exact ⟨v', m, fU, θ, e, eo, hg1, q1⟩
theorem Gk (h1 : ∀ f e, T1 f = some e -> gZ T f e) {f : Nat} {F : au} (hT : T f = some (.go F)) (eh : lG F = true) {g : List EV -> Option EV} (hg : ∀ eQ V, g eQ = some V -> qL T1 F.sub eQ = some V) : gZ T f (.spec (kh g)) := by
 intro θ m m' args ay fin nR ha h
 unfold kh at h
 cases hfz : cB deep m args with
 | none => simp [hfz] at h
 | some eQ =>
  simp only [hfz] at h
  cases hv : g (gD 1 eQ) with
  | none => simp [hv] at h
  | some V =>
   simp only [hv] at h
   cases HW : Flat V <;> simp only [HW, cond_true, cond_false, reduceCtorEq, bf] at h
   subst h;have hs := va nR deep args eQ ay hfz ha
   obtain ⟨v', m1, fU, θ1, e, eo, hg1, zi⟩ := pure_run h1 hT eh (hg _ _ hv) (m' := m') (S := (θ.end_ m').gQ) (fun b B hb => by
    rcases Ie hb with ⟨⟨x, hx⟩, rfl⟩ | hb
    ·exact ⟨rfl, (nR.ok.g9 x b hx).2⟩
    ·exact ⟨nR.gQ b B hb, nR.ok.gQ b B hb⟩) (B7 eQ ay 1 (DX ay) hs) (nR.Fy.down ⟨fun _ _ h => (by simp [cF.low] at h), fun _ _ h => (by simp [cF.low] at h), (MX nR.ok).gQ⟩)
   have := zi.flat HW
   subst this;have rJ : ∀ c, c < m'.next -> fU.get c = m'.get c := fun c hc => eo.rJ c hc fun b hb => by simp at hb
   refine ⟨θ, _, e, .ret (SV.of_flat HW) ⟨⟨⟨fun b c hb => ?_, nR.cl⟩, fun b B hb => ?_⟩, ⟨fun b c hb => ⟨(nR.ok.g9 b c hb).1, mn (nR.ok.g9 b c hb).2 eo.n2⟩, nR.ok.inj, nR.ok.off, fun b B hb => mn (nR.ok.gQ b B hb) eo.n2⟩, nR.Fy⟩,
    ⟨.refl θ, fun _ _ h => .inl h, fun _ _ h => .inl h, fy _, eo.n2, fun c hc _ => rJ c hc⟩⟩
   ·rw [rJ c (nR.ok.g9 b c hb).2]; exact nR.de b c hb
   ·rw [rJ b (nR.ok.gQ b B hb)]; exact nR.gQ b B hb
theorem OF (h1 : ∀ f e, T1 f = some e -> gZ T f e) {f : Nat} {F : au} (hT : T f = some (.go F)) (eh : lG F = true) {g : List EV -> Option EV} (hg : ∀ eQ V, g eQ = some V -> qL T1 F.sub eQ = some V) : gZ T f (.spec (kg g)) := by
 intro θ m m' args ay fin nR ha h
 unfold kg at h
 cases oQ : fO args <;> simp only [oQ, cond_true, cond_false, reduceCtorEq] at h
 cases hfz : cB deep m args with
 | none => simp [hfz] at h
 | some eQ =>
  simp only [hfz] at h
  cases hv : g (gD 1 eQ) with
  | none => simp [hv] at h
  | some V =>
   simp only [hv, bf] at h;subst h;have hs : dT θ.low eQ ay := li (F := cB 7 m) (m := m) hfz oQ ha
   obtain ⟨v', m1, fU, θ1, e, eo, hg1, zi⟩ := pure_run h1 hT eh (hg _ _ hv) (m' := m') (S := θ.gQ) (fun b B hb => ⟨nR.gQ b B hb, nR.ok.gQ b B hb⟩) (B7 eQ ay 1 (DX ay) hs) (nR.Fy.down ⟨fun _ _ h => (by simp [cF.low] at h), fun _ _ h => (by simp [cF.low] at h), fun _ _ h => h⟩)
   have rJ : ∀ c, c < m'.next -> fU.get c = m'.get c := fun c hc => eo.rJ c hc fun b hb => by simp at hb
   let θ2 : cF := ⟨θ.g9, θ.tag, fun c => if c < m'.next then θ.gQ c else (θ1.end_ fU).gQ c⟩
   have s1 : ∀ c, c < m'.next -> θ2.gQ c = θ.gQ c := fun c hc => if_pos hc
   have s2 : ∀ c, ¬ c < m'.next -> θ2.gQ c = (θ1.end_ fU).gQ c := fun c hc => if_neg hc
   have KG : ∀ c B, (θ1.end_ fU).gQ c = some B -> fU.get c = B /\ c < fU.next := by
    intro c B hb
    rcases Ie hb with ⟨⟨x, hx⟩, rfl⟩ | hb
    ·exact ⟨rfl, (hg1.ok.g9 x c hx).2⟩
    ·exact ⟨hg1.gQ c B hb, hg1.ok.gQ c B hb⟩
   have acj : cF.Ext (θ1.end_ fU) θ2 := by
    refine ⟨fun _ _ h => (by simp [cF.end_] at h), fun _ _ h => (by simp [cF.end_] at h), fun c B hb => ?_⟩
    by_cases hc : c < m'.next
    ·rw [s1 c hc]
     rcases Ie hb with ⟨⟨x, hx⟩, rfl⟩ | hb
     ·rcases eo.g9 x c hx with q | ⟨_, q⟩
      ·simp at q
      ·omega
     ·rcases eo.gQ c B hb with q | ⟨q, _⟩
      ·exact q
      ·omega
    ·rw [s2 c hc]; exact hb
   have ext : cF.Ext θ θ2 := ⟨fun _ _ h => h, fun _ _ h => h, fun c B hb => by rw [s1 c (nR.ok.gQ c B hb)]; exact hb⟩
   refine ⟨θ2, _, e, .ret (zi.ext acj) ⟨⟨⟨fun b c hb => ?_, nR.cl⟩, fun c B hb => ?_⟩, ⟨fun b c hb => ⟨Nat.lt_succ_of_lt (nR.ok.g9 b c hb).1, mn (nR.ok.g9 b c hb).2 eo.n2⟩, nR.ok.inj, fun b c hb => ?_, fun c B hb => ?_⟩, nR.Fy.ext ext⟩,
    ⟨ext, fun _ _ h => .inl h, fun c B hb => ?_, Nat.le_succ _, eo.n2, fun c hc _ => rJ c hc⟩⟩
   ·have := nR.ok.g9 b c hb
    rw [rJ c this.2]; exact (nR.de b c hb).ext ext
   ·by_cases hc : c < m'.next
    ·rw [s1 c hc] at hb; rw [rJ c hc]; exact nR.gQ c B hb
    ·rw [s2 c hc] at hb; exact (KG c B hb).1
   ·rw [s1 c (nR.ok.g9 b c hb).2]; exact nR.ok.off b c hb
   ·by_cases hc : c < m'.next
    ·exact mn hc eo.n2
    ·rw [s2 c hc] at hb; exact (KG c B hb).2
   ·by_cases hc : c < m'.next
    ·rw [s1 c hc] at hb; exact .inl hb
    ·exact .inr ⟨Nat.le_of_not_lt hc, Nat.lt_succ_self _⟩
end
end
section
def PT (T : Nat -> Option iq) (K : Nat -> Nat) (P : Nat -> List EV -> Option EV) (f : Nat) : Option iq := match K f with
 | 0 => T f
 | 1 => some (.spec (kh (P f)))
 | _ => some (.spec (kg (P f)))
noncomputable def PF (T : Nat -> Option iq) (K : Nat -> Nat) : Nat -> Nat -> List EV -> Option EV
 | 0, _, _ => none
 | k + 1, f, eQ => match T f with
  | some (.go F) => qL (PT T K (PF T K k)) F eQ
  | _ => none
noncomputable def cR (T : Nat -> Option iq) (K : Nat -> Nat) (f : Nat) (eQ : List EV) : Option EV := Ss fun k => PF T K k f eQ
noncomputable def UT (T : Nat -> Option iq) (K : Nat -> Nat) : Nat -> Option iq := PT T K (cR T K)
def Zs (P P' : Nat -> List EV -> Option EV) : Prop := ∀ f eQ V, P f eQ = some V -> P' f eQ = some V
theorem OE {g g' : List EV -> Option EV} (h : ∀ eQ V, g eQ = some V -> g' eQ = some V) {args : List EV} {m : Mem} {r : Fin} (e : kh g args m = some r) : kh g' args m = some r := by
 unfold kh at e ⊢
 cases hf : cB deep m args with
 | none => simp [hf] at e
 | some eQ =>
  simp only [hf] at e ⊢
  cases hv : g (gD 1 eQ) with
  | none => simp [hv] at e
  | some V => rw [h _ _ hv]; simp only [hv] at e ⊢; exact e
theorem OD {g g' : List EV -> Option EV} (h : ∀ eQ V, g eQ = some V -> g' eQ = some V) {args : List EV} {m : Mem} {r : Fin} (e : kg g args m = some r) : kg g' args m = some r := by
 unfold kg at e ⊢
 cases hc : fO args <;> simp only [hc, cond_true, cond_false, reduceCtorEq] at e ⊢
 cases hf : cB deep m args with
 | none => simp [hf] at e
 | some eQ =>
  simp only [hf] at e ⊢
  cases hv : g (gD 1 eQ) with
  | none => simp [hv] at e
  | some V => rw [h _ _ hv]; simp only [hv] at e ⊢; exact e
theorem Fj {T : Nat -> Option iq} {K : Nat -> Nat} {P P' : Nat -> List EV -> Option EV} (h : Zs P P') : ∀ n, nT (aT (PT T K P) n) (aT (PT T K P') n)
 | 0 => fun f a m r e => by simp [aT] at e
 | n + 1 => fun f a m r e => by
  simp only [aT] at e ⊢
  rcases hK : K f with _ | _ | q <;> simp only [PT, hK] at e ⊢
  ·cases hT : T f with
   | none => simp [hT] at e
   | some x =>
    simp only [hT] at e ⊢
    cases x with
    | go F => simp only [ij] at e ⊢; exact oR (Fj h n) (fy _) e
    | ext g => exact e
    | pure g => exact e
    | spec g => exact e
    | NW F D => simp only [ij] at e ⊢; exact EW (Fj h n) (fy _) e
  ·simp only [ij] at e ⊢; exact OE (h f) e
  ·simp only [ij] at e ⊢; exact OD (h f) e
theorem Kq {T1 T2 : Nat -> Option iq} (h : ∀ n, nT (aT T1 n) (aT T2 n)) {F : au} {eQ : List EV} {V : EV} (e : qL T1 F eQ = some V) : qL T2 F eQ = some V := by
 obtain ⟨n, v, m, hb, hf⟩ := A8 e
 exact Af (oR (h n) (fy _) hb) hf
theorem N9 {T : Nat -> Option iq} {K : Nat -> Nat} : ∀ k, Zs (PF T K k) (PF T K (k + 1))
 | 0 => fun f eQ V e => by simp [PF] at e
 | k + 1 => fun f eQ V e => by
  simp only [PF] at e ⊢
  cases hT : T f with
  | none => simp [hT] at e
  | some x =>
   cases x with
   | go F => simp only [hT] at e ⊢; exact Kq (Fj (N9 k)) e
   | ext g => simp [hT] at e
   | pure g => simp [hT] at e
   | spec g => simp [hT] at e
   | NW F D => simp [hT] at e
theorem Oa {T : Nat -> Option iq} {K : Nat -> Nat} {k k' : Nat} (h : k <= k') : Zs (PF T K k) (PF T K k') := by
 induction h with
 | refl => exact fun _ _ _ e => e
 | step _ ih => exact fun f eQ V e => N9 _ f eQ V (ih f eQ V e)
theorem S5 {T : Nat -> Option iq} {K : Nat -> Nat} {f : Nat} {eQ : List EV} : Fk fun k => PF T K k f eQ := fun _ _ _ h e => Oa h f eQ _ e
theorem mu {T : Nat -> Option iq} {K : Nat -> Nat} {f : Nat} {eQ : List EV} {V : EV} : cR T K f eQ = some V ↔ ∃ k, PF T K k f eQ = some V := ql S5
section
variable {c : Call} {ck : Nat -> Call} (hm : ∀ k k', k <= k' -> nT (ck k) (ck k')) (hc : ∀ f a m r, c f a m = some r -> ∃ k, ck k f a m = some r)
include hm hc
theorem EU {fv : EV} {a : List EV} {m : Mem} {r : Fin} (e : fP c fv a m = some r) : ∃ k, fP (ck k) fv a m = some r := by
 cases fv <;> simp only [fP, reduceCtorEq] at e ⊢
 exact hc _ _ _ _ e
theorem rY : ∀ (ops : List ba) (fr : Fr) (m : Mem) (r : Out), gR c ops fr m = some r -> ∃ k, gR (ck k) ops fr m = some r
 | [], fr, m, r, e => ⟨0, e⟩
 | o :: ops, fr, m, r, e => by
  simp only [gR] at e ⊢
  cases hw : bh fr o.guard with
  | none => simp [hw] at e
  | some b =>
  cases b with
  | false => simp only [hw] at e ⊢; exact rY ops _ _ _ e
  | true =>
   simp only [hw] at e ⊢
   cases ho : o.op with
   | val op =>
    simp only [ho] at e ⊢
    cases hv : aB fr.eval op m with
    | none => simp [hv] at e
    | some q => obtain ⟨v, m1⟩ := q; simp only [hv] at e ⊢; exact rY ops _ _ _ e
   | call f args =>
    simp only [ho] at e ⊢
    cases hv : fP c (fr.eval f) (args.map fr.eval) m with
    | none => simp [hv] at e
    | some q =>
     obtain ⟨k1, h1⟩ := EU hm hc hv
     cases q with
     | ret v m1 =>
      simp only [hv] at e;obtain ⟨k2, h2⟩ := rY ops _ _ _ e
      refine ⟨max k1 k2, ?_⟩
      rw [wO (hm k1 _ (Nat.le_max_left _ _)) h1];exact py (hm k2 _ (Nat.le_max_right _ _)) _ _ _ _ h2
     | gI v m1 => simp only [hv] at e; exact ⟨k1, by rw [h1]; exact e⟩
   | panic x => simp only [ho] at e ⊢; exact ⟨0, e⟩
   | defer f args =>
    simp only [ho] at e ⊢
    split at e
    ·rename_i hx
     obtain ⟨k, h⟩ := rY ops _ _ _ e
     exact ⟨k, h⟩
    ·cases e
theorem jP {chk : List (Nat × Nat)} {B0 : Nat} : ∀ (ops : List ba) (i : Nat) (fr : Fr) (m : Mem) (sn : List (Nat × Mem)) (se : List Seen) (r : Out), dL c chk B0 ops i fr m sn se = some r -> ∃ k, dL (ck k) chk B0 ops i fr m sn se = some r
 | [], i, fr, m, sn, se, r, e => ⟨0, e⟩
 | o :: ops, i, fr, m, sn, se, r, e => by
  simp only [dL] at e ⊢
  cases hw : bh fr o.guard with
  | none => simp [hw] at e
  | some b =>
  cases b with
  | false => simp only [hw] at e ⊢; exact jP ops _ _ _ _ _ _ e
  | true =>
   simp only [hw] at e ⊢
   cases ho : o.op with
   | val op =>
    simp only [ho] at e ⊢
    split at e
    ·cases hv : aB fr.eval op m with
     | none => simp [hv] at e
     | some q => obtain ⟨v, m1⟩ := q; simp only [hv] at e ⊢; exact jP ops _ _ _ _ _ _ e
    ·cases hv : aB fr.eval op ⟨B0 + i, m.gH⟩ with
     | none => simp [hv] at e
     | some q => obtain ⟨v, m1⟩ := q; simp only [hv] at e ⊢; exact jP ops _ _ _ _ _ _ e
    ·split at e
     ·rename_i agg x _
      cases hl : m.load agg (fr.eval x) with
      | none => simp [hl] at e
      | some v =>
       simp only [hl] at e ⊢
       cases hf : Gz (fr.eval x) <;> simp only [hf, cond_true, cond_false] at e ⊢
       ·cases hk : bE chk i agg (fr.eval x) v sn <;> simp only [hk, cond_true, cond_false, reduceCtorEq] at e ⊢
        exact jP ops _ _ _ _ _ _ e
       ·cases hk : dQ chk i m.next sn <;> simp only [hk, cond_true, cond_false, reduceCtorEq] at e ⊢
        exact jP ops _ _ _ _ _ _ e
     ·cases e
    ·rename_i h0 h1 h2
     cases hv : aB fr.eval op m with
     | none => simp [hv] at e
     | some q =>
      obtain ⟨v, m1⟩ := q
      simp only [hv] at e ⊢
      cases hk : aY chk i m1 se <;> simp only [hk, cond_true, cond_false, reduceCtorEq] at e ⊢
      exact jP ops _ _ _ _ _ _ e
   | call f args =>
    simp only [ho] at e ⊢
    cases hv : fP c (fr.eval f) (args.map fr.eval) m with
    | none => simp [hv] at e
    | some q =>
     obtain ⟨k1, h1⟩ := EU hm hc hv
     cases q with
     | ret v m1 =>
      simp only [hv] at e
      cases hk : aY chk i m1 se <;> simp only [hk, cond_true, cond_false, reduceCtorEq] at e
      obtain ⟨k2, h2⟩ := jP ops _ _ _ _ _ _ e
      refine ⟨max k1 k2, ?_⟩
      rw [wO (hm k1 _ (Nat.le_max_left _ _)) h1];simp only [hk, cond_true];exact jt (hm k2 _ (Nat.le_max_right _ _)) _ _ _ _ _ _ _ h2
     | gI v m1 => simp [hv] at e
   | panic x => simp [ho] at e
   | defer f args => simp [ho] at e
theorem JA {n : Nat} {a : aE} (ha : ∀ fr m r, ap c n a fr m = some r -> ∃ k, ap (ck k) n a fr m = some r) : ∀ (j : Nat) (fr : Fr) (m : Mem) (r : Out), iter (ap c n a) j fr m = some r -> ∃ k, iter (ap (ck k) n a) j fr m = some r
 | 0, fr, m, r, e => by simp [iter] at e
 | j + 1, fr, m, r, e => by
  simp only [iter] at e ⊢
  cases hb : ap c n a fr m with
  | none => simp [hb] at e
  | some o =>
   obtain ⟨k1, h1⟩ := ha _ _ _ hb
   simp only [hb] at e
   cases o with
   | norm fX m1 =>
    obtain ⟨k2, h2⟩ := JA ha j fX m1 r e
    refine ⟨max k1 k2, ?_⟩
    rw [e9 (hm k1 _ (Nat.le_max_left k1 k2)) (fy _) _ _ _ _ h1];exact zd (fun fr m r e => e9 (hm k2 _ (Nat.le_max_right k1 k2)) (fy _) _ _ _ _ e) j j (fy _) _ _ _ h2
   | exit id fX m1 => exact ⟨k1, by rw [h1]; exact e⟩
   | ret fX m1 => exact ⟨k1, by rw [h1]; exact e⟩
   | gI v fX m1 => exact ⟨k1, by rw [h1]; exact e⟩
theorem je {n : Nat} : ∀ (x : aE) (fr : Fr) (m : Mem) (r : Out), ap c n x fr m = some r -> ∃ k, ap (ck k) n x fr m = some r
 | .skip, fr, m, r, e => ⟨0, e⟩
 | .ret, fr, m, r, e => ⟨0, e⟩
 | .exit id, fr, m, r, e => ⟨0, e⟩
 | .region ops, fr, m, r, e => by simp only [ap] at e ⊢; exact rY hm hc _ _ _ _ e
 | .draw ops chk, fr, m, r, e => by simp only [ap] at e ⊢; exact jP hm hc _ _ _ _ _ _ _ e
 | .seq a b, fr, m, r, e => by
  simp only [ap] at e ⊢
  cases ha : ap c n a fr m with
  | none => simp [ha] at e
  | some o =>
   obtain ⟨k1, h1⟩ := je a _ _ _ ha
   simp only [ha] at e
   cases o with
   | norm fX m1 =>
    obtain ⟨k2, h2⟩ := je b _ _ _ e
    refine ⟨max k1 k2, ?_⟩
    rw [e9 (hm k1 _ (Nat.le_max_left k1 k2)) (fy _) _ _ _ _ h1];exact e9 (hm k2 _ (Nat.le_max_right k1 k2)) (fy _) _ _ _ _ h2
   | exit id fX m1 => exact ⟨k1, by rw [h1]; exact e⟩
   | ret fX m1 => exact ⟨k1, by rw [h1]; exact e⟩
   | gI v fX m1 => exact ⟨k1, by rw [h1]; exact e⟩
 | .cond x a b, fr, m, r, e => by
  simp only [ap] at e ⊢
  split at e
  ·rename_i t _
   cases t <;> simp only [cond_true, cond_false] at e ⊢
   ·exact je b _ _ _ e
   ·exact je a _ _ _ e
  ·cases e
 | .block id a, fr, m, r, e => by
  simp only [ap] at e ⊢
  cases ha : ap c n a fr m with
  | none => simp [ha] at e
  | some o =>
   obtain ⟨k1, h1⟩ := je a _ _ _ ha
   simp only [ha] at e;exact ⟨k1, by rw [h1]; exact e⟩
 | .loop a, fr, m, r, e => by
  simp only [ap] at e ⊢
  exact JA hm hc (fun fr m r => je a fr m r) n fr m r e
theorem xW {n : Nat} {F : au} {args : List EV} {m : Mem} {r : Fin} (e : dz c n F args m = some r) : ∃ k, dz (ck k) n F args m = some r := by
 unfold dz at e ⊢
 cases hl : args.length.ble F.ntmps <;> simp only [hl, cond_true, cond_false, reduceCtorEq] at e ⊢
 cases KF : ap c n F.body ⟨cK args 0 .leaf, []⟩ m with
 | none => simp [KF] at e
 | some o =>
  obtain ⟨k, h⟩ := je hm hc _ _ _ _ KF
  simp only [KF] at e;exact ⟨k, by rw [h]; exact e⟩
theorem J2 {n d : Nat} {F : au} {args : List EV} {u : Option EV} {m r : Mem} (e : fF c n d F args u m = some r) : ∃ k, fF (ck k) n d F args u m = some r := by
 unfold fF at e ⊢
 cases hl : args.length.ble F.ntmps <;> simp only [hl, cond_true, cond_false, reduceCtorEq] at e ⊢
 cases KF : ap c n F.body (Fr.set ⟨cK args 0 .leaf, []⟩ d (u.getD .aD)) m with
 | none => simp [KF] at e
 | some o =>
  obtain ⟨k, h⟩ := je hm hc _ _ _ _ KF
  simp only [KF] at e;exact ⟨k, by rw [h]; exact e⟩
theorem lk {n : Nat} {rs : List lX} {D : List (Nat × Option Nat × au)} {fr : Fr} : ∀ (ds : List (Nat × List EV)) (u : Option EV) (m : Mem) (r : Fin), cO c n rs D fr ds u m = some r -> ∃ k, cO (ck k) n rs D fr ds u m = some r
 | [], none, m, r, e => ⟨0, e⟩
 | [], some v, m, r, e => ⟨0, e⟩
 | (g, args) :: ds, u, m, r, e => by
  simp only [cO] at e ⊢
  cases hd : mh g D with
  | none => simp [hd] at e
  | some q =>
   obtain ⟨b, F⟩ := q
   cases b with
   | some d =>
    simp only [hd] at e ⊢
    cases hb : fF c n d F args u m with
    | none => simp [hb] at e
    | some m1 =>
     simp only [hb] at e;obtain ⟨k1, h1⟩ := J2 hm hc hb
     obtain ⟨k2, h2⟩ := lk ds none m1 r e
     refine ⟨max k1 k2, ?_⟩
     rw [xX (hm _ _ (Nat.le_max_left k1 k2)) (fy _) h1];exact hJ (hm _ _ (Nat.le_max_right k1 k2)) (fy _) _ _ _ _ h2
   | none =>
    simp only [hd] at e ⊢
    cases hb : dz c n F args m with
    | none => simp [hb] at e
    | some fin =>
     simp only [hb] at e;obtain ⟨k1, h1⟩ := xW hm hc hb
     have AY : ∀ {u2 : Option EV} {m2 : Mem}, (∃ k, cO (ck k) n rs D fr ds u2 m2 = some r) -> ∃ k2, dz (ck k2) n F args m = some fin /\ cO (ck k2) n rs D fr ds u2 m2 = some r := fun ⟨k2, h2⟩ =>
      ⟨max k1 k2, oR (hm _ _ (Nat.le_max_left k1 k2)) (fy _) h1, hJ (hm _ _ (Nat.le_max_right k1 k2)) (fy _) _ _ _ _ h2⟩
     cases fin with
     | ret v m1 =>
      obtain ⟨k2, g1, g2⟩ := AY (lk ds u m1 r e)
      exact ⟨k2, by simp only [g1]; exact g2⟩
     | gI v m1 =>
      cases u with
      | none =>
       obtain ⟨k2, g1, g2⟩ := AY (lk ds (some v) m1 r e)
       exact ⟨k2, by simp only [g1]; exact g2⟩
      | some x => cases e
theorem J3 {n : Nat} {F : au} {D : List (Nat × Option Nat × au)} {args : List EV} {m : Mem} {r : Fin} (e : jf c n F D args m = some r) : ∃ k, jf (ck k) n F D args m = some r := by
 unfold jf at e ⊢
 cases hl : args.length.ble F.ntmps <;> simp only [hl, cond_true, cond_false, reduceCtorEq] at e ⊢
 cases KF : ap c n F.body ⟨cK args 0 .leaf, []⟩ m with
 | none => simp [KF] at e
 | some o =>
  obtain ⟨k1, h1⟩ := je hm hc _ _ _ _ KF
  simp only [KF] at e;have AY : ∀ {fr : Fr} {ds : List (Nat × List EV)} {u2 : Option EV} {m2 : Mem}, (∃ k, cO (ck k) n F.results D fr ds u2 m2 = some r) -> ∃ k2, ap (ck k2) n F.body ⟨cK args 0 .leaf, []⟩ m = some o /\ cO (ck k2) n F.results D fr ds u2 m2 = some r := fun ⟨k2, h2⟩ =>
   ⟨max k1 k2, e9 (hm _ _ (Nat.le_max_left k1 k2)) (fy _) _ _ _ _ h1, hJ (hm _ _ (Nat.le_max_right k1 k2)) (fy _) _ _ _ _ h2⟩
  cases o with
  | exit id fr m1 => cases e
  | norm fr m1 =>
   obtain ⟨k2, g1, g2⟩ := AY (lk hm hc _ _ _ _ e)
   exact ⟨k2, by simp only [g1]; exact g2⟩
  | ret fr m1 =>
   obtain ⟨k2, g1, g2⟩ := AY (lk hm hc _ _ _ _ e)
   exact ⟨k2, by simp only [g1]; exact g2⟩
  | gI v fr m1 =>
   obtain ⟨k2, g1, g2⟩ := AY (lk hm hc _ _ _ _ e)
   exact ⟨k2, by simp only [g1]; exact g2⟩
end
section
variable {T : Nat -> Option iq} {K : Nat -> Nat}
theorem Wn (k : Nat) : Zs (PF T K k) (cR T K) := fun _ _ _ e => mu.2 ⟨k, e⟩
theorem Sb : ∀ (n f : Nat) (a : List EV) (m : Mem) (r : Fin), aT (UT T K) n f a m = some r -> ∃ k, aT (PT T K (PF T K k)) n f a m = some r
 | 0, f, a, m, r, e => by simp [aT] at e
 | n + 1, f, a, m, r, e => by
  have ih := Sb n
  simp only [aT] at e ⊢
  rcases hK : K f with _ | _ | q <;> simp only [UT, PT, hK] at e ⊢
  ·cases hT : T f with
   | none => simp [hT] at e
   | some x =>
    simp only [hT] at e ⊢
    cases x with
    | go F =>
     simp only [ij] at e ⊢
     exact xW (c := aT (UT T K) n) (ck := fun k => aT (PT T K (PF T K k)) n) (fun k k' h => Fj (Oa h) n) ih e
    | ext g => exact ⟨0, e⟩
    | pure g => exact ⟨0, e⟩
    | spec g => exact ⟨0, e⟩
    | NW F D =>
     simp only [ij] at e ⊢
     exact J3 (c := aT (UT T K) n) (ck := fun k => aT (PT T K (PF T K k)) n) (fun k k' h => Fj (Oa h) n) ih e
  ·simp only [ij] at e ⊢
   unfold kh at e ⊢
   cases hf : cB deep m a with
   | none => simp [hf] at e
   | some eQ =>
    simp only [hf] at e ⊢
    cases hv : cR T K f (gD 1 eQ) with
    | none => simp [hv] at e
    | some V =>
     obtain ⟨k, hk⟩ := mu.1 hv
     simp only [hv] at e;exact ⟨k, by simp only [hk]; exact e⟩
  ·simp only [ij] at e ⊢
   unfold kg at e ⊢
   cases oQ : fO a <;> simp only [oQ, cond_true, cond_false, reduceCtorEq] at e ⊢
   cases hf : cB deep m a with
   | none => simp [hf] at e
   | some eQ =>
    simp only [hf] at e ⊢
    cases hv : cR T K f (gD 1 eQ) with
    | none => simp [hv] at e
    | some V =>
     obtain ⟨k, hk⟩ := mu.1 hv
     simp only [hv] at e;exact ⟨k, by simp only [hk]; exact e⟩
theorem Ef {f : Nat} {F : au} (hT : T f = some (.go F)) {eQ : List EV} : cR T K f eQ = qL (UT T K) F eQ := by
 refine dh fun V => ⟨fun h => ?_, fun h => ?_⟩
 ·obtain ⟨k, hk⟩ := mu.1 h
  cases k with
  | zero => simp [PF] at hk
  | succ k =>
   simp only [PF, hT] at hk;exact Kq (Fj (Wn k)) hk
 ·obtain ⟨n, v, m, hb, hf⟩ := A8 h
  obtain ⟨k, hk⟩ := xW (c := aT (UT T K) n) (ck := fun k => aT (PT T K (PF T K k)) n) (fun k k' h => Fj (Oa h) n) (Sb n) hb
  refine mu.2 ⟨k + 1, ?_⟩
  simp only [PF, hT];exact Af hk hf
theorem Sf {T0 : Nat -> Option iq} (hT : ∀ f e, T f = some e -> gZ T0 f e) {P : Nat -> List EV -> Option EV} (hP : ∀ f, K f ≠ 0 -> gZ T0 f (.spec (kh (P f))) /\ gZ T0 f (.spec (kg (P f)))) : ∀ f e, PT T K P f = some e -> gZ T0 f e := by
 intro f e h
 unfold PT at h
 split at h
 ·exact hT f e h
 ·rename_i hk; cases h; exact (hP f (by omega)).1
 ·rename_i hk _; cases h; exact (hP f (by omega)).2
theorem rC {T0 : Nat -> Option iq} {f : Nat} {g : List EV -> Option EV} (h : ∀ eQ, g eQ = none) : gZ T0 f (.spec (kh g)) /\ gZ T0 f (.spec (kg g)) := by
 constructor
 ·intro θ m m' args ay fin _ _ e
  unfold kh at e
  split at e
  ·rw [h] at e; cases e
  ·cases e
 ·intro θ m m' args ay fin _ _ e
  unfold kg at e
  cases oQ : fO args <;> simp only [oQ, cond_true, cond_false, reduceCtorEq] at e
  split at e
  ·rw [h] at e; cases e
  ·cases e
theorem Mp {T0 : Nat -> Option iq} (hT : ∀ f e, T f = some e -> gZ T0 f e) : ∀ k f, gZ T0 f (.spec (kh (PF T K k f))) /\ gZ T0 f (.spec (kg (PF T K k f)))
 | 0, f => rC fun eQ => rfl
 | k + 1, f => by
  have ih := Sf (K := K) hT fun f _ => Mp hT k f
  cases he : T f with
  | none => exact rC fun eQ => by simp only [PF, he]
  | some e =>
   cases e with
   | go F =>
    have hE := hT f _ he
    have hp : ∀ eQ V, PF T K (k + 1) f eQ = some V -> qL (PT T K (PF T K k)) F eQ = some V := fun eQ V h => by simpa only [PF, he] using h
    obtain ⟨F0, h1, h2, rfl⟩ := hE
    exact ⟨Gk ih h1 h2 hp, OF ih h1 h2 hp⟩
   | ext g => exact rC fun eQ => by simp only [PF, he]
   | pure g => exact rC fun eQ => by simp only [PF, he]
   | spec g => exact rC fun eQ => by simp only [PF, he]
   | NW F D => exact rC fun eQ => by simp only [PF, he]
theorem OC {T0 : Nat -> Option iq} (hT : ∀ f e, T f = some e -> gZ T0 f e) (f : Nat) : gZ T0 f (.spec (kh (cR T K f))) /\ gZ T0 f (.spec (kg (cR T K f))) := by
 constructor
 ·intro θ m m' args ay fin hg ha e
  unfold kh at e
  split at e
  ·rename_i eQ hf
   cases hv : cR T K f (gD 1 eQ) with
   | none => rw [hv] at e; cases e
   | some V =>
    obtain ⟨k, hk⟩ := mu.1 hv
    refine (Mp (K := K) hT k f).1 θ m m' args ay fin hg ha ?_
    unfold kh;rw [hf]; simp only [hk]; rw [hv] at e; exact e
  ·cases e
 ·intro θ m m' args ay fin hg ha e
  unfold kg at e
  cases oQ : fO args <;> simp only [oQ, cond_true, cond_false, reduceCtorEq] at e
  split at e
  ·rename_i eQ hf
   cases hv : cR T K f (gD 1 eQ) with
   | none => rw [hv] at e; cases e
   | some V =>
    obtain ⟨k, hk⟩ := mu.1 hv
    refine (Mp (K := K) hT k f).2 θ m m' args ay fin hg ha ?_
    unfold kg;rw [oQ, hf]; simp only [hk, cond_true]; rw [hv] at e; exact e
  ·cases e
theorem Wm {T0 : Nat -> Option iq} (hT : ∀ f e, T f = some e -> gZ T0 f e) : ∀ f e, UT T K f = some e -> gZ T0 f e := Sf hT fun f _ => OC hT f
end
theorem TE {T : Nat -> Option iq} {f : Nat} {g : List EV -> Option EV} (hf : T f = some (.ext g)) (hg : ∀ args v, g args = some v -> fw args = true /\ Flat v = true) : gZ T f (.ext g) := by
 intro θ m m' args ay v nR ha h
 obtain ⟨h1, h2⟩ := hg args v h
 have := ha.flat h1
 subst this;exact ⟨θ, .ret v m', by rw [Hm hf, h]; rfl, .ret (SV.of_flat h2) nR, .refl _ _ _⟩
open Classical in
noncomputable def kC (T : Nat -> Option iq) (F : au) (args : List EV) (m : Mem) : Option Fin := if args.length <= F.ntmps then
 match sV F (exec T F.body ⟨cK args 0 .leaf, []⟩ m) with
 | some (.ret v m1) => if Flat v = true /\ m.next <= m1.next /\ ∀ b, b < m.next -> m1.get b = m.get b then some (.ret v ⟨m1.next, m.gH⟩) else none
 | _ => none else none
theorem QW {T0 T1 : Nat -> Option iq} (h1 : ∀ f e, T1 f = some e -> gZ T0 f e) {f : Nat} {F : au} (hT : T0 f = some (.go F)) (eh : lG F = true) : gZ T0 f (.spec (kC T1 F.sub)) := by
 intro θ m m' args ay fin hg ha h
 unfold kC at h
 split at h
 ·rename_i hl
  cases hr : sV F.sub (exec T1 F.sub.body ⟨cK args 0 .leaf, []⟩ m) with
  | none => simp [hr] at h
  | some q =>
   cases q with
   | gI v m1 => simp [hr] at h
   | ret v m1 =>
    simp only [hr] at h
    split at h
    ·rename_i hc
     obtain ⟨hf, hn, hk⟩ := hc
     simp only [bf] at h;subst h;have hb : ∃ n, dz (aT T1 n) n F.sub args m = some (.ret v m1) := by
      cases hx : exec T1 F.sub.body ⟨cK args 0 .leaf, []⟩ m with
      | none => simp [hx, sV] at hr
      | some o =>
       obtain ⟨n, hn⟩ := cj.1 hx
       refine ⟨n, ?_⟩
       rw [hx] at hr;simp only [dz, Be hl, cond_true, hn]
       cases o <;> exact hr
     obtain ⟨n, hb⟩ := hb
     obtain ⟨θ', JY, e, hs, eo⟩ := E9 (De h1 n) n hT eh hb hg ha
     cases hs with
     | @ret _ v' _ fU hv hg1 =>
      have := hv.flat hf
      subst this;have hd : ∀ b, m.next <= b -> m.get b = .dead := fun b hb => by
       refine hg.cl b ?_
       cases hr : θ.g9 b with
       | none => rfl
       | some c => have := (hg.ok.g9 b c hr).1; omega
      have lQ : ∀ b, (⟨m1.next, m.gH⟩ : Mem).get b = m.get b := fun b => rfl
      refine ⟨θ', _, e, .ret (SV.of_flat hf) ⟨⟨⟨fun b c Rz => ?_, fun b FU => ?_⟩, hg1.gQ⟩, hg1.ok, hg1.Fy⟩, ⟨eo.ext, eo.g9, eo.gQ, eo.n1, eo.n2, eo.rJ⟩⟩
      ·rw [lQ]
       by_cases bn : b < m.next
       ·rw [<- hk b bn]; exact hg1.de b c Rz
       ·rw [hd b (by omega)]; trivial
      ·rw [lQ]
       by_cases bn : b < m.next
       ·rw [<- hk b bn]; exact hg1.cl b FU
       ·exact hd b (by omega)
    ·cases h
 ·cases h
end
section
structure uo where
 de : Nat
 off : Nat
 total : Nat
 esz : Nat
 cs : List EV
def KR (l : List Int) : List EV := l.map (.int .u64)
def HZ (b : Nat) : Nat := match tabl b with | some l => l.length | none => match FW b with | some _ => 1 | none => 0
def kf (n0 : Nat) (bs : List uo) : ev := fun b => if b < n0 then some ⟨b, 0, HZ b, 1, true⟩ else (bs[b - n0]?).map fun B => ⟨B.de, B.off, B.total, B.esz, true⟩
def Mz : List uo -> Nat -> Tr fK -> Tr fK
 | [], _, t => t
 | B :: r, i, t => Mz r (i + 1) (t.set i (.cells B.cs B.esz 0 true))
def P7 : List (Nat × List Int) -> Tr fK
 | [] => .leaf
 | (g, l) :: r => (P7 r).set g (.cells (KR l) 1 0 true)
theorem IT {b : Nat} : ∀ ts : List (Nat × List Int), (P7 ts).get b = (tabIn ts b).map fun l => .cells (KR l) 1 0 true
 | [] => by simp only [P7, tabIn, Tr.zp, Option.map_none]
 | (g, l) :: r => by
  simp only [P7, tabIn];rw [Tr.bW];by_cases h : b = g
  ·rw [if_pos h, if_pos h]; rfl
  ·rw [if_neg h, if_neg h]; exact IT r
def RC (n0 : Nat) : List (Nat × List (List UInt8)) -> Nat -> Tr fK
 | [], _ => P7 Xb
 | (g, l) :: r, j => (RC n0 r (j + 1)).set g (.cells [.slice (n0 + j) 0 l.length none] 1 0 true)
def u7 : List (Nat × List (List UInt8)) -> Nat -> Nat -> Option (Nat × List (List UInt8))
 | [], _, _ => none
 | (g, l) :: r, j, b => if b = g then some (j, l) else u7 r (j + 1) b
theorem EL {n0 : Nat} : ∀ (gs : List (Nat × List (List UInt8))) (j b : Nat), (RC n0 gs j).get b = (match u7 gs j b with | some p => some (.cells [.slice (n0 + p.1) 0 p.2.length none] 1 0 true) | none => (tabl b).map fun l => .cells (KR l) 1 0 true)
 | [], _, b => by simp only [RC, u7, IT, tabl]
 | (g, l) :: r, j, b => by
  simp only [RC, u7];rw [Tr.bW];by_cases h : b = g
  ·rw [if_pos h, if_pos h]
  ·rw [if_neg h, if_neg h]; exact EL r (j + 1) b
theorem tt {b : Nat} : ∀ (gs : List (Nat × List (List UInt8))) (j : Nat), (u7 gs j b).map (·.2) = H0 gs b
 | [], _ => rfl
 | (g, l) :: r, j => by
  simp only [u7, H0];by_cases h : b = g
  ·rw [if_pos h, if_pos h]; rfl
  ·rw [if_neg h, if_neg h]; exact tt r (j + 1)
theorem zo {b p : Nat} {l : List (List UInt8)} : ∀ (gs : List (Nat × List (List UInt8))) (j : Nat), u7 gs j b = some (p, l) -> j <= p /\ gs[p - j]? = some (b, l)
 | [], _, h => by cases h
 | (g, x) :: r, j, h => by
  simp only [u7] at h;by_cases e : b = g
  ·rw [if_pos e] at h; cases h; subst e; exact ⟨fy _, by rw [Nat.sub_self]; rfl⟩
  ·rw [if_neg e] at h
   obtain ⟨h1, h2⟩ := zo r (j + 1) h
   refine ⟨by omega, ?_⟩
   rw [show p - j = (p - (j + 1)) + 1 by omega]; exact h2
def gK (n0 : Nat) (bs : List uo) : Mem := ⟨n0 + bs.length, Mz bs n0 (RC n0 globs 0)⟩
theorem vJ : ∀ (bs : List uo) (i : Nat) (t : Tr fK) (b : Nat), (Mz bs i t).get b = if i <= b /\ b < i + bs.length then (bs[b - i]?).map (fun B => .cells B.cs B.esz 0 true) else t.get b
 | [], i, t, b => by rw [if_neg (fun h => by have := h.2; simp at this; omega)]; rfl
 | B :: bs, i, t, b => by
  simp only [Mz];rw [vJ bs (i + 1) _ b, Tr.bW];by_cases h : b = i
  ·subst h
   rw [if_neg (by omega), if_pos rfl, if_pos (by simp)];simp
  ·by_cases h2 : i + 1 <= b /\ b < i + 1 + bs.length
   ·rw [if_pos h2, if_pos (by simp; omega), show b - i = (b - (i + 1)) + 1 by omega]
    simp
   ·rw [if_neg h2, if_neg h, if_neg (by simp; omega)]
theorem Ez {n0 : Nat} {bs : List uo} {i : Nat} {B : uo} (h : bs[i]? = some B) : (gK n0 bs).get (n0 + i) = .cells B.cs B.esz 0 true := by
 have bn := (uz.1 h).1
 unfold Mem.get gK;simp only
 rw [vJ, if_pos (by omega), show n0 + i - n0 = i by omega, h]
 rfl
theorem AP {n0 : Nat} {bs : List uo} {b : Nat} (h : b < n0) : (gK n0 bs).get b = (match u7 globs 0 b with | some p => some (fK.cells [.slice (n0 + p.1) 0 p.2.length none] 1 0 true) | none => (tabl b).map fun l => .cells (KR l) 1 0 true).getD .dead := by
 unfold Mem.get gK;simp only
 rw [vJ, if_neg (by omega), EL]
theorem Ey {n0 : Nat} {bs : List uo} {b : Nat} (hl : (∀ p ∈ globs, p.1 < n0) /\ ∀ g l, tabl g = some l -> g < n0) (h : n0 + bs.length <= b) : (gK n0 bs).get b = .dead := by
 unfold Mem.get gK;simp only
 rw [vJ, if_neg (by omega), EL]
 cases hf : u7 globs 0 b with
 | none =>
  cases ht : tabl b with
  | none => rfl
  | some l => have := hl.2 _ _ ht; omega
 | some p =>
  obtain ⟨p, l⟩ := p
  have h2 := (zo _ _ hf).2
  have := hl.1 _ (List.mem_of_getElem? h2)
  omega
theorem JE {n0 : Nat} {bs : List uo} {i : Nat} {B : uo} (h : bs[i]? = some B) : kf n0 bs (n0 + i) = some ⟨B.de, B.off, B.total, B.esz, true⟩ := by
 unfold kf;rw [if_neg (by omega), show n0 + i - n0 = i by omega, h]
 rfl
theorem JD {n0 : Nat} {bs : List uo} : ∀ b L, kf n0 bs b = some L -> L.ro = true := by
 intro b L h
 unfold kf at h
 split at h
 ·cases h; rfl
 ·obtain ⟨B, _, rfl⟩ := j8.1 h; rfl
def Wo (w : World) (n0 : Nat) (bs : List uo) : Prop := ∀ (i : Nat) (B : uo), bs[i]? = some B -> ∃ (arr : Array Value) (e : TypeId) (fz : Nat × Nat), w.heap[B.de]? = some (.cells arr e fz) /\ arr.size = B.total /\ B.off + B.cs.length <= B.total /\
 ∀ (j : Nat) (v : EV), B.cs[j]? = some v -> ∃ v', arr[B.off + j]? = some v' /\ VR (kf n0 bs) v v' /\ v'.oneCell' = true
def TFact (w : World) (g : Nat) (l : List Int) : Prop := FW g = none /\ ∃ (arr : Array Value) (e : TypeId) (fz : Nat × Nat), w.heap[g]? = some (.cells arr e fz) /\ arr.toList = l.map (Value.int .u64)
def IF (w : World) (n0 : Nat) (bs : List uo) : Prop := ((∀ p ∈ globs, p.1 < n0) /\ ∀ g l, tabl g = some l -> g < n0) /\ (∀ g l, tabl g = some l -> TFact w g l) /\ ∀ (j g : Nat) (l : List (List UInt8)), globs[j]? = some (g, l) ->
 (∃ (arr : Array Value) (e : TypeId) (fz : Nat × Nat) (v' : Value), w.heap[g]? = some (.cells arr e fz) /\ arr.size = 1 /\ arr[0]? = some v' /\ VR (kf n0 bs) (.slice (n0 + j) 0 l.length none) v' /\ v'.oneCell' = true) /\
 ∃ B, bs[j]? = some B /\ B.cs = l.map .str /\ B.esz = 1
theorem abn {w : World} {n0 : Nat} {bs : List uo} (h : Wo w n0 bs) (hg : IF w n0 bs) : R w.heap.size (kf n0 bs) (gK n0 bs) w := by
 have R3 : ∀ b L, kf n0 bs b = some L -> (b < n0 /\ L = ⟨b, 0, HZ b, 1, true⟩) \/ ∃ i B, b = n0 + i /\ bs[i]? = some B := by
  intro b L hb
  unfold kf at hb
  split at hb
  ·cases hb; exact .inl ⟨‹_›, rfl⟩
  ·obtain ⟨B, hB, rfl⟩ := j8.1 hb
   exact .inr ⟨b - n0, B, by omega, hB⟩
 refine ⟨fun b L hb => ?_, fun b L hb => ?_, fun b c L L' h1 _ _ _ h5 => ?_, fy _, fun b hb => Ey hg.1 hb⟩
 ·rcases R3 b L hb with ⟨bn, _⟩ | ⟨i, B, rfl, hB⟩
  ·show b < n0 + bs.length; omega
  ·have := (uz.1 hB).1; show n0 + i < n0 + bs.length; omega
 ·rcases R3 b L hb with ⟨bn, rfl⟩ | ⟨i, B, rfl, hB⟩
  ·rw [AP bn]
   cases hf : u7 globs 0 b with
   | none =>
    cases ht : tabl b with
    | none => trivial
    | some l =>
     obtain ⟨hgn, arr, e, fz, h1, h2⟩ := hg.2.1 b l ht
     have uh : arr.size = l.length := by rw [<- Array.length_toList, h2, List.length_map]
     have XJ : HZ b = l.length := by unfold HZ; rw [ht]
     refine ⟨arr, e, fz, h1, by rw [XJ]; exact uh, rfl, rfl, by rw [XJ]; show 0 + (KR l).length <= l.length; simp [KR], fun i v hv => ?_, (fun e => by cases e), fun _ => (Array.getElem?_eq_some_iff.1 h1).1⟩
     unfold KR at hv;rw [List.getElem?_map] at hv;obtain ⟨n, hn, rfl⟩ := j8.1 hv
     refine ⟨.int .u64 n, ?_, .int _ _, rfl⟩
     rw [<- Array.getElem?_toList, h2, List.getElem?_map, show 0 + i = i by omega, hn]; rfl
   | some p =>
    obtain ⟨p, l⟩ := p
    have h2 := (zo _ _ hf).2
    rw [Nat.sub_zero] at h2;obtain ⟨⟨arr, e, fz, v', h1, h3, h4, h5, h6⟩, _⟩ := hg.2.2 p b l h2
    have ht : HZ b = 1 := by
     have := tt (b := b) globs 0
     rw [hf] at this;have tn : tabl b = none := by
      cases e : tabl b with
      | none => rfl
      | some l' => have := (hg.2.1 b l' e).1; unfold FW at this; simp_all
     unfold HZ FW;rw [tn, <- this]; rfl
    refine ⟨arr, e, fz, h1, by rw [ht]; exact h3, rfl, rfl, by show 0 + 1 <= HZ b; rw [ht]; exact fy _, fun i v hv => ?_, (fun e => by cases e), fun _ => (Array.getElem?_eq_some_iff.1 h1).1⟩
    cases i with
    | zero => simp only [List.getElem?_cons_zero, bf] at hv; subst hv; exact ⟨v', h4, h5, h6⟩
    | succ i => simp at hv
  ·rw [Ez hB]
   rw [JE hB] at hb
   cases hb
   obtain ⟨arr, e, fz, h1, h2, h3, h4⟩ := h i B hB
   exact ⟨arr, e, fz, h1, h2, rfl, rfl, h3, h4, (fun e => by cases e), fun _ => (Array.getElem?_eq_some_iff.1 h1).1⟩
 ·rw [JD b L h1] at h5; cases h5
theorem abo {n0 : Nat} {bs : List uo} {G : List Nat} (h : ∀ g, G.contains g = true -> g < n0) : jr G (kf n0 bs) := fun g hg => ⟨⟨g, 0, HZ g, 1, true⟩, by unfold kf; rw [if_pos (h g hg)], rfl, rfl, fun l hl => by unfold HZ; simp only [hl]⟩
theorem JC {n0 : Nat} {bs : List uo} {i : Nat} {B : uo} (h : bs[i]? = some B) {a : Addr} (hb : a.block = B.de) (hs : a.spot = none) {len cap : Nat} (hl : len <= cap) (ho : 0 < len -> a.off = B.off) : VR (kf n0 bs) (.slice (n0 + i) 0 len none) (.slice (some a) len cap) := by
 obtain ⟨de, off, spot⟩ := a
 cases hs; cases hb
 exact .slice (JE h) hl (fun hh => by have := ho hh; simpa using this) (fun e => by cases e)
theorem law_walk {P : Program} {G : List Nat} (il : P.follows .mixedOrders = true) {T : Nat -> Option iq} (hT : ∀ f e, T f = some e -> KB P G f e) {f : Nat} {F : au} (hf : T f = some (.go F)) {n0 : Nat} (hG : ∀ g, G.contains g = true -> g < n0)
  {w : World} {bs : List uo} (hb : Wo w n0 bs) (Rw : IF w n0 bs) {args : List EV} {ay : Array Value} (hv : fx (kf n0 bs) args ay.toList) {b : Bool} {m' : Mem} (h : run T f args (gK n0 bs) = some (.ret (.bool b) m')) :
  Calls P f ay w fun e w' => e = .returned (.bool b) /\ Go.RowKit.Below w.heap.size w w' := by
 obtain ⟨k, hk⟩ := mR.1 h
 exact O2 il hT hf hk (abn hb Rw) (abo hG) (fun b L h _ => JD b L h) hv
end
section
open Go Go.Deep
inductive Sh where
 | int (k : IntKind)
 | bool
 | str
 | slice (e : TypeId) (esz : Nat) (s : Sh)
 | struct (l : List Sh)
inductive Dt where
 | int (n : Int)
 | bool (b : Bool)
 | str (s : List UInt8)
 | list (l : List Dt)
 | ZA (l : List Dt)
mutual
inductive PL (m : Mem) : Sh -> List EV -> Dt -> Prop
 | int {k : IntKind} {n : Int} (h : (Lit.int k n).wf = true) : PL m (.int k) [.int k n] (.int n)
 | bool (b : Bool) : PL m .bool [.bool b] (.bool b)
 | str {s : List UInt8} (h : s.length <= maxLen) : PL m .str [.str s] (.str s)
 | nil {e esz : Nat} {s : Sh} : PL m (.slice e esz s) [.ae] (.list [])
 | empty {e esz b off : Nat} {s : Sh} : PL m (.slice e esz s) [.slice b off 0 (some 0)] (.list [])
 | slice {e esz b : Nat} {s : Sh} {ess : List (List EV)} {ds : List Dt} (hl : ds.length <= maxLen) (hm : m.get b = .cells ess.flatten esz 0 true) (h : Mo m (List.replicate ds.length s) ess ds) : PL m (.slice e esz s) [.slice b 0 ds.length none] (.list ds)
 | struct {ka : List Sh} {ess : List (List EV)} {ds : List Dt} (h : Mo m ka ess ds) : PL m (.struct ka) ess.flatten (.ZA ds)
inductive Mo (m : Mem) : List Sh -> List (List EV) -> List Dt -> Prop
 | nil : Mo m [] [] []
 | cons {s : Sh} {es : List EV} {d : Dt} {ka : List Sh} {ess : List (List EV)} {ds : List Dt} (h : PL m s es d) (hs : Mo m ka ess ds) : Mo m (s :: ka) (es :: ess) (d :: ds)
end
section
variable {P : Program} {w : World} {H : Type} {enc : TypeId × Value -> H} {base : Nat} {held : Bool} {n0 : Nat}
def Zu (w : World) (ρ : ev) (B : uo) : Prop := ∃ (arr : Array Value) (e : TypeId) (fz : Nat × Nat), w.heap[B.de]? = some (.cells arr e fz) /\ arr.size = B.total /\ B.off + B.cs.length <= B.total /\
 ∀ (j : Nat) (v : EV), B.cs[j]? = some v -> ∃ v', arr[B.off + j]? = some v' /\ VR ρ v v' /\ v'.oneCell' = true
def Se (all : List uo) (s : Nat) (bs : List uo) : Prop := ∀ i, i < bs.length -> all[s + i]? = bs[i]?
def Mt (w : World) (n0 : Nat) (sh : Sh) (cs : List Value) : Prop :=
 ∃ (k : Nat) (d : Dt), ∀ s, ∃ (es : List EV) (bs : List uo), bs.length = k /\ es.length = cs.length /\ ∀ all, Se all s bs ->
  fx (kf n0 all) es cs /\ (∀ c ∈ cs, c.oneCell' = true) /\ (∀ (i : Nat) (B : uo), bs[i]? = some B -> Zu w (kf n0 all) B) /\ PL (gK n0 all) sh es d
def Ms (w : World) (n0 : Nat) (ka : List Sh) (css : List (List Value)) : Prop :=
 ∃ (k : Nat) (ds : List Dt), ds.length = ka.length /\ ∀ s, ∃ (ess : List (List EV)) (bs : List uo), bs.length = k /\ ess.flatten.length = css.flatten.length /\ ∀ all, Se all s bs ->
  fx (kf n0 all) ess.flatten css.flatten /\ (∀ c ∈ css.flatten, c.oneCell' = true) /\ (∀ (i : Nat) (B : uo), bs[i]? = some B -> Zu w (kf n0 all) B) /\ Mo (gK n0 all) ka ess ds
theorem Se.left {all bs cs : List uo} {s : Nat} (h : Se all s (bs ++ cs)) : Se all s bs := fun i hi => by
 rw [h i (by simp; omega), BC hi]
theorem Se.right {all bs cs : List uo} {s : Nat} (h : Se all s (bs ++ cs)) : Se all (s + bs.length) cs := fun i hi => by
 have := h (bs.length + i) (by simp; omega)
 rw [Nat.add_assoc, this, FA (by omega)]; congr 1; omega
theorem Ms.nil : Ms w n0 [] [] := ⟨0, [], rfl, fun s => ⟨[], [], rfl, rfl, fun all _ => ⟨.nil, by simp, by simp, .nil⟩⟩⟩
theorem Ms.cons {sh : Sh} {cs : List Value} {ka : List Sh} {css : List (List Value)} (h : Mt w n0 sh cs) (hs : Ms w n0 ka css) : Ms w n0 (sh :: ka) (cs :: css) := by
 obtain ⟨k, d, h⟩ := h
 obtain ⟨k2, ds, hl, hs⟩ := hs
 refine ⟨k + k2, d :: ds, by simp [hl], fun s => ?_⟩
 obtain ⟨es, bs, h1, h2, h3⟩ := h s
 obtain ⟨ess, bs2, g1, g2, g3⟩ := hs (s + k)
 refine ⟨es :: ess, bs ++ bs2, by simp [h1, g1], by simp [h2, g2], fun all hp => ?_⟩
 obtain ⟨a1, a2, a3, a4⟩ := h3 all hp.left
 obtain ⟨b1, b2, b3, b4⟩ := g3 all (by rw [<- h1]; exact hp.right)
 refine ⟨?_, ?_, ?_, .cons a4 b4⟩
 ·rw [List.flatten_cons, List.flatten_cons]; exact a1.append b1
 ·intro c hc
  rw [List.flatten_cons, yb] at hc;rcases hc with hc | hc
  ·exact a2 c hc
  ·exact b2 c hc
 ·intro i B hB
  by_cases hi : i < bs.length
  ·rw [BC hi] at hB; exact a3 i B hB
  ·rw [FA (by omega)] at hB; exact b3 _ B hB
def iK (ok : Sh -> TypeId -> Bool) (size : TypeId -> Nat) : List Sh -> List Field -> Nat -> Nat -> Bool
 | [], [], off, total => off.beq total
 | s :: ka, g :: gs, off, total => g.offset.beq off && (ok s g.type && iK ok size ka gs (off + size g.type) total)
 | _, _, _, _ => false
def shOk (P : Program) : Nat -> Sh -> TypeId -> Bool
 | 0, _, _ => false
 | n + 1, sh, t => match sh, P.underlying t with
  | .int k, some (.int k') => (bZ k).beq (bZ k')
  | .bool, some .bool => true
  | .str, some .string => true
  | .slice e esz s, some (.slice e') => e.beq e' && ((P.cellsOf e).beq esz && (Nat.ble 1 esz && shOk P n s e))
  | .struct l, some (.struct gs) => iK (shOk P n) P.cellsOf l gs.toList 0 (P.cellsOf t)
  | _, _ => false
theorem Bs {ok : Sh -> TypeId -> Bool} {size : TypeId -> Nat} {cs : List Value} : ∀ (ka : List Sh) (gs : List Field) (off : Nat), iK ok size ka gs off cs.length = true -> off <= cs.length ->
  cs.drop off = (gs.map fun g => (cs.drop g.offset).take (size g.type)).flatten
 | [], [], off, h, hl => by
  have := aS h
  subst this; simp
 | s :: ka, g :: gs, off, h, hl => by
  simp only [iK, pI] at h;obtain ⟨h1, h2, h3⟩ := h
  have e := aS h1
  have hle : off + size g.type <= cs.length := by
   revert h3
   generalize off + size g.type = o
   clear h1 h2 e hl
   induction gs generalizing ka o with
   | nil => intro h3; cases ka <;> simp only [iK] at h3; exact Nat.le_of_eq (aS h3); cases h3
   | cons g' gs ih =>
    intro h3
    cases ka with
    | nil => simp [iK] at h3
    | cons s' ka =>
     simp only [iK, pI] at h3;have := ih ka _ h3.2.2
     omega
  have ih := Bs ka gs (off + size g.type) h3 hle
  rw [List.map_cons, List.flatten_cons, <- ih, e];rw [<- List.drop_drop, List.take_append_drop]
 | [], _ :: _, _, h, _ => by simp [iK] at h
 | _ :: _, [], _, h, _ => by simp [iK] at h
theorem By {cs : List Value} {size : TypeId -> Nat} {ok : Sh -> TypeId -> Bool} : ∀ (ka : List Sh) (gs : List Field) (off total : Nat), iK ok size ka gs off total = true ->
  (∀ (s : Sh) (g : Field), g ∈ gs -> ok s g.type = true -> Mt w n0 s ((cs.drop g.offset).take (size g.type))) -> Ms w n0 ka (gs.map fun g => (cs.drop g.offset).take (size g.type))
 | [], [], _, _, _, _ => .nil
 | s :: ka, g :: gs, off, total, h, hd => by
  simp only [iK, pI] at h;rw [List.map_cons];exact .cons (hd s g (by simp) h.2.1) (By ka gs _ total h.2.2 fun s' g' hg => hd s' g' (by simp [hg]))
 | [], _ :: _, _, _, h, _ => by simp [iK] at h
 | _ :: _, [], _, _, h, _ => by simp [iK] at h
theorem zD {α : Type} {sz : Nat} : ∀ {css : List (List α)}, (∀ c ∈ css, c.length = sz) -> css.flatten.length = css.length * sz
 | [], _ => by simp
 | c :: css, h => by
  rw [List.flatten_cons, jz, zD fun c hc => h c (by simp [hc]), h c (by simp), List.length_cons, Nat.add_mul]; omega
theorem JV {α : Type} {sz : Nat} : ∀ {css : List (List α)}, (∀ c ∈ css, c.length = sz) -> ∀ (q p : Nat), p < sz -> css.flatten[q * sz + p]? = (css[q]?).bind fun c => c[p]?
 | [], _, q, p, _ => by simp
 | c :: css, h, q, p, hp => by
  have hc := h c (by simp)
  rw [List.flatten_cons]
  cases q with
  | zero => rw [Nat.zero_mul, Nat.zero_add, BC (by omega)]; simp
  | succ q =>
   have ih := JV (css := css) (fun c hc => h c (by simp [hc])) q p hp
   rw [FA (by rw [hc, Nat.add_mul]; omega), show (q + 1) * sz + p - c.length = q * sz + p by rw [hc, Nat.add_mul]; omega, ih]
   simp
theorem CF (b o n : Nat) : (⟨b, o, none⟩ : Addr).add n = ⟨b, o + n, none⟩ := Addr.add_lit b o n
theorem Kc {a : Addr} {sz len : Nat} {s : Sh} (hd : ∀ i, i < len -> ∃ lT, w.cells? base (a.add (i * sz)) sz = some lT /\ Mt w n0 s lT) : ∀ (r i : Nat), i + r = len ->
  ∃ css : List (List Value), css.length = r /\ (∀ q, q < r -> ∃ lT, css[q]? = some lT /\ w.cells? base (a.add ((i + q) * sz)) sz = some lT) /\ Ms w n0 (List.replicate r s) css
 | 0, i, _ => ⟨[], rfl, fun q hq => by omega, .nil⟩
 | r + 1, i, h => by
  obtain ⟨lT, h1, h2⟩ := hd i (by omega)
  obtain ⟨css, g1, g2, g3⟩ := Kc hd r (i + 1) (by omega)
  refine ⟨lT :: css, by simp [g1], fun q hq => ?_, .cons h2 g3⟩
  cases q with
  | zero => exact ⟨lT, rfl, h1⟩
  | succ q =>
   obtain ⟨c, c1, c2⟩ := g2 q (by omega)
   exact ⟨c, by simpa using c1, by rw [show i + (q + 1) = i + 1 + q by omega]; exact c2⟩
theorem Pu {a : Addr} {e sz len cap : Nat} {s : Sh} (uh : 1 <= sz) (LP : len <= cap) (Zi : cap <= maxLen) (Ap : cap ≠ 0) (hd : ∀ i, i < cap -> ∃ lT, w.cells? base (a.add (i * sz)) sz = some lT /\ Mt w n0 s lT) :
  Mt w n0 (.slice e sz s) [.slice (some a) len cap] := by
 have JP : ∀ i, i < cap -> ∀ p, p < sz -> ∃ v, w.cell? ((a.add (i * sz)).add p) = some v := by
  intro i hi p hp
  obtain ⟨lT, h1, _⟩ := hd i hi
  obtain ⟨_, h2, h3⟩ := World.cells?_some h1
  exact ⟨lT[p]'(by omega), by rw [h3 p hp, nc]⟩
 obtain ⟨de, off, arr, ty, fz, rfl, rQ⟩ : ∃ de off arr ty fz, a = ⟨de, off, none⟩ /\ w.heap[de]? = some (.cells arr ty fz) := by
  obtain ⟨v, hv⟩ := JP 0 (by omega) 0 (by omega)
  rw [Nat.zero_mul] at hv;have hv : w.cell? a = some v := hv
  obtain ⟨de, off, spot⟩ := a
  unfold World.cell? at hv
  split at hv
  ·rename_i c t z hh
   cases spot with
   | none => exact ⟨de, off, c, t, z, rfl, hh⟩
   | some x => simp at hv
  ·cases hv
 have PU : ∀ n, w.cell? ⟨de, off + n, none⟩ = arr[off + n]? := fun n => by unfold World.cell?; simp [rQ]
 obtain ⟨css, g1, g2, kin, ds, EJ, g3⟩ := Kc (w := w) (n0 := n0) (base := base) (fun i hi => hd i (mn hi LP)) len 0 (by omega)
 have oQ : ∀ c ∈ css, c.length = sz := by
  intro c hc
  obtain ⟨q, hq⟩ := List.getElem?_of_mem hc
  have hql : q < len := by have := (uz.1 hq).1; omega
  obtain ⟨lT, h1, h2⟩ := g2 q hql
  rw [hq] at h1; cases h1
  exact (World.cells?_some h2).2.1
 have HW : css.flatten.length = len * sz := by rw [zD oQ, g1]
 have lQ : ∀ j v, css.flatten[j]? = some v -> arr[off + j]? = some v := by
  intro j v hj
  have Zf : j < len * sz := by have := (uz.1 hj).1; omega
  have hp : j % sz < sz := Nat.mod_lt _ (by omega)
  have hq : j / sz < len := Nat.div_lt_of_lt_mul (by rw [Nat.mul_comm]; exact Zf)
  have To : j / sz * sz + j % sz = j := Nat.div_add_mod' j sz
  rw [<- To, JV oQ _ _ hp] at hj;obtain ⟨lT, h1, h2⟩ := g2 _ hq
  rw [h1] at hj;obtain ⟨_, _, h3⟩ := World.cells?_some h2
  have h4 := h3 _ hp
  rw [Nat.zero_add, CF, CF, Nat.add_assoc, To, PU] at h4;rw [h4]; exact hj
 have hle : off + len * sz <= arr.size := by
  rcases Nat.eq_zero_or_pos (len * sz) with h0 | h0
  ·obtain ⟨v, hv⟩ := JP 0 (by omega) 0 (by omega)
   have Sy := PU 0
   rw [Nat.add_zero] at Sy;simp only [CF, Nat.zero_mul, Nat.add_zero] at hv;rw [Sy] at hv;have := (Array.getElem?_eq_some_iff.1 hv).1
   omega
  ·obtain ⟨v, hv⟩ : ∃ v, css.flatten[len * sz - 1]? = some v := ⟨_, nc (by omega)⟩
   have := (Array.getElem?_eq_some_iff.1 (lQ _ _ hv)).1
   omega
 rw [List.length_replicate] at EJ;refine ⟨kin + 1, .list ds, fun st => ?_⟩
 obtain ⟨ess, bs, b1, b2, b3⟩ := g3 (st + 1)
 let B : uo := ⟨de, off, arr.size, sz, ess.flatten⟩
 refine ⟨[.slice (n0 + st) 0 len none], B :: bs, by simp [b1], rfl, fun all hp => ?_⟩
 have hB : all[st]? = some B := by have := hp 0 (by simp); simpa using this
 obtain ⟨c1, c2, c3, c4⟩ := b3 all (by have := Se.right (bs := [B]) hp; simpa using this)
 refine ⟨.cons (JC hB rfl rfl LP fun _ => rfl) .nil, by simp [Value.oneCell'], fun i C hC => ?_, ?_⟩
 ·cases i with
  | succ i => exact c3 i C (by simpa using hC)
  | zero =>
   simp at hC; subst hC
   refine ⟨arr, ty, fz, rQ, rfl, by show off + ess.flatten.length <= arr.size; omega, fun j v hj => ?_⟩
   obtain ⟨v', h1, h2⟩ := c1.get j v hj
   exact ⟨v', lQ j v' h1, h2, c2 v' (List.mem_of_getElem? h1)⟩
 ·have h1 := Ez (n0 := n0) hB
  have h2 := PL.slice (m := gK n0 all) (e := e) (b := n0 + st) (s := s) (ds := ds) (pN (Nat.le_of_eq EJ) (pN LP Zi)) h1 (by rw [EJ]; exact c4)
  rw [EJ] at h2;exact h2
theorem Ij (n0 : Nat) : ∀ (K : Nat) (sh : Sh) (t : TypeId) (fuel : Nat) (cs : List Value) (x : DataW H × List MemPlace), shOk P K sh t = true -> DataW.trod enc P w base (fun _ => true) held fuel t cs = some x -> Mt w n0 sh cs
 | 0, _, _, _, _, _, h, _ => by simp [shOk] at h
 | K + 1, sh, t, fuel, cs, x, h, hx => by
  simp only [shOk] at h
  split at h
  ·rename_i k k' hu
   obtain rfl := jN h
   obtain ⟨n, rfl, _, hw⟩ := DataW.trod_int hu hx
   exact ⟨0, .int n, fun s => ⟨[.int k n], [], rfl, rfl, fun all _ => ⟨.cons (.int _ _) .nil, by simp [Value.oneCell'], by simp, .int hw⟩⟩⟩
  ·rename_i hu
   obtain ⟨b, rfl, _⟩ := DataW.trod_bool hu hx
   exact ⟨0, .bool b, fun s => ⟨[.bool b], [], rfl, rfl, fun all _ => ⟨.cons (.bool _) .nil, by simp [Value.oneCell'], by simp, .bool b⟩⟩⟩
  ·rename_i hu
   obtain ⟨b, rfl, _, hm⟩ := DataW.trod_string hu hx
   exact ⟨0, .str b.data.toList, fun s => ⟨[.str b.data.toList], [], rfl, rfl, fun all _ => ⟨.cons (.str _) .nil, by simp [Value.oneCell'], by simp, .str (by simpa using hm)⟩⟩⟩
  ·rename_i e esz s e' hu
   simp only [pI] at h;obtain ⟨h1, h2, h3, h4⟩ := h
   have := aS h1; subst this
   have := aS h2; subst this
   have dx : 1 <= P.cellsOf e := qS h3
   rcases open_slice hu hx with ⟨rfl, _⟩ | ⟨a, len, cap, m, n, D, Pl, rfl, hb, LP, Zi, hm, _, EI⟩
   ·exact ⟨0, .list [], fun s => ⟨[.ae], [], rfl, rfl, fun all _ => ⟨.cons .ae .nil, by simp [Value.oneCell'], by simp, .nil⟩⟩⟩
   ·simp only [if_true] at hm
    subst hm;by_cases Ap : m = 0
    ·subst Ap
     obtain rfl : len = 0 := by omega
     exact ⟨0, .list [], fun s => ⟨[.slice 0 0 0 (some 0)], [], rfl, rfl, fun all _ => ⟨.cons .gN .nil, by simp [Value.oneCell'], by simp, .empty⟩⟩⟩
    ·exact Pu dx LP Zi Ap fun i hi => by
      obtain ⟨lT, h5, h6⟩ := EI i hi
      exact ⟨lT, h5, Ij n0 K s e n lT _ h4 h6⟩
  ·rename_i l gs hu
   obtain ⟨xs, n, _, _, hlen, Td, hf⟩ := DataW.trod_struct hu hx
   rw [<- hlen] at h;have hD := By (w := w) (n0 := n0) (cs := cs) l gs.toList 0 cs.length h fun s g hg eh => by
    obtain ⟨i, hi⟩ := List.getElem?_of_mem hg
    have xw : gs[i]? = some g := by simpa using hi
    have bn : i < xs.length := by have := (Array.getElem?_eq_some_iff.1 xw).1; omega
    have h1 := hf i g xw
    rw [nc bn] at h1;exact Ij n0 K s g.type n _ _ eh h1
   have HW := Bs l gs.toList 0 h (ml _)
   rw [List.drop_zero] at HW;obtain ⟨k, ds, _, hs⟩ := hD
   refine ⟨k, .ZA ds, fun s => ?_⟩
   obtain ⟨ess, bs, h1, h2, h3⟩ := hs s
   rw [<- HW] at h2 h3;refine ⟨ess.flatten, bs, h1, h2, fun all hp => ?_⟩
   obtain ⟨c1, c2, c3, c4⟩ := h3 all hp
   exact ⟨c1, c2, c3, .struct c4⟩
  ·cases h
def Sd (m : Mem) (sh : Sh) (e : EV) (d : Dt) : Prop := match sh with
 | .struct l => ∃ cs, e = .agg cs /\ PL m (.struct l) cs d
 | sh => PL m sh [e] d
inductive sg (m : Mem) : List Sh -> List EV -> List Dt -> Prop
 | nil : sg m [] [] []
 | cons {s : Sh} {e : EV} {d : Dt} {ka : List Sh} {es : List EV} {ds : List Dt} (h : Sd m s e d) (hs : sg m ka es ds) : sg m (s :: ka) (e :: es) (d :: ds)
def DecV (w : World) (n0 : Nat) (sh : Sh) (v : Value) : Prop :=
 ∃ (k : Nat) (d : Dt), ∀ s, ∃ (e : EV) (bs : List uo), bs.length = k /\ ∀ all, Se all s bs ->
  VR (kf n0 all) e v /\ (∀ (i : Nat) (B : uo), bs[i]? = some B -> Zu w (kf n0 all) B) /\ Sd (gK n0 all) sh e d
def DecVs (w : World) (n0 : Nat) (ka : List Sh) (vs : List Value) : Prop :=
 ∃ (k : Nat) (ds : List Dt), ∀ s, ∃ (es : List EV) (bs : List uo), bs.length = k /\ ∀ all, Se all s bs ->
  fx (kf n0 all) es vs /\ (∀ (i : Nat) (B : uo), bs[i]? = some B -> Zu w (kf n0 all) B) /\ sg (gK n0 all) ka es ds
theorem DecVs.nil : DecVs w n0 [] [] := ⟨0, [], fun s => ⟨[], [], rfl, fun all _ => ⟨.nil, by simp, .nil⟩⟩⟩
theorem DecVs.cons {sh : Sh} {v : Value} {ka : List Sh} {vs : List Value} (h : DecV w n0 sh v) (hs : DecVs w n0 ka vs) : DecVs w n0 (sh :: ka) (v :: vs) := by
 obtain ⟨k, d, h⟩ := h
 obtain ⟨k2, ds, hs⟩ := hs
 refine ⟨k + k2, d :: ds, fun s => ?_⟩
 obtain ⟨e, bs, h1, h3⟩ := h s
 obtain ⟨es, bs2, g1, g3⟩ := hs (s + k)
 refine ⟨e :: es, bs ++ bs2, by simp [h1, g1], fun all hp => ?_⟩
 obtain ⟨a1, a3, a4⟩ := h3 all hp.left
 obtain ⟨b1, b3, b4⟩ := g3 all (by rw [<- h1]; exact hp.right)
 refine ⟨.cons a1 b1, ?_, .cons a4 b4⟩
 intro i B hB
 by_cases hi : i < bs.length
 ·rw [BC hi] at hB; exact a3 i B hB
 ·rw [FA (by omega)] at hB; exact b3 _ B hB
theorem Mt.one {sh : Sh} {v : Value} (hn : ∀ l, sh ≠ .struct l) (h : Mt w n0 sh [v]) : DecV w n0 sh v := by
 obtain ⟨k, d, h⟩ := h
 refine ⟨k, d, fun s => ?_⟩
 obtain ⟨es, bs, h1, h2, h3⟩ := h s
 obtain ⟨e, rfl⟩ : ∃ e, es = [e] := by
  match es, h2 with
  | [e], _ => exact ⟨e, rfl⟩
 refine ⟨e, bs, h1, fun all hp => ?_⟩
 obtain ⟨c1, c2, c3, c4⟩ := h3 all hp
 cases c1 with
 | cons hv _ =>
 refine ⟨hv, c3, ?_⟩
 unfold Sd
 cases sh with
 | struct l => exact absurd rfl (hn l)
 | _ => exact c4
theorem Mt.agg {l : List Sh} {cs : Array Value} (h : Mt w n0 (.struct l) cs.toList) : DecV w n0 (.struct l) (.agg cs) := by
 obtain ⟨k, d, h⟩ := h
 refine ⟨k, d, fun s => ?_⟩
 obtain ⟨es, bs, h1, h2, h3⟩ := h s
 refine ⟨.agg es, bs, h1, fun all hp => ?_⟩
 obtain ⟨c1, c2, c3, c4⟩ := h3 all hp
 exact ⟨.agg c1 c2, c3, es, rfl, c4⟩
theorem dec_val {K : Nat} {sh : Sh} {t : TypeId} {v : Value} {r : Go.Reach} {b0 : Nat} {d : DataW H} {p : List MemPlace} (h : shOk P K sh t = true) (hval : Value.okWide P w r b0 t v) (hx : DataW.Trod enc P w base (fun _ => true) held t v d p) : DecV w n0 sh v := by
 obtain ⟨fuel, hf⟩ := hx
 have hD := Ij (w := w) n0 K sh t fuel _ _ h hf
 cases K with
 | zero => simp [shOk] at h
 | succ K =>
 simp only [shOk] at h
 split at h
 ·rename_i k k' hu
  refine Mt.one (by intro l e; cases e) ?_
  simp only [Value.okWide, hu, Cell.okWide] at hval
  cases v <;> simp only [Cell.ok, hu] at hval
  exact hD
 ·rename_i hu
  refine Mt.one (by intro l e; cases e) ?_
  simp only [Value.okWide, hu, Cell.okWide] at hval
  cases v <;> simp only [Cell.ok, hu] at hval
  exact hD
 ·rename_i hu
  refine Mt.one (by intro l e; cases e) ?_
  simp only [Value.okWide, hu, Cell.okWide] at hval
  cases v <;> simp only [Cell.ok, hu] at hval
  exact hD
 ·rename_i e esz s e' hu
  refine Mt.one (by intro l e; cases e) ?_
  simp only [Value.okWide, hu, Cell.okWide] at hval
  cases v <;> simp only [Cell.ok, hu] at hval
  exact hD
 ·rename_i l gs hu
  simp only [Value.okWide, hu] at hval;obtain ⟨cs, rfl, _, _⟩ := hval
  exact Mt.agg hD
 ·cases h
theorem sg.one {m : Mem} {s : Sh} {ka : List Sh} {es : List EV} {ds : List Dt} (h : sg m (s :: ka) es ds) : ∃ e d q9 vj, es = e :: q9 /\ ds = d :: vj /\ Sd m s e d /\ sg m ka q9 vj := by
 cases h with | cons h hs => exact ⟨_, _, _, _, rfl, rfl, h, hs⟩
theorem sg.none {m : Mem} {es : List EV} {ds : List Dt} (h : sg m [] es ds) : es = [] /\ ds = [] := by
 cases h; exact ⟨rfl, rfl⟩
end
end
section
mutual
inductive Fz : Sh -> List EV -> Dt -> Prop
 | int {k : IntKind} {n : Int} (h : (Lit.int k n).wf = true) : Fz (.int k) [.int k n] (.int n)
 | bool (b : Bool) : Fz .bool [.bool b] (.bool b)
 | str {s : List UInt8} (h : s.length <= maxLen) : Fz .str [.str s] (.str s)
 | nil {e esz : Nat} {s : Sh} : Fz (.slice e esz s) [.ae] (.list [])
 | slice {e esz : Nat} {s : Sh} {els : List (List EV)} {ds : List Dt} (hl : ds.length <= maxLen) (h : UP (List.replicate ds.length s) els ds) : Fz (.slice e esz s) [.fz 0 esz els] (.list ds)
 | struct {ka : List Sh} {els : List (List EV)} {ds : List Dt} (h : UP ka els ds) : Fz (.struct ka) els.flatten (.ZA ds)
inductive UP : List Sh -> List (List EV) -> List Dt -> Prop
 | nil : UP [] [] []
 | cons {s : Sh} {es : List EV} {d : Dt} {ka : List Sh} {els : List (List EV)} {ds : List Dt} (h : Fz s es d) (hs : UP ka els ds) : UP (s :: ka) (es :: els) (d :: ds)
end
mutual
def D8 : Sh -> Nat
 | .struct l => Ck l
 | _ => 1
def Ck : List Sh -> Nat
 | [] => 0
 | s :: l => D8 s + Ck l
end
mutual
def Gh : Sh -> Bool
 | .slice _ esz s => (D8 s).beq esz && Gh s
 | .struct l => sT l
 | _ => true
def sT : List Sh -> Bool
 | [] => true
 | s :: l => Gh s && sT l
end
def still (m : Mem) : cF := ⟨fun _ => none, fun _ => none, fun c => if c < m.next then some (m.get c) else none⟩
section
variable {m : Mem}
mutual
theorem NC : ∀ {s : Sh} {es : List EV} {d : Dt}, Fz s es d -> es.length = D8 s
 | _, _, _, .int _ => rfl
 | _, _, _, .bool _ => rfl
 | _, _, _, .str _ => rfl
 | _, _, _, .nil => rfl
 | _, _, _, .slice _ _ => rfl
 | _, _, _, .struct h => by simp only [D8]; exact JS h
theorem JS : ∀ {ka : List Sh} {els : List (List EV)} {ds : List Dt}, UP ka els ds -> els.flatten.length = Ck ka
 | _, _, _, .nil => rfl
 | _, _, _, .cons h hs => by simp only [Ck, List.flatten_cons, jz, NC h, JS hs]
end
theorem NB {s : Sh} : ∀ {n : Nat} {els : List (List EV)} {ds : List Dt}, UP (List.replicate n s) els ds -> els.length = n /\ ds.length = n /\ ∀ el ∈ els, el.length = D8 s
 | 0, els, ds, h => by rw [List.replicate_zero] at h; cases h; exact ⟨rfl, rfl, fun el EI => by cases EI⟩
 | n + 1, els, ds, h => by
  rw [List.replicate_succ] at h
  cases h with
  | cons h hs =>
   obtain ⟨h1, h2, h3⟩ := NB hs
   refine ⟨by simp [h1], by simp [h2], fun el EI => ?_⟩
   rcases oU.1 EI with rfl | EI
   ·exact NC h
   ·exact h3 el EI
theorem dT.TS {θ : cF} {x x' : List EV} (h : dT θ x x') : x'.length = x.length := h.length.symm
mutual
theorem AH (hm : ∀ b cs e t ro, m.get b = .cells cs e t ro -> b < m.next) : ∀ {s : Sh} {es : List EV} {d : Dt}, PL m s es d -> Gh s = true -> ∃ us, Fz s us d /\ dT (still m) us es
 | _, _, _, .int h, _ => ⟨_, .int h, .cons (.int _ _) .nil⟩
 | _, _, _, .bool b, _ => ⟨_, .bool b, .cons (.bool _) .nil⟩
 | _, _, _, .str h, _ => ⟨_, .str h, .cons (.str _) .nil⟩
 | _, _, _, .nil, _ => ⟨_, .nil, .cons .ae .nil⟩
 | _, _, _, .empty (s := s) (esz := esz), _ => ⟨[.fz 0 esz []], .slice (ds := []) (ml _) .nil, .cons (.BR (.inl rfl)) .nil⟩
 | _, _, _, .slice (esz := esz) (b := b) (ess := ess) (ds := ds) (s := s) hl hb h, hf => by
  simp only [Gh, pI] at hf;have uh := aS hf.1
  obtain ⟨els, h1, h2⟩ := Hq hm h (by
   have : ∀ n, sT (List.replicate n s) = true := fun n => by
    induction n with
    | zero => rfl
    | succ n ih => simp only [List.replicate_succ, sT, hf.2, ih, Bool.and_self]
   exact this _)
  obtain ⟨g1, g2, g3⟩ := NB h1
  have hlen : els.flatten.length = els.length * esz := zD (fun el EI => (g3 el EI).trans uh)
  have X0 : ess.flatten.length = els.length * esz := by rw [h2.TS, hlen]
  have eo : (still m).gQ b = some (.cells ess.flatten esz 0 true) := by
   show (if b < m.next then some (m.get b) else none) = _
   rw [if_pos (hm _ _ _ _ _ hb), hb]
  refine ⟨[.fz 0 esz els], .slice hl h1, .cons ?_ .nil⟩
  have := SV.fz (θ := still m) (t := 0) (cap := none) (.mk (off := 0) eo (fun el EI => (g3 el EI).trans uh) (by omega) (by
   rw [List.drop_zero, <- X0, List.take_length]; exact h2)) (.inl rfl) (fun c hc => by cases hc)
  rw [g1] at this; exact this
 | _, _, _, .struct h, hf => by
  obtain ⟨els, h1, h2⟩ := Hq hm h (by simpa only [Gh] using hf)
  exact ⟨_, .struct h1, h2⟩
theorem Hq (hm : ∀ b cs e t ro, m.get b = .cells cs e t ro -> b < m.next) : ∀ {ka : List Sh} {ess : List (List EV)} {ds : List Dt}, Mo m ka ess ds -> sT ka = true -> ∃ els, UP ka els ds /\ dT (still m) els.flatten ess.flatten
 | _, _, _, .nil, _ => ⟨_, .nil, .nil⟩
 | _, _, _, .cons h hs, hf => by
  simp only [sT, pI] at hf;obtain ⟨us, h1, h2⟩ := AH hm h hf.1
  obtain ⟨els, h3, h4⟩ := Hq hm hs hf.2
  exact ⟨us :: els, .cons h1 h3, by rw [List.flatten_cons, List.flatten_cons]; exact h2.append h4⟩
end
def YT (sh : Sh) (v : EV) (d : Dt) : Prop := match sh with
 | .struct l => ∃ cs, v = .agg cs /\ Fz (.struct l) cs d
 | sh => Fz sh [v] d
inductive F7 : List Sh -> List EV -> List Dt -> Prop
 | nil : F7 [] [] []
 | cons {s : Sh} {v : EV} {d : Dt} {ka : List Sh} {vs : List EV} {ds : List Dt} (h : YT s v d) (hs : F7 ka vs ds) : F7 (s :: ka) (v :: vs) (d :: ds)
theorem F7.one {s : Sh} {ka : List Sh} {es : List EV} {ds : List Dt} (h : F7 (s :: ka) es ds) : ∃ e d q9 vj, es = e :: q9 /\ ds = d :: vj /\ YT s e d /\ F7 ka q9 vj := by
 cases h with | cons h hs => exact ⟨_, _, _, _, rfl, rfl, h, hs⟩
theorem F7.none {es : List EV} {ds : List Dt} (h : F7 [] es ds) : es = [] := by cases h; rfl
theorem SO (hm : ∀ b cs e t ro, m.get b = .cells cs e t ro -> b < m.next) {s : Sh} {e : EV} {d : Dt} (h : Sd m s e d) (hf : Gh s = true) : ∃ u, YT s u d /\ SV (still m) u e := by
 have one : ∀ {us : List EV} {e : EV}, dT (still m) us [e] -> ∃ u, us = [u] /\ SV (still m) u e := by
  intro us e h
  cases h with
  | cons h hs => cases hs; exact ⟨_, rfl, h⟩
 cases s with
 | struct l =>
  obtain ⟨cs, rfl, h⟩ := h
  obtain ⟨us, h1, h2⟩ := AH hm h hf
  exact ⟨.agg us, ⟨us, rfl, h1⟩, .agg h2⟩
 | int k => obtain ⟨us, h1, h2⟩ := AH hm h hf; obtain ⟨u, rfl, h3⟩ := one h2; exact ⟨u, h1, h3⟩
 | bool => obtain ⟨us, h1, h2⟩ := AH hm h hf; obtain ⟨u, rfl, h3⟩ := one h2; exact ⟨u, h1, h3⟩
 | str => obtain ⟨us, h1, h2⟩ := AH hm h hf; obtain ⟨u, rfl, h3⟩ := one h2; exact ⟨u, h1, h3⟩
 | slice a b c => obtain ⟨us, h1, h2⟩ := AH hm h hf; obtain ⟨u, rfl, h3⟩ := one h2; exact ⟨u, h1, h3⟩
theorem I8 (hm : ∀ b cs e t ro, m.get b = .cells cs e t ro -> b < m.next) : ∀ {ka : List Sh} {es : List EV} {ds : List Dt}, sg m ka es ds -> sT ka = true -> ∃ us, F7 ka us ds /\ dT (still m) us es
 | _, _, _, .nil, _ => ⟨[], .nil, .nil⟩
 | _, _, _, .cons h hs, hf => by
  simp only [sT, pI] at hf;obtain ⟨u, h1, h2⟩ := SO hm h hf.1
  obtain ⟨us, h3, h4⟩ := I8 hm hs hf.2
  exact ⟨u :: us, .cons h1 h3, .cons h2 h4⟩
theorem Q4 {T B : Nat -> Option iq} {K : Nat -> Nat} (hT : ∀ f e, B f = some e -> gZ T f e) {f : Nat} {F : au} (hF : B f = some (.go F)) (hm : ∀ b cs e t ro, m.get b = .cells cs e t ro -> b < m.next) {ka : List Sh} {es : List EV} {ds : List Dt} (h : sg m ka es ds) (hf : sT ka = true) (Rw : mG (still m)) :
  ∃ us, F7 ka us ds /\ (cR B K f (gD 1 us) = some (.bool true) -> ∃ m', run T f es m = some (.ret (.bool true) m')) := by
 obtain ⟨us, h1, h2⟩ := I8 hm h hf
 refine ⟨us, h1, fun hp => ?_⟩
 obtain ⟨F0, V8, V7, rfl⟩ := hT f _ hF
 rw [Ef hF] at hp;obtain ⟨v', m1, fU, θ, e, _, _, hv⟩ := pure_run (Wm hT) V8 V7 hp (m' := m) (tg := Qc es) (S := (still m).gQ) (fun b B hb => by
  have BQ : (if b < m.next then some (m.get b) else none) = some B := hb
  by_cases q : b < m.next
  ·rw [if_pos q] at BQ; cases BQ; exact ⟨rfl, q⟩
  ·rw [if_neg q] at BQ; cases BQ) (B7 us es 1 (DX es) h2) (Rw.down ⟨fun _ _ h => (by simp [cF.low] at h), fun _ _ h => (by simp [cF.low] at h), fun _ _ h => h⟩)
 have := hv.flat rfl
 subst this;exact ⟨fU, e⟩
theorem We {e : EV} {d : Dt} (h : YT .str e d) : ∃ s, e = .str s /\ s.length <= maxLen := by
 unfold YT at h; cases h with | str hl => exact ⟨_, rfl, hl⟩
end
end
section
structure jF (m : Mem) (v : EV) (cs : List EV) (n esz lo : Nat) : Prop where
 is : (v = .ae /\ n = 0 /\ cs = []) \/ ∃ b cap t, v = .slice b 0 n cap /\ lo <= b /\ b < m.next /\ m.get b = .cells cs esz t false /\ (cap = none \/ cap = some n)
 len : cs.length = n * esz
def gq (v : EV) (c : Nat) : Prop := ∀ b o n cap, v = .slice b o n cap -> c ≠ b
theorem gq.nil {c : Nat} : gq .ae c := fun _ _ _ _ h => by cases h
theorem gq.of {b o n c : Nat} {cap : Option Nat} (h : c ≠ b) : gq (.slice b o n cap) c := fun _ _ _ _ e => by cases e; exact h
theorem Cn {m : Mem} {b n esz e t : Nat} {cs : List EV} {ro : Bool} (hb : m.get b = .cells cs e t ro) (hl : cs.length = n * esz) : m.row b 0 (n * esz) = some cs := by
 by_cases h : n * esz = 0
 ·rw [h, Mem.nj]; rw [h] at hl; rw [List.eq_nil_of_length_eq_zero hl]
 ·rw [Mem.p7 h]; unfold Mem.Ho
  rw [hb]
  show (bif (0 + n * esz).ble cs.length then some ((cs.drop 0).take (n * esz)) else none) = _
  rw [Be (by omega)];simp [<- hl]
theorem jF.source {m : Mem} {v : EV} {cs : List EV} {n esz lo : Nat} (h : jF m v cs n esz lo) : m.source esz v = some (n, cs) := by
 rcases h.is with ⟨rfl, rfl, rfl⟩ | ⟨b, cap, t, rfl, h1, h2, h3, h4⟩
 ·rfl
 ·show (m.row b 0 (n * esz)).map (fun cs => (n, cs)) = _
  rw [Cn h3 h.len]; rfl
theorem jF.mono {m m' : Mem} {v : EV} {cs : List EV} {n esz lo : Nat} (h : jF m v cs n esz lo) (hn : m.next <= m'.next) (hk : ∀ c, c < m.next -> m'.get c = m.get c) : jF m' v cs n esz lo := by
 refine ⟨?_, h.len⟩
 rcases h.is with h | ⟨b, cap, t, rfl, h1, h2, h3, h4⟩
 ·exact .inl h
 ·exact .inr ⟨b, cap, t, rfl, h1, by omega, by rw [hk b h2]; exact h3, h4⟩
theorem jF.ext {m : Mem} {v : EV} {cs : List EV} {n esz lo : Nat} (h : jF m v cs n esz lo) (xs : List fK) : jF (ext m xs) v cs n esz lo := h.mono (by rw [aK]; exact bI) fun c hc => aL hc
theorem xD {m : Mem} {vs : List EV} {e esz : Nat} (h : vs.length = esz) : (Ev.ext m [.cells vs esz e false]).source esz (.slice (nb m.next 0) 0 1 (some 1)) = some (1, vs) := by
 have hg : (Ev.ext m [.cells vs esz e false]).get (nb m.next 0) = .cells vs esz e false := by rw [aM rfl (by simp)]; rfl
 show ((Ev.ext m [.cells vs esz e false]).row (nb m.next 0) 0 (1 * esz)).map (fun cs => (1, cs)) = _
 rw [Cn hg (by omega)]; rfl
def grow (m : Mem) (v : EV) (e esz : Nat) (cs : List EV) : Mem := match v with
 | .slice b _ _ none => (m.new (.cells cs esz e false)).set b .dead
 | _ => m.new (.cells cs esz e false)
theorem iJ {m : Mem} {v : EV} {e esz : Nat} {cs : List EV} : (grow m v e esz cs).next = nb m.next 1 := by
 unfold grow; split <;> rfl
theorem jq {m : Mem} {v : EV} {e esz c : Nat} {cs : List EV} (hc : c < m.next) (ho : gq v c) : (grow m v e esz cs).get c = m.get c := by
 unfold grow
 split
 ·rename_i b o n
  rw [az (ho b o n none rfl), fq, if_neg (by omega)]
 ·rw [fq, if_neg (by omega)]
theorem gj {m : Mem} {v x : EV} {cs xs : List EV} {n k esz e lo : Nat} (h : jF m v cs n esz lo) (qm : lo <= m.next) (hx : m.source esz x = some (k, xs)) (Td : xs.length = k * esz) (hk : k ≠ 0) (hr : n + k <= room) :
  fS m e esz v x = some (.slice (nb m.next 0) 0 (n + k) none, grow m v e esz (cs ++ xs)) /\ jF (grow m v e esz (cs ++ xs)) (.slice (nb m.next 0) 0 (n + k) none) (cs ++ xs) (n + k) esz lo := by
 have hlen : (cs ++ xs).length = (n + k) * esz := by rw [jz, h.len, Td, Nat.add_mul]
 have own : ∀ b', b' ≠ m.next -> jF ((m.new (.cells (cs ++ xs) esz e false)).set b' .dead) (.slice (nb m.next 0) 0 (n + k) none) (cs ++ xs) (n + k) esz lo := fun b' BQ =>
  ⟨.inr ⟨m.next, none, e, rfl, qm, by rw [cg, jl]; omega, by rw [az (fun q => BQ q.symm), fq, if_pos rfl], .inl rfl⟩, hlen⟩
 have Xk : jF (m.new (.cells (cs ++ xs) esz e false)) (.slice (nb m.next 0) 0 (n + k) none) (cs ++ xs) (n + k) esz lo :=
  ⟨.inr ⟨m.next, none, e, rfl, qm, by rw [jl]; omega, by rw [fq, if_pos rfl], .inl rfl⟩, hlen⟩
 rcases h.is with ⟨rfl, rfl, rfl⟩ | ⟨b, cap, t, rfl, h1, h2, h3, h4⟩
 ·refine ⟨?_, Xk⟩
  unfold fS;rw [hx];simp only [jR hk, cond_false, Be (show k <= room by omega), cond_true, List.nil_append, Nat.zero_add, grow, nb, Nat.add_zero]
 ·have FN := Cn h3 h.len
  rcases h4 with rfl | rfl
  ·refine ⟨?_, own b (by omega)⟩
   unfold fS;rw [hx];simp only [jR hk, cond_false, Be hr, cond_true, FN, h3, dR, grow, nb, Nat.add_zero]
  ·refine ⟨?_, Xk⟩
   have hf : (n + k).ble n = false := by
    cases hb : (n + k).ble n with
    | false => rfl
    | true => have := qS hb; omega
   unfold fS;rw [hx];simp only [jR hk, cond_false, Be hr, cond_true, FN, hf, grow, nb, Nat.add_zero]
theorem oK {m : Mem} {b e esz : Nat} {vs : List EV} {ro : Bool} (hb : m.get b = .cells vs esz e ro) (h : vs.length = esz) {cap : Option Nat} : m.source esz (.slice b 0 1 cap) = some (1, vs) := by
 show (m.row b 0 (1 * esz)).map (fun cs => (1, cs)) = _
 rw [Cn hb (by omega)]; rfl
theorem jF.lt {m : Mem} {v : EV} {cs : List EV} {n esz lo c : Nat} (h : jF m v cs n esz lo) (hc : m.next <= c \/ c < lo) : gq v c := by
 rcases h.is with ⟨rfl, _⟩ | ⟨b, cap, t, rfl, h1, h2, _⟩
 ·exact gq.nil
 ·exact gq.of (by omega)
theorem jF.gz {m m' : Mem} {v : EV} {cs : List EV} {n esz lo : Nat} (h : jF m v cs n esz lo) (hn : m.next <= m'.next) (hk : ∀ c, c < m.next -> lo <= c -> ¬ gq v c -> m'.get c = m.get c) : jF m' v cs n esz lo := by
 refine ⟨?_, h.len⟩
 rcases h.is with h | ⟨b, cap, t, rfl, h1, h2, h3, h4⟩
 ·exact .inl h
 ·exact .inr ⟨b, cap, t, rfl, h1, by omega, by rw [hk b h2 h1 (fun q => q b 0 n cap rfl rfl)]; exact h3, h4⟩
end
section
def row (nl : Bool) (t e : Nat) (els : List (List EV)) : EV := bif nl && els.isEmpty then .ae else .fz t e els
theorem v8 (nl : Bool) (t e : Nat) (els : List (List EV)) : (row nl t e els = .ae /\ els = []) \/ row nl t e els = .fz t e els := by
 unfold row
 cases nl
 ·exact .inr rfl
 ·cases els with
  | nil => exact .inl ⟨rfl, rfl⟩
  | cons a l => exact .inr rfl
section
variable {m : Mem} {nl : Bool} {t e : Nat} {els : List (List EV)} {ρ : aW -> EV}
def Es (v : EV) (m : Mem) : Option R1 := match v with
 | .ae => some (.val (.int .i64 0) m)
 | .slice _ _ n _ => some (.val (.int .i64 (n : Int)) m)
 | .fz _ _ els => some (.val (.int .i64 (els.length : Int)) m)
 | _ => none
@[congr] theorem Vm {v v' : EV} (h : v = v') : Es v m = Es v' m := by rw [h]
theorem wK {x : aW} : aB ρ (.len x) m = Es (ρ x) m := rfl
theorem y9 : Es .ae m = some (.val (.int .i64 0) m) := rfl
theorem tb {b off n : Nat} {c : Option Nat} : Es (.slice b off n c) m = some (.val (.int .i64 (n : Int)) m) := rfl
theorem CG : Es (.fz t e els) m = some (.val (.int .i64 (els.length : Int)) m) := rfl
theorem y8 : Es (row nl t e els) m = some (.val (.int .i64 (els.length : Int)) m) := by
 rcases v8 nl t e els with ⟨h, rfl⟩ | h <;> rw [h] <;> rfl
def AI (o : Option Nat) (k : Nat -> EV) (m : Mem) : Option R1 := match o with
 | some i => some (.val (k i) m)
 | none => none
theorem wj {i : Nat} {k : Nat -> EV} : AI (some i) k m = some (.val (k i) m) := rfl
@[congr] theorem U4 {o o' : Option Nat} {k : Nat -> EV} (h : o = o') : AI o k m = AI o' k m := by rw [h]
def xN (e : Nat) (x i : EV) (m : Mem) : Option R1 := match x with
 | .slice b off len _ => AI (idx len i) (fun j => .ptr b (off + j * e)) m
 | .fz _ f els => bif f.beq e then AI (idx els.length i) (fun j => .fI f els j 0) m else none
 | _ => none
@[congr] theorem Tb {x x' i i' : EV} (h : x = x') (h' : i = i') : xN e x i m = xN e x' i' m := by rw [h, h']
theorem qC {x i : aW} : aB ρ (.cS e x i) m = xN e (ρ x) (ρ i) m := rfl
theorem ou {b off n : Nat} {c : Option Nat} {i : EV} : xN e (.slice b off n c) i m = AI (idx n i) (fun j => .ptr b (off + j * e)) m := rfl
theorem rL {i : EV} : xN e (.fz t e els) i m = AI (idx els.length i) (fun j => .fI e els j 0) m := by
 simp only [xN, Nat.beq_refl, cond_true]
theorem tj {i : EV} : xN e (row nl t e els) i m = AI (idx els.length i) (fun j => .fI e els j 0) m := by
 rcases v8 nl t e els with ⟨h, rfl⟩ | h
 ·rw [h]
  show none = AI (idx 0 i) _ m
  have : idx 0 i = none := by unfold idx; split <;> rfl
  rw [this]; rfl
 ·rw [h]; exact rL
def Xu (agg : Option Nat) (o : Option (List EV)) (k : Nat) : Option EV := match o with
 | some el => partOf agg el k
 | none => none
@[congr] theorem WG {agg : Option Nat} {o o' : Option (List EV)} {k : Nat} (h : o = o') : Xu agg o k = Xu agg o' k := by rw [h]
theorem zb {agg : Option Nat} {el : List EV} {k : Nat} : Xu agg (some el) k = partOf agg el k := rfl
theorem wy {agg : Option Nat} {i k : Nat} : m.load agg (.fI e els i k) = Xu agg els[i]? k := by
 simp only [Mem.load, Xu]; cases els[i]? <;> rfl
def ach (off : Nat) (x : EV) (m : Mem) : Option R1 := match x with
 | .ptr b o => some (.val (.ptr b (o + off)) m)
 | .fI e els i k => some (.val (.fI e els i (k + off)) m)
 | _ => none
theorem rl : m.source e (.fz t e els) = some (els.length, els.flatten) := by simp only [Mem.source, Nat.beq_refl, cond_true]
theorem sQ : m.source e (row nl t e els) = some (els.length, els.flatten) := by
 rcases v8 nl t e els with ⟨h, rfl⟩ | h
 ·rw [h]; rfl
 ·rw [h]; exact rl
theorem Aa : (EV.fz t e els).cells = some [.fz t e els] := rfl
theorem wW : (row nl t e els).cells = some [row nl t e els] := by
 rcases v8 nl t e els with ⟨h, rfl⟩ | h <;> rw [h] <;> rfl
theorem tW {i k : Nat} : (EV.fI e els i k).cells = some [.fI e els i k] := rfl
theorem NT : eL (.aG 4) (.fz t e els) .ae = some false := rfl
theorem NR : eL (.aG 4) .ae (.fz t e els) = some false := rfl
theorem NM : eL (.aG 4) (row nl t e els) .ae = some (nl && els.isEmpty) := by
 unfold row; cases nl && els.isEmpty <;> rfl
def Bm (nl : Bool) (e : Nat) (els : List (List EV)) (lo : Option EV) (h : Option Nat) (m : Mem) : Option R1 := match h with
 | some h => AI (aw lo 0 h) (fun l => row nl 0 e ((els.take h).drop l)) m
 | none => none
@[congr] theorem Ua {lo : Option EV} {h h' : Option Nat} (q : h = h') : Bm nl e els lo h m = Bm nl e els lo h' m := by rw [q]
theorem sZ {lo : Option EV} {h : Nat} : Bm nl e els lo (some h) m = AI (aw lo 0 h) (fun l => row nl 0 e ((els.take h).drop l)) m := rfl
theorem FY {x : aW} {lo hi : Option aW} (hx : ρ x = row nl t e els) : aB ρ (.uL e x lo hi none) m = Bm (nl && els.isEmpty) e els (lo.map ρ) (aw (hi.map ρ) els.length els.length) m := by
 have hf : (nl && els.isEmpty) = false -> ρ x = .fz t e els := by
  intro h; rw [hx]; unfold row; rw [h]; rfl
 cases hn : nl && els.isEmpty with
 | true =>
  obtain ⟨rfl, hE⟩ := Bool.and_eq_true_iff.1 hn
  have : els = [] := List.isEmpty_iff.1 hE
  subst this;have Nc : ρ x = .ae := hx
  simp only [aB, Nc, Option.map_none, pD, List.length_nil]
  cases h1 : aw (hi.map ρ) 0 0 with
  | none => rfl
  | some h =>
   have h0 : h = 0 := by
    have := E7 h1 (fy 0)
    omega
   subst h0;simp only [Bm, AI]
   cases h2 : aw (lo.map ρ) 0 0 with
   | none => rfl
   | some l => simp [row]
 | false =>
  simp only [aB, hf hn, Nat.beq_refl, cond_true]
  cases h1 : aw (hi.map ρ) els.length els.length with
  | none => rfl
  | some h =>
   simp only [Bm, AI]
   cases h2 : aw (lo.map ρ) 0 h with
   | none => rfl
   | some l => simp [row]
def uK (e : Nat) (v : EV) (lo hi mx : Option EV) (m : Mem) : Option R1 := match v with
  | .ae => match aw mx 0 0, aw hi 0 0, aw lo 0 0 with
   | some _, some _, some _ => some (.val .ae m)
   | _, _, _ => none
  | .slice b off len (some c) => gx m (ek e b off len (some c) lo hi mx)
  | .slice b off len none => match m.get b with
   | .cells _ f _ _ => bif f.beq e then gx m (ek e b off len none lo hi mx) else none
   | _ => none
  | .fz _ f els => match mx with
   | none => bif f.beq e then
     match aw hi els.length els.length with
     | some h => match aw lo 0 h with
      | some l => some (.val (.fz 0 f ((els.take h).drop l)) m)
      | none => none
     | none => none
    else none
   | some _ => none
  | _ => none
@[congr] theorem T9 {v v' : EV} {lo Eo hi xw mx El : Option EV} (h : v = v') (h1 : lo = Eo) (h2 : hi = xw) (h3 : mx = El) : uK e v lo hi mx m = uK e v' Eo xw El m := by rw [h, h1, h2, h3]
theorem pz {x : aW} {lo hi mx : Option aW} : aB ρ (.uL e x lo hi mx) m = uK e (ρ x) (lo.map ρ) (hi.map ρ) (mx.map ρ) m := by
 simp only [aB, uK]
 cases ρ x <;> try rfl
 ·rename_i b off len cap
  cases cap
  ·simp only; cases m.get b <;> rfl
  ·rfl
 ·cases mx <;> rfl
theorem vY {lo hi : Option EV} : uK e .ae lo hi none m = (match aw hi 0 0, aw lo 0 0 with
   | some _, some _ => some (.val .ae m)
   | _, _ => none) := by
 simp only [uK, pD]; cases aw hi 0 0 <;> cases aw lo 0 0 <;> rfl
theorem sR {b off len c : Nat} {lo hi mx : Option EV} : uK e (.slice b off len (some c)) lo hi mx m = gx m (ek e b off len (some c) lo hi mx) := rfl
def Wy (e b off len : Nat) (lo hi mx : Option EV) (m : Mem) (B : fK) : Option R1 := match B with
 | .cells _ f _ _ => bif f.beq e then gx m (ek e b off len none lo hi mx) else none
 | _ => none
@[congr] theorem Wx {b off len : Nat} {lo hi mx : Option EV} {B B' : fK} (h : B = B') : Wy e b off len lo hi mx m B = Wy e b off len lo hi mx m B' := by rw [h]
theorem sS {b off len : Nat} {lo hi mx : Option EV} : uK e (.slice b off len none) lo hi mx m = Wy e b off len lo hi mx m (m.get b) := by
 simp only [uK, Wy]
theorem vZ {b off len t : Nat} {lo hi mx : Option EV} {cs : List EV} {ro : Bool} : Wy e b off len lo hi mx m (.cells cs e t ro) = gx m (ek e b off len none lo hi mx) := by simp only [Wy, Nat.beq_refl, cond_true]
theorem rn {lo hi : Option EV} : uK e (row nl t e els) lo hi none m = Bm (nl && els.isEmpty) e els lo (aw hi els.length els.length) m := by
 have := FY (m := m) (nl := nl) (t := t) (e := e) (els := els) (ρ := fun o => match o with | .tmp 0 => row nl t e els | .tmp 1 => lo.getD .undef | .tmp _ => hi.getD .undef | .const x => x) (x := .tmp 0) (lo := lo.map fun _ => .tmp 1) (hi := hi.map fun _ => .tmp 2) rfl
 rw [pz] at this
 cases lo <;> cases hi <;> exact this
theorem yE {lo hi : Option EV} : uK e (.fz t e els) lo hi none m = Bm false e els lo (aw hi els.length els.length) m := by
 have := rn (m := m) (nl := false) (t := t) (e := e) (els := els) (lo := lo) (hi := hi)
 exact this
def lY (m : Mem) (v : EV) : Option EV := po (cB 7 m) m v
def H2 (m : Mem) (l : List EV) : Option (List EV) := cB deep m l
def R0 (a : Option EV) (b : Option (List EV)) : Option (List EV) := match a, b with
 | some a, some b => some (a :: b)
 | _, _ => none
theorem tP {a : EV} {b : List EV} : R0 (some a) (some b) = some (a :: b) := rfl
theorem zB : H2 m [] = some [] := rfl
theorem wG {v : EV} {l : List EV} : H2 m (v :: l) = R0 (lY m v) (H2 m l) := by
 show jd (cB 7 m) m (v :: l) = _
 simp only [jd]
 show _ = R0 (po (cB 7 m) m v) (jd (cB 7 m) m l)
 cases po (cB 7 m) m v <;> cases jd (cB 7 m) m l <;> rfl
theorem tu : lY m .undef = some .undef := rfl
theorem wF {b : Bool} : lY m (.bool b) = some (.bool b) := rfl
theorem Df {p : Prop} : lY m (bo p) = some (bo p) := rfl
theorem zy {k : IntKind} {n : Int} : lY m (.int k n) = some (.int k n) := rfl
theorem zw {s : List UInt8} : lY m (.str s) = some (.str s) := rfl
theorem mV : lY m .ae = some .ae := rfl
theorem qq : lY m .bL = some .bL := rfl
theorem mW : lY m .aD = some .aD := rfl
theorem zz : lY m (.fz t e els) = some (.fz 0 e els) := by simp only [lY, po]
theorem zx : lY m (row nl t e els) = some (row nl 0 e els) := by
 unfold row; cases nl && els.isEmpty
 ·exact zz
 ·rfl
theorem zA {x : List EV} : lY m (.agg x) = (H2 m x).map .agg := by simp only [lY, po]; rfl
theorem tw {x : List EV} : lY m (.tuple x) = (H2 m x).map .tuple := by simp only [lY, po]; rfl
mutual
def plain : EV -> Bool
 | .ptr _ _ | .slice _ _ _ _ | .map _ | .fI _ _ _ _ => false
 | .fz t _ _ => t.beq 0
 | .func _ x y => jv x && jv y
 | .iface _ v => plain v
 | .agg x | .tuple x => jv x
 | _ => true
def jv : List EV -> Bool
 | [] => true
 | v :: l => plain v && jv l
end
mutual
theorem GJ {F : List EV -> Option (List EV)} : ∀ {v : EV}, plain v = true -> po F m v = some v
 | .undef, _ | .bool _, _ | .int _ _, _ | .str _, _ | .bL, _ | .ae, _ | .bz, _ | .aO, _ | .aD, _ => by simp only [po]
 | .ptr _ _, h | .slice _ _ _ _, h | .map _, h | .fI _ _ _ _, h => by simp [plain] at h
 | .fz t e els, h => by simp only [plain] at h; rw [aS h]; simp only [po]
 | .func f x y, h => by
  simp only [plain, pI] at h;simp only [po, kV h.1, kV h.2]
 | .iface t v, h => by simp only [po, GJ (v := v) (by simpa only [plain] using h), Option.map_some]
 | .agg x, h => by simp only [po, kV (l := x) (by simpa only [plain] using h), Option.map_some]
 | .tuple x, h => by simp only [po, kV (l := x) (by simpa only [plain] using h), Option.map_some]
theorem kV {F : List EV -> Option (List EV)} : ∀ {l : List EV}, jv l = true -> jd F m l = some l
 | [], _ => rfl
 | v :: l, h => by
  simp only [jv, pI] at h;simp only [jd, GJ h.1, kV h.2]
end
theorem xq : ∀ {a b : List EV}, jv (a ++ b) = (jv a && jv b)
 | [], b => by simp [jv]
 | v :: a, b => by simp only [List.cons_append, jv, xq (a := a), Bool.and_assoc]
theorem pd : ∀ {els : List (List EV)}, (∀ el ∈ els, jv el = true) -> jv els.flatten = true
 | [], _ => rfl
 | el :: els, h => by rw [List.flatten_cons, xq, h el (by simp), pd fun x hx => h x (by simp [hx])]; rfl
theorem mZ : ∀ {els : List (List EV)}, (∀ el ∈ els, el.length = e) -> chunk e els.length els.flatten = els
 | [], _ => rfl
 | el :: els, h => by
  have he := h el (by simp)
  rw [List.length_cons, List.flatten_cons, chunk, List.take_append_of_le_length (by omega), List.drop_append_of_le_length (by omega), <- he, List.take_length, List.drop_length, List.nil_append, he, mZ fun x hx => h x (by simp [hx])]
theorem pn {b ty : Nat} {cap : Option Nat} {ro : Bool} (hb : m.get b = .cells els.flatten e ty ro) (hl : ∀ el ∈ els, el.length = e) (hp : ∀ el ∈ els, jv el = true) (hc : Ac cap els.length = true) : lY m (.slice b 0 els.length cap) = some (.fz 0 e els) := by
 have hlen : els.flatten.length = els.length * e := zD hl
 simp only [lY, po, hb, hc, cond_true, Be (show 0 + els.length * e <= els.flatten.length by omega), List.drop_zero];rw [<- hlen, List.take_length]
 show (jd (cB 6 m) m els.flatten).map _ = _
 rw [kV (pd hp), Option.map_some, mZ hl]
theorem tR : closed (row nl t e els) = true := by
 unfold row; cases nl && els.isEmpty <;> rfl
theorem qG : fO [] = true := rfl
theorem oE {v : EV} {l : List EV} : fO (v :: l) = (closed v && fO l) := by simp only [fO]
theorem wT : closed (.fz t e els) = true := rfl
theorem tS {k : IntKind} {n : Int} : closed (.int k n) = true := rfl
theorem qH {b : Bool} : closed (.bool b) = true := rfl
theorem wU {p : Prop} : closed (bo p) = true := rfl
theorem tQ {s : List UInt8} : closed (.str s) = true := rfl
theorem kK : closed .ae = true := rfl
theorem tT {x : List EV} : closed (.agg x) = fO x := by simp only [closed]
theorem oF {x : List EV} : closed (.tuple x) = fO x := by simp only [closed]
theorem Am {k : IntKind} {n : Int} : Flat (.int k n) = true := rfl
theorem xe {b : Bool} : Flat (.bool b) = true := rfl
theorem DJ {p : Prop} : Flat (bo p) = true := rfl
theorem Al {s : List UInt8} : Flat (.str s) = true := rfl
theorem An {x : List EV} : Flat (.agg x) = fw x := by simp only [Flat]
theorem ud {x : List EV} : Flat (.tuple x) = fw x := by simp only [Flat]
theorem wH : fw [] = true := rfl
theorem tx {v : EV} {l : List EV} : fw (v :: l) = (Flat v && fw l) := by simp only [fw]
def Hc (i : Nat) (v : EV) : EV := match v with
 | .fz _ e els => .fz i e els
 | v => v
theorem pU {i : Nat} : gD i [] = [] := rfl
theorem og {i : Nat} {v : EV} {l : List EV} : gD i (v :: l) = Hc i v :: gD (i + 1) l := rfl
theorem B8 {i : Nat} : Hc i (.fz t e els) = .fz i e els := rfl
theorem yv {i : Nat} : Hc i (row nl t e els) = row nl i e els := by
 unfold row; cases nl && els.isEmpty <;> rfl
theorem yw {i : Nat} {k : IntKind} {n : Int} : Hc i (.int k n) = .int k n := rfl
theorem vK {i : Nat} {b : Bool} : Hc i (.bool b) = .bool b := rfl
theorem B9 {i : Nat} {p : Prop} : Hc i (bo p) = bo p := rfl
theorem yu {i : Nat} {s : List UInt8} : Hc i (.str s) = .str s := rfl
theorem mQ {i : Nat} : Hc i .ae = .ae := rfl
theorem yx {i : Nat} {x : List EV} : Hc i (.agg x) = .agg x := rfl
def Xj (o : Option EV) (m : Mem) : Option Fin := match o with
 | some V => bif Flat V then some (.ret V m) else none
 | none => none
@[congr] theorem WA {o o' : Option EV} (h : o = o') : Xj o m = Xj o' m := by rw [h]
theorem yR {V : EV} (h : Flat V = true) : Xj (some V) m = some (.ret V m) := by simp only [Xj, h, cond_true]
def Y2 (o : Option EV) (m : Mem) : Option Fin := match o with
 | some V => some (.ret V ⟨m.next + 1, m.gH⟩)
 | none => none
@[congr] theorem Wz {o o' : Option EV} (h : o = o') : Y2 o m = Y2 o' m := by rw [h]
theorem yQ {V : EV} : Y2 (some V) m = some (.ret V (bump m 1)) := rfl
def Kh (g : List EV -> Option EV) (o : Option (List EV)) : Option EV := match o with
 | some eQ => g (gD 1 eQ)
 | none => none
@[congr] theorem UJ {g : List EV -> Option EV} {o o' : Option (List EV)} (h : o = o') : Kh g o = Kh g o' := by rw [h]
theorem tY {g : List EV -> Option EV} {eQ : List EV} : Kh g (some eQ) = g (gD 1 eQ) := rfl
end
class cf (T : Nat -> Option iq) (f : Nat) (F : outParam au) : Prop where
 has : T f = some (.go F)
section
variable {T : Nat -> Option iq} {K : Nat -> Nat} {m : Mem}
class eW (K : Nat -> Nat) (f : Nat) : Prop where
 s : K f = 1
class GW (K : Nat -> Nat) (f : Nat) : Prop where
 s : K f = 2
class dw (K : Nat -> Nat) (f : Nat) : Prop where
 s : K f = 0
theorem Hl {f : Nat} [h : eW K f] {args : List EV} : run (UT T K) f args m = Xj (Kh (cR T K f) (H2 m args)) m := by
 rw [ru (g := kh (cR T K f)) (by unfold UT PT; rw [h.s]; rfl)]
 unfold kh H2
 cases cB deep m args <;> rfl
theorem Hk {f : Nat} [h : GW K f] {args : List EV} : run (UT T K) f args m = bif fO args then Y2 (Kh (cR T K f) (H2 m args)) m else none := by
 rw [ru (g := kg (cR T K f)) (by unfold UT PT; rw [h.s]; rfl)]
 unfold kg H2
 cases fO args
 ·rfl
 ·cases cB deep m args <;> rfl
theorem bY {f : Nat} {F : au} [h : dw K f] [hF : cf T f F] {args : List EV} (hn : args.length <= F.ntmps) : run (UT T K) f args m = pK F.results (exec (UT T K) F.body (ab args 0 pq) m) :=
 MD (by unfold UT PT; rw [h.s]; exact hF.has) hn
theorem Ee {f : Nat} {g : List EV -> Mem -> Option Fin} [h : dw K f] (hg : T f = some (.spec g)) {args : List EV} : run (UT T K) f args m = g args m :=
 ru (by unfold UT PT; rw [h.s]; exact hg)
theorem y5 {F : au} {args : List EV} {v : EV} {k : Nat} {m1 : Mem} (hl : args.length <= F.ntmps) (h : pK F.results (exec T F.body (ab args 0 pq) m) = some (.ret v m1)) (hf : Flat v = true) (hn : m1.next = nb m.next k) (hk : Aj m m1) : kC T F args m = some (.ret v (bump m k)) := by
 unfold kC;rw [if_pos hl, Hp];rw [show (⟨cK args 0 .leaf, []⟩ : Fr) = ab args 0 pq by unfold pq; rw [Ag], h]
 simp only
 rw [if_pos ⟨hf, by rw [hn]; exact bI, hk⟩, hn]
 rfl
noncomputable def TC (o : Option Fin) : Option EV := match o with
 | some (.ret v m) => lY m v
 | _ => none
@[congr] theorem W3 {o o' : Option Fin} (h : o = o') : TC o = TC o' := by rw [h]
theorem zC {v : EV} : TC (some (.ret v m)) = lY m v := rfl
open Classical in
noncomputable def Uq (p : Prop) (a b : Option EV) : Option EV := if p then a else b
theorem H3 {p : Prop} {a b : Option Fin} : TC (iF p a b) = Uq p (TC a) (TC b) := by unfold iF Uq; split <;> rfl
theorem CJ {p : Prop} {a b : Option EV} (h : p) : Uq p a b = a := if_pos h
theorem CK {p : Prop} {a b : Option EV} (h : ¬ p) : Uq p a b = b := if_neg h
@[congr] theorem WJ {p q : Prop} {a a' b b' : Option EV} (h : p = q) (ha : q -> a = a') (hb : ¬ q -> b = b') : Uq p a b = Uq q a' b' := by
 subst h; unfold Uq; split
 ·exact ha ‹_›
 ·exact hb ‹_›
theorem eE {f : Nat} {F : au} [h : cf T f F] {eQ : List EV} (hn : eQ.length <= F.ntmps) : cR T K f eQ = TC (pK F.results (exec (UT T K) F.body (ab eQ 0 pq) bH)) := by
 rw [Ef h.has];unfold qL;rw [Be hn, cond_true, Hp];rw [show (⟨cK eQ 0 .leaf, []⟩ : Fr) = ab eQ 0 pq by unfold pq; rw [Ag]]
 cases pK F.results (exec (UT T K) F.body (ab eQ 0 pq) bH) with
 | none => rfl
 | some fin =>
  cases fin with
  | gI v m => rfl
  | ret v m =>
   simp only [zC]
   show (match jd (cB 7 m) m [v] with | some [V] => some V | _ => none) = po (cB 7 m) m v
   simp only [jd]
   cases po (cB 7 m) m v <;> rfl
end
end
section
def TU (g : List EV -> Option EV) : Prop := ∀ args v, g args = some v -> fw args = true /\ Flat v = true
def ad3 : iq -> Prop
 | .go F => Gn F = true
 | .ext g | .pure g => TU g
 | .spec _ => False
 | .NW _ _ => False
theorem BD : ∀ args v, gr args = some v -> fw args = true /\ Flat v = true := by
 intro args v h
 unfold gr at h
 split at h
 ·cases h; exact ⟨rfl, rfl⟩
 ·cases h
theorem aC {T : Nat -> Option iq} {f : Nat} {F : au} (he : T f = some (.go F)) (h : Gn F = true) : gZ T f (.go F) := ⟨F, he, SX h, (OL h).symm⟩
theorem NV {T : Nat -> Option iq} {f : Nat} {F F1 : au} (he : T f = some (.go F)) (h : lG F = true) (hs : F1 = F.sub) : gZ T f (.go F1) := ⟨F, he, h, hs⟩
theorem KL {T B : Nat -> Option iq} (h : ∀ f e, B f = some e -> gZ T f e) {g : Nat} {e0 : iq} (h0 : gZ T g e0) : ∀ f e, up B g e0 f = some e -> gZ T f e := by
 intro f e he
 unfold up at he
 cases hb : f.beq g <;> simp only [hb, cond_true, cond_false] at he
 ·exact h f e he
 ·cases he; rw [aS hb]; exact h0
theorem uF {T B : Nat -> Option iq} (h : ∀ f e, B f = some e -> gZ T f e) {f : Nat} {F1 : au} (hB : B f = some (.go F1)) : ∀ g e, up B f (.spec (kC B F1)) g = some e -> gZ T g e := by
 obtain ⟨F, hT, eh, rfl⟩ := h f _ hB
 exact KL h (QW h hT eh)
theorem Oc {T B : Nat -> Option iq} (h : ∀ f e, B f = some e -> gZ T f e) {f : Nat} {F1 : au} (hB : B f = some (.go F1)) {k : Nat} (hw : isTrue (aT B k f [] bH) = true) : gZ T f (.pure Mw) := by
 obtain ⟨F, hT, eh, rfl⟩ := h f _ hB
 obtain ⟨m1, hm⟩ := O7 hw
 cases k with
 | zero => simp [aT] at hm
 | succ k =>
  simp only [aT, hB, ij] at hm;have hb : qL B F.sub [] = some (.bool true) := Af hm (by rfl)
  have hp := Gk h hT eh (g := fun eQ => match eQ with | [] => some (.bool true) | _ => none) (fun eQ V hv => by
   cases eQ with
   | nil => cases hv; exact hb
   | cons a eQ => cases hv)
  intro θ m m' args ay v hg ha hx
  unfold Mw at hx
  split at hx
  ·cases hx
   exact hp θ m m' [] ay (.ret (.bool true) m) hg ha (by rfl)
  ·cases hx
theorem MC {T : Nat -> Option iq} {f : Nat} {F : au} [h : cf T f F] {args : List EV} {m : Mem} (hn : args.length <= F.ntmps) : run T f args m = pK F.results (exec T F.body (ab args 0 pq) m) := MD h.has hn
def Vi (f : Nat) : List Nat -> Bool
 | [] => false
 | a :: l => bif a.beq f then true else Vi f l
end
section
/- (*balustrade/lex.scanner).next -/
def bj : au :=
 ⟨73,
 (.seq
 (.region [iV 2 (.aa (kI 0))])
 (.seq
 (.draw [iV 8 (.aa (tm 0)),
 iV 9 (.cy (tm 8)),
 iV 10 (.aj 0 (tm 9)),
 iV 11 (.load none (tm 10)),
 iV 12 (.aa (tm 0)),
 iV 13 (.cy (tm 12)),
 iV 14 (.aj 1 (tm 13)),
 iV 15 (.load none (tm 14)),
 iV 16 (.gd (tm 11) (some (tm 15)) none),
 iV 3 (.alloc 9 [(.str [])]),
 iN (.store 1 (tm 3) (tm 16))] [])
 (.seq
 (.seq
 (.region [iV 17 (.load none (tm 3)),
 iV 18 (.eu (tm 17) (kI 0)),
 iC 19 48 [(tm 18)]])
 (.block 0
 (.seq
 (.region [iV 21 (.eq false (.aG 1) (tm 19) (kI 1)),
 iV 20 (.aa (tm 21))])
 (.cond (.tmp 20)
 (.draw [iV 22 (.aa (tm 0)),
 iV 23 (.cy (tm 22)),
 iV 24 (.aj 1 (tm 23)),
 iV 25 (.load none (tm 24)),
 iV 26 (.load none (tm 3)),
 iV 27 (.bt 3 1 1 [(.int .i64 0)] [(0, (kI 1))]),
 iC 28 49 [(tm 26), (tm 27)],
 iV 29 (.bin .add (tm 25) (tm 28)),
 iV 30 (.cy (tm 22)),
 iV 31 (.aj 1 (tm 30)),
 iN (.store 1 (tm 31) (tm 29))] [(3, 6)])
 (.seq
 (.region [iV 33 (.eq false (.aG 1) (tm 19) (kI 2)),
 iV 32 (.aa (tm 33))])
 (.cond (.tmp 32)
 (.seq
 (.region [iV 35 (.load none (tm 3)),
 iC 36 50 [(tm 35), (kS [10])],
 iV 34 (.aa (tm 36)),
 iV 37 (.extract (tm 34) 0),
 iV 38 (.extract (tm 34) 1),
 iV 39 (.extract (tm 34) 2),
 iV 4 (.aa (tm 37)),
 iV 5 (.aa (tm 38)),
 iV 6 (.aa (tm 39))])
 (.region [iV 40 (.aa (tm 0)),
 iV 41 (.cy (tm 40)),
 iV 42 (.aj 1 (tm 41)),
 iV 43 (.load none (tm 42)),
 iV 44 (.aa (tm 4)),
 iV 45 (.cD (tm 44)),
 iV 46 (.bin .add (tm 43) (tm 45)),
 iV 47 (.cy (tm 40)),
 iV 48 (.aj 1 (tm 47)),
 iN (.store 1 (tm 48) (tm 46))]))
 (.seq
 (.region [iV 50 (.eq false (.aG 1) (tm 19) (kI 3)),
 iV 49 (.aa (tm 50))])
 (.cond (.tmp 49)
 (.seq
 (.region [iV 51 (.aa (tm 0)),
 iV 52 (.load none (tm 3)),
 iC 53 51 [(tm 51), (tm 52)],
 iV 2 (.aa (tm 53))])
 .ret)
 (.seq
 (.region [iV 55 (.eq false (.aG 1) (tm 19) (kI 4)),
 iV 54 (.aa (tm 55))])
 (.cond (.tmp 54)
 (.seq
 (.region [iV 56 (.aa (tm 0)),
 iV 57 (.load none (tm 3)),
 iC 58 52 [(tm 56), (tm 57)],
 iV 2 (.aa (tm 58))])
 .ret)
 (.seq
 (.region [iV 60 (.eq false (.aG 1) (tm 19) (kI 5)),
 iV 59 (.aa (tm 60))])
 (.cond (.tmp 59)
 (.seq
 (.region [iV 61 (.load none (.const (Wd L_lex_signs))),
 iV 62 (.BL 54 [] [(tm 3)]),
 iC 63 53 [(tm 61), (tm 62)],
 iV 7 (.aa (tm 63))])
 (.seq
 (.seq
 (.region [iV 64 (.aa (tm 7)),
 iV 65 (.bin .lss (tm 64) (kI 0))])
 (.cond (.tmp 65)
 (.seq
 (.region [iV 2 (.aa (kI 6))])
 .ret)
 .skip))
 (.region [iV 66 (.aa (tm 0)),
 iV 67 (.load none (.const (Wd L_lex_signs))),
 iV 68 (.aa (tm 7)),
 iV 69 (.cS 1 (tm 67) (tm 68)),
 iV 70 (.load none (tm 69)),
 iV 71 (.cD (tm 70)),
 iC 72 28 [(tm 66), (kI 4), (tm 71), (kI 0)]])))
 (.seq
 (.region [iV 2 (.aa (kI 6))])
 .ret)))))))))))))
 (.seq
 (.region [iV 2 (.aa (kI 0))])
 .ret)))),
 [.tmp 2]⟩
theorem Xe : bj = gB.sub := by kernel_rfl
/- balustrade/lex.Word -/
def pE : au :=
 ⟨6,
 (.seq
 (.region [iV 2 (.aa (.const (.bool false)))])
 (.seq
 (.region [iV 3 (.load none (.const (Wd L_lex_words))),
 iV 4 (.aa (tm 0)),
 iC 5 79 [(tm 3), (tm 4)],
 iV 2 (.aa (tm 5))])
 .ret)),
 [.tmp 2]⟩
theorem Xd : pE = pF.sub := by kernel_rfl
end
section
def TV : Bt :=
 (.node 54 (.go dc) (.node 30 (.go dm) (.node 18 (.go cu) (.node 12 (.go gb) (.node 9 (.go fZ) (.node 6 (.go eY) (.node 5 (.go cC) .leaf .leaf) (.node 8 (.go lz) .leaf .leaf)) (.node 11 (.go dA) (.node 10 (.go ju) .leaf .leaf) .leaf)) (.node 15 (.go bl) (.node 14 (.go bB) (.node 13 (.go jW) .leaf .leaf) .leaf) (.node 17 (.go dv) (.node 16 (.go cA) .leaf .leaf) .leaf))) (.node 24 (.go jU) (.node 21 (.go ee) (.node 20 (.go bm) (.node 19 (.go ez) .leaf .leaf) .leaf) (.node 23 (.go mJ) (.node 22 (.go lu) .leaf .leaf) .leaf)) (.node 27 (.go bj) (.node 26 (.go fo) (.node 25 (.go j7) .leaf .leaf) .leaf) (.node 29 (.go bq) (.node 28 (.go ey) .leaf .leaf) .leaf)))) (.node 42 (.go iU) (.node 36 (.go oS) (.node 33 (.go dF) (.node 32 (.go bU) (.node 31 (.go cJ) .leaf .leaf) .leaf) (.node 35 (.go ct) (.node 34 (.go da) .leaf .leaf) .leaf)) (.node 39 (.go lA) (.node 38 (.go j6) (.node 37 (.go mI) .leaf .leaf) .leaf) (.node 41 (.go mL) (.node 40 (.go mH) .leaf .leaf) .leaf))) (.node 48 (.go gY) (.node 45 (.go gW) (.node 44 (.go gU) (.node 43 (.go iT) .leaf .leaf) .leaf) (.node 47 (.go jS) (.node 46 (.go jT) .leaf .leaf) .leaf)) (.node 51 (.go cH) (.node 50 (.go gl) (.node 49 (.go ly) .leaf .leaf) .leaf) (.node 53 (.go bT) (.node 52 (.go db) .leaf .leaf) .leaf))))) (.node 79 (.go ca) (.node 66 (.go lr) (.node 60 (.go dK) (.node 57 (.go ed) (.node 56 (.go dq) (.node 55 (.go dD) .leaf .leaf) .leaf) (.node 59 (.go cb) (.node 58 (.go dr) .leaf .leaf) .leaf)) (.node 63 (.go lq) (.node 62 (.go mN) (.node 61 (.go lp) .leaf .leaf) .leaf) (.node 65 (.go mK) (.node 64 (.go oT) .leaf .leaf) .leaf))) (.node 72 (.go aQ) (.node 69 (.go cM) (.node 68 (.go dC) (.node 67 (.go lx) .leaf .leaf) .leaf) (.node 71 (.go pE) (.node 70 (.go bp) .leaf .leaf) .leaf)) (.node 75 (.go mM) (.node 74 (.go c8) (.node 73 (.go gp) .leaf .leaf) .leaf) (.node 77 (.go dW) (.node 76 (.go aH) .leaf .leaf) .leaf)))) (.node 91 (.go dJ) (.node 85 (.go dY) (.node 82 (.go c7) (.node 81 (.go dE) (.node 80 (.go dX) .leaf .leaf) .leaf) (.node 84 (.go fm) (.node 83 (.go c9) .leaf .leaf) .leaf)) (.node 88 (.go ef) (.node 87 (.go fh) (.node 86 (.go fi) .leaf .leaf) .leaf) (.node 90 (.go eg) (.node 89 (.go fg) .leaf .leaf) .leaf))) (.node 98 (.go cw) (.node 95 (.go bg) (.node 94 (.go cU) (.node 92 (.ext gr) .leaf .leaf) .leaf) (.node 97 (.go dH) (.node 96 (.go cL) .leaf .leaf) .leaf)) (.node 101 (.go jV) (.node 100 (.go dG) (.node 99 (.go bF) .leaf .leaf) .leaf) (.node 103 (.go bR) (.node 102 (.go dI) .leaf .leaf) .leaf))))))
def A00 : Nat -> Option iq := TV.find
theorem Wi : ∀ f e, A00 f = some e -> gZ T f e := Bt.Dg (t := TV)
 ⟨(aC (F := dc) adf (by kernel_rfl)), ⟨(aC (F := dm) adD (by kernel_rfl)), ⟨(aC (F := cu) adP (by kernel_rfl)), ⟨(aC (F := gb) adV (by kernel_rfl)), ⟨(aC (F := fZ) at9 (by kernel_rfl)), ⟨(aC (F := eY) at6 (by kernel_rfl)), ⟨(aC (F := cC) at5 (by kernel_rfl)), trivial, trivial⟩, ⟨(aC (F := lz) at8 (by kernel_rfl)), trivial, trivial⟩⟩, ⟨(aC (F := dA) adW (by kernel_rfl)), ⟨(aC (F := ju) adX (by kernel_rfl)), trivial, trivial⟩, trivial⟩⟩, ⟨(aC (F := bl) adS (by kernel_rfl)), ⟨(aC (F := bB) adT (by kernel_rfl)), ⟨(aC (F := jW) adU (by kernel_rfl)), trivial, trivial⟩, trivial⟩, ⟨(aC (F := dv) adQ (by kernel_rfl)), ⟨(aC (F := cA) adR (by kernel_rfl)), trivial, trivial⟩, trivial⟩⟩⟩, ⟨(aC (F := jU) adJ (by kernel_rfl)), ⟨(aC (F := ee) adM (by kernel_rfl)), ⟨(aC (F := bm) adN (by kernel_rfl)), ⟨(aC (F := ez) adO (by kernel_rfl)), trivial, trivial⟩, trivial⟩, ⟨(aC (F := mJ) adK (by kernel_rfl)), ⟨(aC (F := lu) adL (by kernel_rfl)), trivial, trivial⟩, trivial⟩⟩, ⟨(NV (F := gB) adG (by kernel_rfl) Xe), ⟨(aC (F := fo) adH (by kernel_rfl)), ⟨(aC (F := j7) adI (by kernel_rfl)), trivial, trivial⟩, trivial⟩, ⟨(aC (F := bq) adE (by kernel_rfl)), ⟨(aC (F := ey) adF (by kernel_rfl)), trivial, trivial⟩, trivial⟩⟩⟩⟩, ⟨(aC (F := iU) adr (by kernel_rfl)), ⟨(aC (F := oS) adx (by kernel_rfl)), ⟨(aC (F := dF) adA (by kernel_rfl)), ⟨(aC (F := bU) adB (by kernel_rfl)), ⟨(aC (F := cJ) adC (by kernel_rfl)), trivial, trivial⟩, trivial⟩, ⟨(aC (F := ct) ady (by kernel_rfl)), ⟨(aC (F := da) adz (by kernel_rfl)), trivial, trivial⟩, trivial⟩⟩, ⟨(aC (F := lA) adu (by kernel_rfl)), ⟨(aC (F := j6) adv (by kernel_rfl)), ⟨(aC (F := mI) adw (by kernel_rfl)), trivial, trivial⟩, trivial⟩, ⟨(aC (F := mL) ads (by kernel_rfl)), ⟨(aC (F := mH) adt (by kernel_rfl)), trivial, trivial⟩, trivial⟩⟩⟩, ⟨(aC (F := gY) adl (by kernel_rfl)), ⟨(aC (F := gW) ado (by kernel_rfl)), ⟨(aC (F := gU) adp (by kernel_rfl)), ⟨(aC (F := iT) adq (by kernel_rfl)), trivial, trivial⟩, trivial⟩, ⟨(aC (F := jS) adm (by kernel_rfl)), ⟨(aC (F := jT) adn (by kernel_rfl)), trivial, trivial⟩, trivial⟩⟩, ⟨(aC (F := cH) adi (by kernel_rfl)), ⟨(aC (F := gl) adj (by kernel_rfl)), ⟨(aC (F := ly) adk (by kernel_rfl)), trivial, trivial⟩, trivial⟩, ⟨(aC (F := bT) adg (by kernel_rfl)), ⟨(aC (F := db) adh (by kernel_rfl)), trivial, trivial⟩, trivial⟩⟩⟩⟩⟩, ⟨(aC (F := ca) acP (by kernel_rfl)), ⟨(aC (F := lr) ac1 (by kernel_rfl)), ⟨(aC (F := dK) ac7 (by kernel_rfl)), ⟨(aC (F := ed) ada (by kernel_rfl)), ⟨(aC (F := dq) adb (by kernel_rfl)), ⟨(aC (F := dD) ade (by kernel_rfl)), trivial, trivial⟩, trivial⟩, ⟨(aC (F := cb) ac8 (by kernel_rfl)), ⟨(aC (F := dr) ac9 (by kernel_rfl)), trivial, trivial⟩, trivial⟩⟩, ⟨(aC (F := lq) ac4 (by kernel_rfl)), ⟨(aC (F := mN) ac5 (by kernel_rfl)), ⟨(aC (F := lp) ac6 (by kernel_rfl)), trivial, trivial⟩, trivial⟩, ⟨(aC (F := mK) ac2 (by kernel_rfl)), ⟨(aC (F := oT) ac3 (by kernel_rfl)), trivial, trivial⟩, trivial⟩⟩⟩, ⟨(aC (F := aQ) acV (by kernel_rfl)), ⟨(aC (F := cM) acY (by kernel_rfl)), ⟨(aC (F := dC) acZ (by kernel_rfl)), ⟨(aC (F := lx) ac0 (by kernel_rfl)), trivial, trivial⟩, trivial⟩, ⟨(NV (F := pF) acW (by kernel_rfl) Xd), ⟨(aC (F := bp) acX (by kernel_rfl)), trivial, trivial⟩, trivial⟩⟩, ⟨(aC (F := mM) acS (by kernel_rfl)), ⟨(aC (F := c8) acT (by kernel_rfl)), ⟨(aC (F := gp) acU (by kernel_rfl)), trivial, trivial⟩, trivial⟩, ⟨(aC (F := dW) acQ (by kernel_rfl)), ⟨(aC (F := aH) acR (by kernel_rfl)), trivial, trivial⟩, trivial⟩⟩⟩⟩, ⟨(aC (F := dJ) acD (by kernel_rfl)), ⟨(aC (F := dY) acJ (by kernel_rfl)), ⟨(aC (F := c7) acM (by kernel_rfl)), ⟨(aC (F := dE) acN (by kernel_rfl)), ⟨(aC (F := dX) acO (by kernel_rfl)), trivial, trivial⟩, trivial⟩, ⟨(aC (F := fm) acK (by kernel_rfl)), ⟨(aC (F := c9) acL (by kernel_rfl)), trivial, trivial⟩, trivial⟩⟩, ⟨(aC (F := ef) acG (by kernel_rfl)), ⟨(aC (F := fh) acH (by kernel_rfl)), ⟨(aC (F := fi) acI (by kernel_rfl)), trivial, trivial⟩, trivial⟩, ⟨(aC (F := eg) acE (by kernel_rfl)), ⟨(aC (F := fg) acF (by kernel_rfl)), trivial, trivial⟩, trivial⟩⟩⟩, ⟨(aC (F := cw) acx (by kernel_rfl)), ⟨(aC (F := bg) acA (by kernel_rfl)), ⟨(aC (F := cU) acB (by kernel_rfl)), ⟨(TE acC BD), trivial, trivial⟩, trivial⟩, ⟨(aC (F := dH) acy (by kernel_rfl)), ⟨(aC (F := cL) acz (by kernel_rfl)), trivial, trivial⟩, trivial⟩⟩, ⟨(aC (F := jV) YM (by kernel_rfl)), ⟨(aC (F := dG) YN (by kernel_rfl)), ⟨(aC (F := bF) acw (by kernel_rfl)), trivial, trivial⟩, trivial⟩, ⟨(aC (F := bR) YK (by kernel_rfl)), ⟨(aC (F := dI) YL (by kernel_rfl)), trivial, trivial⟩, trivial⟩⟩⟩⟩⟩⟩
end
end Go.Proofs.YtdiccmapankckaaDoor.Ev
