/- EvFzRun, EvPure, EvRec, EvArgs, EvIn, EvFzIn, EvSlice, EvRow, EvUp, EvS, EvA. -/
import Derived.WideShapes
import Derived.Deep.Slices
import Derived.Test.YtdiccmapankckaaDoorMe
set_option linter.unusedSimpArgs false
set_option linter.unusedVariables false
set_option linter.unusedSectionVars false
set_option linter.defProp false
set_option maxRecDepth 20000
set_option maxHeartbeats 8000000
namespace Go.Proofs.YtdiccmapankckaaDoor.Ev
open Go
section
def MU : AD -> Bool
 | .val op => QF op
 | .call f args | .defer f args => Br f && args.all Br
 | .panic x => Br x
def AR (o : bd) : Bool := MU o.op
def la : aE -> Bool
 | .region ops | .draw ops _ => ops.all AR
 | .seq a b => la a && la b
 | .cond c a b => Br c && la a && la b
 | .block _ a | .loop a => la a
 | _ => true
inductive Fy (θ : cK) : List (Nat × List EV) -> List (Nat × List EV) -> Prop
 | nil : Fy θ [] []
 | cons {g : Nat} {x x' : List EV} {l l' : List (Nat × List EV)} (hx : dZ θ x x') (h : Fy θ l l') : Fy θ ((g, x) :: l) ((g, x') :: l')
theorem Fy.ext {θ θ' : cK} (e : cK.Ext θ θ') : ∀ {l l' : List (Nat × List EV)}, Fy θ l l' -> Fy θ' l l'
 | _, _, .nil => .nil
 | _, _, .cons hx h => .cons (hx.ext e) (Fy.ext e h)
theorem Fy.none {θ : cK} {l l' : List (Nat × List EV)} (h : Fy θ l l') (e : l = []) : l' = [] := by cases h with | nil => rfl | cons _ _ => cases e
structure B6 (θ : cK) (fr fr' : Fr) : Prop where
 tmp : ∀ t, SV θ (fr.get t) (fr'.get t)
 NW : Fy θ fr.defers fr'.defers
theorem B6.ext {θ θ' : cK} (e : cK.Ext θ θ') {fr fr' : Fr} (h : B6 θ fr fr') : B6 θ' fr fr' := ⟨fun t => (h.tmp t).ext e, h.NW.ext e⟩
theorem B6.put {θ : cK} {fr fr' : Fr} (h : B6 θ fr fr') {v v' : EV} (hv : SV θ v v') (d : Option Nat) : B6 θ (fr.put d v) (fr'.put d v') := by
 cases d with
 | none => exact h
 | some d =>
  refine ⟨fun t => ?_, h.NW⟩
  show SV θ ((fr.set d v).get t) ((fr'.set d v').get t)
  rw [Fr.bY, Fr.bY]
  split
  ·exact hv
  ·exact h.tmp t
theorem B6.ops {θ : cK} {fr fr' : Fr} (h : B6 θ fr fr') (g : mX θ) : yi θ (fun x => fr.eval (jQ x)) fr'.eval := by
 intro x hx
 cases x with
 | tmp t => exact h.tmp t
 | const v => exact SM g hx
structure ot (θ : cK) (m m' : Mem) (θ' : cK) (m1 fW : Mem) : Prop where
 ext : cK.Ext θ θ'
 ik : ∀ b c, θ'.ik b = some c -> θ.ik b = some c \/ (m.next <= b /\ m'.next <= c)
 gX : ∀ c B, θ'.gX c = some B -> θ.gX c = some B \/ (m'.next <= c /\ m.next < m1.next)
 n1 : m.next <= m1.next
 n2 : m'.next <= fW.next
 rP : ∀ c, c < m'.next -> (∀ b, θ.ik b ≠ some c) -> fW.get c = m'.get c
theorem ot.refl (θ : cK) (m m' : Mem) : ot θ m m' θ m m' := ⟨.refl θ, fun _ _ h => .inl h, fun _ _ h => .inl h, eX _, eX _, fun _ _ _ => rfl⟩
theorem ot.trans {θ θ1 θ2 : cK} {m m' m1 fW m2 Sw : Mem} (h : ot θ m m' θ1 m1 fW) (k : ot θ1 m1 fW θ2 m2 Sw) : ot θ m m' θ2 m2 Sw := by
 have a1 := h.n1; have a2 := h.n2; have b1 := k.n1; have b2 := k.n2
 refine ⟨h.ext.trans k.ext, fun b c e => ?_, fun c B e => ?_, by omega, by omega, fun c hc hr => ?_⟩
 ·rcases k.ik b c e with e | ⟨e1, e2⟩
  ·exact h.ik b c e
  ·exact .inr ⟨by omega, by omega⟩
 ·rcases k.gX c B e with e | ⟨e1, e2⟩
  ·rcases h.gX c B e with e | ⟨e1, e2⟩
   ·exact .inl e
   ·exact .inr ⟨e1, by omega⟩
  ·exact .inr ⟨by omega, by omega⟩
 ·rw [k.rP c (by omega) fun b e => ?_, h.rP c hc hr]
  rcases h.ik b c e with e | ⟨e1, e2⟩
  ·exact hr b e
  ·omega
def Fin.mem : Fin -> Mem
 | .ret _ m | .gO _ m => m
def Out.mem : Out -> Mem
 | .norm _ m | .exit _ _ m | .ret _ m | .gO _ _ m => m
inductive Wf (θ : cK) : Fin -> Fin -> Prop
 | ret {v v' : EV} {m m' : Mem} (hv : SV θ v v') (hg : gR θ m m') : Wf θ (.ret v m) (.ret v' m')
 | gO {v v' : EV} {m m' : Mem} (hv : SV θ v v') (hg : gR θ m m') : Wf θ (.gO v m) (.gO v' m')
inductive KC (θ : cK) : Out -> Out -> Prop
 | norm {fr fr' : Fr} {m m' : Mem} (hf : B6 θ fr fr') (hg : gR θ m m') : KC θ (.norm fr m) (.norm fr' m')
 | exit {id : Nat} {fr fr' : Fr} {m m' : Mem} (hf : B6 θ fr fr') (hg : gR θ m m') : KC θ (.exit id fr m) (.exit id fr' m')
 | ret {fr fr' : Fr} {m m' : Mem} (hf : B6 θ fr fr') (hg : gR θ m m') : KC θ (.ret fr m) (.ret fr' m')
 | gO {v v' : EV} {fr fr' : Fr} {m m' : Mem} (hv : SV θ v v') (hf : B6 θ fr fr') (hg : gR θ m m') : KC θ (.gO v fr m) (.gO v' fr' m')
def vA (θ : cK) (m m' : Mem) (fin : Fin) (o : Option Fin) : Prop := ∃ θ' J3, o = some J3 /\ Wf θ' fin J3 /\ ot θ m m' θ' fin.mem J3.mem
def ss (θ : cK) (m m' : Mem) (out : Out) (o : Option Out) : Prop := ∃ θ' BP, o = some BP /\ KC θ' out BP /\ ot θ m m' θ' out.mem BP.mem
def Az (T : Nat -> Option iM) (call : Call) : Prop := ∀ f args m fin, call f args m = some fin -> ∀ θ m' aA, gR θ m m' -> dZ θ args aA -> vA θ m m' fin (run T f aA m')
theorem ss.after {θ θ1 : cK} {m m' m1 fW : Mem} {out : Out} {o : Option Out} (h : ot θ m m' θ1 m1 fW) (k : ss θ1 m1 fW out o) : ss θ m m' out o := by
 obtain ⟨θ2, BP, e, ho, hs⟩ := k
 exact ⟨θ2, BP, e, ho, h.trans hs⟩
section
variable {T : Nat -> Option iM} {call : Call}
theorem ID.uC {θ : cK} {m m' m1 : Mem} {v : EV} {o : Option R1} (hg : gR θ m m') (h : ID θ m m' v m1 o) : ∃ θ' v' fW, o = some (.val v' fW) /\ SV θ' v v' /\ gR θ' m1 fW /\ ot θ m m' θ' m1 fW := by
 obtain ⟨v', fW, e, hc, hk⟩ := h
 rcases hc with ⟨h1, h2, h3, h4⟩ | ⟨h1, h2, h3, h4⟩
 ·exact ⟨θ, v', fW, e, h1, ⟨h2, by rw [h3, h4]; exact hg.ok, hg.FE⟩, ⟨.refl θ, fun _ _ h => .inl h, fun _ _ h => .inl h, by omega, by omega, fun c hc hr => hk c (by omega) hr⟩⟩
 ·have f := hg.ok.fresh (eX m.next) (eX m'.next)
  refine ⟨_, v', fW, e, h1, ⟨h2, by rw [h3, h4]; exact hg.ok.more f (by omega) (by omega) (by omega) (by omega), hg.FE.ext f.ext⟩, ⟨f.ext, fun b c hb => ?_, fun _ _ h => .inl h, by omega, by omega, fun c hc hr => hk c (by omega) hr⟩⟩
  have BX : (if b = m.next then some m'.next else θ.ik b) = some c := hb
  by_cases hx : b = m.next
  ·rw [if_pos hx] at BX; cases BX; exact .inr ⟨by omega, eX _⟩
  ·rw [if_neg hx] at BX; exact .inl BX
theorem DW {θ : cK} {fr fr' : Fr} (h : B6 θ fr fr') {g : Option (Nat × Bool)} {b : Bool} (hw : bm fr g = some b) : bm fr' g = some b := by
 cases g with
 | none => exact hw
 | some p =>
  obtain ⟨t, w⟩ := p
  simp only [bm] at hw ⊢
  have := h.tmp t
  generalize fr.get t = x at this hw; generalize fr'.get t = x' at this
  cases this <;> first | exact hw | simp at hw
theorem Jf {d : Option Nat} {op : AD} {g : Option (Nat × Bool)} {l : List bd} {fr : Fr} {m : Mem} {b : Bool} (h : bm fr g = some b) : oD T (⟨d, op, g⟩ :: l) fr m = bif b then oD T (⟨d, op, none⟩ :: l) fr m else oD T l (fr.put d .undef) m := by
 cases g with
 | none => simp only [bm, bj] at h; subst h; rfl
 | some p =>
  obtain ⟨t, w⟩ := p
  rw [uV];simp only [bm] at h
  cases hx : fr.get t <;> simp only [hx, reduceCtorEq, bj] at h
  ·subst h; rfl
  ·subst h; rfl
theorem L7 {chk : List (Nat × Nat)} {B0 i : Nat} {sn : List (Nat × Mem)} {se : List Seen} {d : Option Nat} {op : AD} {g : Option (Nat × Bool)} {l : List bd} {fr : Fr} {m : Mem} {b : Bool} (h : bm fr g = some b) :
  lj T chk B0 (⟨d, op, g⟩ :: l) i fr m sn se = bif b then lj T chk B0 (⟨d, op, none⟩ :: l) i fr m sn se else lj T chk B0 l (i + 1) (fr.put d .undef) m sn se := by
 cases g with
 | none => simp only [bm, bj] at h; subst h; rfl
 | some p =>
  obtain ⟨t, w⟩ := p
  rw [kl];simp only [bm] at h
  cases hx : fr.get t <;> simp only [hx, reduceCtorEq, bj] at h
  ·subst h; rfl
  ·subst h; rfl
theorem Lg {d : Option Nat} {f : aZ} {args : List aZ} {l : List bd} {fr : Fr} {m : Mem} {g : Nat} {x y : List EV} (h : fr.eval f = .func g x y) : oD T (⟨d, .defer f args, none⟩ :: l) fr m = oD T l (Fr.put ⟨fr.tmps, (g, x ++ args.map fr.eval ++ y) :: fr.defers⟩ d .undef) m := by
 refine dl fun r => ?_
 rw [gz];simp only [gY, bm, h];exact gz.symm
theorem SV.EU {θ : cK} {g : Nat} {x y : List EV} {v' : EV} (h : SV θ (.func g x y) v') : ∃ x' y', v' = .func g x' y' /\ dZ θ x x' /\ dZ θ y y' := by
 cases h with | func h1 h2 => exact ⟨_, _, rfl, h1, h2⟩
theorem Kj {fv : EV} {eT : List EV} {m : Mem} {fin : Fin} (h : fR call fv eT m = some fin) : ∃ g x y, fv = .func g x y /\ call g (x ++ eT ++ y) m = some fin := by
 cases fv <;> first | exact ⟨_, _, _, rfl, h⟩ | (simp only [fR, reduceCtorEq] at h)
theorem SV.aaQ {θ : cK} {a b : EV} (h : SV θ a b) : GF b = false := by cases h <;> rfl
theorem MP (bI : Az T call) : ∀ (l : List bd) (fr : Fr) (m : Mem) (out : Out), gY call (l.map bd.sub) fr m = some out -> l.all AR = true -> ∀ (θ : cK) (fr' : Fr) (m' : Mem), B6 θ fr fr' -> gR θ m m' -> ss θ m m' out (oD T l fr' m')
 | [], fr, m, out, h, _, θ, fr', m', hf, hg => by
  simp only [List.map_nil, gY, bj] at h; subst h
  exact ⟨θ, _, uU, .norm hf hg, .refl _ _ _⟩
 | o :: l, fr, m, out, h, eu, θ, fr', m', hf, hg => by
  have ih := MP bI l
  simp only [List.all_cons, pL] at eu;obtain ⟨d, op, g⟩ := o
  simp only [List.map_cons, bd.sub, gY] at h
  cases hw : bm fr g with
  | none => simp [hw] at h
  | some b =>
  rw [Jf (DW hf hw)]
  cases b with
  | false =>
   simp only [hw] at h;exact ih _ _ _ h eu.2 θ _ _ (hf.put .undef d) hg
  | true =>
   simp only [hw] at h;simp only [cond_true]
   cases op with
   | val op =>
    simp only [AD.sub, GV] at h
    cases he : aF (fun x => fr.eval (jQ x)) op m with
    | none => simp [he] at h
    | some q =>
     obtain ⟨v, m1⟩ := q
     simp only [he] at h;obtain ⟨θ', v', fW, e1, e2, e3, e4⟩ := ID.uC hg (HB (hf.ops hg.FE) hg.toMemS hg.ok (hg.ok.fresh (eX _) (eX _)) eu.1 he)
     rw [rI, e1];exact ss.after e4 (ih _ _ _ h eu.2 θ' _ _ ((hf.ext e4.ext).put e2 d) e3)
   | call f args =>
    have xr := eu.1
    simp only [AR, MU, pL] at xr;simp only [AD.sub, List.map_map, Function.comp_def] at h;have JR : SV θ (fr.eval (jQ f)) (fr'.eval f) := (hf.ops hg.FE) f xr.1
    have H2 : dZ θ (args.map fun x => fr.eval (jQ x)) (args.map fr'.eval) := yi.list (hf.ops hg.FE) xr.2
    cases rU : fR call (fr.eval (jQ f)) (args.map fun x => fr.eval (jQ x)) m with
    | none => rw [rU] at h; cases h
    | some fin =>
     obtain ⟨gg, x, y, jh, hc⟩ := Kj rU
     rw [jh] at JR;obtain ⟨x', y', RE, hx, hy⟩ := JR.EU
     rw [mM, RE, oU];obtain ⟨θ', J3, e1, e2, e3⟩ := bI _ _ _ _ hc θ m' _ hg ((hx.append H2).append hy)
     rw [e1]
     cases e2 with
     | ret hv xw =>
      rw [rU] at h; simp only at h
      exact ss.after e3 (ih _ _ _ h eu.2 θ' _ _ ((hf.ext e3.ext).put hv d) xw)
     | gO hv xw =>
      rw [rU] at h; simp only [bj] at h
      subst h;exact ⟨θ', _, rfl, .gO hv (hf.ext e3.ext) xw, e3⟩
   | panic x =>
    have hx : SV θ (fr.eval (jQ x)) (fr'.eval x) := (hf.ops hg.FE) x eu.1
    simp only [AD.sub] at h
    cases Xo : fr.eval (jQ x) <;> simp only [Xo, reduceCtorEq, bj] at h
    rename_i t v
    rw [Xo] at hx;generalize aa4 : fr'.eval x = w at hx
    cases hx with
    | iface hv =>
     rw [Le aa4];subst h;exact ⟨θ, _, rfl, .gO (.iface hv) hf hg, .refl _ _ _⟩
   | defer f args =>
    have xr := eu.1
    simp only [AR, MU, pL] at xr;simp only [AD.sub, List.map_map, Function.comp_def] at h;have JR : SV θ (fr.eval (jQ f)) (fr'.eval f) := (hf.ops hg.FE) f xr.1
    have H2 : dZ θ (args.map fun x => fr.eval (jQ x)) (args.map fr'.eval) := yi.list (hf.ops hg.FE) xr.2
    cases jh : fr.eval (jQ f) <;> simp only [jh, reduceCtorEq] at h
    rename_i gg x y
    rw [jh] at JR;obtain ⟨x', y', RE, hx, hy⟩ := JR.EU
    rw [Lg RE];exact ih _ _ _ h eu.2 θ _ _ (B6.put (fr := ⟨fr.tmps, _ :: fr.defers⟩) (fr' := ⟨fr'.tmps, _ :: fr'.defers⟩) ⟨hf.tmp, .cons ((hx.append H2).append hy) hf.NW⟩ .undef d) hg
structure YC (θ : cK) (m : Mem) (s s' : Nat × Mem) : Prop where
 i : s'.1 = s.1
 dj : MemB θ s.2 s'.2
 le : s.2.next <= m.next
 gX : s.2.next = m.next -> ∀ c B, θ.gX c = some B -> s'.2.get c = B
inductive lm (θ : cK) (m : Mem) : List (Nat × Mem) -> List (Nat × Mem) -> Prop
 | nil : lm θ m [] []
 | cons {s s' : Nat × Mem} {l l' : List (Nat × Mem)} (h : YC θ m s s') (hs : lm θ m l l') : lm θ m (s :: l) (s' :: l')
def Fo (θ : cK) (se : List Seen) (s' : Seen) : Prop :=
 (∃ s, s ∈ se /\ s'.i = s.i /\ s'.agg = s.agg /\ GF s.a = false /\ SV θ s.a s'.a /\ SV θ s.v s'.v) \/ (Told s'.v = true /\ ∀ q : Mem, (∀ c B, θ.gX c = some B -> q.get c = B) -> q.load s'.agg s'.a = some s'.v)
theorem Fo.ext {θ θ' : cK} {se : List Seen} {s' : Seen} (h : Fo θ se s') (e : cK.Ext θ θ') : Fo θ' se s' := by
 rcases h with ⟨s, h1, h2, h3, h4, h5, h6⟩ | ⟨h1, h2⟩
 ·exact .inl ⟨s, h1, h2, h3, h4, h5.ext e, h6.ext e⟩
 ·exact .inr ⟨h1, fun q hq => h2 q fun c B hc => hq c B (e.gX c B hc)⟩
theorem lm.step {θ θ' : cK} {m m1 m' fW : Mem} (ev : ot θ m m' θ' m1 fW) (hd : ∀ b c, θ.ik b = none -> θ'.ik b = some c -> ∀ s : Nat × Mem, s.2.next <= m.next -> True) : ∀ {l l' : List (Nat × Mem)}, lm θ m l l' -> lm θ' m1 l l'
 | _, _, .nil => .nil
 | _, _, .cons h hs => .cons ⟨h.i, h.dj.ext ev.ext fun b c hb _ => h.dj.cl b hb, pU h.le ev.n1, fun e c B hc => by
   have h1 := h.le; have h2 := ev.n1
   rcases ev.gX c B hc with q | ⟨_, q⟩
   ·exact h.gX (by omega) c B q
   ·omega⟩ (lm.step ev hd hs)
theorem lm.same {θ θ1 : cK} {m m1 : Mem} (he : cK.Ext θ θ1) (hs : θ1.gX = θ.gX) (hn : m1.next = m.next) : ∀ {l l' : List (Nat × Mem)}, lm θ m l l' -> lm θ1 m1 l l'
 | _, _, .nil => .nil
 | _, _, .cons h hss => .cons ⟨h.i, h.dj.ext he fun b c hb _ => h.dj.cl b hb, by rw [hn]; exact h.le, fun e c B hc => by rw [hs] at hc; exact h.gX (e.trans hn) c B hc⟩ (lm.same he hs hn hss)
theorem Bj {m : Mem} {g : Option Nat} {a v : EV} (h : m.load g a = some v) (ht : Told v = true) : m.eL g a v = true := by
 unfold Mem.eL; rw [h]; exact rE v ht
theorem Ee {θ : cK} {m : Mem} {chk : List (Nat × Nat)} {i : Nat} {g : Option Nat} {a a' v v' : EV} (ha : SV θ a a') (hv : SV θ v v') (hf : GF a = false) : ∀ {l l' : List (Nat × Mem)}, lm θ m l l' -> bK chk i g a v l = true -> bK chk i g a' v' l' = true
 | _, _, .nil, _ => rfl
 | _, _, .cons (s := (j, mj)) (s' := (j', mj')) h hs, hc => by
  obtain rfl : j' = j := h.i
  simp only [bK] at hc ⊢
  cases hp : bX i j' chk <;> simp only [hp, cond_true, cond_false] at hc ⊢
  ·exact Ee ha hv hf hs hc
  ·cases ev : mj.eL g a v <;> simp only [ev, cond_true, cond_false, rp] at hc
   have abc : mj'.eL g a' v' = true := by
    unfold Mem.eL at ev ⊢
    cases hl : mj.load g a with
    | none => simp [hl] at ev
    | some x =>
     obtain ⟨x', zz, hx⟩ := HQ h.dj ha hf hl
     simp only [hl] at ev;rw [zz]; exact hx.same hv ev
   simp only [abc, cond_true];exact Ee ha hv hf hs hc
theorem HC {θ : cK} {m : Mem} {chk : List (Nat × Nat)} {i : Nat} {g : Option Nat} {a' v' : EV} (ht : Told v' = true) (hl : ∀ q : Mem, (∀ c B, θ.gX c = some B -> q.get c = B) -> q.load g a' = some v') : ∀ {l l' : List (Nat × Mem)}, lm θ m l l' -> dV chk i m.next l = true -> bK chk i g a' v' l' = true
 | _, _, .nil, _ => rfl
 | _, _, .cons (s := (j, mj)) (s' := (j', mj')) h hs, hc => by
  obtain rfl : j' = j := h.i
  simp only [bK, dV] at hc ⊢
  cases hp : bX i j' chk <;> simp only [hp, cond_true, cond_false] at hc ⊢
  ·exact HC ht hl hs hc
  ·cases hn : mj.next.beq m.next <;> simp only [hn, cond_true, cond_false, rp] at hc
   have := Bj (hl mj' (h.gX (aV hn))) ht
   simp only [this, cond_true];exact HC ht hl hs hc
theorem Em {θ : cK} {m1 fW : Mem} {chk : List (Nat × Nat)} {j : Nat} (hm : MemS θ m1 fW) {se : List Seen} (hc : bc chk j m1 se = true) : ∀ {se' : List Seen}, (∀ s', s' ∈ se' -> Fo θ se s') -> bc chk j fW se' = true
 | [], _ => rfl
 | s' :: se', h => by
  have ih := Em hm hc (se' := se') fun x hx => h x (by simp [hx])
  simp only [bc, ih]
  cases hp : bX s'.i j chk <;> simp only [cond_true, cond_false]
  have : fW.eL s'.agg s'.a s'.v = true := by
   rcases h s' (by simp) with ⟨s, h1, h2, h3, h4, h5, h6⟩ | ⟨h1, h2⟩
   ·rw [h2] at hp
    have ev := oP hc s h1 hp
    unfold Mem.eL at ev ⊢
    cases hl : m1.load s.agg s.a with
    | none => simp [hl] at ev
    | some x =>
     obtain ⟨x', zz, hx⟩ := HQ hm.toMemB h5 h4 hl
     simp only [hl] at ev;rw [h3, zz]; exact hx.same h6 ev
   ·exact Bj (h2 fW hm.gX) h1
  simp only [this, cond_true]
theorem MemS.QO {θ : cK} {m m' : Mem} (h : MemS θ m m') (n n' : Nat) : MemS θ ⟨n, m.gM⟩ ⟨n', m'.gM⟩ := ⟨⟨h.dj, h.cl⟩, h.gX⟩
def Kept (θ : cK) (B0 B0' i n : Nat) : Prop := ∀ j, i <= j -> j < n -> Av θ (B0 + j) (B0' + j)
theorem Kept.step {θ θ' : cK} {m m' m1 fW : Mem} (ev : ot θ m m' θ' m1 fW) {B0 B0' i n : Nat} (h : Kept θ B0 B0' i n) (h1 : B0 + n <= m.next) (h2 : B0' + n <= m'.next) : Kept θ' B0 B0' i n := by
 intro j hj hn
 have f := h j hj hn
 refine ⟨?_, fun a ha => ?_, ?_⟩
 ·cases e : θ'.ik (B0 + j) with
  | none => rfl
  | some c =>
   rcases ev.ik _ _ e with q | ⟨q, _⟩
   ·rw [f.l] at q; cases q
   ·omega
 ·rcases ev.ik _ _ ha with q | ⟨_, q⟩
  ·exact f.r a q
  ·omega
 ·cases e : θ'.gX (B0' + j) with
  | none => rfl
  | some c =>
   rcases ev.gX _ _ e with q | ⟨q, _⟩
   ·rw [f.s] at q; cases q
   ·omega
theorem Kd (bI : Az T call) {chk : List (Nat × Nat)} {B0 B0' n : Nat} {θ0 : cK} {m0 m0' : Mem} (e0 : m0.next = B0) (e0' : m0'.next = B0') : ∀ (l : List bd) (i : Nat) (fr : Fr) (m : Mem) (sn : List (Nat × Mem)) (se : List Seen) (out : Out), i + l.length = n ->
  dR call chk B0 (l.map bd.sub) i fr m sn se = some out -> l.all AR = true -> ∀ (θ : cK) (fr' : Fr) (m' : Mem) (Ef : List (Nat × Mem)) (se' : List Seen), B6 θ fr fr' -> gR θ m m' -> B0 + n <= m.next -> B0' + n <= m'.next -> Kept θ B0 B0' i n -> lm θ m sn Ef -> (∀ s', s' ∈ se' -> Fo θ se s') ->
  ot θ0 m0 m0' θ m m' -> ss θ0 m0 m0' out (lj T chk B0' l i fr' m' Ef se')
 | [], i, fr, m, sn, se, out, hn, h, _, θ, fr', m', Ef, se', hf, hg, _, _, _, _, _, ev => by
  simp only [List.map_nil, dR, bj] at h; subst h
  exact ⟨θ, _, z5, .norm hf hg, ev⟩
 | o :: l, i, fr, m, sn, se, out, hn, h, eu, θ, fr', m', Ef, se', hf, hg, hb, BX, hk, LQ, Tw, ev => by
  have ih := Kd bI e0 e0' (chk := chk) (B0 := B0) (B0' := B0') (n := n) (θ0 := θ0) (m0 := m0) (m0' := m0') l (i + 1)
  have IP : i + 1 + l.length = n := by rw [List.length_cons] at hn; omega
  have ER : i < n := by rw [List.length_cons] at hn; omega
  have KF : Kept θ B0 B0' (i + 1) n := fun j hj => hk j (by omega)
  simp only [List.all_cons, pL] at eu;obtain ⟨d, op, g⟩ := o
  simp only [List.map_cons, bd.sub, dR] at h
  cases hw : bm fr g with
  | none => simp [hw] at h
  | some b =>
  rw [L7 (DW hf hw)]
  cases b with
  | false =>
   simp only [hw] at h;exact ih _ _ _ _ _ IP h eu.2 θ _ _ _ _ (hf.put .undef d) hg hb BX KF LQ Tw ev
  | true =>
   simp only [hw] at h;simp only [cond_true]
   cases op with
   | panic x => simp [AD.sub] at h
   | defer f args => simp [AD.sub] at h
   | call f args =>
    have xr := eu.1
    simp only [AR, MU, pL] at xr;simp only [AD.sub, List.map_map, Function.comp_def] at h;have JR : SV θ (fr.eval (jQ f)) (fr'.eval f) := (hf.ops hg.FE) f xr.1
    have H2 : dZ θ (args.map fun x => fr.eval (jQ x)) (args.map fr'.eval) := yi.list (hf.ops hg.FE) xr.2
    cases rU : fR call (fr.eval (jQ f)) (args.map fun x => fr.eval (jQ x)) m with
    | none => rw [rU] at h; cases h
    | some fin =>
     obtain ⟨gg, x, y, jh, hc⟩ := Kj rU
     rw [jh] at JR;obtain ⟨x', y', RE, hx, hy⟩ := JR.EU
     rw [Ac, RE, oU];obtain ⟨θ', J3, e1, e2, e3⟩ := bI _ _ _ _ hc θ m' _ hg ((hx.append H2).append hy)
     rw [e1]
     cases e2 with
     | gO hv xw => rw [rU] at h; cases h
     | @ret v v' m1 fW hv xw =>
      rw [rU] at h; simp only at h
      cases mF : bc chk i m1 se <;> simp only [mF, cond_true, cond_false, reduceCtorEq] at h
      have Rp : ∀ s', s' ∈ se' -> Fo θ' se s' := fun s' HY => (Tw s' HY).ext e3.ext
      have a1 := e3.n1; have a2 := e3.n2
      simp only [Fin.mem] at a1 a2;simp only [rv, Em xw.toMemS mF Rp, jZ];refine ih _ _ _ _ _ IP h eu.2 θ' _ _ _ _ ((hf.ext e3.ext).put hv d) xw (by omega) (by omega) (KF.step e3 hb BX) (.cons ?_ (LQ.step e3 fun _ _ _ _ _ _ => trivial)) Rp (ev.trans e3)
      refine ⟨rfl, hg.toMemB.ext e3.ext fun b c hb _ => hg.cl b hb, a1, fun e c B hc => ?_⟩
      rcases e3.gX c B hc with q | ⟨_, q⟩
      ·exact hg.gX c B q
      ·simp only [Fin.mem] at q e; omega
   | val op =>
    simp only [AD.sub, Qh, GV] at h;have xr : QF op = true := eu.1
    have h3 := Qi op
    by_cases PR : cZ op = 0
    ·simp only [PR] at h
     rw [A9 PR]
     cases he : aF (fun x => fr.eval (jQ x)) op m with
     | none => simp [he] at h
     | some q =>
      obtain ⟨v, m1⟩ := q
      simp only [he] at h;obtain ⟨rfl, _⟩ := Ja PR he
      obtain ⟨v', fW, rU, mF, _⟩ := HB (hf.ops hg.FE) hg.toMemS hg.ok (hg.ok.fresh (eX _) (eX _)) xr he
      rw [rU];rcases mF with ⟨zu, _, _, _⟩ | ⟨_, _, q, _⟩
      ·exact ih _ _ _ _ _ IP h eu.2 θ _ _ _ _ (hf.put zu d) hg hb BX KF LQ Tw ev
      ·omega
    ·by_cases rT : cZ op = 1
     ·simp only [rT] at h
      rw [A8 rT]
      cases he : aF (fun x => fr.eval (jQ x)) op ⟨B0 + i, m.gM⟩ with
      | none => simp [he] at h
      | some q =>
       obtain ⟨v, m1⟩ := q
       simp only [he] at h;have f := hk i (eX _) ER
       obtain ⟨v', fW, e1, mF, XN⟩ := HB (hf.ops hg.FE) (hg.toMemS.QO (B0 + i) (B0' + i)) hg.ok f xr he
       obtain ⟨B, mk, _, hB, _⟩ := EB rT he
       rw [e1];rcases mF with ⟨c1, c2, c3, c4⟩ | ⟨c1, c2, c3, c4⟩
       ·rw [hB] at c3
        have c3' : B0 + i + 1 = B0 + i := c3
        omega
       ·have abh : q9 (θ.more (B0 + i) (B0' + i)) m.next m'.next := hg.ok.more f (by omega) (by omega) (eX _) (eX _)
        have Vt : ∀ b c, (θ.more (B0 + i) (B0' + i)).ik b = some c -> θ.ik b = some c \/ (b = B0 + i /\ c = B0' + i) := by
         intro b c RG
         have TF : (if b = B0 + i then some (B0' + i) else θ.ik b) = some c := RG
         by_cases hx : b = B0 + i
         ·rw [if_pos hx] at TF; cases TF; exact .inr ⟨hx, rfl⟩
         ·rw [if_neg hx] at TF; exact .inl TF
        refine ih _ _ _ _ _ IP h eu.2 (θ.more (B0 + i) (B0' + i)) _ _ _ _ ((hf.ext f.ext).put c1 d) ⟨c2.QO _ _, abh, hg.FE.ext f.ext⟩ hb BX ?_ (lm.same (m := m) (m1 := ⟨m.next, m1.gM⟩) f.ext rfl rfl LQ) (fun s' HY => (Tw s' HY).ext f.ext) ⟨ev.ext.trans f.ext, ?_, ev.gX, ev.n1, ev.n2, ?_⟩
        ·intro j hj hjn
         have fj := hk j (by omega) hjn
         refine ⟨?_, fun a ha => ?_, fj.s⟩
         ·cases e : (θ.more (B0 + i) (B0' + i)).ik (B0 + j) with
          | none => rfl
          | some c =>
           rcases Vt _ _ e with q | ⟨q, _⟩
           ·rw [fj.l] at q; cases q
           ·omega
         ·rcases Vt _ _ ha with q | ⟨_, q⟩
          ·exact fj.r a q
          ·omega
        ·intro b c RG
         rcases Vt b c RG with q | ⟨rfl, rfl⟩
         ·exact ev.ik b c q
         ·exact .inr ⟨by omega, by omega⟩
        ·intro c hc hr
         have h1 : fW.get c = m'.get c := by
          refine XN c (show c ≠ B0' + i by omega) fun b RG => ?_
          rcases ev.ik b c RG with q | ⟨_, q⟩
          ·exact hr b q
          ·omega
         exact h1.trans (ev.rP c hc hr)
     ·by_cases SB : cZ op = 2
      ·cases op <;> simp only [cZ, reduceCtorEq, Nat.reduceEqDiff] at SB
       case conv c x => cases c <;> simp at SB
       rename_i agg a
       simp only [cZ, lL.xp] at h;have ha : SV θ (fr.eval (jQ a)) (fr'.eval a) := (hf.ops hg.FE) a (by simpa only [QF, iS, Li, List.all_cons, List.all_nil, Bool.and_true] using xr)
       rw [z7];have Ux := ha.aaQ
       simp only [Sz, Ux, cond_false]
       cases hl : m.load agg (fr.eval (jQ a)) with
       | none => simp [hl] at h
       | some v =>
        simp only [hl] at h
        cases hF : GF (fr.eval (jQ a)) <;> simp only [hF, cond_true, cond_false] at h
        ·cases mF : bK chk i agg (fr.eval (jQ a)) v sn <;> simp only [mF, cond_true, cond_false, reduceCtorEq] at h
         obtain ⟨v', zz, hv⟩ := HQ hg.toMemB ha hF hl
         simp only [zz, ul, Ee ha hv hF LQ mF, jZ];refine ih _ _ _ _ _ IP h eu.2 θ _ _ _ _ (hf.put hv d) hg hb BX KF LQ (fun s' HY => ?_) ev
         rcases o6.1 HY with rfl | HY
         ·exact .inl ⟨⟨i, agg, fr.eval (jQ a), v⟩, by simp, rfl, rfl, hF, ha, hv⟩
         ·rcases Tw s' HY with ⟨s, q1, q2⟩ | q
          ·exact .inl ⟨s, by simp [q1], q2⟩
          ·exact .inr q
        ·cases mF : dV chk i m.next sn <;> simp only [mF, cond_true, cond_false, reduceCtorEq] at h
         generalize jh : fr.eval (jQ a) = y at ha hF hl
         cases y <;> simp only [GF, rp] at hF
         obtain ⟨v', hv, hall⟩ := Q2 ha hl
         simp only [hall m' hg.gX, ul, HC hv.told hall LQ mF, jZ];refine ih _ _ _ _ _ IP h eu.2 θ _ _ _ _ (hf.put hv d) hg hb BX KF LQ (fun s' HY => ?_) ev
         rcases o6.1 HY with rfl | HY
         ·exact .inr ⟨hv.told, hall⟩
         ·exact Tw s' HY
      ·have hs3 : cZ op = 3 := by omega
       simp only [hs3] at h;rw [Ih hs3]
       cases he : aF (fun x => fr.eval (jQ x)) op m with
       | none => simp [he] at h
       | some q =>
        obtain ⟨v, m1⟩ := q
        simp only [he] at h
        cases mF : bc chk i m1 se <;> simp only [mF, cond_true, cond_false, reduceCtorEq] at h
        obtain ⟨θ', v', fW, e1, e2, e3, e4⟩ := ID.uC hg (HB (hf.ops hg.FE) hg.toMemS hg.ok (hg.ok.fresh (eX _) (eX _)) xr he)
        rw [e1];have Rp : ∀ s', s' ∈ se' -> Fo θ' se s' := fun s' HY => (Tw s' HY).ext e4.ext
        have a1 := e4.n1; have a2 := e4.n2
        simp only [gL, Em e3.toMemS mF Rp, jZ];refine ih _ _ _ _ _ IP h eu.2 θ' _ _ _ _ ((hf.ext e4.ext).put e2 d) e3 (by omega) (by omega) (KF.step e4 hb BX) (.cons ?_ (LQ.step e4 fun _ _ _ _ _ _ => trivial)) Rp (ev.trans e4)
        refine ⟨rfl, hg.toMemB.ext e4.ext fun b c hb _ => hg.cl b hb, a1, fun e c B hc => ?_⟩
        rcases e4.gX c B hc with q | ⟨_, q⟩
        ·exact hg.gX c B q
        ·simp only at e; omega
theorem KC.my {θ : cK} {m m' : Mem} {out S6 : Out} {X : Option Out} {K : Fr -> Mem -> Option Out} {k : Fr -> Mem -> Option Out} (hX : ss θ m m' out X)
  (h : (match out with | .norm fr m1 => k fr m1 | o => some o) = some S6)
  (hk : ∀ θ1 fr m1 fr' fW, B6 θ1 fr fr' -> gR θ1 m1 fW -> k fr m1 = some S6 -> ss θ1 m1 fW S6 (K fr' fW)) : ss θ m m' S6 (Ev.my X K) := by
 obtain ⟨θ1, BP, rfl, hs, ev⟩ := hX
 cases hs with
 | norm hf hg => exact ss.after ev (hk _ _ _ _ _ hf hg h)
 | exit hf hg => simp only [bj] at h; subst h; exact ⟨θ1, _, rfl, .exit hf hg, ev⟩
 | ret hf hg => simp only [bj] at h; subst h; exact ⟨θ1, _, rfl, .ret hf hg, ev⟩
 | gO hv hf hg => simp only [bj] at h; subst h; exact ⟨θ1, _, rfl, .gO hv hf hg, ev⟩
theorem PA {θ : cK} {m m' : Mem} (hg : gR θ m m') (k : Nat) : gR θ ⟨m.next + k, m.gM⟩ ⟨m'.next + k, m'.gM⟩ :=
 ⟨hg.toMemS.QO _ _, ⟨fun b c h => by have := hg.ok.ik b c h; exact ⟨mr this.1 (Nat.le_add_right _ _), mr this.2 (Nat.le_add_right _ _)⟩, hg.ok.inj, hg.ok.off, fun b B h => mr (hg.ok.gX b B h) (Nat.le_add_right _ _)⟩, hg.FE⟩
theorem kT (bI : Az T call) (n : Nat) : ∀ (c : aE) (fr : Fr) (m : Mem) (out : Out), aw call n c.sub fr m = some out -> la c = true -> ∀ (θ : cK) (fr' : Fr) (m' : Mem), B6 θ fr fr' -> gR θ m m' -> ss θ m m' out (exec T c fr' m')
 | .skip, fr, m, out, h, _, θ, fr', m', hf, hg => by
  simp only [aE.sub, aw, bj] at h; subst h
  exact ⟨θ, _, sc, .norm hf hg, .refl _ _ _⟩
 | .ret, fr, m, out, h, _, θ, fr', m', hf, hg => by
  simp only [aE.sub, aw, bj] at h; subst h
  exact ⟨θ, _, vk, .ret hf hg, .refl _ _ _⟩
 | .exit id, fr, m, out, h, _, θ, fr', m', hf, hg => by
  simp only [aE.sub, aw, bj] at h; subst h
  exact ⟨θ, _, sd, .exit hf hg, .refl _ _ _⟩
 | .region ops, fr, m, out, h, eu, θ, fr', m', hf, hg => by
  simp only [aE.sub, aw] at h;rw [nL];exact MP bI ops fr m out h (by simpa only [la] using eu) θ fr' m' hf hg
 | .draw ops chk, fr, m, out, h, eu, θ, fr', m', hf, hg => by
  simp only [aE.sub, aw] at h;rw [Pp];rw [List.length_map] at h;have VL := PA hg ops.length
  refine Kd bI (n := ops.length) (θ0 := θ) (m0 := m) (m0' := m') rfl rfl ops 0 fr _ [] [] out (Nat.zero_add _) h (by simpa only [la] using eu) θ fr' _ [] [] hf VL (eX _) (eX _) (fun j _ hj => hg.ok.fresh (Nat.le_add_right _ _) (Nat.le_add_right _ _)) .nil (fun s' HY => by simp at HY)
   ⟨.refl θ, fun _ _ h => .inl h, fun _ _ h => .inl h, Nat.le_add_right _ _, Nat.le_add_right _ _, fun _ _ _ => rfl⟩
 | .seq a b, fr, m, out, h, eu, θ, fr', m', hf, hg => by
  simp only [la, pL] at eu;simp only [aE.sub, aw] at h;rw [vj]
  cases ha : aw call n a.sub fr m with
  | none => simp [ha] at h
  | some o =>
   refine KC.my (k := aw call n b.sub) (kT bI n a fr m o ha eu.1 θ fr' m' hf hg) (by rw [ha] at h; cases o <;> exact h) fun θ1 fY m1 Ye fW sv hg1 h1 => kT bI n b _ _ _ h1 eu.2 θ1 _ _ sv hg1
 | .cond c a b, fr, m, out, h, eu, θ, fr', m', hf, hg => by
  simp only [la, pL] at eu;simp only [aE.sub, aw] at h;have hc : SV θ (fr.eval (jQ c)) (fr'.eval c) := (hf.ops hg.FE) c eu.1.1
  cases hce : fr.eval (jQ c) <;> simp only [hce, reduceCtorEq] at h
  rename_i t
  simp only [hce] at hc;rw [GU (TY hc)]
  cases t
  ·exact kT bI n b _ _ _ h eu.2 θ _ _ hf hg
  ·exact kT bI n a _ _ _ h eu.1.2 θ _ _ hf hg
 | .block id a, fr, m, out, h, eu, θ, fr', m', hf, hg => by
  simp only [aE.sub, aw] at h;rw [pB]
  cases ha : aw call n a.sub fr m with
  | none => simp [ha] at h
  | some o =>
   obtain ⟨θ1, BP, e, hs, ev⟩ := kT bI n a fr m o ha (by simpa only [la] using eu) θ fr' m' hf hg
   rw [e];rw [ha] at h
   cases hs with
   | norm hf hg => simp only [bj] at h; subst h; exact ⟨θ1, _, rfl, .norm hf hg, ev⟩
   | ret hf hg => simp only [bj] at h; subst h; exact ⟨θ1, _, rfl, .ret hf hg, ev⟩
   | gO hv hf hg => simp only [bj] at h; subst h; exact ⟨θ1, _, rfl, .gO hv hf hg, ev⟩
   | @exit j fY Ye m1 fW hf hg =>
    simp only [pu];simp only at h
    cases hb : j.beq id <;> simp only [hb, cond_true, cond_false, bj] at h ⊢ <;> subst h
    ·exact ⟨θ1, _, rfl, .exit hf hg, ev⟩
    ·exact ⟨θ1, _, rfl, .norm hf hg, ev⟩
 | .loop a, fr, m, out, h, eu, θ, fr', m', hf, hg => by
  simp only [aE.sub, aw] at h;have abi : la a = true := by simpa only [la] using eu
  have ha := kT bI n a
  have go : ∀ (k : Nat) (fr : Fr) (m : Mem) (out : Out), iter (aw call n a.sub) k fr m = some out -> ∀ (θ : cK) (fr' : Fr) (m' : Mem), B6 θ fr fr' -> gR θ m m' -> ss θ m m' out (exec T (.loop a) fr' m') := by
   intro k
   induction k with
   | zero => intro fr m out h; simp [iter] at h
   | succ k ih =>
    intro fr m out h θ fr' m' hf hg
    simp only [iter] at h;rw [eS]
    cases hb : aw call n a.sub fr m with
    | none => simp [hb] at h
    | some o =>
     refine KC.my (k := iter (aw call n a.sub) k) (ha fr m o hb abi θ fr' m' hf hg) (by rw [hb] at h; cases o <;> exact h) fun θ1 fY m1 Ye fW sv hg1 h1 => ih _ _ _ h1 θ1 _ _ sv hg1
  exact go n fr m out h θ fr' m' hf hg
theorem vw {θ : cK} : ∀ {x x' : List EV} (i : Nat) {t t' : Tr EV}, dZ θ x x' -> (∀ k, SV θ (((⟨t, []⟩ : Fr)).get k) (((⟨t', []⟩ : Fr)).get k)) -> ∀ k, SV θ (((⟨cQ x i t, []⟩ : Fr)).get k) (((⟨cQ x' i t', []⟩ : Fr)).get k)
 | _, _, i, t, t', .nil, h => h
 | _, _, i, t, t', .cons (v := v) (v' := v') hv hs, h => by
  refine vw (i + 1) hs fun k => ?_
  show SV θ ((Fr.set ⟨t, []⟩ i v).get k) ((Fr.set ⟨t', []⟩ i v').get k)
  rw [Fr.bY, Fr.bY]
  split
  ·exact hv
  ·exact h k
theorem jf {θ : cK} {m m' : Mem} (hm : MemS θ m m') {fr fr' : Fr} (hf : B6 θ fr fr') : ∀ (rs : List mq) (vs : List EV), bP fr m rs = some vs -> ∃ uI, bP fr' m' rs = some uI /\ dZ θ vs uI
 | [], vs, h => by simp only [bP, bj] at h; subst h; exact ⟨[], rfl, .nil⟩
 | r :: rs, vs, h => by
  simp only [bP] at h ⊢
  cases hr : zS fr m r with
  | none => simp [hr] at h
  | some v =>
   have hv : ∃ v', zS fr' m' r = some v' /\ SV θ v v' := by
    cases r with
    | tmp t => simp only [zS, bj] at hr ⊢; subst hr; exact ⟨_, rfl, hf.tmp t⟩
    | cell t agg => simp only [zS] at hr ⊢; exact Jw hm (hf.tmp t) hr
   obtain ⟨v', u7, zu⟩ := hv
   simp only [hr, u7] at h ⊢
   obtain ⟨ws, hw, rfl⟩ := kr.1 h
   obtain ⟨ws', Xr, hs⟩ := jf hm hf rs ws hw
   exact ⟨v' :: ws', by rw [Xr]; rfl, .cons zu hs⟩
theorem y0 {θ : cK} {x x' : List EV} (h : dZ θ x x') : SV θ (one x) (one x') := by
 cases h with
 | nil => exact .tuple .nil
 | cons hv hs =>
  cases hs with
  | nil => exact hv
  | cons Vq SB => exact .tuple (.cons hv (.cons Vq SB))
def Gs (F : az) : Bool := la F.body && rL F.body
def lN (F : az) : Bool := la F.body
theorem OJ {F : az} (h : Gs F = true) : F.sub = F := by
 simp only [Gs, pL] at h;unfold az.sub; rw [mN h.2]
theorem S9 {F : az} (h : Gs F = true) : lN F = true := by simp only [Gs, pL] at h; exact h.1
theorem Fh (bI : Az T call) (n : Nat) {f : Nat} {F : az} (hT : T f = some (.go F)) (eu : lN F = true) {args : List EV} {m : Mem} {fin : Fin} (h : dG call n F.sub args m = some fin) {θ : cK} {m' : Mem} {aA : List EV} (hg : gR θ m m') (ha : dZ θ args aA) : vA θ m m' fin (run T f aA m') := by
 unfold dG at h;simp only [az.sub] at h
 cases hb : args.length.ble F.ntmps <;> simp only [hb, cond_true, cond_false, reduceCtorEq] at h
 have hlen : aA.length <= F.ntmps := by rw [<- ha.length]; exact rc hb
 rw [Qn hT hlen]
 cases hc : aw call n F.body.sub ⟨cQ args 0 .leaf, []⟩ m with
 | none => simp [hc] at h
 | some out =>
  have hf : B6 θ ⟨cQ args 0 .leaf, []⟩ ⟨cQ aA 0 .leaf, []⟩ := ⟨vw 0 ha fun k => by rw [show (⟨.leaf, []⟩ : Fr) = pz from rfl, mb]; exact .undef, .nil⟩
  obtain ⟨θ1, BP, e, hs, ev⟩ := kT bI n F.body _ _ _ hc eu θ _ m' hf hg
  rw [e];simp only [hc] at h
  cases hs with
  | exit hf hg => simp at h
  | @norm fr fr' m1 fW sv hg1 =>
   cases hd : fr.defers with
   | cons d ds => simp [hd] at h
   | nil =>
    simp only [hd] at h;have FW : fr'.defers = [] := sv.NW.none hd
    simp only [s6, FW];obtain ⟨vs, hv, rfl⟩ := kr.1 h
    obtain ⟨uI, rS, yk⟩ := jf hg1.toMemS sv F.results vs hv
    rw [rS];exact ⟨θ1, _, rfl, .ret (y0 yk) hg1, ev⟩
  | @ret fr fr' m1 fW sv hg1 =>
   cases hd : fr.defers with
   | cons d ds => simp [hd] at h
   | nil =>
    simp only [hd] at h;have FW : fr'.defers = [] := sv.NW.none hd
    simp only [s6, FW];obtain ⟨vs, hv, rfl⟩ := kr.1 h
    obtain ⟨uI, rS, yk⟩ := jf hg1.toMemS sv F.results vs hv
    rw [rS];exact ⟨θ1, _, rfl, .ret (y0 yk) hg1, ev⟩
  | @gO v v' fr fr' m1 fW zu sv hg1 =>
   cases hd : fr.defers with
   | cons d ds => simp [hd] at h
   | nil =>
    simp only [hd, bj] at h;have FW : fr'.defers = [] := sv.NW.none hd
    simp only [s6, FW];subst h;exact ⟨θ1, _, rfl, .gO zu hg1, ev⟩
def KT (D : List (Nat × Option Nat × az)) : List (Nat × Option Nat × az) := D.map fun p => (p.1, p.2.1, p.2.2.sub)
theorem GX {g : Nat} {b : Option Nat} {FD : az} : ∀ {D : List (Nat × Option Nat × az)}, mG g (KT D) = some (b, FD) -> ∃ F0, mG g D = some (b, F0) /\ FD = F0.sub
 | [], h => by simp [KT, mG] at h
 | (g', b', F') :: D, h => by
  simp only [KT, List.map_cons, mG] at h ⊢
  cases hb : g'.beq g <;> simp only [hb, cond_true, cond_false] at h ⊢
  ·exact GX (D := D) h
  ·simp only [bj, eQ] at h
   obtain ⟨rfl, rfl⟩ := h
   exact ⟨F', rfl, rfl⟩
def W7 (D : List (Nat × Option Nat × az)) : Bool := D.all fun p => lN p.2.2
theorem Ji {g : Nat} {b : Option Nat} {F : az} : ∀ {D : List (Nat × Option Nat × az)}, W7 D = true -> mG g D = some (b, F) -> lN F = true
 | [], _, h => by simp [mG] at h
 | (g', b', F') :: D, ho, h => by
  simp only [W7, List.all_cons, pL] at ho;simp only [mG] at h
  cases hb : g'.beq g <;> simp only [hb, cond_true, cond_false] at h
  ·exact Ji (D := D) ho.2 h
  ·cases h; exact ho.1
theorem PD (bI : Az T call) (n : Nat) {F : az} (eu : lN F = true) {args : List EV} {m : Mem} {fin : Fin} (h : dG call n F.sub args m = some fin) {θ : cK} {m' : Mem} {aA : List EV} (hg : gR θ m m') (ha : dZ θ args aA) : vA θ m m' fin (Ku T F aA m') := by
 unfold dG at h;simp only [az.sub] at h
 cases hb : args.length.ble F.ntmps <;> simp only [hb, cond_true, cond_false, reduceCtorEq] at h
 have hlen : aA.length <= F.ntmps := by rw [<- ha.length]; exact rc hb
 rw [Sa hlen]
 cases hc : aw call n F.body.sub ⟨cQ args 0 .leaf, []⟩ m with
 | none => simp [hc] at h
 | some out =>
  have hf : B6 θ ⟨cQ args 0 .leaf, []⟩ ⟨cQ aA 0 .leaf, []⟩ := ⟨vw 0 ha fun k => by rw [show (⟨.leaf, []⟩ : Fr) = pz from rfl, mb]; exact .undef, .nil⟩
  obtain ⟨θ1, BP, e, hs, ev⟩ := kT bI n F.body _ _ _ hc eu θ _ m' hf hg
  rw [e];simp only [hc] at h
  cases hs with
  | exit hf hg => simp at h
  | @norm fr fr' m1 fW sv hg1 =>
   cases hd : fr.defers with
   | cons d ds => simp [hd] at h
   | nil =>
    simp only [hd] at h;have FW : fr'.defers = [] := sv.NW.none hd
    simp only [s6, FW];obtain ⟨vs, hv, rfl⟩ := kr.1 h
    obtain ⟨uI, rS, yk⟩ := jf hg1.toMemS sv F.results vs hv
    rw [rS];exact ⟨θ1, _, rfl, .ret (y0 yk) hg1, ev⟩
  | @ret fr fr' m1 fW sv hg1 =>
   cases hd : fr.defers with
   | cons d ds => simp [hd] at h
   | nil =>
    simp only [hd] at h;have FW : fr'.defers = [] := sv.NW.none hd
    simp only [s6, FW];obtain ⟨vs, hv, rfl⟩ := kr.1 h
    obtain ⟨uI, rS, yk⟩ := jf hg1.toMemS sv F.results vs hv
    rw [rS];exact ⟨θ1, _, rfl, .ret (y0 yk) hg1, ev⟩
  | @gO v v' fr fr' m1 fW zu sv hg1 =>
   cases hd : fr.defers with
   | cons d ds => simp [hd] at h
   | nil =>
    simp only [hd, bj] at h;have FW : fr'.defers = [] := sv.NW.none hd
    simp only [s6, FW];subst h;exact ⟨θ1, _, rfl, .gO zu hg1, ev⟩
def Mv (θ : cK) (u u' : Option EV) : Prop := match u with
 | none => u' = none
 | some v => ∃ v', u' = some v' /\ SV θ v v'
theorem Mv.ext {θ θ' : cK} (e : cK.Ext θ θ') {u u' : Option EV} (h : Mv θ u u') : Mv θ' u u' := by
 cases u with
 | none => exact h
 | some v => obtain ⟨v', h1, h2⟩ := h; exact ⟨v', h1, h2.ext e⟩
theorem Mv.get {θ : cK} {u u' : Option EV} (h : Mv θ u u') : SV θ (u.getD .aJ) (u'.getD .aJ) := by
 cases u with
 | none => cases h; exact .aJ
 | some v => obtain ⟨v', rfl, h2⟩ := h; exact h2
theorem Mp (bI : Az T call) (n : Nat) {d : Nat} {F : az} (eu : lN F = true) {args : List EV} {u u' : Option EV} {m m1 : Mem} (h : fI call n d F.sub args u m = some m1) {θ : cK} {m' : Mem} {aA : List EV} (hg : gR θ m m') (ha : dZ θ args aA) (hu : Mv θ u u') :
  ∃ θ1 fW, Iu T d F aA u' m' = some fW /\ gR θ1 m1 fW /\ ot θ m m' θ1 m1 fW := by
 unfold fI at h;simp only [az.sub] at h
 cases hb : args.length.ble F.ntmps <;> simp only [hb, cond_true, cond_false, reduceCtorEq] at h
 have hlen : aA.length <= F.ntmps := by rw [<- ha.length]; exact rc hb
 rw [PB hlen]
 cases hc : aw call n F.body.sub (Fr.set ⟨cQ args 0 .leaf, []⟩ d (u.getD .aJ)) m with
 | none => simp [hc] at h
 | some out =>
  have hf : B6 θ ⟨cQ args 0 .leaf, []⟩ ⟨cQ aA 0 .leaf, []⟩ := ⟨vw 0 ha fun k => by rw [show (⟨.leaf, []⟩ : Fr) = pz from rfl, mb]; exact .undef, .nil⟩
  obtain ⟨θ1, BP, e, hs, ev⟩ := kT bI n F.body _ _ _ hc eu θ _ m' (hf.put hu.get (some d)) hg
  have e' : exec T F.body (Fr.set ⟨cQ aA 0 .leaf, []⟩ d (u'.getD .aJ)) m' = some BP := e
  rw [e'];simp only [hc] at h
  cases hs with
  | exit hf hg => simp at h
  | @norm fr fr' m2 Sw sv hg1 =>
   cases hd : fr.defers with
   | cons d ds => simp [hd] at h
   | nil =>
    simp only [hd] at h;have FW : fr'.defers = [] := sv.NW.none hd
    simp only [S1, FW];obtain ⟨vs, hv, rfl⟩ := kr.1 h
    obtain ⟨uI, rS, yk⟩ := jf hg1.toMemS sv F.results vs hv
    rw [rS];exact ⟨θ1, _, rfl, hg1, ev⟩
  | @ret fr fr' m2 Sw sv hg1 =>
   cases hd : fr.defers with
   | cons d ds => simp [hd] at h
   | nil =>
    simp only [hd] at h;have FW : fr'.defers = [] := sv.NW.none hd
    simp only [S1, FW];obtain ⟨vs, hv, rfl⟩ := kr.1 h
    obtain ⟨uI, rS, yk⟩ := jf hg1.toMemS sv F.results vs hv
    rw [rS];exact ⟨θ1, _, rfl, hg1, ev⟩
  | @gO v v' fr fr' m2 Sw zu sv hg1 => simp at h
theorem vA.after {θ θ1 : cK} {m m' m1 fW : Mem} {fin : Fin} {o : Option Fin} (hs : ot θ m m' θ1 m1 fW) (h : vA θ1 m1 fW fin o) : vA θ m m' fin o := by
 obtain ⟨θ2, J3, e, h1, h2⟩ := h
 cases h1 with
 | ret hv hg => exact ⟨θ2, _, e, .ret hv hg, hs.trans h2⟩
 | gO hv hg => exact ⟨θ2, _, e, .gO hv hg, hs.trans h2⟩
theorem oX (bI : Az T call) (n : Nat) {rs : List mq} {D : List (Nat × Option Nat × az)} (hD : W7 D = true) {fr fr' : Fr} : ∀ (ds vo : List (Nat × List EV)) (u u' : Option EV) (θ : cK) (m m' : Mem) (fin : Fin), Fy θ ds vo -> Mv θ u u' -> gR θ m m' -> B6 θ fr fr' -> cU call n rs (KT D) fr ds u m = some fin -> vA θ m m' fin (mR T rs D fr' vo u' m')
 | [], vo, u, u', θ, m, m', fin, CV, hu, hg, hf, h => by
  cases CV
  cases u with
  | none =>
   cases hu
   simp only [cU] at h;obtain ⟨vs, hv, rfl⟩ := kr.1 h
   obtain ⟨uI, rS, yk⟩ := jf hg.toMemS hf rs vs hv
   rw [LC, rS];exact ⟨θ, _, rfl, .ret (y0 yk) hg, .refl _ _ _⟩
  | some v =>
   obtain ⟨v', rfl, hv⟩ := hu
   simp only [cU, bj] at h;subst h;rw [LB];exact ⟨θ, _, rfl, .gO hv hg, .refl _ _ _⟩
 | (g, args) :: ds, vo, u, u', θ, m, m', fin, CV, hu, hg, hf, h => by
  cases CV with
  | @cons _ _ aA _ TV hx CV =>
  simp only [cU] at h
  cases FU : mG g (KT D) with
  | none => simp [FU] at h
  | some q =>
  obtain ⟨b, FD⟩ := q
  obtain ⟨F0, hF0, rfl⟩ := GX FU
  have eu := Ji hD hF0
  cases b with
  | some d =>
   simp only [FU] at h
   cases hb : fI call n d F0.sub args u m with
   | none => simp [hb] at h
   | some m1 =>
    simp only [hb] at h;obtain ⟨θ1, fW, e1, hg1, rT⟩ := Mp bI n eu hb hg hx hu
    rw [LA hF0, e1];exact (oX bI n hD ds TV none none θ1 m1 fW fin (CV.ext rT.ext) rfl hg1 (hf.ext rT.ext) h).after rT
  | none =>
   simp only [FU] at h
   cases hb : dG call n F0.sub args m with
   | none => simp [hb] at h
   | some Yf =>
    simp only [hb] at h;obtain ⟨θ1, aeD, e1, sv, rT⟩ := PD bI n eu hb hg hx
    rw [Jz hF0, e1]
    cases sv with
    | ret hv hg1 => exact (oX bI n hD ds TV u u' θ1 _ _ fin (CV.ext rT.ext) (hu.ext rT.ext) hg1 (hf.ext rT.ext) h).after rT
    | @gO v v' _ _ hv hg1 =>
     cases u with
     | some x => cases h
     | none =>
      cases hu
      exact (oX bI n hD ds TV (some v) (some v') θ1 _ _ fin (CV.ext rT.ext) ⟨v', rfl, hv⟩ hg1 (hf.ext rT.ext) h).after rT
theorem PE (bI : Az T call) (n : Nat) {f : Nat} {F : az} {D : List (Nat × Option Nat × az)} (hT : T f = some (.NV F D)) (eu : lN F = true) (hD : W7 D = true) {args : List EV} {m : Mem} {fin : Fin} (h : jC call n F.sub (KT D) args m = some fin) {θ : cK} {m' : Mem} {aA : List EV} (hg : gR θ m m') (ha : dZ θ args aA) : vA θ m m' fin (run T f aA m') := by
 unfold jC at h;simp only [az.sub] at h
 cases hb : args.length.ble F.ntmps <;> simp only [hb, cond_true, cond_false, reduceCtorEq] at h
 have hlen : aA.length <= F.ntmps := by rw [<- ha.length]; exact rc hb
 rw [SZ hT hlen]
 cases hc : aw call n F.body.sub ⟨cQ args 0 .leaf, []⟩ m with
 | none => simp [hc] at h
 | some out =>
  have hf : B6 θ ⟨cQ args 0 .leaf, []⟩ ⟨cQ aA 0 .leaf, []⟩ := ⟨vw 0 ha fun k => by rw [show (⟨.leaf, []⟩ : Fr) = pz from rfl, mb]; exact .undef, .nil⟩
  obtain ⟨θ1, BP, e, hs, ev⟩ := kT bI n F.body _ _ _ hc eu θ _ m' hf hg
  rw [e];simp only [hc] at h
  cases hs with
  | exit hf hg => simp at h
  | norm sv hg1 => exact (oX bI n hD _ _ none none θ1 _ _ fin sv.NW rfl hg1 sv h).after ev
  | ret sv hg1 => exact (oX bI n hD _ _ none none θ1 _ _ fin sv.NW rfl hg1 sv h).after ev
  | @gO v v' _ _ _ _ zu sv hg1 => exact (oX bI n hD _ _ (some v) (some v') θ1 _ _ fin sv.NW ⟨v', rfl, zu⟩ hg1 sv h).after ev
def ij (T : Nat -> Option iM) (f : Nat) : iM -> Prop
 | .go F1 => ∃ F, T f = some (.go F) /\ lN F = true /\ F1 = F.sub
 | .ext g => ∀ θ m m' args aA v, gR θ m m' -> dZ θ args aA -> g args = some v -> vA θ m m' (.ret v m) (run T f aA m')
 | .pure g => ∀ θ m m' args aA v, gR θ m m' -> dZ θ args aA -> g args = some v -> vA θ m m' (.ret v m) (run T f aA m')
 | .spec g => ∀ θ m m' args aA fin, gR θ m m' -> dZ θ args aA -> g args m = some fin -> vA θ m m' fin (run T f aA m')
 | .NV F1 D1 => ∃ F D, T f = some (.NV F D) /\ lN F = true /\ W7 D = true /\ F1 = F.sub /\ D1 = KT D
theorem Dm {T1 : Nat -> Option iM} (h1 : ∀ f e, T1 f = some e -> ij T f e) : ∀ k, Az T (aW T1 k)
 | 0 => fun f args m fin h => by simp [aW] at h
 | k + 1 => fun f args m fin h θ m' aA hg ha => by
  simp only [aW] at h
  cases he : T1 f with
  | none => simp [he] at h
  | some e =>
   have hE := h1 f e he
   simp only [he] at h
   cases e with
   | go F =>
    obtain ⟨F0, hT, eu, rfl⟩ := hE
    exact Fh (Dm h1 k) k hT eu h hg ha
   | ext g =>
    obtain ⟨v, hv, rfl⟩ := kr.1 h
    exact hE θ m m' args aA v hg ha hv
   | pure g =>
    obtain ⟨v, hv, rfl⟩ := kr.1 h
    exact hE θ m m' args aA v hg ha hv
   | spec g => exact hE θ m m' args aA fin hg ha h
   | NV F D =>
    obtain ⟨F0, D0, hT, eu, hD, rfl, rfl⟩ := hE
    exact PE (Dm h1 k) k hT eu hD h hg ha
end
end
section
def chunk (e : Nat) : Nat -> List EV -> List (List EV)
 | 0, _ => []
 | n + 1, l => l.take e :: chunk e n (l.drop e)
def Al (cap : Option Nat) (n : Nat) : Bool := match cap with
 | none => true
 | some c => n.ble c
mutual
def oZ (F : List EV -> Option (List EV)) (m : Mem) : EV -> Option EV
 | .slice b off n cap => match m.get b with
  | .cells cs e _ _ => bif Al cap n then (bif (off + n * e).ble cs.length then (F ((cs.drop off).take (n * e))).map fun ys => .fz 0 e (chunk e n ys) else none) else none
  | _ => none
 | .agg xs => (jA F m xs).map .agg
 | .tuple xs => (jA F m xs).map .tuple
 | .iface t v => (oZ F m v).map (.iface t)
 | .func f x y => match jA F m x, jA F m y with
  | some x, some y => some (.func f x y)
  | _, _ => none
 | .fz _ e els => some (.fz 0 e els)
 | .ptr _ _ | .map _ | .fL _ _ _ _ => none
 | .undef => some .undef
 | .bool b => some (.bool b)
 | .int k n => some (.int k n)
 | .str s => some (.str s)
 | .bN => some .bN
 | .ae => some .ae
 | .bF => some .bF
 | .aO => some .aO
 | .aJ => some .aJ
def jA (F : List EV -> Option (List EV)) (m : Mem) : List EV -> Option (List EV)
 | [] => some []
 | v :: l => match oZ F m v, jA F m l with
  | some v, some l => some (v :: l)
  | _, _ => none
end
def cG : Nat -> Mem -> List EV -> Option (List EV)
 | 0, _, _ => none
 | d + 1, m, l => jA (cG d m) m l
mutual
def closed : EV -> Bool
 | .ptr _ _ | .slice _ _ _ _ | .map _ | .fL _ _ _ _ => false
 | .func _ x y => fQ x && fQ y
 | .iface _ v => closed v
 | .agg x | .tuple x => fQ x
 | _ => true
def fQ : List EV -> Bool
 | [] => true
 | v :: x => closed v && fQ x
end
theorem sk {e : Nat} : ∀ (n : Nat) (l : List EV), (chunk e n l).length = n
 | 0, _ => rfl
 | n + 1, l => by simp [chunk, sk n]
theorem GZ {e : Nat} : ∀ (n : Nat) (l : List EV), l.length = n * e -> (∀ el ∈ chunk e n l, el.length = e) /\ (chunk e n l).flatten = l
 | 0, l, h => by
  rw [Nat.zero_mul] at h;have := List.eq_nil_of_length_eq_zero h
  subst this; simp [chunk]
 | n + 1, l, h => by
  rw [Nat.succ_mul] at h;obtain ⟨h1, h2⟩ := GZ (e := e) n (l.drop e) (by rw [uE]; omega)
  refine ⟨fun el xY => ?_, ?_⟩
  ·simp only [chunk, o6] at xY
   rcases xY with rfl | xY
   ·rw [List.length_take]; omega
   ·exact h1 el xY
  ·simp only [chunk, List.flatten_cons, h2, List.take_append_drop]
open Classical in
noncomputable def cK.end_ (θ : cK) (m' : Mem) : cK := ⟨fun _ => none, fun _ => none, fun c => if ∃ b, θ.ik b = some c then some (m'.get c) else θ.gX c⟩
theorem TT {θ : cK} {m' : Mem} {b c : Nat} (h : θ.ik b = some c) : (θ.end_ m').gX c = some (m'.get c) := by
 unfold cK.end_; simp only; exact if_pos ⟨b, h⟩
theorem Ig {θ : cK} {m' : Mem} {c : Nat} {B : fM} (h : (θ.end_ m').gX c = some B) : ((∃ b, θ.ik b = some c) /\ B = m'.get c) \/ θ.gX c = some B := by
 unfold cK.end_ at h; simp only at h
 split at h
 ·rename_i hx; cases h; exact .inl ⟨hx, rfl⟩
 ·exact .inr h
theorem M5 {θ : cK} {m' : Mem} {n n' : Nat} (k : q9 θ n n') : cK.Ext θ.low (θ.end_ m') := by
 refine ⟨fun _ _ h => (by simp [cK.low] at h), fun _ _ h => (by simp [cK.low] at h), fun c B h => ?_⟩
 have h' : θ.gX c = some B := h
 unfold cK.end_; simp only
 rw [if_neg, h']
 rintro ⟨b, hb⟩
 rw [k.off b c hb] at h'; cases h'
theorem SR.low {θ : cK} {e : Nat} {els : List (List EV)} {b off : Nat} (h : SR θ e els b off) : SR θ.low e els b off := by
 cases h with | mk hs hl hn hx => exact .mk hs hl hn hx
section
variable {θ : cK} {m m' : Mem} {F : List EV -> Option (List EV)}
theorem dZ.HD {l' : List EV} (h : dZ θ [] l') : l' = [] := by cases h; rfl
theorem dZ.cons_inv {v : EV} {l l' : List EV} (h : dZ θ (v :: l) l') : ∃ v' r', l' = v' :: r' /\ SV θ v v' /\ dZ θ l r' := by
 cases h with | cons h hs => exact ⟨_, _, rfl, h, hs⟩
theorem GQ {v : EV} {l r : List EV} (h : jA F m (v :: l) = some r) : ∃ a b, oZ F m v = some a /\ jA F m l = some b /\ r = a :: b := by
 simp only [jA] at h
 cases h1 : oZ F m v with
 | none => simp [h1] at h
 | some a =>
  cases h2 : jA F m l with
  | none => simp [h1, h2] at h
  | some b => simp only [h1, h2, bj] at h; exact ⟨a, b, rfl, rfl, h.symm⟩
mutual
theorem NE (hg : gR θ m m') (hF : ∀ l r l', F l = some r -> dZ θ l l' -> dZ (θ.end_ m') r l') : ∀ {v r v' : EV}, oZ F m v = some r -> SV θ v v' -> SV (θ.end_ m') r v'
 | .undef, r, v', h, hv => by cases hv; cases h; exact .undef
 | .bool b, r, v', h, hv => by cases hv; cases h; exact .bool b
 | .int k n, r, v', h, hv => by cases hv; cases h; exact .int k n
 | .str s, r, v', h, hv => by cases hv; cases h; exact .str s
 | .bN, r, v', h, hv => by cases hv; cases h; exact .bN
 | .ae, r, v', h, hv => by cases hv; cases h; exact .ae
 | .bF, r, v', h, hv => by cases hv; cases h; exact .bF
 | .aO, r, v', h, hv => by cases hv; cases h; exact .aO
 | .aJ, r, v', h, hv => by cases hv; cases h; exact .aJ
 | .ptr _ _, r, v', h, hv => by simp [oZ] at h
 | .map _, r, v', h, hv => by simp [oZ] at h
 | .fL _ _ _ _, r, v', h, hv => by simp [oZ] at h
 | .fz t e els, r, v', h, hv => by
  simp only [oZ, bj] at h; subst h
  cases hv with
  | fz hr ht hc => exact .fz (hr.low.ext (M5 hg.ok)) (.inl rfl) hc
  | BY ht => exact .BY (.inl rfl)
 | .slice b off n cap, r, v', h, hv => by
  cases hv with
  | @slice _ _ c _ _ _ hb =>
  simp only [oZ] at h;have hB := hg.dj b c hb
  cases VK : m.get b with
  | dead => simp [VK] at h
  | map es => simp [VK] at h
  | cells cs e k ro =>
   rw [VK] at hB;obtain ⟨mf, xw, hs⟩ := hB
   simp only [VK] at h
   cases JV : Al cap n <;> simp only [JV, cond_true, cond_false, reduceCtorEq] at h
   cases hl : (off + n * e).ble cs.length <;> simp only [hl, cond_true, cond_false, reduceCtorEq] at h
   have hle := rc hl
   obtain ⟨ys, hy, rfl⟩ := kr.1 h
   have Tv := hF _ _ _ hy ((hs.drop off).take (n * e))
   have hyl : ys.length = n * e := by rw [Tv.length, List.length_take, uE, <- hs.length]; omega
   obtain ⟨q1, q2⟩ := GZ n ys hyl
   have ev := TT (m' := m') hb
   rw [xw] at ev;have hr : SR (θ.end_ m') e (chunk e n ys) c off := .mk ev q1 (by rw [sk, <- hs.length]; exact hle) (by rw [q2, sk]; exact Tv)
   have := SV.fz (t := 0) (cap := cap) hr (.inl rfl) (fun q hq => by subst hq; rw [sk]; exact rc JV)
   rw [sk] at this; exact this
 | .agg x, r, v', h, hv => by
  simp only [oZ] at h;obtain ⟨y, hy, rfl⟩ := kr.1 h
  cases hv with | agg hx => exact .agg (rW hg hF hy hx)
 | .tuple x, r, v', h, hv => by
  simp only [oZ] at h;obtain ⟨y, hy, rfl⟩ := kr.1 h
  cases hv with | tuple hx => exact .tuple (rW hg hF hy hx)
 | .iface t x, r, v', h, hv => by
  simp only [oZ] at h;obtain ⟨y, hy, rfl⟩ := kr.1 h
  cases hv with | iface hx => exact .iface (NE hg hF hy hx)
 | .func f x y, r, v', h, hv => by
  simp only [oZ] at h
  cases h1 : jA F m x with
  | none => simp [h1] at h
  | some a =>
   cases h2 : jA F m y with
   | none => simp [h1, h2] at h
   | some b =>
    simp only [h1, h2, bj] at h; subst h
    cases hv with | func hx hy => exact .func (rW hg hF h1 hx) (rW hg hF h2 hy)
theorem rW (hg : gR θ m m') (hF : ∀ l r l', F l = some r -> dZ θ l l' -> dZ (θ.end_ m') r l') : ∀ {l r l' : List EV}, jA F m l = some r -> dZ θ l l' -> dZ (θ.end_ m') r l'
 | [], r, l', h, hv => by
  have := hv.HD; subst this
  simp only [jA, bj] at h; subst h; exact .nil
 | v :: l, r, l', h, hv => by
  obtain ⟨a, b, h1, h2, rfl⟩ := GQ h
  obtain ⟨v', r', rfl, g1, g2⟩ := hv.cons_inv
  exact .cons (NE hg hF h1 g1) (rW hg hF h2 g2)
end
theorem vf (hg : gR θ m m') : ∀ (d : Nat) (l r l' : List EV), cG d m l = some r -> dZ θ l l' -> dZ (θ.end_ m') r l'
 | 0, l, r, l', h, _ => by simp [cG] at h
 | d + 1, l, r, l', h, hv => rW hg (vf hg d) h hv
mutual
theorem EX : ∀ {v r v' : EV}, oZ F m v = some r -> closed v = true -> SV θ v v' -> SV θ.low r v'
 | .undef, r, v', h, _, hv => by cases hv; cases h; exact .undef
 | .bool b, r, v', h, _, hv => by cases hv; cases h; exact .bool b
 | .int k n, r, v', h, _, hv => by cases hv; cases h; exact .int k n
 | .str s, r, v', h, _, hv => by cases hv; cases h; exact .str s
 | .bN, r, v', h, _, hv => by cases hv; cases h; exact .bN
 | .ae, r, v', h, _, hv => by cases hv; cases h; exact .ae
 | .bF, r, v', h, _, hv => by cases hv; cases h; exact .bF
 | .aO, r, v', h, _, hv => by cases hv; cases h; exact .aO
 | .aJ, r, v', h, _, hv => by cases hv; cases h; exact .aJ
 | .ptr _ _, r, v', h, _, hv => by simp [oZ] at h
 | .map _, r, v', h, _, hv => by simp [oZ] at h
 | .fL _ _ _ _, r, v', h, _, hv => by simp [oZ] at h
 | .slice _ _ _ _, r, v', h, hc, hv => by simp [closed] at hc
 | .fz t e els, r, v', h, _, hv => by
  simp only [oZ, bj] at h; subst h
  cases hv with
  | fz hr ht hc => exact .fz hr.low (.inl rfl) hc
  | BY ht => exact .BY (.inl rfl)
 | .agg x, r, v', h, hc, hv => by
  simp only [oZ] at h;obtain ⟨y, hy, rfl⟩ := kr.1 h
  cases hv with | agg hx => exact .agg (lz hy (by simpa only [closed] using hc) hx)
 | .tuple x, r, v', h, hc, hv => by
  simp only [oZ] at h;obtain ⟨y, hy, rfl⟩ := kr.1 h
  cases hv with | tuple hx => exact .tuple (lz hy (by simpa only [closed] using hc) hx)
 | .iface t x, r, v', h, hc, hv => by
  simp only [oZ] at h;obtain ⟨y, hy, rfl⟩ := kr.1 h
  cases hv with | iface hx => exact .iface (EX hy (by simpa only [closed] using hc) hx)
 | .func f x y, r, v', h, hc, hv => by
  simp only [oZ] at h;simp only [closed, pL] at hc
  cases h1 : jA F m x with
  | none => simp [h1] at h
  | some a =>
   cases h2 : jA F m y with
   | none => simp [h1, h2] at h
   | some b =>
    simp only [h1, h2, bj] at h; subst h
    cases hv with | func hx hy => exact .func (lz h1 hc.1 hx) (lz h2 hc.2 hy)
theorem lz : ∀ {l r l' : List EV}, jA F m l = some r -> fQ l = true -> dZ θ l l' -> dZ θ.low r l'
 | [], r, l', h, _, hv => by
  have := hv.HD; subst this
  simp only [jA, bj] at h; subst h; exact .nil
 | v :: l, r, l', h, hc, hv => by
  simp only [fQ, pL] at hc;obtain ⟨a, b, h1, h2, rfl⟩ := GQ h
  obtain ⟨v', r', rfl, g1, g2⟩ := hv.cons_inv
  exact .cons (EX h1 hc.1 g1) (lz h2 hc.2 g2)
end
def gK : Nat -> List EV -> List EV
 | _, [] => []
 | i, v :: r => (match v with | .fz _ e els => .fz i e els | v => v) :: gK (i + 1) r
def Qd (l : List EV) (t : Nat) : Option (Nat × Nat × Option Nat) := match l[t - 1]? with
 | some (.slice b off _ cap) => some (b, off, cap)
 | _ => none
theorem Ce {S : Nat -> Option fM} {tg : Nat -> Option (Nat × Nat × Option Nat)} : ∀ (l l' : List EV) (i : Nat), (∀ j b off n cap, l'[j]? = some (.slice b off n cap) -> tg (i + j) = some (b, off, cap)) -> dZ ⟨fun _ => none, fun _ => none, S⟩ l l' -> dZ ⟨fun _ => none, tg, S⟩ (gK i l) l'
 | [], l', i, _, h => by have := h.HD; subst this; exact .nil
 | v :: l, l', i, ht, h => by
  obtain ⟨v', r', rfl, g1, g2⟩ := h.cons_inv
  have e : cK.Ext ⟨fun _ => none, fun _ => none, S⟩ ⟨fun _ => none, tg, S⟩ := ⟨fun _ _ h => by simp at h, fun _ _ h => by simp at h, fun _ _ h => h⟩
  refine .cons ?_ (Ce l r' (i + 1) (fun j b off n cap hj => by have := ht (j + 1) b off n cap (by simpa using hj); rw [show i + 1 + j = i + (j + 1) by omega]; exact this) g2)
  have rP : SV ⟨fun _ => none, tg, S⟩ v v' := g1.ext e
  cases v <;> try exact rP
  cases g1 with
  | fz hr _ hc => exact .fz (hr.ext e) (.inr (by have := ht 0 _ _ _ _ rfl; exact this)) hc
  | BY _ => exact .BY (.inr (by have := ht 0 _ _ _ _ rfl; exact this))
theorem D9 (l : List EV) : ∀ j b off n cap, l[j]? = some (.slice b off n cap) -> Qd l (1 + j) = some (b, off, cap) := by
 intro j b off n cap h
 unfold Qd;rw [show 1 + j - 1 = j by omega, h]
end
def aQ : Mem := ⟨0, .leaf⟩
theorem OU (b : Nat) : aQ.get b = .dead := QV 0 b
def deep : Nat := 8
def kE (g : List EV -> Option EV) (args : List EV) (m : Mem) : Option Fin := match cG deep m args with
 | some eT => match g (gK 1 eT) with
  | some V => bif Flat V then some (.ret V m) else none
  | none => none
 | none => none
def kD (g : List EV -> Option EV) (args : List EV) (m : Mem) : Option Fin := bif fQ args then match cG deep m args with
 | some eT => match g (gK 1 eT) with
  | some V => some (.ret V ⟨m.next + 1, m.gM⟩)
  | none => none
 | none => none else none
noncomputable def qU (T : Nat -> Option iM) (F : az) (eT : List EV) : Option EV := bif eT.length.ble F.ntmps then
 match s6 F (exec T F.body ⟨cQ eT 0 .leaf, []⟩ aQ) with
 | some (.ret v m) => match cG deep m [v] with
  | some [V] => some V
  | _ => none
 | _ => none else none
section
variable {T T1 : Nat -> Option iM}
theorem TZ {F : az} {eT : List EV} {fin : Fin} (hl : eT.length.ble F.ntmps = true) (h : s6 F (exec T1 F.body ⟨cQ eT 0 .leaf, []⟩ aQ) = some fin) : ∃ n, dG (aW T1 n) n F eT aQ = some fin := by
 cases hc : exec T1 F.body ⟨cQ eT 0 .leaf, []⟩ aQ with
 | none => simp [hc, s6] at h
 | some o =>
  obtain ⟨n, hn⟩ := cr.1 hc
  refine ⟨n, ?_⟩
  rw [hc] at h;simp only [dG, hl, cond_true, hn]
  cases o <;> exact h
theorem TS {F : az} {eT : List EV} {fin : Fin} {n : Nat} (h : dG (aW T1 n) n F eT aQ = some fin) : eT.length.ble F.ntmps = true /\ s6 F (exec T1 F.body ⟨cQ eT 0 .leaf, []⟩ aQ) = some fin := by
 unfold dG at h
 cases hl : eT.length.ble F.ntmps <;> simp only [hl, cond_true, cond_false, reduceCtorEq] at h
 refine ⟨rfl, ?_⟩
 cases hc : aw (aW T1 n) n F.body ⟨cQ eT 0 .leaf, []⟩ aQ with
 | none => simp [hc] at h
 | some o =>
  rw [cr.2 ⟨n, hc⟩];simp only [hc] at h
  cases o <;> exact h
theorem Be {F : az} {eT : List EV} {V : EV} (h : qU T1 F eT = some V) : ∃ n v m, dG (aW T1 n) n F eT aQ = some (.ret v m) /\ cG deep m [v] = some [V] := by
 unfold qU at h
 cases hl : eT.length.ble F.ntmps <;> simp only [hl, cond_true, cond_false, reduceCtorEq] at h
 cases hr : s6 F (exec T1 F.body ⟨cQ eT 0 .leaf, []⟩ aQ) with
 | none => simp [hr] at h
 | some fin =>
  cases fin with
  | gO v m => simp [hr] at h
  | ret v m =>
   simp only [hr] at h;obtain ⟨n, hn⟩ := TZ hl hr
   refine ⟨n, v, m, hn, ?_⟩
   split at h
   ·rename_i q; cases h; exact q
   ·cases h
theorem Ao {F : az} {eT : List EV} {V v : EV} {m : Mem} {n : Nat} (h : dG (aW T1 n) n F eT aQ = some (.ret v m)) (hv : cG deep m [v] = some [V]) : qU T1 F eT = some V := by
 obtain ⟨h1, h2⟩ := TS h
 unfold qU;simp only [h1, cond_true, h2, hv]
theorem pure_run (h1 : ∀ f e, T1 f = some e -> ij T f e) {f : Nat} {F : az} (hT : T f = some (.go F)) (eu : lN F = true) {eT : List EV} {V : EV} (h : qU T1 F.sub eT = some V) {tg : Nat -> Option (Nat × Nat × Option Nat)} {S : Nat -> Option fM} {m' : Mem} {aA : List EV}
  (O9 : ∀ b B, S b = some B -> m'.get b = B /\ b < m'.next) (ha : dZ ⟨fun _ => none, tg, S⟩ eT aA) (RC : mX ⟨fun _ => none, tg, S⟩) :
  ∃ v' m1 fW θ, run T f aA m' = some (.ret v' fW) /\ ot ⟨fun _ => none, tg, S⟩ aQ m' θ m1 fW /\ gR θ m1 fW /\ SV (θ.end_ fW) V v' := by
 obtain ⟨n, v, m, hb, hf⟩ := Be h
 have hg : gR ⟨fun _ => none, tg, S⟩ aQ m' := ⟨⟨⟨fun b c hb => by simp at hb, fun b _ => OU b⟩, fun b B hb => (O9 b B hb).1⟩, ⟨fun b c hb => by simp at hb, fun a b c hb => by simp at hb, fun b c hb => by simp at hb, fun b B hb => (O9 b B hb).2⟩, RC⟩
 obtain ⟨θ, J3, e, hs, ev⟩ := Fh (Dm h1 n) n hT eu hb hg ha
 cases hs with
 | @ret _ v' _ fW hv hg1 =>
  have := vf hg1 deep [v] [V] [v'] hf (.cons hv .nil)
  obtain ⟨w, r, hw, q1, q2⟩ := this.cons_inv
  cases hw
  exact ⟨v', m, fW, θ, e, ev, hg1, q1⟩
theorem Gp (h1 : ∀ f e, T1 f = some e -> ij T f e) {f : Nat} {F : az} (hT : T f = some (.go F)) (eu : lN F = true) {g : List EV -> Option EV} (hg : ∀ eT V, g eT = some V -> qU T1 F.sub eT = some V) : ij T f (.spec (kE g)) := by
 intro θ m m' args aA fin nY ha h
 unfold kE at h
 cases hfz : cG deep m args with
 | none => simp [hfz] at h
 | some eT =>
  simp only [hfz] at h
  cases hv : g (gK 1 eT) with
  | none => simp [hv] at h
  | some V =>
   simp only [hv] at h
   cases FT : Flat V <;> simp only [FT, cond_true, cond_false, reduceCtorEq, bj] at h
   subst h;have hs := vf nY deep args eT aA hfz ha
   obtain ⟨v', m1, fW, θ1, e, ev, hg1, zu⟩ := pure_run h1 hT eu (hg _ _ hv) (m' := m') (S := (θ.end_ m').gX) (fun b B hb => by
    rcases Ig hb with ⟨⟨x, hx⟩, rfl⟩ | hb
    ·exact ⟨rfl, (nY.ok.ik x b hx).2⟩
    ·exact ⟨nY.gX b B hb, nY.ok.gX b B hb⟩) (Ce eT aA 1 (D9 aA) hs) (nY.FE.down ⟨fun _ _ h => (by simp [cK.low] at h), fun _ _ h => (by simp [cK.low] at h), (M5 nY.ok).gX⟩)
   have := zu.flat FT
   subst this;have rP : ∀ c, c < m'.next -> fW.get c = m'.get c := fun c hc => ev.rP c hc fun b hb => by simp at hb
   refine ⟨θ, _, e, .ret (SV.of_flat FT) ⟨⟨⟨fun b c hb => ?_, nY.cl⟩, fun b B hb => ?_⟩, ⟨fun b c hb => ⟨(nY.ok.ik b c hb).1, mr (nY.ok.ik b c hb).2 ev.n2⟩, nY.ok.inj, nY.ok.off, fun b B hb => mr (nY.ok.gX b B hb) ev.n2⟩, nY.FE⟩,
    ⟨.refl θ, fun _ _ h => .inl h, fun _ _ h => .inl h, eX _, ev.n2, fun c hc _ => rP c hc⟩⟩
   ·rw [rP c (nY.ok.ik b c hb).2]; exact nY.dj b c hb
   ·rw [rP b (nY.ok.gX b B hb)]; exact nY.gX b B hb
theorem OE (h1 : ∀ f e, T1 f = some e -> ij T f e) {f : Nat} {F : az} (hT : T f = some (.go F)) (eu : lN F = true) {g : List EV -> Option EV} (hg : ∀ eT V, g eT = some V -> qU T1 F.sub eT = some V) : ij T f (.spec (kD g)) := by
 intro θ m m' args aA fin nY ha h
 unfold kD at h
 cases oY : fQ args <;> simp only [oY, cond_true, cond_false, reduceCtorEq] at h
 cases hfz : cG deep m args with
 | none => simp [hfz] at h
 | some eT =>
  simp only [hfz] at h
  cases hv : g (gK 1 eT) with
  | none => simp [hv] at h
  | some V =>
   simp only [hv, bj] at h;subst h;have hs : dZ θ.low eT aA := lz (F := cG 7 m) (m := m) hfz oY ha
   obtain ⟨v', m1, fW, θ1, e, ev, hg1, zu⟩ := pure_run h1 hT eu (hg _ _ hv) (m' := m') (S := θ.gX) (fun b B hb => ⟨nY.gX b B hb, nY.ok.gX b B hb⟩) (Ce eT aA 1 (D9 aA) hs) (nY.FE.down ⟨fun _ _ h => (by simp [cK.low] at h), fun _ _ h => (by simp [cK.low] at h), fun _ _ h => h⟩)
   have rP : ∀ c, c < m'.next -> fW.get c = m'.get c := fun c hc => ev.rP c hc fun b hb => by simp at hb
   let θ2 : cK := ⟨θ.ik, θ.tag, fun c => if c < m'.next then θ.gX c else (θ1.end_ fW).gX c⟩
   have s1 : ∀ c, c < m'.next -> θ2.gX c = θ.gX c := fun c hc => if_pos hc
   have s2 : ∀ c, ¬ c < m'.next -> θ2.gX c = (θ1.end_ fW).gX c := fun c hc => if_neg hc
   have KI : ∀ c B, (θ1.end_ fW).gX c = some B -> fW.get c = B /\ c < fW.next := by
    intro c B hb
    rcases Ig hb with ⟨⟨x, hx⟩, rfl⟩ | hb
    ·exact ⟨rfl, (hg1.ok.ik x c hx).2⟩
    ·exact ⟨hg1.gX c B hb, hg1.ok.gX c B hb⟩
   have abZ : cK.Ext (θ1.end_ fW) θ2 := by
    refine ⟨fun _ _ h => (by simp [cK.end_] at h), fun _ _ h => (by simp [cK.end_] at h), fun c B hb => ?_⟩
    by_cases hc : c < m'.next
    ·rw [s1 c hc]
     rcases Ig hb with ⟨⟨x, hx⟩, rfl⟩ | hb
     ·rcases ev.ik x c hx with q | ⟨_, q⟩
      ·simp at q
      ·omega
     ·rcases ev.gX c B hb with q | ⟨q, _⟩
      ·exact q
      ·omega
    ·rw [s2 c hc]; exact hb
   have ext : cK.Ext θ θ2 := ⟨fun _ _ h => h, fun _ _ h => h, fun c B hb => by rw [s1 c (nY.ok.gX c B hb)]; exact hb⟩
   refine ⟨θ2, _, e, .ret (zu.ext abZ) ⟨⟨⟨fun b c hb => ?_, nY.cl⟩, fun c B hb => ?_⟩, ⟨fun b c hb => ⟨Nat.lt_succ_of_lt (nY.ok.ik b c hb).1, mr (nY.ok.ik b c hb).2 ev.n2⟩, nY.ok.inj, fun b c hb => ?_, fun c B hb => ?_⟩, nY.FE.ext ext⟩,
    ⟨ext, fun _ _ h => .inl h, fun c B hb => ?_, Nat.le_succ _, ev.n2, fun c hc _ => rP c hc⟩⟩
   ·have := nY.ok.ik b c hb
    rw [rP c this.2]; exact (nY.dj b c hb).ext ext
   ·by_cases hc : c < m'.next
    ·rw [s1 c hc] at hb; rw [rP c hc]; exact nY.gX c B hb
    ·rw [s2 c hc] at hb; exact (KI c B hb).1
   ·rw [s1 c (nY.ok.ik b c hb).2]; exact nY.ok.off b c hb
   ·by_cases hc : c < m'.next
    ·exact mr hc ev.n2
    ·rw [s2 c hc] at hb; exact (KI c B hb).2
   ·by_cases hc : c < m'.next
    ·rw [s1 c hc] at hb; exact .inl hb
    ·exact .inr ⟨Nat.le_of_not_lt hc, Nat.lt_succ_self _⟩
end
end
section
def PT (T : Nat -> Option iM) (K : Nat -> Nat) (P : Nat -> List EV -> Option EV) (f : Nat) : Option iM := match K f with
 | 0 => T f
 | 1 => some (.spec (kE (P f)))
 | _ => some (.spec (kD (P f)))
noncomputable def PF (T : Nat -> Option iM) (K : Nat -> Nat) : Nat -> Nat -> List EV -> Option EV
 | 0, _, _ => none
 | k + 1, f, eT => match T f with
  | some (.go F) => qU (PT T K (PF T K k)) F eT
  | _ => none
noncomputable def bA (T : Nat -> Option iM) (K : Nat -> Nat) (f : Nat) (eT : List EV) : Option EV := Sx fun k => PF T K k f eT
noncomputable def UT (T : Nat -> Option iM) (K : Nat -> Nat) : Nat -> Option iM := PT T K (bA T K)
def Zb (P P' : Nat -> List EV -> Option EV) : Prop := ∀ f eT V, P f eT = some V -> P' f eT = some V
theorem OD {g g' : List EV -> Option EV} (h : ∀ eT V, g eT = some V -> g' eT = some V) {args : List EV} {m : Mem} {r : Fin} (e : kE g args m = some r) : kE g' args m = some r := by
 unfold kE at e ⊢
 cases hf : cG deep m args with
 | none => simp [hf] at e
 | some eT =>
  simp only [hf] at e ⊢
  cases hv : g (gK 1 eT) with
  | none => simp [hv] at e
  | some V => rw [h _ _ hv]; simp only [hv] at e ⊢; exact e
theorem OC {g g' : List EV -> Option EV} (h : ∀ eT V, g eT = some V -> g' eT = some V) {args : List EV} {m : Mem} {r : Fin} (e : kD g args m = some r) : kD g' args m = some r := by
 unfold kD at e ⊢
 cases hc : fQ args <;> simp only [hc, cond_true, cond_false, reduceCtorEq] at e ⊢
 cases hf : cG deep m args with
 | none => simp [hf] at e
 | some eT =>
  simp only [hf] at e ⊢
  cases hv : g (gK 1 eT) with
  | none => simp [hv] at e
  | some V => rw [h _ _ hv]; simp only [hv] at e ⊢; exact e
theorem Fs {T : Nat -> Option iM} {K : Nat -> Nat} {P P' : Nat -> List EV -> Option EV} (h : Zb P P') : ∀ n, oa (aW (PT T K P) n) (aW (PT T K P') n)
 | 0 => fun f a m r e => by simp [aW] at e
 | n + 1 => fun f a m r e => by
  simp only [aW] at e ⊢
  rcases hK : K f with _ | _ | q <;> simp only [PT, hK] at e ⊢
  ·cases hT : T f with
   | none => simp [hT] at e
   | some x =>
    simp only [hT] at e ⊢
    cases x with
    | go F => simp only [iD] at e ⊢; exact o0 (Fs h n) (eX _) e
    | ext g => exact e
    | pure g => exact e
    | spec g => exact e
    | NV F D => simp only [iD] at e ⊢; exact E4 (Fs h n) (eX _) e
  ·simp only [iD] at e ⊢; exact OD (h f) e
  ·simp only [iD] at e ⊢; exact OC (h f) e
theorem Kt {T1 T2 : Nat -> Option iM} (h : ∀ n, oa (aW T1 n) (aW T2 n)) {F : az} {eT : List EV} {V : EV} (e : qU T1 F eT = some V) : qU T2 F eT = some V := by
 obtain ⟨n, v, m, hb, hf⟩ := Be e
 exact Ao (o0 (h n) (eX _) hb) hf
theorem N8 {T : Nat -> Option iM} {K : Nat -> Nat} : ∀ k, Zb (PF T K k) (PF T K (k + 1))
 | 0 => fun f eT V e => by simp [PF] at e
 | k + 1 => fun f eT V e => by
  simp only [PF] at e ⊢
  cases hT : T f with
  | none => simp [hT] at e
  | some x =>
   cases x with
   | go F => simp only [hT] at e ⊢; exact Kt (Fs (N8 k)) e
   | ext g => simp [hT] at e
   | pure g => simp [hT] at e
   | spec g => simp [hT] at e
   | NV F D => simp [hT] at e
theorem N9 {T : Nat -> Option iM} {K : Nat -> Nat} {k k' : Nat} (h : k <= k') : Zb (PF T K k) (PF T K k') := by
 induction h with
 | refl => exact fun _ _ _ e => e
 | step _ ih => exact fun f eT V e => N8 _ f eT V (ih f eT V e)
theorem Tf {T : Nat -> Option iM} {K : Nat -> Nat} {f : Nat} {eT : List EV} : Ft fun k => PF T K k f eT := fun _ _ _ h e => N9 h f eT _ e
theorem mK {T : Nat -> Option iM} {K : Nat -> Nat} {f : Nat} {eT : List EV} {V : EV} : bA T K f eT = some V ↔ ∃ k, PF T K k f eT = some V := qy Tf
section
variable {c : Call} {ck : Nat -> Call} (hm : ∀ k k', k <= k' -> oa (ck k) (ck k')) (hc : ∀ f a m r, c f a m = some r -> ∃ k, ck k f a m = some r)
include hm hc
theorem E3 {fv : EV} {a : List EV} {m : Mem} {r : Fin} (e : fR c fv a m = some r) : ∃ k, fR (ck k) fv a m = some r := by
 cases fv <;> simp only [fR, reduceCtorEq] at e ⊢
 exact hc _ _ _ _ e
theorem sf : ∀ (ops : List bd) (fr : Fr) (m : Mem) (r : Out), gY c ops fr m = some r -> ∃ k, gY (ck k) ops fr m = some r
 | [], fr, m, r, e => ⟨0, e⟩
 | o :: ops, fr, m, r, e => by
  simp only [gY] at e ⊢
  cases hw : bm fr o.guard with
  | none => simp [hw] at e
  | some b =>
  cases b with
  | false => simp only [hw] at e ⊢; exact sf ops _ _ _ e
  | true =>
   simp only [hw] at e ⊢
   cases ho : o.op with
   | val op =>
    simp only [ho] at e ⊢
    cases hv : aF fr.eval op m with
    | none => simp [hv] at e
    | some q => obtain ⟨v, m1⟩ := q; simp only [hv] at e ⊢; exact sf ops _ _ _ e
   | call f args =>
    simp only [ho] at e ⊢
    cases hv : fR c (fr.eval f) (args.map fr.eval) m with
    | none => simp [hv] at e
    | some q =>
     obtain ⟨k1, h1⟩ := E3 hm hc hv
     cases q with
     | ret v m1 =>
      simp only [hv] at e;obtain ⟨k2, h2⟩ := sf ops _ _ _ e
      refine ⟨max k1 k2, ?_⟩
      rw [wV (hm k1 _ (Nat.le_max_left _ _)) h1];exact pC (hm k2 _ (Nat.le_max_right _ _)) _ _ _ _ h2
     | gO v m1 => simp only [hv] at e; exact ⟨k1, by rw [h1]; exact e⟩
   | panic x => simp only [ho] at e ⊢; exact ⟨0, e⟩
   | defer f args =>
    simp only [ho] at e ⊢
    split at e
    ·rename_i hx
     obtain ⟨k, h⟩ := sf ops _ _ _ e
     exact ⟨k, h⟩
    ·cases e
theorem j0 {chk : List (Nat × Nat)} {B0 : Nat} : ∀ (ops : List bd) (i : Nat) (fr : Fr) (m : Mem) (sn : List (Nat × Mem)) (se : List Seen) (r : Out), dR c chk B0 ops i fr m sn se = some r -> ∃ k, dR (ck k) chk B0 ops i fr m sn se = some r
 | [], i, fr, m, sn, se, r, e => ⟨0, e⟩
 | o :: ops, i, fr, m, sn, se, r, e => by
  simp only [dR] at e ⊢
  cases hw : bm fr o.guard with
  | none => simp [hw] at e
  | some b =>
  cases b with
  | false => simp only [hw] at e ⊢; exact j0 ops _ _ _ _ _ _ e
  | true =>
   simp only [hw] at e ⊢
   cases ho : o.op with
   | val op =>
    simp only [ho] at e ⊢
    split at e
    ·cases hv : aF fr.eval op m with
     | none => simp [hv] at e
     | some q => obtain ⟨v, m1⟩ := q; simp only [hv] at e ⊢; exact j0 ops _ _ _ _ _ _ e
    ·cases hv : aF fr.eval op ⟨B0 + i, m.gM⟩ with
     | none => simp [hv] at e
     | some q => obtain ⟨v, m1⟩ := q; simp only [hv] at e ⊢; exact j0 ops _ _ _ _ _ _ e
    ·split at e
     ·rename_i agg x _
      cases hl : m.load agg (fr.eval x) with
      | none => simp [hl] at e
      | some v =>
       simp only [hl] at e ⊢
       cases hf : GF (fr.eval x) <;> simp only [hf, cond_true, cond_false] at e ⊢
       ·cases hk : bK chk i agg (fr.eval x) v sn <;> simp only [hk, cond_true, cond_false, reduceCtorEq] at e ⊢
        exact j0 ops _ _ _ _ _ _ e
       ·cases hk : dV chk i m.next sn <;> simp only [hk, cond_true, cond_false, reduceCtorEq] at e ⊢
        exact j0 ops _ _ _ _ _ _ e
     ·cases e
    ·rename_i h0 h1 h2
     cases hv : aF fr.eval op m with
     | none => simp [hv] at e
     | some q =>
      obtain ⟨v, m1⟩ := q
      simp only [hv] at e ⊢
      cases hk : bc chk i m1 se <;> simp only [hk, cond_true, cond_false, reduceCtorEq] at e ⊢
      exact j0 ops _ _ _ _ _ _ e
   | call f args =>
    simp only [ho] at e ⊢
    cases hv : fR c (fr.eval f) (args.map fr.eval) m with
    | none => simp [hv] at e
    | some q =>
     obtain ⟨k1, h1⟩ := E3 hm hc hv
     cases q with
     | ret v m1 =>
      simp only [hv] at e
      cases hk : bc chk i m1 se <;> simp only [hk, cond_true, cond_false, reduceCtorEq] at e
      obtain ⟨k2, h2⟩ := j0 ops _ _ _ _ _ _ e
      refine ⟨max k1 k2, ?_⟩
      rw [wV (hm k1 _ (Nat.le_max_left _ _)) h1];simp only [hk, cond_true];exact jL (hm k2 _ (Nat.le_max_right _ _)) _ _ _ _ _ _ _ h2
     | gO v m1 => simp [hv] at e
   | panic x => simp [ho] at e
   | defer f args => simp [ho] at e
theorem JC {n : Nat} {a : aE} (ha : ∀ fr m r, aw c n a fr m = some r -> ∃ k, aw (ck k) n a fr m = some r) : ∀ (j : Nat) (fr : Fr) (m : Mem) (r : Out), iter (aw c n a) j fr m = some r -> ∃ k, iter (aw (ck k) n a) j fr m = some r
 | 0, fr, m, r, e => by simp [iter] at e
 | j + 1, fr, m, r, e => by
  simp only [iter] at e ⊢
  cases hb : aw c n a fr m with
  | none => simp [hb] at e
  | some o =>
   obtain ⟨k1, h1⟩ := ha _ _ _ hb
   simp only [hb] at e
   cases o with
   | norm fY m1 =>
    obtain ⟨k2, h2⟩ := JC ha j fY m1 r e
    refine ⟨max k1 k2, ?_⟩
    rw [fc (hm k1 _ (Nat.le_max_left k1 k2)) (eX _) _ _ _ _ h1];exact zm (fun fr m r e => fc (hm k2 _ (Nat.le_max_right k1 k2)) (eX _) _ _ _ _ e) j j (eX _) _ _ _ h2
   | exit id fY m1 => exact ⟨k1, by rw [h1]; exact e⟩
   | ret fY m1 => exact ⟨k1, by rw [h1]; exact e⟩
   | gO v fY m1 => exact ⟨k1, by rw [h1]; exact e⟩
theorem jB {n : Nat} : ∀ (x : aE) (fr : Fr) (m : Mem) (r : Out), aw c n x fr m = some r -> ∃ k, aw (ck k) n x fr m = some r
 | .skip, fr, m, r, e => ⟨0, e⟩
 | .ret, fr, m, r, e => ⟨0, e⟩
 | .exit id, fr, m, r, e => ⟨0, e⟩
 | .region ops, fr, m, r, e => by simp only [aw] at e ⊢; exact sf hm hc _ _ _ _ e
 | .draw ops chk, fr, m, r, e => by simp only [aw] at e ⊢; exact j0 hm hc _ _ _ _ _ _ _ e
 | .seq a b, fr, m, r, e => by
  simp only [aw] at e ⊢
  cases ha : aw c n a fr m with
  | none => simp [ha] at e
  | some o =>
   obtain ⟨k1, h1⟩ := jB a _ _ _ ha
   simp only [ha] at e
   cases o with
   | norm fY m1 =>
    obtain ⟨k2, h2⟩ := jB b _ _ _ e
    refine ⟨max k1 k2, ?_⟩
    rw [fc (hm k1 _ (Nat.le_max_left k1 k2)) (eX _) _ _ _ _ h1];exact fc (hm k2 _ (Nat.le_max_right k1 k2)) (eX _) _ _ _ _ h2
   | exit id fY m1 => exact ⟨k1, by rw [h1]; exact e⟩
   | ret fY m1 => exact ⟨k1, by rw [h1]; exact e⟩
   | gO v fY m1 => exact ⟨k1, by rw [h1]; exact e⟩
 | .cond x a b, fr, m, r, e => by
  simp only [aw] at e ⊢
  split at e
  ·rename_i t _
   cases t <;> simp only [cond_true, cond_false] at e ⊢
   ·exact jB b _ _ _ e
   ·exact jB a _ _ _ e
  ·cases e
 | .block id a, fr, m, r, e => by
  simp only [aw] at e ⊢
  cases ha : aw c n a fr m with
  | none => simp [ha] at e
  | some o =>
   obtain ⟨k1, h1⟩ := jB a _ _ _ ha
   simp only [ha] at e;exact ⟨k1, by rw [h1]; exact e⟩
 | .loop a, fr, m, r, e => by
  simp only [aw] at e ⊢
  exact JC hm hc (fun fr m r => jB a fr m r) n fr m r e
theorem yb {n : Nat} {F : az} {args : List EV} {m : Mem} {r : Fin} (e : dG c n F args m = some r) : ∃ k, dG (ck k) n F args m = some r := by
 unfold dG at e ⊢
 cases hl : args.length.ble F.ntmps <;> simp only [hl, cond_true, cond_false, reduceCtorEq] at e ⊢
 cases KH : aw c n F.body ⟨cQ args 0 .leaf, []⟩ m with
 | none => simp [KH] at e
 | some o =>
  obtain ⟨k, h⟩ := jB hm hc _ _ _ _ KH
  simp only [KH] at e;exact ⟨k, by rw [h]; exact e⟩
theorem J7 {n d : Nat} {F : az} {args : List EV} {u : Option EV} {m r : Mem} (e : fI c n d F args u m = some r) : ∃ k, fI (ck k) n d F args u m = some r := by
 unfold fI at e ⊢
 cases hl : args.length.ble F.ntmps <;> simp only [hl, cond_true, cond_false, reduceCtorEq] at e ⊢
 cases KH : aw c n F.body (Fr.set ⟨cQ args 0 .leaf, []⟩ d (u.getD .aJ)) m with
 | none => simp [KH] at e
 | some o =>
  obtain ⟨k, h⟩ := jB hm hc _ _ _ _ KH
  simp only [KH] at e;exact ⟨k, by rw [h]; exact e⟩
theorem lB {n : Nat} {rs : List mq} {D : List (Nat × Option Nat × az)} {fr : Fr} : ∀ (ds : List (Nat × List EV)) (u : Option EV) (m : Mem) (r : Fin), cU c n rs D fr ds u m = some r -> ∃ k, cU (ck k) n rs D fr ds u m = some r
 | [], none, m, r, e => ⟨0, e⟩
 | [], some v, m, r, e => ⟨0, e⟩
 | (g, args) :: ds, u, m, r, e => by
  simp only [cU] at e ⊢
  cases hd : mG g D with
  | none => simp [hd] at e
  | some q =>
   obtain ⟨b, F⟩ := q
   cases b with
   | some d =>
    simp only [hd] at e ⊢
    cases hb : fI c n d F args u m with
    | none => simp [hb] at e
    | some m1 =>
     simp only [hb] at e;obtain ⟨k1, h1⟩ := J7 hm hc hb
     obtain ⟨k2, h2⟩ := lB ds none m1 r e
     refine ⟨max k1 k2, ?_⟩
     rw [yc (hm _ _ (Nat.le_max_left k1 k2)) (eX _) h1];exact im (hm _ _ (Nat.le_max_right k1 k2)) (eX _) _ _ _ _ h2
   | none =>
    simp only [hd] at e ⊢
    cases hb : dG c n F args m with
    | none => simp [hb] at e
    | some fin =>
     simp only [hb] at e;obtain ⟨k1, h1⟩ := yb hm hc hb
     have A6 : ∀ {u2 : Option EV} {m2 : Mem}, (∃ k, cU (ck k) n rs D fr ds u2 m2 = some r) -> ∃ k2, dG (ck k2) n F args m = some fin /\ cU (ck k2) n rs D fr ds u2 m2 = some r := fun ⟨k2, h2⟩ =>
      ⟨max k1 k2, o0 (hm _ _ (Nat.le_max_left k1 k2)) (eX _) h1, im (hm _ _ (Nat.le_max_right k1 k2)) (eX _) _ _ _ _ h2⟩
     cases fin with
     | ret v m1 =>
      obtain ⟨k2, g1, g2⟩ := A6 (lB ds u m1 r e)
      exact ⟨k2, by simp only [g1]; exact g2⟩
     | gO v m1 =>
      cases u with
      | none =>
       obtain ⟨k2, g1, g2⟩ := A6 (lB ds (some v) m1 r e)
       exact ⟨k2, by simp only [g1]; exact g2⟩
      | some x => cases e
theorem J8 {n : Nat} {F : az} {D : List (Nat × Option Nat × az)} {args : List EV} {m : Mem} {r : Fin} (e : jC c n F D args m = some r) : ∃ k, jC (ck k) n F D args m = some r := by
 unfold jC at e ⊢
 cases hl : args.length.ble F.ntmps <;> simp only [hl, cond_true, cond_false, reduceCtorEq] at e ⊢
 cases KH : aw c n F.body ⟨cQ args 0 .leaf, []⟩ m with
 | none => simp [KH] at e
 | some o =>
  obtain ⟨k1, h1⟩ := jB hm hc _ _ _ _ KH
  simp only [KH] at e;have A6 : ∀ {fr : Fr} {ds : List (Nat × List EV)} {u2 : Option EV} {m2 : Mem}, (∃ k, cU (ck k) n F.results D fr ds u2 m2 = some r) -> ∃ k2, aw (ck k2) n F.body ⟨cQ args 0 .leaf, []⟩ m = some o /\ cU (ck k2) n F.results D fr ds u2 m2 = some r := fun ⟨k2, h2⟩ =>
   ⟨max k1 k2, fc (hm _ _ (Nat.le_max_left k1 k2)) (eX _) _ _ _ _ h1, im (hm _ _ (Nat.le_max_right k1 k2)) (eX _) _ _ _ _ h2⟩
  cases o with
  | exit id fr m1 => cases e
  | norm fr m1 =>
   obtain ⟨k2, g1, g2⟩ := A6 (lB hm hc _ _ _ _ e)
   exact ⟨k2, by simp only [g1]; exact g2⟩
  | ret fr m1 =>
   obtain ⟨k2, g1, g2⟩ := A6 (lB hm hc _ _ _ _ e)
   exact ⟨k2, by simp only [g1]; exact g2⟩
  | gO v fr m1 =>
   obtain ⟨k2, g1, g2⟩ := A6 (lB hm hc _ _ _ _ e)
   exact ⟨k2, by simp only [g1]; exact g2⟩
end
section
variable {T : Nat -> Option iM} {K : Nat -> Nat}
theorem Wd (k : Nat) : Zb (PF T K k) (bA T K) := fun _ _ _ e => mK.2 ⟨k, e⟩
theorem Si : ∀ (n f : Nat) (a : List EV) (m : Mem) (r : Fin), aW (UT T K) n f a m = some r -> ∃ k, aW (PT T K (PF T K k)) n f a m = some r
 | 0, f, a, m, r, e => by simp [aW] at e
 | n + 1, f, a, m, r, e => by
  have ih := Si n
  simp only [aW] at e ⊢
  rcases hK : K f with _ | _ | q <;> simp only [UT, PT, hK] at e ⊢
  ·cases hT : T f with
   | none => simp [hT] at e
   | some x =>
    simp only [hT] at e ⊢
    cases x with
    | go F =>
     simp only [iD] at e ⊢
     exact yb (c := aW (UT T K) n) (ck := fun k => aW (PT T K (PF T K k)) n) (fun k k' h => Fs (N9 h) n) ih e
    | ext g => exact ⟨0, e⟩
    | pure g => exact ⟨0, e⟩
    | spec g => exact ⟨0, e⟩
    | NV F D =>
     simp only [iD] at e ⊢
     exact J8 (c := aW (UT T K) n) (ck := fun k => aW (PT T K (PF T K k)) n) (fun k k' h => Fs (N9 h) n) ih e
  ·simp only [iD] at e ⊢
   unfold kE at e ⊢
   cases hf : cG deep m a with
   | none => simp [hf] at e
   | some eT =>
    simp only [hf] at e ⊢
    cases hv : bA T K f (gK 1 eT) with
    | none => simp [hv] at e
    | some V =>
     obtain ⟨k, hk⟩ := mK.1 hv
     simp only [hv] at e;exact ⟨k, by simp only [hk]; exact e⟩
  ·simp only [iD] at e ⊢
   unfold kD at e ⊢
   cases oY : fQ a <;> simp only [oY, cond_true, cond_false, reduceCtorEq] at e ⊢
   cases hf : cG deep m a with
   | none => simp [hf] at e
   | some eT =>
    simp only [hf] at e ⊢
    cases hv : bA T K f (gK 1 eT) with
    | none => simp [hv] at e
    | some V =>
     obtain ⟨k, hk⟩ := mK.1 hv
     simp only [hv] at e;exact ⟨k, by simp only [hk]; exact e⟩
theorem Er {f : Nat} {F : az} (hT : T f = some (.go F)) {eT : List EV} : bA T K f eT = qU (UT T K) F eT := by
 refine dl fun V => ⟨fun h => ?_, fun h => ?_⟩
 ·obtain ⟨k, hk⟩ := mK.1 h
  cases k with
  | zero => simp [PF] at hk
  | succ k =>
   simp only [PF, hT] at hk;exact Kt (Fs (Wd k)) hk
 ·obtain ⟨n, v, m, hb, hf⟩ := Be h
  obtain ⟨k, hk⟩ := yb (c := aW (UT T K) n) (ck := fun k => aW (PT T K (PF T K k)) n) (fun k k' h => Fs (N9 h) n) (Si n) hb
  refine mK.2 ⟨k + 1, ?_⟩
  simp only [PF, hT];exact Ao hk hf
theorem Sm {T0 : Nat -> Option iM} (hT : ∀ f e, T f = some e -> ij T0 f e) {P : Nat -> List EV -> Option EV} (hP : ∀ f, K f ≠ 0 -> ij T0 f (.spec (kE (P f))) /\ ij T0 f (.spec (kD (P f)))) : ∀ f e, PT T K P f = some e -> ij T0 f e := by
 intro f e h
 unfold PT at h
 split at h
 ·exact hT f e h
 ·rename_i hk; cases h; exact (hP f (by omega)).1
 ·rename_i hk _; cases h; exact (hP f (by omega)).2
theorem rK {T0 : Nat -> Option iM} {f : Nat} {g : List EV -> Option EV} (h : ∀ eT, g eT = none) : ij T0 f (.spec (kE g)) /\ ij T0 f (.spec (kD g)) := by
 constructor
 ·intro θ m m' args aA fin _ _ e
  unfold kE at e
  split at e
  ·rw [h] at e; cases e
  ·cases e
 ·intro θ m m' args aA fin _ _ e
  unfold kD at e
  cases oY : fQ args <;> simp only [oY, cond_true, cond_false, reduceCtorEq] at e
  split at e
  ·rw [h] at e; cases e
  ·cases e
theorem Mu {T0 : Nat -> Option iM} (hT : ∀ f e, T f = some e -> ij T0 f e) : ∀ k f, ij T0 f (.spec (kE (PF T K k f))) /\ ij T0 f (.spec (kD (PF T K k f)))
 | 0, f => rK fun eT => rfl
 | k + 1, f => by
  have ih := Sm (K := K) hT fun f _ => Mu hT k f
  cases he : T f with
  | none => exact rK fun eT => by simp only [PF, he]
  | some e =>
   cases e with
   | go F =>
    have hE := hT f _ he
    have hp : ∀ eT V, PF T K (k + 1) f eT = some V -> qU (PT T K (PF T K k)) F eT = some V := fun eT V h => by simpa only [PF, he] using h
    obtain ⟨F0, h1, h2, rfl⟩ := hE
    exact ⟨Gp ih h1 h2 hp, OE ih h1 h2 hp⟩
   | ext g => exact rK fun eT => by simp only [PF, he]
   | pure g => exact rK fun eT => by simp only [PF, he]
   | spec g => exact rK fun eT => by simp only [PF, he]
   | NV F D => exact rK fun eT => by simp only [PF, he]
theorem OB {T0 : Nat -> Option iM} (hT : ∀ f e, T f = some e -> ij T0 f e) (f : Nat) : ij T0 f (.spec (kE (bA T K f))) /\ ij T0 f (.spec (kD (bA T K f))) := by
 constructor
 ·intro θ m m' args aA fin hg ha e
  unfold kE at e
  split at e
  ·rename_i eT hf
   cases hv : bA T K f (gK 1 eT) with
   | none => rw [hv] at e; cases e
   | some V =>
    obtain ⟨k, hk⟩ := mK.1 hv
    refine (Mu (K := K) hT k f).1 θ m m' args aA fin hg ha ?_
    unfold kE;rw [hf]; simp only [hk]; rw [hv] at e; exact e
  ·cases e
 ·intro θ m m' args aA fin hg ha e
  unfold kD at e
  cases oY : fQ args <;> simp only [oY, cond_true, cond_false, reduceCtorEq] at e
  split at e
  ·rename_i eT hf
   cases hv : bA T K f (gK 1 eT) with
   | none => rw [hv] at e; cases e
   | some V =>
    obtain ⟨k, hk⟩ := mK.1 hv
    refine (Mu (K := K) hT k f).2 θ m m' args aA fin hg ha ?_
    unfold kD;rw [oY, hf]; simp only [hk, cond_true]; rw [hv] at e; exact e
  ·cases e
theorem Wc {T0 : Nat -> Option iM} (hT : ∀ f e, T f = some e -> ij T0 f e) : ∀ f e, UT T K f = some e -> ij T0 f e := Sm hT fun f _ => OB hT f
end
theorem TQ {T : Nat -> Option iM} {f : Nat} {g : List EV -> Option EV} (hf : T f = some (.ext g)) (hg : ∀ args v, g args = some v -> fy args = true /\ Flat v = true) : ij T f (.ext g) := by
 intro θ m m' args aA v nY ha h
 obtain ⟨h1, h2⟩ := hg args v h
 have := ha.flat h1
 subst this;exact ⟨θ, .ret v m', by rw [Hu hf, h]; rfl, .ret (SV.of_flat h2) nY, .refl _ _ _⟩
open Classical in
noncomputable def kP (T : Nat -> Option iM) (F : az) (args : List EV) (m : Mem) : Option Fin := if args.length <= F.ntmps then
 match s6 F (exec T F.body ⟨cQ args 0 .leaf, []⟩ m) with
 | some (.ret v m1) => if Flat v = true /\ m.next <= m1.next /\ ∀ b, b < m.next -> m1.get b = m.get b then some (.ret v ⟨m1.next, m.gM⟩) else none
 | _ => none else none
theorem QY {T0 T1 : Nat -> Option iM} (h1 : ∀ f e, T1 f = some e -> ij T0 f e) {f : Nat} {F : az} (hT : T0 f = some (.go F)) (eu : lN F = true) : ij T0 f (.spec (kP T1 F.sub)) := by
 intro θ m m' args aA fin hg ha h
 unfold kP at h
 split at h
 ·rename_i hl
  cases hr : s6 F.sub (exec T1 F.sub.body ⟨cQ args 0 .leaf, []⟩ m) with
  | none => simp [hr] at h
  | some q =>
   cases q with
   | gO v m1 => simp [hr] at h
   | ret v m1 =>
    simp only [hr] at h
    split at h
    ·rename_i hc
     obtain ⟨hf, hn, hk⟩ := hc
     simp only [bj] at h;subst h;have hb : ∃ n, dG (aW T1 n) n F.sub args m = some (.ret v m1) := by
      cases hx : exec T1 F.sub.body ⟨cQ args 0 .leaf, []⟩ m with
      | none => simp [hx, s6] at hr
      | some o =>
       obtain ⟨n, hn⟩ := cr.1 hx
       refine ⟨n, ?_⟩
       rw [hx] at hr;simp only [dG, BH hl, cond_true, hn]
       cases o <;> exact hr
     obtain ⟨n, hb⟩ := hb
     obtain ⟨θ', J3, e, hs, ev⟩ := Fh (Dm h1 n) n hT eu hb hg ha
     cases hs with
     | @ret _ v' _ fW hv hg1 =>
      have := hv.flat hf
      subst this;have hd : ∀ b, m.next <= b -> m.get b = .dead := fun b hb => by
       refine hg.cl b ?_
       cases hr : θ.ik b with
       | none => rfl
       | some c => have := (hg.ok.ik b c hr).1; omega
      have ma : ∀ b, (⟨m1.next, m.gM⟩ : Mem).get b = m.get b := fun b => rfl
      refine ⟨θ', _, e, .ret (SV.of_flat hf) ⟨⟨⟨fun b c RG => ?_, fun b FX => ?_⟩, hg1.gX⟩, hg1.ok, hg1.FE⟩, ⟨ev.ext, ev.ik, ev.gX, ev.n1, ev.n2, ev.rP⟩⟩
      ·rw [ma]
       by_cases bg : b < m.next
       ·rw [<- hk b bg]; exact hg1.dj b c RG
       ·rw [hd b (by omega)]; trivial
      ·rw [ma]
       by_cases bg : b < m.next
       ·rw [<- hk b bg]; exact hg1.cl b FX
       ·exact hd b (by omega)
    ·cases h
 ·cases h
end
section
structure ux where
 dj : Nat
 off : Nat
 total : Nat
 esz : Nat
 cs : List EV
def KS (l : List Int) : List EV := l.map (.int .u64)
def H4 (b : Nat) : Nat := match tabl b with | some l => l.length | none => match FZ b with | some _ => 1 | none => 0
def kB (n0 : Nat) (bs : List ux) : eF := fun b => if b < n0 then some ⟨b, 0, H4 b, 1, true⟩ else (bs[b - n0]?).map fun B => ⟨B.dj, B.off, B.total, B.esz, true⟩
def MF : List ux -> Nat -> Tr fM -> Tr fM
 | [], _, t => t
 | B :: r, i, t => MF r (i + 1) (t.set i (.cells B.cs B.esz 0 true))
def P8 : List (Nat × List Int) -> Tr fM
 | [] => .leaf
 | (g, l) :: r => (P8 r).set g (.cells (KS l) 1 0 true)
theorem IU {b : Nat} : ∀ ts : List (Nat × List Int), (P8 ts).get b = (tabIn ts b).map fun l => .cells (KS l) 1 0 true
 | [] => by simp only [P8, tabIn, Tr.zD, Option.map_none]
 | (g, l) :: r => by
  simp only [P8, tabIn];rw [Tr.bY];by_cases h : b = g
  ·rw [if_pos h, if_pos h]; rfl
  ·rw [if_neg h, if_neg h]; exact IU r
def RJ (n0 : Nat) : List (Nat × List (List UInt8)) -> Nat -> Tr fM
 | [], _ => P8 WX
 | (g, l) :: r, j => (RJ n0 r (j + 1)).set g (.cells [.slice (n0 + j) 0 l.length none] 1 0 true)
def vc : List (Nat × List (List UInt8)) -> Nat -> Nat -> Option (Nat × List (List UInt8))
 | [], _, _ => none
 | (g, l) :: r, j, b => if b = g then some (j, l) else vc r (j + 1) b
theorem ET {n0 : Nat} : ∀ (gs : List (Nat × List (List UInt8))) (j b : Nat), (RJ n0 gs j).get b = (match vc gs j b with | some p => some (.cells [.slice (n0 + p.1) 0 p.2.length none] 1 0 true) | none => (tabl b).map fun l => .cells (KS l) 1 0 true)
 | [], _, b => by simp only [RJ, vc, IU, tabl]
 | (g, l) :: r, j, b => by
  simp only [RJ, vc];rw [Tr.bY];by_cases h : b = g
  ·rw [if_pos h, if_pos h]
  ·rw [if_neg h, if_neg h]; exact ET r (j + 1) b
theorem tC {b : Nat} : ∀ (gs : List (Nat × List (List UInt8))) (j : Nat), (vc gs j b).map (·.2) = H5 gs b
 | [], _ => rfl
 | (g, l) :: r, j => by
  simp only [vc, H5];by_cases h : b = g
  ·rw [if_pos h, if_pos h]; rfl
  ·rw [if_neg h, if_neg h]; exact tC r (j + 1)
theorem zC {b p : Nat} {l : List (List UInt8)} : ∀ (gs : List (Nat × List (List UInt8))) (j : Nat), vc gs j b = some (p, l) -> j <= p /\ gs[p - j]? = some (b, l)
 | [], _, h => by cases h
 | (g, x) :: r, j, h => by
  simp only [vc] at h;by_cases e : b = g
  ·rw [if_pos e] at h; cases h; subst e; exact ⟨eX _, by rw [Nat.sub_self]; rfl⟩
  ·rw [if_neg e] at h
   obtain ⟨h1, h2⟩ := zC r (j + 1) h
   refine ⟨by omega, ?_⟩
   rw [show p - j = (p - (j + 1)) + 1 by omega]; exact h2
def gP (n0 : Nat) (bs : List ux) : Mem := ⟨n0 + bs.length, MF bs n0 (RJ n0 globs 0)⟩
theorem vN : ∀ (bs : List ux) (i : Nat) (t : Tr fM) (b : Nat), (MF bs i t).get b = if i <= b /\ b < i + bs.length then (bs[b - i]?).map (fun B => .cells B.cs B.esz 0 true) else t.get b
 | [], i, t, b => by rw [if_neg (fun h => by have := h.2; simp at this; omega)]; rfl
 | B :: bs, i, t, b => by
  simp only [MF];rw [vN bs (i + 1) _ b, Tr.bY];by_cases h : b = i
  ·subst h
   rw [if_neg (by omega), if_pos rfl, if_pos (by simp)];simp
  ·by_cases h2 : i + 1 <= b /\ b < i + 1 + bs.length
   ·rw [if_pos h2, if_pos (by simp; omega), show b - i = (b - (i + 1)) + 1 by omega]
    simp
   ·rw [if_neg h2, if_neg h, if_neg (by simp; omega)]
theorem EK {n0 : Nat} {bs : List ux} {i : Nat} {B : ux} (h : bs[i]? = some B) : (gP n0 bs).get (n0 + i) = .cells B.cs B.esz 0 true := by
 have bg := (rn.1 h).1
 unfold Mem.get gP;simp only
 rw [vN, if_pos (by omega), show n0 + i - n0 = i by omega, h]
 rfl
theorem AW {n0 : Nat} {bs : List ux} {b : Nat} (h : b < n0) : (gP n0 bs).get b = (match vc globs 0 b with | some p => some (fM.cells [.slice (n0 + p.1) 0 p.2.length none] 1 0 true) | none => (tabl b).map fun l => .cells (KS l) 1 0 true).getD .dead := by
 unfold Mem.get gP;simp only
 rw [vN, if_neg (by omega), ET]
theorem EJ {n0 : Nat} {bs : List ux} {b : Nat} (hl : (∀ p ∈ globs, p.1 < n0) /\ ∀ g l, tabl g = some l -> g < n0) (h : n0 + bs.length <= b) : (gP n0 bs).get b = .dead := by
 unfold Mem.get gP;simp only
 rw [vN, if_neg (by omega), ET]
 cases hf : vc globs 0 b with
 | none =>
  cases ht : tabl b with
  | none => rfl
  | some l => have := hl.2 _ _ ht; omega
 | some p =>
  obtain ⟨p, l⟩ := p
  have h2 := (zC _ _ hf).2
  have := hl.1 _ (List.mem_of_getElem? h2)
  omega
theorem JH {n0 : Nat} {bs : List ux} {i : Nat} {B : ux} (h : bs[i]? = some B) : kB n0 bs (n0 + i) = some ⟨B.dj, B.off, B.total, B.esz, true⟩ := by
 unfold kB;rw [if_neg (by omega), show n0 + i - n0 = i by omega, h]
 rfl
theorem JG {n0 : Nat} {bs : List ux} : ∀ b L, kB n0 bs b = some L -> L.ro = true := by
 intro b L h
 unfold kB at h
 split at h
 ·cases h; rfl
 ·obtain ⟨B, _, rfl⟩ := kr.1 h; rfl
def We (w : World) (n0 : Nat) (bs : List ux) : Prop := ∀ (i : Nat) (B : ux), bs[i]? = some B -> ∃ (arr : Array Value) (e : TypeId) (fz : Nat × Nat), w.heap[B.dj]? = some (.cells arr e fz) /\ arr.size = B.total /\ B.off + B.cs.length <= B.total /\
 ∀ (j : Nat) (v : EV), B.cs[j]? = some v -> ∃ v', arr[B.off + j]? = some v' /\ VR (kB n0 bs) v v' /\ v'.oneCell' = true
def TFact (w : World) (g : Nat) (l : List Int) : Prop := FZ g = none /\ ∃ (arr : Array Value) (e : TypeId) (fz : Nat × Nat), w.heap[g]? = some (.cells arr e fz) /\ arr.toList = l.map (Value.int .u64)
def IG (w : World) (n0 : Nat) (bs : List ux) : Prop := ((∀ p ∈ globs, p.1 < n0) /\ ∀ g l, tabl g = some l -> g < n0) /\ (∀ g l, tabl g = some l -> TFact w g l) /\ ∀ (j g : Nat) (l : List (List UInt8)), globs[j]? = some (g, l) ->
 (∃ (arr : Array Value) (e : TypeId) (fz : Nat × Nat) (v' : Value), w.heap[g]? = some (.cells arr e fz) /\ arr.size = 1 /\ arr[0]? = some v' /\ VR (kB n0 bs) (.slice (n0 + j) 0 l.length none) v' /\ v'.oneCell' = true) /\
 ∃ B, bs[j]? = some B /\ B.cs = l.map .str /\ B.esz = 1
theorem aa1 {w : World} {n0 : Nat} {bs : List ux} (h : We w n0 bs) (hg : IG w n0 bs) : R w.heap.size (kB n0 bs) (gP n0 bs) w := by
 have R8 : ∀ b L, kB n0 bs b = some L -> (b < n0 /\ L = ⟨b, 0, H4 b, 1, true⟩) \/ ∃ i B, b = n0 + i /\ bs[i]? = some B := by
  intro b L hb
  unfold kB at hb
  split at hb
  ·cases hb; exact .inl ⟨‹_›, rfl⟩
  ·obtain ⟨B, hB, rfl⟩ := kr.1 hb
   exact .inr ⟨b - n0, B, by omega, hB⟩
 refine ⟨fun b L hb => ?_, fun b L hb => ?_, fun b c L L' h1 _ _ _ h5 => ?_, eX _, fun b hb => EJ hg.1 hb⟩
 ·rcases R8 b L hb with ⟨bg, _⟩ | ⟨i, B, rfl, hB⟩
  ·show b < n0 + bs.length; omega
  ·have := (rn.1 hB).1; show n0 + i < n0 + bs.length; omega
 ·rcases R8 b L hb with ⟨bg, rfl⟩ | ⟨i, B, rfl, hB⟩
  ·rw [AW bg]
   cases hf : vc globs 0 b with
   | none =>
    cases ht : tabl b with
    | none => trivial
    | some l =>
     obtain ⟨hgn, arr, e, fz, h1, h2⟩ := hg.2.1 b l ht
     have uo : arr.size = l.length := by rw [<- Array.length_toList, h2, List.length_map]
     have Xs : H4 b = l.length := by unfold H4; rw [ht]
     refine ⟨arr, e, fz, h1, by rw [Xs]; exact uo, rfl, rfl, by rw [Xs]; show 0 + (KS l).length <= l.length; simp [KS], fun i v hv => ?_, (fun e => by cases e), fun _ => (Array.getElem?_eq_some_iff.1 h1).1⟩
     unfold KS at hv;rw [List.getElem?_map] at hv;obtain ⟨n, hn, rfl⟩ := kr.1 hv
     refine ⟨.int .u64 n, ?_, .int _ _, rfl⟩
     rw [<- Array.getElem?_toList, h2, List.getElem?_map, show 0 + i = i by omega, hn]; rfl
   | some p =>
    obtain ⟨p, l⟩ := p
    have h2 := (zC _ _ hf).2
    rw [Nat.sub_zero] at h2;obtain ⟨⟨arr, e, fz, v', h1, h3, h4, h5, h6⟩, _⟩ := hg.2.2 p b l h2
    have ht : H4 b = 1 := by
     have := tC (b := b) globs 0
     rw [hf] at this;have tn : tabl b = none := by
      cases e : tabl b with
      | none => rfl
      | some l' => have := (hg.2.1 b l' e).1; unfold FZ at this; simp_all
     unfold H4 FZ;rw [tn, <- this]; rfl
    refine ⟨arr, e, fz, h1, by rw [ht]; exact h3, rfl, rfl, by show 0 + 1 <= H4 b; rw [ht]; exact eX _, fun i v hv => ?_, (fun e => by cases e), fun _ => (Array.getElem?_eq_some_iff.1 h1).1⟩
    cases i with
    | zero => simp only [List.getElem?_cons_zero, bj] at hv; subst hv; exact ⟨v', h4, h5, h6⟩
    | succ i => simp at hv
  ·rw [EK hB]
   rw [JH hB] at hb
   cases hb
   obtain ⟨arr, e, fz, h1, h2, h3, h4⟩ := h i B hB
   exact ⟨arr, e, fz, h1, h2, rfl, rfl, h3, h4, (fun e => by cases e), fun _ => (Array.getElem?_eq_some_iff.1 h1).1⟩
 ·rw [JG b L h1] at h5; cases h5
theorem aa2 {n0 : Nat} {bs : List ux} {G : List Nat} (h : ∀ g, G.contains g = true -> g < n0) : jJ G (kB n0 bs) := fun g hg => ⟨⟨g, 0, H4 g, 1, true⟩, by unfold kB; rw [if_pos (h g hg)], rfl, rfl, fun l hl => by unfold H4; simp only [hl]⟩
theorem JF {n0 : Nat} {bs : List ux} {i : Nat} {B : ux} (h : bs[i]? = some B) {a : Addr} (hb : a.block = B.dj) (hs : a.spot = none) {len cap : Nat} (hl : len <= cap) (ho : 0 < len -> a.off = B.off) : VR (kB n0 bs) (.slice (n0 + i) 0 len none) (.slice (some a) len cap) := by
 obtain ⟨dj, off, spot⟩ := a
 cases hs; cases hb
 exact .slice (JH h) hl (fun hh => by have := ho hh; simpa using this) (fun e => by cases e)
theorem law_walk {P : Program} {G : List Nat} (iK : P.follows .mixedOrders = true) {T : Nat -> Option iM} (hT : ∀ f e, T f = some e -> KD P G f e) {f : Nat} {F : az} (hf : T f = some (.go F)) {n0 : Nat} (hG : ∀ g, G.contains g = true -> g < n0)
  {w : World} {bs : List ux} (hb : We w n0 bs) (RC : IG w n0 bs) {args : List EV} {aA : Array Value} (hv : fB (kB n0 bs) args aA.toList) {b : Bool} {m' : Mem} (h : run T f args (gP n0 bs) = some (.ret (.bool b) m')) :
  Calls P f aA w fun e w' => e = .returned (.bool b) /\ Go.RowKit.Below w.heap.size w w' := by
 obtain ⟨k, hk⟩ := ng.1 h
 exact OZ iK hT hf hk (aa1 hb RC) (aa2 hG) (fun b L h _ => JG b L h) hv
end
section
open Go Go.Deep
inductive Sh where
 | int (k : IntKind)
 | bool
 | str
 | slice (e : TypeId) (esz : Nat) (s : Sh)
 | struct (l : List Sh)
inductive Dt where
 | int (n : Int)
 | bool (b : Bool)
 | str (s : List UInt8)
 | list (l : List Dt)
 | Zi (l : List Dt)
mutual
inductive PL (m : Mem) : Sh -> List EV -> Dt -> Prop
 | int {k : IntKind} {n : Int} (h : (Lit.int k n).wf = true) : PL m (.int k) [.int k n] (.int n)
 | bool (b : Bool) : PL m .bool [.bool b] (.bool b)
 | str {s : List UInt8} (h : s.length <= maxLen) : PL m .str [.str s] (.str s)
 | nil {e esz : Nat} {s : Sh} : PL m (.slice e esz s) [.ae] (.list [])
 | empty {e esz b off : Nat} {s : Sh} : PL m (.slice e esz s) [.slice b off 0 (some 0)] (.list [])
 | slice {e esz b : Nat} {s : Sh} {ess : List (List EV)} {ds : List Dt} (hl : ds.length <= maxLen) (hm : m.get b = .cells ess.flatten esz 0 true) (h : Mt m (List.replicate ds.length s) ess ds) : PL m (.slice e esz s) [.slice b 0 ds.length none] (.list ds)
 | struct {ku : List Sh} {ess : List (List EV)} {ds : List Dt} (h : Mt m ku ess ds) : PL m (.struct ku) ess.flatten (.Zi ds)
inductive Mt (m : Mem) : List Sh -> List (List EV) -> List Dt -> Prop
 | nil : Mt m [] [] []
 | cons {s : Sh} {es : List EV} {d : Dt} {ku : List Sh} {ess : List (List EV)} {ds : List Dt} (h : PL m s es d) (hs : Mt m ku ess ds) : Mt m (s :: ku) (es :: ess) (d :: ds)
end
section
variable {P : Program} {w : World} {H : Type} {enc : TypeId × Value -> H} {base : Nat} {held : Bool} {n0 : Nat}
def Zd (w : World) (ρ : eF) (B : ux) : Prop := ∃ (arr : Array Value) (e : TypeId) (fz : Nat × Nat), w.heap[B.dj]? = some (.cells arr e fz) /\ arr.size = B.total /\ B.off + B.cs.length <= B.total /\
 ∀ (j : Nat) (v : EV), B.cs[j]? = some v -> ∃ v', arr[B.off + j]? = some v' /\ VR ρ v v' /\ v'.oneCell' = true
def Sl (all : List ux) (s : Nat) (bs : List ux) : Prop := ∀ i, i < bs.length -> all[s + i]? = bs[i]?
def My (w : World) (n0 : Nat) (sh : Sh) (cs : List Value) : Prop :=
 ∃ (k : Nat) (d : Dt), ∀ s, ∃ (es : List EV) (bs : List ux), bs.length = k /\ es.length = cs.length /\ ∀ all, Sl all s bs ->
  fB (kB n0 all) es cs /\ (∀ c ∈ cs, c.oneCell' = true) /\ (∀ (i : Nat) (B : ux), bs[i]? = some B -> Zd w (kB n0 all) B) /\ PL (gP n0 all) sh es d
def Mx (w : World) (n0 : Nat) (ku : List Sh) (css : List (List Value)) : Prop :=
 ∃ (k : Nat) (ds : List Dt), ds.length = ku.length /\ ∀ s, ∃ (ess : List (List EV)) (bs : List ux), bs.length = k /\ ess.flatten.length = css.flatten.length /\ ∀ all, Sl all s bs ->
  fB (kB n0 all) ess.flatten css.flatten /\ (∀ c ∈ css.flatten, c.oneCell' = true) /\ (∀ (i : Nat) (B : ux), bs[i]? = some B -> Zd w (kB n0 all) B) /\ Mt (gP n0 all) ku ess ds
theorem Sl.left {all bs cs : List ux} {s : Nat} (h : Sl all s (bs ++ cs)) : Sl all s bs := fun i hi => by
 rw [h i (by simp; omega), B8 hi]
theorem Sl.right {all bs cs : List ux} {s : Nat} (h : Sl all s (bs ++ cs)) : Sl all (s + bs.length) cs := fun i hi => by
 have := h (bs.length + i) (by simp; omega)
 rw [Nat.add_assoc, this, FF (by omega)]; congr 1; omega
theorem Mx.nil : Mx w n0 [] [] := ⟨0, [], rfl, fun s => ⟨[], [], rfl, rfl, fun all _ => ⟨.nil, by simp, by simp, .nil⟩⟩⟩
theorem Mx.cons {sh : Sh} {cs : List Value} {ku : List Sh} {css : List (List Value)} (h : My w n0 sh cs) (hs : Mx w n0 ku css) : Mx w n0 (sh :: ku) (cs :: css) := by
 obtain ⟨k, d, h⟩ := h
 obtain ⟨k2, ds, hl, hs⟩ := hs
 refine ⟨k + k2, d :: ds, by simp [hl], fun s => ?_⟩
 obtain ⟨es, bs, h1, h2, h3⟩ := h s
 obtain ⟨ess, bs2, g1, g2, g3⟩ := hs (s + k)
 refine ⟨es :: ess, bs ++ bs2, by simp [h1, g1], by simp [h2, g2], fun all hp => ?_⟩
 obtain ⟨a1, a2, a3, a4⟩ := h3 all hp.left
 obtain ⟨b1, b2, b3, b4⟩ := g3 all (by rw [<- h1]; exact hp.right)
 refine ⟨?_, ?_, ?_, .cons a4 b4⟩
 ·rw [List.flatten_cons, List.flatten_cons]; exact a1.append b1
 ·intro c hc
  rw [List.flatten_cons, uD] at hc;rcases hc with hc | hc
  ·exact a2 c hc
  ·exact b2 c hc
 ·intro i B hB
  by_cases hi : i < bs.length
  ·rw [B8 hi] at hB; exact a3 i B hB
  ·rw [FF (by omega)] at hB; exact b3 _ B hB
def iX (ok : Sh -> TypeId -> Bool) (size : TypeId -> Nat) : List Sh -> List Field -> Nat -> Nat -> Bool
 | [], [], off, total => off.beq total
 | s :: ku, g :: gs, off, total => g.offset.beq off && (ok s g.type && iX ok size ku gs (off + size g.type) total)
 | _, _, _, _ => false
def shOk (P : Program) : Nat -> Sh -> TypeId -> Bool
 | 0, _, _ => false
 | n + 1, sh, t => match sh, P.underlying t with
  | .int k, some (.int k') => (b6 k).beq (b6 k')
  | .bool, some .bool => true
  | .str, some .string => true
  | .slice e esz s, some (.slice e') => e.beq e' && ((P.cellsOf e).beq esz && (Nat.ble 1 esz && shOk P n s e))
  | .struct l, some (.struct gs) => iX (shOk P n) P.cellsOf l gs.toList 0 (P.cellsOf t)
  | _, _ => false
theorem BA {ok : Sh -> TypeId -> Bool} {size : TypeId -> Nat} {cs : List Value} : ∀ (ku : List Sh) (gs : List Field) (off : Nat), iX ok size ku gs off cs.length = true -> off <= cs.length ->
  cs.drop off = (gs.map fun g => (cs.drop g.offset).take (size g.type)).flatten
 | [], [], off, h, hl => by
  have := aV h
  subst this; simp
 | s :: ku, g :: gs, off, h, hl => by
  simp only [iX, pL] at h;obtain ⟨h1, h2, h3⟩ := h
  have e := aV h1
  have hle : off + size g.type <= cs.length := by
   revert h3
   generalize off + size g.type = o
   clear h1 h2 e hl
   induction gs generalizing ku o with
   | nil => intro h3; cases ku <;> simp only [iX] at h3; exact Nat.le_of_eq (aV h3); cases h3
   | cons g' gs ih =>
    intro h3
    cases ku with
    | nil => simp [iX] at h3
    | cons s' ku =>
     simp only [iX, pL] at h3;have := ih ku _ h3.2.2
     omega
  have ih := BA ku gs (off + size g.type) h3 hle
  rw [List.map_cons, List.flatten_cons, <- ih, e];rw [<- List.drop_drop, List.take_append_drop]
 | [], _ :: _, _, h, _ => by simp [iX] at h
 | _ :: _, [], _, h, _ => by simp [iX] at h
theorem BD {cs : List Value} {size : TypeId -> Nat} {ok : Sh -> TypeId -> Bool} : ∀ (ku : List Sh) (gs : List Field) (off total : Nat), iX ok size ku gs off total = true ->
  (∀ (s : Sh) (g : Field), g ∈ gs -> ok s g.type = true -> My w n0 s ((cs.drop g.offset).take (size g.type))) -> Mx w n0 ku (gs.map fun g => (cs.drop g.offset).take (size g.type))
 | [], [], _, _, _, _ => .nil
 | s :: ku, g :: gs, off, total, h, hd => by
  simp only [iX, pL] at h;rw [List.map_cons];exact .cons (hd s g (by simp) h.2.1) (BD ku gs _ total h.2.2 fun s' g' hg => hd s' g' (by simp [hg]))
 | [], _ :: _, _, _, h, _ => by simp [iX] at h
 | _ :: _, [], _, _, h, _ => by simp [iX] at h
theorem zO {α : Type} {sz : Nat} : ∀ {css : List (List α)}, (∀ c ∈ css, c.length = sz) -> css.flatten.length = css.length * sz
 | [], _ => by simp
 | c :: css, h => by
  rw [List.flatten_cons, kL, zO fun c hc => h c (by simp [hc]), h c (by simp), List.length_cons, Nat.add_mul]; omega
theorem J0 {α : Type} {sz : Nat} : ∀ {css : List (List α)}, (∀ c ∈ css, c.length = sz) -> ∀ (q p : Nat), p < sz -> css.flatten[q * sz + p]? = (css[q]?).bind fun c => c[p]?
 | [], _, q, p, _ => by simp
 | c :: css, h, q, p, hp => by
  have hc := h c (by simp)
  rw [List.flatten_cons]
  cases q with
  | zero => rw [Nat.zero_mul, Nat.zero_add, B8 (by omega)]; simp
  | succ q =>
   have ih := J0 (css := css) (fun c hc => h c (by simp [hc])) q p hp
   rw [FF (by rw [hc, Nat.add_mul]; omega), show (q + 1) * sz + p - c.length = q * sz + p by rw [hc, Nat.add_mul]; omega, ih]
   simp
theorem CM (b o n : Nat) : (⟨b, o, none⟩ : Addr).add n = ⟨b, o + n, none⟩ := Addr.add_lit b o n
theorem Kf {a : Addr} {sz len : Nat} {s : Sh} (hd : ∀ i, i < len -> ∃ mf, w.cells? base (a.add (i * sz)) sz = some mf /\ My w n0 s mf) : ∀ (r i : Nat), i + r = len ->
  ∃ css : List (List Value), css.length = r /\ (∀ q, q < r -> ∃ mf, css[q]? = some mf /\ w.cells? base (a.add ((i + q) * sz)) sz = some mf) /\ Mx w n0 (List.replicate r s) css
 | 0, i, _ => ⟨[], rfl, fun q hq => by omega, .nil⟩
 | r + 1, i, h => by
  obtain ⟨mf, h1, h2⟩ := hd i (by omega)
  obtain ⟨css, g1, g2, g3⟩ := Kf hd r (i + 1) (by omega)
  refine ⟨mf :: css, by simp [g1], fun q hq => ?_, .cons h2 g3⟩
  cases q with
  | zero => exact ⟨mf, rfl, h1⟩
  | succ q =>
   obtain ⟨c, c1, c2⟩ := g2 q (by omega)
   exact ⟨c, by simpa using c1, by rw [show i + (q + 1) = i + 1 + q by omega]; exact c2⟩
theorem Pu {a : Addr} {e sz len cap : Nat} {s : Sh} (uo : 1 <= sz) (LU : len <= cap) (Y1 : cap <= maxLen) (AB : cap ≠ 0) (hd : ∀ i, i < cap -> ∃ mf, w.cells? base (a.add (i * sz)) sz = some mf /\ My w n0 s mf) :
  My w n0 (.slice e sz s) [.slice (some a) len cap] := by
 have JU : ∀ i, i < cap -> ∀ p, p < sz -> ∃ v, w.cell? ((a.add (i * sz)).add p) = some v := by
  intro i hi p hp
  obtain ⟨mf, h1, _⟩ := hd i hi
  obtain ⟨_, h2, h3⟩ := World.cells?_some h1
  exact ⟨mf[p]'(by omega), by rw [h3 p hp, lp]⟩
 obtain ⟨dj, off, arr, ty, fz, rfl, rV⟩ : ∃ dj off arr ty fz, a = ⟨dj, off, none⟩ /\ w.heap[dj]? = some (.cells arr ty fz) := by
  obtain ⟨v, hv⟩ := JU 0 (by omega) 0 (by omega)
  rw [Nat.zero_mul] at hv;have hv : w.cell? a = some v := hv
  obtain ⟨dj, off, spot⟩ := a
  unfold World.cell? at hv
  split at hv
  ·rename_i c t z hh
   cases spot with
   | none => exact ⟨dj, off, c, t, z, rfl, hh⟩
   | some x => simp at hv
  ·cases hv
 have PU : ∀ n, w.cell? ⟨dj, off + n, none⟩ = arr[off + n]? := fun n => by unfold World.cell?; simp [rV]
 obtain ⟨css, g1, g2, kin, ds, CV, g3⟩ := Kf (w := w) (n0 := n0) (base := base) (fun i hi => hd i (mr hi LU)) len 0 (by omega)
 have oY : ∀ c ∈ css, c.length = sz := by
  intro c hc
  obtain ⟨q, hq⟩ := List.getElem?_of_mem hc
  have hql : q < len := by have := (rn.1 hq).1; omega
  obtain ⟨mf, h1, h2⟩ := g2 q hql
  rw [hq] at h1; cases h1
  exact (World.cells?_some h2).2.1
 have FT : css.flatten.length = len * sz := by rw [zO oY, g1]
 have ma : ∀ j v, css.flatten[j]? = some v -> arr[off + j]? = some v := by
  intro j v hj
  have hjl : j < len * sz := by have := (rn.1 hj).1; omega
  have hp : j % sz < sz := Nat.mod_lt _ (by omega)
  have hq : j / sz < len := Nat.div_lt_of_lt_mul (by rw [Nat.mul_comm]; exact hjl)
  have TC : j / sz * sz + j % sz = j := Nat.div_add_mod' j sz
  rw [<- TC, J0 oY _ _ hp] at hj;obtain ⟨mf, h1, h2⟩ := g2 _ hq
  rw [h1] at hj;obtain ⟨_, _, h3⟩ := World.cells?_some h2
  have h4 := h3 _ hp
  rw [Nat.zero_add, CM, CM, Nat.add_assoc, TC, PU] at h4;rw [h4]; exact hj
 have hle : off + len * sz <= arr.size := by
  rcases Nat.eq_zero_or_pos (len * sz) with h0 | h0
  ·obtain ⟨v, hv⟩ := JU 0 (by omega) 0 (by omega)
   have SG := PU 0
   rw [Nat.add_zero] at SG;simp only [CM, Nat.zero_mul, Nat.add_zero] at hv;rw [SG] at hv;have := (Array.getElem?_eq_some_iff.1 hv).1
   omega
  ·obtain ⟨v, hv⟩ : ∃ v, css.flatten[len * sz - 1]? = some v := ⟨_, lp (by omega)⟩
   have := (Array.getElem?_eq_some_iff.1 (ma _ _ hv)).1
   omega
 rw [List.length_replicate] at CV;refine ⟨kin + 1, .list ds, fun st => ?_⟩
 obtain ⟨ess, bs, b1, b2, b3⟩ := g3 (st + 1)
 let B : ux := ⟨dj, off, arr.size, sz, ess.flatten⟩
 refine ⟨[.slice (n0 + st) 0 len none], B :: bs, by simp [b1], rfl, fun all hp => ?_⟩
 have hB : all[st]? = some B := by have := hp 0 (by simp); simpa using this
 obtain ⟨c1, c2, c3, c4⟩ := b3 all (by have := Sl.right (bs := [B]) hp; simpa using this)
 refine ⟨.cons (JF hB rfl rfl LU fun _ => rfl) .nil, by simp [Value.oneCell'], fun i C hC => ?_, ?_⟩
 ·cases i with
  | succ i => exact c3 i C (by simpa using hC)
  | zero =>
   simp at hC; subst hC
   refine ⟨arr, ty, fz, rV, rfl, by show off + ess.flatten.length <= arr.size; omega, fun j v hj => ?_⟩
   obtain ⟨v', h1, h2⟩ := c1.get j v hj
   exact ⟨v', ma j v' h1, h2, c2 v' (List.mem_of_getElem? h1)⟩
 ·have h1 := EK (n0 := n0) hB
  have h2 := PL.slice (m := gP n0 all) (e := e) (b := n0 + st) (s := s) (ds := ds) (pU (Nat.le_of_eq CV) (pU LU Y1)) h1 (by rw [CV]; exact c4)
  rw [CV] at h2;exact h2
theorem Ik (n0 : Nat) : ∀ (K : Nat) (sh : Sh) (t : TypeId) (fuel : Nat) (cs : List Value) (x : DataW H × List MemPlace), shOk P K sh t = true -> DataW.trod enc P w base (fun _ => true) held fuel t cs = some x -> My w n0 sh cs
 | 0, _, _, _, _, _, h, _ => by simp [shOk] at h
 | K + 1, sh, t, fuel, cs, x, h, hx => by
  simp only [shOk] at h
  split at h
  ·rename_i k k' hu
   obtain rfl := jY h
   obtain ⟨n, rfl, _, hw⟩ := DataW.trod_int hu hx
   exact ⟨0, .int n, fun s => ⟨[.int k n], [], rfl, rfl, fun all _ => ⟨.cons (.int _ _) .nil, by simp [Value.oneCell'], by simp, .int hw⟩⟩⟩
  ·rename_i hu
   obtain ⟨b, rfl, _⟩ := DataW.trod_bool hu hx
   exact ⟨0, .bool b, fun s => ⟨[.bool b], [], rfl, rfl, fun all _ => ⟨.cons (.bool _) .nil, by simp [Value.oneCell'], by simp, .bool b⟩⟩⟩
  ·rename_i hu
   obtain ⟨b, rfl, _, hm⟩ := DataW.trod_string hu hx
   exact ⟨0, .str b.data.toList, fun s => ⟨[.str b.data.toList], [], rfl, rfl, fun all _ => ⟨.cons (.str _) .nil, by simp [Value.oneCell'], by simp, .str (by simpa using hm)⟩⟩⟩
  ·rename_i e esz s e' hu
   simp only [pL] at h;obtain ⟨h1, h2, h3, h4⟩ := h
   have := aV h1; subst this
   have := aV h2; subst this
   have dD : 1 <= P.cellsOf e := rc h3
   rcases open_slice hu hx with ⟨rfl, _⟩ | ⟨a, len, cap, m, n, D, Pl, rfl, hb, LU, Y1, hm, _, xY⟩
   ·exact ⟨0, .list [], fun s => ⟨[.ae], [], rfl, rfl, fun all _ => ⟨.cons .ae .nil, by simp [Value.oneCell'], by simp, .nil⟩⟩⟩
   ·simp only [if_true] at hm
    subst hm;by_cases AB : m = 0
    ·subst AB
     obtain rfl : len = 0 := by omega
     exact ⟨0, .list [], fun s => ⟨[.slice 0 0 0 (some 0)], [], rfl, rfl, fun all _ => ⟨.cons .gS .nil, by simp [Value.oneCell'], by simp, .empty⟩⟩⟩
    ·exact Pu dD LU Y1 AB fun i hi => by
      obtain ⟨mf, h5, h6⟩ := xY i hi
      exact ⟨mf, h5, Ik n0 K s e n mf _ h4 h6⟩
  ·rename_i l gs hu
   obtain ⟨xs, n, _, _, hlen, Tq, hf⟩ := DataW.trod_struct hu hx
   rw [<- hlen] at h;have hD := BD (w := w) (n0 := n0) (cs := cs) l gs.toList 0 cs.length h fun s g hg eu => by
    obtain ⟨i, hi⟩ := List.getElem?_of_mem hg
    have xF : gs[i]? = some g := by simpa using hi
    have bg : i < xs.length := by have := (Array.getElem?_eq_some_iff.1 xF).1; omega
    have h1 := hf i g xF
    rw [lp bg] at h1;exact Ik n0 K s g.type n _ _ eu h1
   have FT := BA l gs.toList 0 h (kW _)
   rw [List.drop_zero] at FT;obtain ⟨k, ds, _, hs⟩ := hD
   refine ⟨k, .Zi ds, fun s => ?_⟩
   obtain ⟨ess, bs, h1, h2, h3⟩ := hs s
   rw [<- FT] at h2 h3;refine ⟨ess.flatten, bs, h1, h2, fun all hp => ?_⟩
   obtain ⟨c1, c2, c3, c4⟩ := h3 all hp
   exact ⟨c1, c2, c3, .struct c4⟩
  ·cases h
def Sk (m : Mem) (sh : Sh) (e : EV) (d : Dt) : Prop := match sh with
 | .struct l => ∃ cs, e = .agg cs /\ PL m (.struct l) cs d
 | sh => PL m sh [e] d
inductive sr (m : Mem) : List Sh -> List EV -> List Dt -> Prop
 | nil : sr m [] [] []
 | cons {s : Sh} {e : EV} {d : Dt} {ku : List Sh} {es : List EV} {ds : List Dt} (h : Sk m s e d) (hs : sr m ku es ds) : sr m (s :: ku) (e :: es) (d :: ds)
def DecV (w : World) (n0 : Nat) (sh : Sh) (v : Value) : Prop :=
 ∃ (k : Nat) (d : Dt), ∀ s, ∃ (e : EV) (bs : List ux), bs.length = k /\ ∀ all, Sl all s bs ->
  VR (kB n0 all) e v /\ (∀ (i : Nat) (B : ux), bs[i]? = some B -> Zd w (kB n0 all) B) /\ Sk (gP n0 all) sh e d
def DecVs (w : World) (n0 : Nat) (ku : List Sh) (vs : List Value) : Prop :=
 ∃ (k : Nat) (ds : List Dt), ∀ s, ∃ (es : List EV) (bs : List ux), bs.length = k /\ ∀ all, Sl all s bs ->
  fB (kB n0 all) es vs /\ (∀ (i : Nat) (B : ux), bs[i]? = some B -> Zd w (kB n0 all) B) /\ sr (gP n0 all) ku es ds
theorem DecVs.nil : DecVs w n0 [] [] := ⟨0, [], fun s => ⟨[], [], rfl, fun all _ => ⟨.nil, by simp, .nil⟩⟩⟩
theorem DecVs.cons {sh : Sh} {v : Value} {ku : List Sh} {vs : List Value} (h : DecV w n0 sh v) (hs : DecVs w n0 ku vs) : DecVs w n0 (sh :: ku) (v :: vs) := by
 obtain ⟨k, d, h⟩ := h
 obtain ⟨k2, ds, hs⟩ := hs
 refine ⟨k + k2, d :: ds, fun s => ?_⟩
 obtain ⟨e, bs, h1, h3⟩ := h s
 obtain ⟨es, bs2, g1, g3⟩ := hs (s + k)
 refine ⟨e :: es, bs ++ bs2, by simp [h1, g1], fun all hp => ?_⟩
 obtain ⟨a1, a3, a4⟩ := h3 all hp.left
 obtain ⟨b1, b3, b4⟩ := g3 all (by rw [<- h1]; exact hp.right)
 refine ⟨.cons a1 b1, ?_, .cons a4 b4⟩
 intro i B hB
 by_cases hi : i < bs.length
 ·rw [B8 hi] at hB; exact a3 i B hB
 ·rw [FF (by omega)] at hB; exact b3 _ B hB
theorem My.one {sh : Sh} {v : Value} (hn : ∀ l, sh ≠ .struct l) (h : My w n0 sh [v]) : DecV w n0 sh v := by
 obtain ⟨k, d, h⟩ := h
 refine ⟨k, d, fun s => ?_⟩
 obtain ⟨es, bs, h1, h2, h3⟩ := h s
 obtain ⟨e, rfl⟩ : ∃ e, es = [e] := by
  match es, h2 with
  | [e], _ => exact ⟨e, rfl⟩
 refine ⟨e, bs, h1, fun all hp => ?_⟩
 obtain ⟨c1, c2, c3, c4⟩ := h3 all hp
 cases c1 with
 | cons hv _ =>
 refine ⟨hv, c3, ?_⟩
 unfold Sk
 cases sh with
 | struct l => exact absurd rfl (hn l)
 | _ => exact c4
theorem My.agg {l : List Sh} {cs : Array Value} (h : My w n0 (.struct l) cs.toList) : DecV w n0 (.struct l) (.agg cs) := by
 obtain ⟨k, d, h⟩ := h
 refine ⟨k, d, fun s => ?_⟩
 obtain ⟨es, bs, h1, h2, h3⟩ := h s
 refine ⟨.agg es, bs, h1, fun all hp => ?_⟩
 obtain ⟨c1, c2, c3, c4⟩ := h3 all hp
 exact ⟨.agg c1 c2, c3, es, rfl, c4⟩
theorem dec_val {K : Nat} {sh : Sh} {t : TypeId} {v : Value} {r : Go.Reach} {b0 : Nat} {d : DataW H} {p : List MemPlace} (h : shOk P K sh t = true) (hval : Value.okWide P w r b0 t v) (hx : DataW.Trod enc P w base (fun _ => true) held t v d p) : DecV w n0 sh v := by
 obtain ⟨fuel, hf⟩ := hx
 have hD := Ik (w := w) n0 K sh t fuel _ _ h hf
 cases K with
 | zero => simp [shOk] at h
 | succ K =>
 simp only [shOk] at h
 split at h
 ·rename_i k k' hu
  refine My.one (by intro l e; cases e) ?_
  simp only [Value.okWide, hu, Cell.okWide] at hval
  cases v <;> simp only [Cell.ok, hu] at hval
  exact hD
 ·rename_i hu
  refine My.one (by intro l e; cases e) ?_
  simp only [Value.okWide, hu, Cell.okWide] at hval
  cases v <;> simp only [Cell.ok, hu] at hval
  exact hD
 ·rename_i hu
  refine My.one (by intro l e; cases e) ?_
  simp only [Value.okWide, hu, Cell.okWide] at hval
  cases v <;> simp only [Cell.ok, hu] at hval
  exact hD
 ·rename_i e esz s e' hu
  refine My.one (by intro l e; cases e) ?_
  simp only [Value.okWide, hu, Cell.okWide] at hval
  cases v <;> simp only [Cell.ok, hu] at hval
  exact hD
 ·rename_i l gs hu
  simp only [Value.okWide, hu] at hval;obtain ⟨cs, rfl, _, _⟩ := hval
  exact My.agg hD
 ·cases h
theorem sr.one {m : Mem} {s : Sh} {ku : List Sh} {es : List EV} {ds : List Dt} (h : sr m (s :: ku) es ds) : ∃ e d rl vo, es = e :: rl /\ ds = d :: vo /\ Sk m s e d /\ sr m ku rl vo := by
 cases h with | cons h hs => exact ⟨_, _, _, _, rfl, rfl, h, hs⟩
theorem sr.none {m : Mem} {es : List EV} {ds : List Dt} (h : sr m [] es ds) : es = [] /\ ds = [] := by
 cases h; exact ⟨rfl, rfl⟩
end
end
section
mutual
inductive Fz : Sh -> List EV -> Dt -> Prop
 | int {k : IntKind} {n : Int} (h : (Lit.int k n).wf = true) : Fz (.int k) [.int k n] (.int n)
 | bool (b : Bool) : Fz .bool [.bool b] (.bool b)
 | str {s : List UInt8} (h : s.length <= maxLen) : Fz .str [.str s] (.str s)
 | nil {e esz : Nat} {s : Sh} : Fz (.slice e esz s) [.ae] (.list [])
 | slice {e esz : Nat} {s : Sh} {els : List (List EV)} {ds : List Dt} (hl : ds.length <= maxLen) (h : UP (List.replicate ds.length s) els ds) : Fz (.slice e esz s) [.fz 0 esz els] (.list ds)
 | struct {ku : List Sh} {els : List (List EV)} {ds : List Dt} (h : UP ku els ds) : Fz (.struct ku) els.flatten (.Zi ds)
inductive UP : List Sh -> List (List EV) -> List Dt -> Prop
 | nil : UP [] [] []
 | cons {s : Sh} {es : List EV} {d : Dt} {ku : List Sh} {els : List (List EV)} {ds : List Dt} (h : Fz s es d) (hs : UP ku els ds) : UP (s :: ku) (es :: els) (d :: ds)
end
mutual
def Ej : Sh -> Nat
 | .struct l => Cr l
 | _ => 1
def Cr : List Sh -> Nat
 | [] => 0
 | s :: l => Ej s + Cr l
end
mutual
def Gl : Sh -> Bool
 | .slice _ esz s => (Ej s).beq esz && Gl s
 | .struct l => sZ l
 | _ => true
def sZ : List Sh -> Bool
 | [] => true
 | s :: l => Gl s && sZ l
end
def still (m : Mem) : cK := ⟨fun _ => none, fun _ => none, fun c => if c < m.next then some (m.get c) else none⟩
section
variable {m : Mem}
mutual
theorem ND : ∀ {s : Sh} {es : List EV} {d : Dt}, Fz s es d -> es.length = Ej s
 | _, _, _, .int _ => rfl
 | _, _, _, .bool _ => rfl
 | _, _, _, .str _ => rfl
 | _, _, _, .nil => rfl
 | _, _, _, .slice _ _ => rfl
 | _, _, _, .struct h => by simp only [Ej]; exact JY h
theorem JY : ∀ {ku : List Sh} {els : List (List EV)} {ds : List Dt}, UP ku els ds -> els.flatten.length = Cr ku
 | _, _, _, .nil => rfl
 | _, _, _, .cons h hs => by simp only [Cr, List.flatten_cons, kL, ND h, JY hs]
end
theorem NC {s : Sh} : ∀ {n : Nat} {els : List (List EV)} {ds : List Dt}, UP (List.replicate n s) els ds -> els.length = n /\ ds.length = n /\ ∀ el ∈ els, el.length = Ej s
 | 0, els, ds, h => by rw [List.replicate_zero] at h; cases h; exact ⟨rfl, rfl, fun el xY => by cases xY⟩
 | n + 1, els, ds, h => by
  rw [List.replicate_succ] at h
  cases h with
  | cons h hs =>
   obtain ⟨h1, h2, h3⟩ := NC hs
   refine ⟨by simp [h1], by simp [h2], fun el xY => ?_⟩
   rcases o6.1 xY with rfl | xY
   ·exact ND h
   ·exact h3 el xY
theorem dZ.T3 {θ : cK} {x x' : List EV} (h : dZ θ x x') : x'.length = x.length := h.length.symm
mutual
theorem AP (hm : ∀ b cs e t ro, m.get b = .cells cs e t ro -> b < m.next) : ∀ {s : Sh} {es : List EV} {d : Dt}, PL m s es d -> Gl s = true -> ∃ us, Fz s us d /\ dZ (still m) us es
 | _, _, _, .int h, _ => ⟨_, .int h, .cons (.int _ _) .nil⟩
 | _, _, _, .bool b, _ => ⟨_, .bool b, .cons (.bool _) .nil⟩
 | _, _, _, .str h, _ => ⟨_, .str h, .cons (.str _) .nil⟩
 | _, _, _, .nil, _ => ⟨_, .nil, .cons .ae .nil⟩
 | _, _, _, .empty (s := s) (esz := esz), _ => ⟨[.fz 0 esz []], .slice (ds := []) (kW _) .nil, .cons (.BY (.inl rfl)) .nil⟩
 | _, _, _, .slice (esz := esz) (b := b) (ess := ess) (ds := ds) (s := s) hl hb h, hf => by
  simp only [Gl, pL] at hf;have uo := aV hf.1
  obtain ⟨els, h1, h2⟩ := Hy hm h (by
   have : ∀ n, sZ (List.replicate n s) = true := fun n => by
    induction n with
    | zero => rfl
    | succ n ih => simp only [List.replicate_succ, sZ, hf.2, ih, Bool.and_self]
   exact this _)
  obtain ⟨g1, g2, g3⟩ := NC h1
  have hlen : els.flatten.length = els.length * esz := zO (fun el xY => (g3 el xY).trans uo)
  have XL : ess.flatten.length = els.length * esz := by rw [h2.T3, hlen]
  have ev : (still m).gX b = some (.cells ess.flatten esz 0 true) := by
   show (if b < m.next then some (m.get b) else none) = _
   rw [if_pos (hm _ _ _ _ _ hb), hb]
  refine ⟨[.fz 0 esz els], .slice hl h1, .cons ?_ .nil⟩
  have := SV.fz (θ := still m) (t := 0) (cap := none) (.mk (off := 0) ev (fun el xY => (g3 el xY).trans uo) (by omega) (by
   rw [List.drop_zero, <- XL, List.take_length]; exact h2)) (.inl rfl) (fun c hc => by cases hc)
  rw [g1] at this; exact this
 | _, _, _, .struct h, hf => by
  obtain ⟨els, h1, h2⟩ := Hy hm h (by simpa only [Gl] using hf)
  exact ⟨_, .struct h1, h2⟩
theorem Hy (hm : ∀ b cs e t ro, m.get b = .cells cs e t ro -> b < m.next) : ∀ {ku : List Sh} {ess : List (List EV)} {ds : List Dt}, Mt m ku ess ds -> sZ ku = true -> ∃ els, UP ku els ds /\ dZ (still m) els.flatten ess.flatten
 | _, _, _, .nil, _ => ⟨_, .nil, .nil⟩
 | _, _, _, .cons h hs, hf => by
  simp only [sZ, pL] at hf;obtain ⟨us, h1, h2⟩ := AP hm h hf.1
  obtain ⟨els, h3, h4⟩ := Hy hm hs hf.2
  exact ⟨us :: els, .cons h1 h3, by rw [List.flatten_cons, List.flatten_cons]; exact h2.append h4⟩
end
def YD (sh : Sh) (v : EV) (d : Dt) : Prop := match sh with
 | .struct l => ∃ cs, v = .agg cs /\ Fz (.struct l) cs d
 | sh => Fz sh [v] d
inductive Ga : List Sh -> List EV -> List Dt -> Prop
 | nil : Ga [] [] []
 | cons {s : Sh} {v : EV} {d : Dt} {ku : List Sh} {vs : List EV} {ds : List Dt} (h : YD s v d) (hs : Ga ku vs ds) : Ga (s :: ku) (v :: vs) (d :: ds)
theorem Ga.one {s : Sh} {ku : List Sh} {es : List EV} {ds : List Dt} (h : Ga (s :: ku) es ds) : ∃ e d rl vo, es = e :: rl /\ ds = d :: vo /\ YD s e d /\ Ga ku rl vo := by
 cases h with | cons h hs => exact ⟨_, _, _, _, rfl, rfl, h, hs⟩
theorem Ga.none {es : List EV} {ds : List Dt} (h : Ga [] es ds) : es = [] := by cases h; rfl
theorem S2 (hm : ∀ b cs e t ro, m.get b = .cells cs e t ro -> b < m.next) {s : Sh} {e : EV} {d : Dt} (h : Sk m s e d) (hf : Gl s = true) : ∃ u, YD s u d /\ SV (still m) u e := by
 have one : ∀ {us : List EV} {e : EV}, dZ (still m) us [e] -> ∃ u, us = [u] /\ SV (still m) u e := by
  intro us e h
  cases h with
  | cons h hs => cases hs; exact ⟨_, rfl, h⟩
 cases s with
 | struct l =>
  obtain ⟨cs, rfl, h⟩ := h
  obtain ⟨us, h1, h2⟩ := AP hm h hf
  exact ⟨.agg us, ⟨us, rfl, h1⟩, .agg h2⟩
 | int k => obtain ⟨us, h1, h2⟩ := AP hm h hf; obtain ⟨u, rfl, h3⟩ := one h2; exact ⟨u, h1, h3⟩
 | bool => obtain ⟨us, h1, h2⟩ := AP hm h hf; obtain ⟨u, rfl, h3⟩ := one h2; exact ⟨u, h1, h3⟩
 | str => obtain ⟨us, h1, h2⟩ := AP hm h hf; obtain ⟨u, rfl, h3⟩ := one h2; exact ⟨u, h1, h3⟩
 | slice a b c => obtain ⟨us, h1, h2⟩ := AP hm h hf; obtain ⟨u, rfl, h3⟩ := one h2; exact ⟨u, h1, h3⟩
theorem I8 (hm : ∀ b cs e t ro, m.get b = .cells cs e t ro -> b < m.next) : ∀ {ku : List Sh} {es : List EV} {ds : List Dt}, sr m ku es ds -> sZ ku = true -> ∃ us, Ga ku us ds /\ dZ (still m) us es
 | _, _, _, .nil, _ => ⟨[], .nil, .nil⟩
 | _, _, _, .cons h hs, hf => by
  simp only [sZ, pL] at hf;obtain ⟨u, h1, h2⟩ := S2 hm h hf.1
  obtain ⟨us, h3, h4⟩ := I8 hm hs hf.2
  exact ⟨u :: us, .cons h1 h3, .cons h2 h4⟩
theorem Q6 {T B : Nat -> Option iM} {K : Nat -> Nat} (hT : ∀ f e, B f = some e -> ij T f e) {f : Nat} {F : az} (hF : B f = some (.go F)) (hm : ∀ b cs e t ro, m.get b = .cells cs e t ro -> b < m.next) {ku : List Sh} {es : List EV} {ds : List Dt} (h : sr m ku es ds) (hf : sZ ku = true) (RC : mX (still m)) :
  ∃ us, Ga ku us ds /\ (bA B K f (gK 1 us) = some (.bool true) -> ∃ m', run T f es m = some (.ret (.bool true) m')) := by
 obtain ⟨us, h1, h2⟩ := I8 hm h hf
 refine ⟨us, h1, fun hp => ?_⟩
 obtain ⟨F0, VZ, VY, rfl⟩ := hT f _ hF
 rw [Er hF] at hp;obtain ⟨v', m1, fW, θ, e, _, _, hv⟩ := pure_run (Wc hT) VZ VY hp (m' := m) (tg := Qd es) (S := (still m).gX) (fun b B hb => by
  have BX : (if b < m.next then some (m.get b) else none) = some B := hb
  by_cases q : b < m.next
  ·rw [if_pos q] at BX; cases BX; exact ⟨rfl, q⟩
  ·rw [if_neg q] at BX; cases BX) (Ce us es 1 (D9 es) h2) (RC.down ⟨fun _ _ h => (by simp [cK.low] at h), fun _ _ h => (by simp [cK.low] at h), fun _ _ h => h⟩)
 have := hv.flat rfl
 subst this;exact ⟨fW, e⟩
theorem V5 {e : EV} {d : Dt} (h : YD .str e d) : ∃ s, e = .str s /\ s.length <= maxLen := by
 unfold YD at h; cases h with | str hl => exact ⟨_, rfl, hl⟩
end
end
section
structure ja (m : Mem) (v : EV) (cs : List EV) (n esz lo : Nat) : Prop where
 is : (v = .ae /\ n = 0 /\ cs = []) \/ ∃ b cap t, v = .slice b 0 n cap /\ lo <= b /\ b < m.next /\ m.get b = .cells cs esz t false /\ (cap = none \/ cap = some n)
 len : cs.length = n * esz
def gx (v : EV) (c : Nat) : Prop := ∀ b o n cap, v = .slice b o n cap -> c ≠ b
theorem gx.nil {c : Nat} : gx .ae c := fun _ _ _ _ h => by cases h
theorem gx.of {b o n c : Nat} {cap : Option Nat} (h : c ≠ b) : gx (.slice b o n cap) c := fun _ _ _ _ e => by cases e; exact h
theorem Cu {m : Mem} {b n esz e t : Nat} {cs : List EV} {ro : Bool} (hb : m.get b = .cells cs e t ro) (hl : cs.length = n * esz) : m.row b 0 (n * esz) = some cs := by
 by_cases h : n * esz = 0
 ·rw [h, Mem.nA]; rw [h] at hl; rw [List.eq_nil_of_length_eq_zero hl]
 ·rw [Mem.qi h]; unfold Mem.Hw
  rw [hb]
  show (bif (0 + n * esz).ble cs.length then some ((cs.drop 0).take (n * esz)) else none) = _
  rw [BH (by omega)];simp [<- hl]
theorem ja.source {m : Mem} {v : EV} {cs : List EV} {n esz lo : Nat} (h : ja m v cs n esz lo) : m.source esz v = some (n, cs) := by
 rcases h.is with ⟨rfl, rfl, rfl⟩ | ⟨b, cap, t, rfl, h1, h2, h3, h4⟩
 ·rfl
 ·show (m.row b 0 (n * esz)).map (fun cs => (n, cs)) = _
  rw [Cu h3 h.len]; rfl
theorem ja.mono {m m' : Mem} {v : EV} {cs : List EV} {n esz lo : Nat} (h : ja m v cs n esz lo) (hn : m.next <= m'.next) (hk : ∀ c, c < m.next -> m'.get c = m.get c) : ja m' v cs n esz lo := by
 refine ⟨?_, h.len⟩
 rcases h.is with h | ⟨b, cap, t, rfl, h1, h2, h3, h4⟩
 ·exact .inl h
 ·exact .inr ⟨b, cap, t, rfl, h1, by omega, by rw [hk b h2]; exact h3, h4⟩
theorem ja.ext {m : Mem} {v : EV} {cs : List EV} {n esz lo : Nat} (h : ja m v cs n esz lo) (xs : List fM) : ja (ext m xs) v cs n esz lo := h.mono (by rw [ax]; exact bH) fun c hc => aG hc
theorem sW {m : Mem} {vs : List EV} {e esz : Nat} (h : vs.length = esz) : (Ev.ext m [.cells vs esz e false]).source esz (.slice (nb m.next 0) 0 1 (some 1)) = some (1, vs) := by
 have hg : (Ev.ext m [.cells vs esz e false]).get (nb m.next 0) = .cells vs esz e false := by rw [aC rfl (by simp)]; rfl
 show ((Ev.ext m [.cells vs esz e false]).row (nb m.next 0) 0 (1 * esz)).map (fun cs => (1, cs)) = _
 rw [Cu hg (by omega)]; rfl
def grow (m : Mem) (v : EV) (e esz : Nat) (cs : List EV) : Mem := match v with
 | .slice b _ _ none => (m.new (.cells cs esz e false)).set b .dead
 | _ => m.new (.cells cs esz e false)
theorem gu {m : Mem} {v : EV} {e esz : Nat} {cs : List EV} : (grow m v e esz cs).next = nb m.next 1 := by
 unfold grow; split <;> rfl
theorem iW {m : Mem} {v : EV} {e esz c : Nat} {cs : List EV} (hc : c < m.next) (ho : gx v c) : (grow m v e esz cs).get c = m.get c := by
 unfold grow
 split
 ·rename_i b o n
  rw [aB (ho b o n none rfl), fw, if_neg (by omega)]
 ·rw [fw, if_neg (by omega)]
theorem fg {m : Mem} {v x : EV} {cs xs : List EV} {n k esz e lo : Nat} (h : ja m v cs n esz lo) (mU : lo <= m.next) (hx : m.source esz x = some (k, xs)) (Tq : xs.length = k * esz) (hk : k ≠ 0) (hr : n + k <= room) :
  fV m e esz v x = some (.slice (nb m.next 0) 0 (n + k) none, grow m v e esz (cs ++ xs)) /\ ja (grow m v e esz (cs ++ xs)) (.slice (nb m.next 0) 0 (n + k) none) (cs ++ xs) (n + k) esz lo := by
 have hlen : (cs ++ xs).length = (n + k) * esz := by rw [kL, h.len, Tq, Nat.add_mul]
 have own : ∀ b', b' ≠ m.next -> ja ((m.new (.cells (cs ++ xs) esz e false)).set b' .dead) (.slice (nb m.next 0) 0 (n + k) none) (cs ++ xs) (n + k) esz lo := fun b' BX =>
  ⟨.inr ⟨m.next, none, e, rfl, mU, by rw [cq, jH]; omega, by rw [aB (fun q => BX q.symm), fw, if_pos rfl], .inl rfl⟩, hlen⟩
 have W5 : ja (m.new (.cells (cs ++ xs) esz e false)) (.slice (nb m.next 0) 0 (n + k) none) (cs ++ xs) (n + k) esz lo :=
  ⟨.inr ⟨m.next, none, e, rfl, mU, by rw [jH]; omega, by rw [fw, if_pos rfl], .inl rfl⟩, hlen⟩
 rcases h.is with ⟨rfl, rfl, rfl⟩ | ⟨b, cap, t, rfl, h1, h2, h3, h4⟩
 ·refine ⟨?_, W5⟩
  unfold fV;rw [hx];simp only [j4 hk, cond_false, BH (show k <= room by omega), cond_true, List.nil_append, Nat.zero_add, grow, nb, Nat.add_zero]
 ·have FP := Cu h3 h.len
  rcases h4 with rfl | rfl
  ·refine ⟨?_, own b (by omega)⟩
   unfold fV;rw [hx];simp only [j4 hk, cond_false, BH hr, cond_true, FP, h3, dW, grow, nb, Nat.add_zero]
  ·refine ⟨?_, W5⟩
   have hf : (n + k).ble n = false := by
    cases hb : (n + k).ble n with
    | false => rfl
    | true => have := rc hb; omega
   unfold fV;rw [hx];simp only [j4 hk, cond_false, BH hr, cond_true, FP, hf, grow, nb, Nat.add_zero]
theorem mI {m : Mem} {b e esz : Nat} {vs : List EV} {ro : Bool} (hb : m.get b = .cells vs esz e ro) (h : vs.length = esz) {cap : Option Nat} : m.source esz (.slice b 0 1 cap) = some (1, vs) := by
 show (m.row b 0 (1 * esz)).map (fun cs => (1, cs)) = _
 rw [Cu hb (by omega)]; rfl
theorem ja.lt {m : Mem} {v : EV} {cs : List EV} {n esz lo c : Nat} (h : ja m v cs n esz lo) (hc : m.next <= c \/ c < lo) : gx v c := by
 rcases h.is with ⟨rfl, _⟩ | ⟨b, cap, t, rfl, h1, h2, _⟩
 ·exact gx.nil
 ·exact gx.of (by omega)
theorem ja.gD {m m' : Mem} {v : EV} {cs : List EV} {n esz lo : Nat} (h : ja m v cs n esz lo) (hn : m.next <= m'.next) (hk : ∀ c, c < m.next -> lo <= c -> ¬ gx v c -> m'.get c = m.get c) : ja m' v cs n esz lo := by
 refine ⟨?_, h.len⟩
 rcases h.is with h | ⟨b, cap, t, rfl, h1, h2, h3, h4⟩
 ·exact .inl h
 ·exact .inr ⟨b, cap, t, rfl, h1, by omega, by rw [hk b h2 h1 (fun q => q b 0 n cap rfl rfl)]; exact h3, h4⟩
end
section
def row (nl : Bool) (t e : Nat) (els : List (List EV)) : EV := bif nl && els.isEmpty then .ae else .fz t e els
theorem we (nl : Bool) (t e : Nat) (els : List (List EV)) : (row nl t e els = .ae /\ els = []) \/ row nl t e els = .fz t e els := by
 unfold row
 cases nl
 ·exact .inr rfl
 ·cases els with
  | nil => exact .inl ⟨rfl, rfl⟩
  | cons a l => exact .inr rfl
section
variable {m : Mem} {nl : Bool} {t e : Nat} {els : List (List EV)} {ρ : aZ -> EV}
def BS (v : EV) (m : Mem) : Option R1 := match v with
 | .ae => some (.val (.int .i64 0) m)
 | .slice _ _ n _ => some (.val (.int .i64 (n : Int)) m)
 | .fz _ _ els => some (.val (.int .i64 (els.length : Int)) m)
 | _ => none
@[congr] theorem Vh {v v' : EV} (h : v = v') : BS v m = BS v' m := by rw [h]
theorem wR {x : aZ} : aF ρ (.len x) m = BS (ρ x) m := rfl
theorem zj : BS .ae m = some (.val (.int .i64 0) m) := rfl
theorem tj {b off n : Nat} {c : Option Nat} : BS (.slice b off n c) m = some (.val (.int .i64 (n : Int)) m) := rfl
theorem CN : BS (.fz t e els) m = some (.val (.int .i64 (els.length : Int)) m) := rfl
theorem zi : BS (row nl t e els) m = some (.val (.int .i64 (els.length : Int)) m) := by
 rcases we nl t e els with ⟨h, rfl⟩ | h <;> rw [h] <;> rfl
def AQ (o : Option Nat) (k : Nat -> EV) (m : Mem) : Option R1 := match o with
 | some i => some (.val (k i) m)
 | none => none
theorem wu {i : Nat} {k : Nat -> EV} : AQ (some i) k m = some (.val (k i) m) := rfl
@[congr] theorem U4 {o o' : Option Nat} {k : Nat -> EV} (h : o = o') : AQ o k m = AQ o' k m := by rw [h]
def xW (e : Nat) (x i : EV) (m : Mem) : Option R1 := match x with
 | .slice b off len _ => AQ (idx len i) (fun j => .ptr b (off + j * e)) m
 | .fz _ f els => bif f.beq e then AQ (idx els.length i) (fun j => .fL f els j 0) m else none
 | _ => none
@[congr] theorem Tp {x x' i i' : EV} (h : x = x') (h' : i = i') : xW e x i m = xW e x' i' m := by rw [h, h']
theorem qL {x i : aZ} : aF ρ (.ee e x i) m = xW e (ρ x) (ρ i) m := rfl
theorem oF {b off n : Nat} {c : Option Nat} {i : EV} : xW e (.slice b off n c) i m = AQ (idx n i) (fun j => .ptr b (off + j * e)) m := rfl
theorem rR {i : EV} : xW e (.fz t e els) i m = AQ (idx els.length i) (fun j => .fL e els j 0) m := by
 simp only [xW, Nat.beq_refl, cond_true]
theorem tw {i : EV} : xW e (row nl t e els) i m = AQ (idx els.length i) (fun j => .fL e els j 0) m := by
 rcases we nl t e els with ⟨h, rfl⟩ | h
 ·rw [h]
  show none = AQ (idx 0 i) _ m
  have : idx 0 i = none := by unfold idx; split <;> rfl
  rw [this]; rfl
 ·rw [h]; exact rR
def Xf (agg : Option Nat) (o : Option (List EV)) (k : Nat) : Option EV := match o with
 | some el => partOf agg el k
 | none => none
@[congr] theorem Wt {agg : Option Nat} {o o' : Option (List EV)} {k : Nat} (h : o = o') : Xf agg o k = Xf agg o' k := by rw [h]
theorem zl {agg : Option Nat} {el : List EV} {k : Nat} : Xf agg (some el) k = partOf agg el k := rfl
theorem wC {agg : Option Nat} {i k : Nat} : m.load agg (.fL e els i k) = Xf agg els[i]? k := by
 simp only [Mem.load, Xf]; cases els[i]? <;> rfl
def abX (off : Nat) (x : EV) (m : Mem) : Option R1 := match x with
 | .ptr b o => some (.val (.ptr b (o + off)) m)
 | .fL e els i k => some (.val (.fL e els i (k + off)) m)
 | _ => none
theorem rA : m.source e (.fz t e els) = some (els.length, els.flatten) := by simp only [Mem.source, Nat.beq_refl, cond_true]
theorem sV : m.source e (row nl t e els) = some (els.length, els.flatten) := by
 rcases we nl t e els with ⟨h, rfl⟩ | h
 ·rw [h]; rfl
 ·rw [h]; exact rA
theorem Aj : (EV.fz t e els).cells = some [.fz t e els] := rfl
theorem xc : (row nl t e els).cells = some [row nl t e els] := by
 rcases we nl t e els with ⟨h, rfl⟩ | h <;> rw [h] <;> rfl
theorem uc {i k : Nat} : (EV.fL e els i k).cells = some [.fL e els i k] := rfl
theorem NS : eO (.aL 4) (.fz t e els) .ae = some false := rfl
theorem NQ : eO (.aL 4) .ae (.fz t e els) = some false := rfl
theorem NL : eO (.aL 4) (row nl t e els) .ae = some (nl && els.isEmpty) := by
 unfold row; cases nl && els.isEmpty <;> rfl
def Bq (nl : Bool) (e : Nat) (els : List (List EV)) (lo : Option EV) (h : Option Nat) (m : Mem) : Option R1 := match h with
 | some h => AQ (ay lo 0 h) (fun l => row nl 0 e ((els.take h).drop l)) m
 | none => none
@[congr] theorem Uj {lo : Option EV} {h h' : Option Nat} (q : h = h') : Bq nl e els lo h m = Bq nl e els lo h' m := by rw [q]
theorem tc {lo : Option EV} {h : Nat} : Bq nl e els lo (some h) m = AQ (ay lo 0 h) (fun l => row nl 0 e ((els.take h).drop l)) m := rfl
theorem F3 {x : aZ} {lo hi : Option aZ} (hx : ρ x = row nl t e els) : aF ρ (.uP e x lo hi none) m = Bq (nl && els.isEmpty) e els (lo.map ρ) (ay (hi.map ρ) els.length els.length) m := by
 have hf : (nl && els.isEmpty) = false -> ρ x = .fz t e els := by
  intro h; rw [hx]; unfold row; rw [h]; rfl
 cases hn : nl && els.isEmpty with
 | true =>
  obtain ⟨rfl, hE⟩ := Bool.and_eq_true_iff.1 hn
  have : els = [] := List.isEmpty_iff.1 hE
  subst this;have PQ : ρ x = .ae := hx
  simp only [aF, PQ, Option.map_none, pH, List.length_nil]
  cases h1 : ay (hi.map ρ) 0 0 with
  | none => rfl
  | some h =>
   have h0 : h = 0 := by
    have := Ff h1 (eX 0)
    omega
   subst h0;simp only [Bq, AQ]
   cases h2 : ay (lo.map ρ) 0 0 with
   | none => rfl
   | some l => simp [row]
 | false =>
  simp only [aF, hf hn, Nat.beq_refl, cond_true]
  cases h1 : ay (hi.map ρ) els.length els.length with
  | none => rfl
  | some h =>
   simp only [Bq, AQ]
   cases h2 : ay (lo.map ρ) 0 h with
   | none => rfl
   | some l => simp [row]
def uO (e : Nat) (v : EV) (lo hi mx : Option EV) (m : Mem) : Option R1 := match v with
  | .ae => match ay mx 0 0, ay hi 0 0, ay lo 0 0 with
   | some _, some _, some _ => some (.val .ae m)
   | _, _, _ => none
  | .slice b off len (some c) => gA m (ez e b off len (some c) lo hi mx)
  | .slice b off len none => match m.get b with
   | .cells _ f _ _ => bif f.beq e then gA m (ez e b off len none lo hi mx) else none
   | _ => none
  | .fz _ f els => match mx with
   | none => bif f.beq e then
     match ay hi els.length els.length with
     | some h => match ay lo 0 h with
      | some l => some (.val (.fz 0 f ((els.take h).drop l)) m)
      | none => none
     | none => none
    else none
   | some _ => none
  | _ => none
@[congr] theorem Ui {v v' : EV} {lo EC hi xF mx Ez : Option EV} (h : v = v') (h1 : lo = EC) (h2 : hi = xF) (h3 : mx = Ez) : uO e v lo hi mx m = uO e v' EC xF Ez m := by rw [h, h1, h2, h3]
theorem pD {x : aZ} {lo hi mx : Option aZ} : aF ρ (.uP e x lo hi mx) m = uO e (ρ x) (lo.map ρ) (hi.map ρ) (mx.map ρ) m := by
 simp only [aF, uO]
 cases ρ x <;> try rfl
 ·rename_i b off len cap
  cases cap
  ·simp only; cases m.get b <;> rfl
  ·rfl
 ·cases mx <;> rfl
theorem v9 {lo hi : Option EV} : uO e .ae lo hi none m = (match ay hi 0 0, ay lo 0 0 with
   | some _, some _ => some (.val .ae m)
   | _, _ => none) := by
 simp only [uO, pH]; cases ay hi 0 0 <;> cases ay lo 0 0 <;> rfl
theorem sX {b off len c : Nat} {lo hi mx : Option EV} : uO e (.slice b off len (some c)) lo hi mx m = gA m (ez e b off len (some c) lo hi mx) := rfl
def Wo (e b off len : Nat) (lo hi mx : Option EV) (m : Mem) (B : fM) : Option R1 := match B with
 | .cells _ f _ _ => bif f.beq e then gA m (ez e b off len none lo hi mx) else none
 | _ => none
@[congr] theorem Wn {b off len : Nat} {lo hi mx : Option EV} {B B' : fM} (h : B = B') : Wo e b off len lo hi mx m B = Wo e b off len lo hi mx m B' := by rw [h]
theorem sY {b off len : Nat} {lo hi mx : Option EV} : uO e (.slice b off len none) lo hi mx m = Wo e b off len lo hi mx m (m.get b) := by
 simp only [uO, Wo]
theorem wa {b off len t : Nat} {lo hi mx : Option EV} {cs : List EV} {ro : Bool} : Wo e b off len lo hi mx m (.cells cs e t ro) = gA m (ez e b off len none lo hi mx) := by simp only [Wo, Nat.beq_refl, cond_true]
theorem rC {lo hi : Option EV} : uO e (row nl t e els) lo hi none m = Bq (nl && els.isEmpty) e els lo (ay hi els.length els.length) m := by
 have := F3 (m := m) (nl := nl) (t := t) (e := e) (els := els) (ρ := fun o => match o with | .tmp 0 => row nl t e els | .tmp 1 => lo.getD .undef | .tmp _ => hi.getD .undef | .const x => x) (x := .tmp 0) (lo := lo.map fun _ => .tmp 1) (hi := hi.map fun _ => .tmp 2) rfl
 rw [pD] at this
 cases lo <;> cases hi <;> exact this
theorem yM {lo hi : Option EV} : uO e (.fz t e els) lo hi none m = Bq false e els lo (ay hi els.length els.length) m := by
 have := rC (m := m) (nl := false) (t := t) (e := e) (els := els) (lo := lo) (hi := hi)
 exact this
def kQ (m : Mem) (v : EV) : Option EV := oZ (cG 7 m) m v
def H6 (m : Mem) (l : List EV) : Option (List EV) := cG deep m l
def R6 (a : Option EV) (b : Option (List EV)) : Option (List EV) := match a, b with
 | some a, some b => some (a :: b)
 | _, _ => none
theorem tV {a : EV} {b : List EV} : R6 (some a) (some b) = some (a :: b) := rfl
theorem zM : H6 m [] = some [] := rfl
theorem wN {v : EV} {l : List EV} : H6 m (v :: l) = R6 (kQ m v) (H6 m l) := by
 show jA (cG 7 m) m (v :: l) = _
 simp only [jA]
 show _ = R6 (oZ (cG 7 m) m v) (jA (cG 7 m) m l)
 cases oZ (cG 7 m) m v <;> cases jA (cG 7 m) m l <;> rfl
theorem tD : kQ m .undef = some .undef := rfl
theorem wM {b : Bool} : kQ m (.bool b) = some (.bool b) := rfl
theorem Dp {p : Prop} : kQ m (bo p) = some (bo p) := rfl
theorem zJ {k : IntKind} {n : Int} : kQ m (.int k n) = some (.int k n) := rfl
theorem zH {s : List UInt8} : kQ m (.str s) = some (.str s) := rfl
theorem nj : kQ m .ae = some .ae := rfl
theorem qC : kQ m .bN = some .bN := rfl
theorem nk : kQ m .aJ = some .aJ := rfl
theorem zK : kQ m (.fz t e els) = some (.fz 0 e els) := by simp only [kQ, oZ]
theorem zI : kQ m (row nl t e els) = some (row nl 0 e els) := by
 unfold row; cases nl && els.isEmpty
 ·exact zK
 ·rfl
theorem zL {x : List EV} : kQ m (.agg x) = (H6 m x).map .agg := by simp only [kQ, oZ]; rfl
theorem tE {x : List EV} : kQ m (.tuple x) = (H6 m x).map .tuple := by simp only [kQ, oZ]; rfl
mutual
def plain : EV -> Bool
 | .ptr _ _ | .slice _ _ _ _ | .map _ | .fL _ _ _ _ => false
 | .fz t _ _ => t.beq 0
 | .func _ x y => jr x && jr y
 | .iface _ v => plain v
 | .agg x | .tuple x => jr x
 | _ => true
def jr : List EV -> Bool
 | [] => true
 | v :: l => plain v && jr l
end
mutual
theorem GR {F : List EV -> Option (List EV)} : ∀ {v : EV}, plain v = true -> oZ F m v = some v
 | .undef, _ | .bool _, _ | .int _ _, _ | .str _, _ | .bN, _ | .ae, _ | .bF, _ | .aO, _ | .aJ, _ => by simp only [oZ]
 | .ptr _ _, h | .slice _ _ _ _, h | .map _, h | .fL _ _ _ _, h => by simp [plain] at h
 | .fz t e els, h => by simp only [plain] at h; rw [aV h]; simp only [oZ]
 | .func f x y, h => by
  simp only [plain, pL] at h;simp only [oZ, lg h.1, lg h.2]
 | .iface t v, h => by simp only [oZ, GR (v := v) (by simpa only [plain] using h), Option.map_some]
 | .agg x, h => by simp only [oZ, lg (l := x) (by simpa only [plain] using h), Option.map_some]
 | .tuple x, h => by simp only [oZ, lg (l := x) (by simpa only [plain] using h), Option.map_some]
theorem lg {F : List EV -> Option (List EV)} : ∀ {l : List EV}, jr l = true -> jA F m l = some l
 | [], _ => rfl
 | v :: l, h => by
  simp only [jr, pL] at h;simp only [jA, GR h.1, lg h.2]
end
theorem xB : ∀ {a b : List EV}, jr (a ++ b) = (jr a && jr b)
 | [], b => by simp [jr]
 | v :: a, b => by simp only [List.cons_append, jr, xB (a := a), Bool.and_assoc]
theorem pn : ∀ {els : List (List EV)}, (∀ el ∈ els, jr el = true) -> jr els.flatten = true
 | [], _ => rfl
 | el :: els, h => by rw [List.flatten_cons, xB, h el (by simp), pn fun x hx => h x (by simp [hx])]; rfl
theorem np : ∀ {els : List (List EV)}, (∀ el ∈ els, el.length = e) -> chunk e els.length els.flatten = els
 | [], _ => rfl
 | el :: els, h => by
  have he := h el (by simp)
  rw [List.length_cons, List.flatten_cons, chunk, List.take_append_of_le_length (by omega), List.drop_append_of_le_length (by omega), <- he, List.take_length, List.drop_length, List.nil_append, he, np fun x hx => h x (by simp [hx])]
theorem mV {b ty : Nat} {cap : Option Nat} {ro : Bool} (hb : m.get b = .cells els.flatten e ty ro) (hl : ∀ el ∈ els, el.length = e) (hp : ∀ el ∈ els, jr el = true) (hc : Al cap els.length = true) : kQ m (.slice b 0 els.length cap) = some (.fz 0 e els) := by
 have hlen : els.flatten.length = els.length * e := zO hl
 simp only [kQ, oZ, hb, hc, cond_true, BH (show 0 + els.length * e <= els.flatten.length by omega), List.drop_zero];rw [<- hlen, List.take_length]
 show (jA (cG 6 m) m els.flatten).map _ = _
 rw [lg (pn hp), Option.map_some, np hl]
theorem tX : closed (row nl t e els) = true := by
 unfold row; cases nl && els.isEmpty <;> rfl
theorem qP : fQ [] = true := rfl
theorem oN {v : EV} {l : List EV} : fQ (v :: l) = (closed v && fQ l) := by simp only [fQ]
theorem w7 : closed (.fz t e els) = true := rfl
theorem tY {k : IntKind} {n : Int} : closed (.int k n) = true := rfl
theorem qQ {b : Bool} : closed (.bool b) = true := rfl
theorem w8 {p : Prop} : closed (bo p) = true := rfl
theorem tW {s : List UInt8} : closed (.str s) = true := rfl
theorem kV : closed .ae = true := rfl
theorem tZ {x : List EV} : closed (.agg x) = fQ x := by simp only [closed]
theorem oO {x : List EV} : closed (.tuple x) = fQ x := by simp only [closed]
theorem Ax {k : IntKind} {n : Int} : Flat (.int k n) = true := rfl
theorem xm {b : Bool} : Flat (.bool b) = true := rfl
theorem DR {p : Prop} : Flat (bo p) = true := rfl
theorem Aw {s : List UInt8} : Flat (.str s) = true := rfl
theorem Ay {x : List EV} : Flat (.agg x) = fy x := by simp only [Flat]
theorem uk {x : List EV} : Flat (.tuple x) = fy x := by simp only [Flat]
theorem wO : fy [] = true := rfl
theorem tF {v : EV} {l : List EV} : fy (v :: l) = (Flat v && fy l) := by simp only [fy]
def Hl (i : Nat) (v : EV) : EV := match v with
 | .fz _ e els => .fz i e els
 | v => v
theorem p7 {i : Nat} : gK i [] = [] := rfl
theorem ow {i : Nat} {v : EV} {l : List EV} : gK i (v :: l) = Hl i v :: gK (i + 1) l := rfl
theorem Cf {i : Nat} : Hl i (.fz t e els) = .fz i e els := rfl
theorem yD {i : Nat} : Hl i (row nl t e els) = row nl i e els := by
 unfold row; cases nl && els.isEmpty <;> rfl
theorem yE {i : Nat} {k : IntKind} {n : Int} : Hl i (.int k n) = .int k n := rfl
theorem vO {i : Nat} {b : Bool} : Hl i (.bool b) = .bool b := rfl
theorem Cg {i : Nat} {p : Prop} : Hl i (bo p) = bo p := rfl
theorem yC {i : Nat} {s : List UInt8} : Hl i (.str s) = .str s := rfl
theorem nf {i : Nat} : Hl i .ae = .ae := rfl
theorem yF {i : Nat} {x : List EV} : Hl i (.agg x) = .agg x := rfl
def W4 (o : Option EV) (m : Mem) : Option Fin := match o with
 | some V => bif Flat V then some (.ret V m) else none
 | none => none
@[congr] theorem Wq {o o' : Option EV} (h : o = o') : W4 o m = W4 o' m := by rw [h]
theorem yZ {V : EV} (h : Flat V = true) : W4 (some V) m = some (.ret V m) := by simp only [W4, h, cond_true]
def YL (o : Option EV) (m : Mem) : Option Fin := match o with
 | some V => some (.ret V ⟨m.next + 1, m.gM⟩)
 | none => none
@[congr] theorem Wp {o o' : Option EV} (h : o = o') : YL o m = YL o' m := by rw [h]
theorem yY {V : EV} : YL (some V) m = some (.ret V (bump m 1)) := rfl
def Kk (g : List EV -> Option EV) (o : Option (List EV)) : Option EV := match o with
 | some eT => g (gK 1 eT)
 | none => none
@[congr] theorem UJ {g : List EV -> Option EV} {o o' : Option (List EV)} (h : o = o') : Kk g o = Kk g o' := by rw [h]
theorem ue {g : List EV -> Option EV} {eT : List EV} : Kk g (some eT) = g (gK 1 eT) := rfl
end
class ct (T : Nat -> Option iM) (f : Nat) (F : outParam az) : Prop where
 has : T f = some (.go F)
section
variable {T : Nat -> Option iM} {K : Nat -> Nat} {m : Mem}
class e6 (K : Nat -> Nat) (f : Nat) : Prop where
 s : K f = 1
class G6 (K : Nat -> Nat) (f : Nat) : Prop where
 s : K f = 2
class dC (K : Nat -> Nat) (f : Nat) : Prop where
 s : K f = 0
theorem Ht {f : Nat} [h : e6 K f] {args : List EV} : run (UT T K) f args m = W4 (Kk (bA T K f) (H6 m args)) m := by
 rw [rF (g := kE (bA T K f)) (by unfold UT PT; rw [h.s]; rfl)]
 unfold kE H6
 cases cG deep m args <;> rfl
theorem Hs {f : Nat} [h : G6 K f] {args : List EV} : run (UT T K) f args m = bif fQ args then YL (Kk (bA T K f) (H6 m args)) m else none := by
 rw [rF (g := kD (bA T K f)) (by unfold UT PT; rw [h.s]; rfl)]
 unfold kD H6
 cases fQ args
 ·rfl
 ·cases cG deep m args <;> rfl
theorem bZ {f : Nat} {F : az} [h : dC K f] [hF : ct T f F] {args : List EV} (hn : args.length <= F.ntmps) : run (UT T K) f args m = pO F.results (exec (UT T K) F.body (aa args 0 pz) m) :=
 MI (by unfold UT PT; rw [h.s]; exact hF.has) hn
theorem Eo {f : Nat} {g : List EV -> Mem -> Option Fin} [h : dC K f] (hg : T f = some (.spec g)) {args : List EV} : run (UT T K) f args m = g args m :=
 rF (by unfold UT PT; rw [h.s]; exact hg)
theorem zh {F : az} {args : List EV} {v : EV} {k : Nat} {m1 : Mem} (hl : args.length <= F.ntmps) (h : pO F.results (exec T F.body (aa args 0 pz) m) = some (.ret v m1)) (hf : Flat v = true) (hn : m1.next = nb m.next k) (hk : Au m m1) : kP T F args m = some (.ret v (bump m k)) := by
 unfold kP;rw [if_pos hl, Hx];rw [show (⟨cQ args 0 .leaf, []⟩ : Fr) = aa args 0 pz by unfold pz; rw [Aq], h]
 simp only
 rw [if_pos ⟨hf, by rw [hn]; exact bH, hk⟩, hn]
 rfl
noncomputable def SH (o : Option Fin) : Option EV := match o with
 | some (.ret v m) => kQ m v
 | _ => none
@[congr] theorem WO {o o' : Option Fin} (h : o = o') : SH o = SH o' := by rw [h]
theorem zN {v : EV} : SH (some (.ret v m)) = kQ m v := rfl
open Classical in
noncomputable def Sy (p : Prop) (a b : Option EV) : Option EV := if p then a else b
theorem H7 {p : Prop} {a b : Option Fin} : SH (iF p a b) = Sy p (SH a) (SH b) := by unfold iF Sy; split <;> rfl
theorem wH {p : Prop} {a b : Option EV} (h : p) : Sy p a b = a := if_pos h
theorem wI {p : Prop} {a b : Option EV} (h : ¬ p) : Sy p a b = b := if_neg h
@[congr] theorem Ww {p q : Prop} {a a' b b' : Option EV} (h : p = q) (ha : q -> a = a') (hb : ¬ q -> b = b') : Sy p a b = Sy q a' b' := by
 subst h; unfold Sy; split
 ·exact ha ‹_›
 ·exact hb ‹_›
theorem cO {f : Nat} {F : az} [h : ct T f F] {eT : List EV} (hn : eT.length <= F.ntmps) : bA T K f eT = SH (pO F.results (exec (UT T K) F.body (aa eT 0 pz) aQ)) := by
 rw [Er h.has];unfold qU;rw [BH hn, cond_true, Hx];rw [show (⟨cQ eT 0 .leaf, []⟩ : Fr) = aa eT 0 pz by unfold pz; rw [Aq]]
 cases pO F.results (exec (UT T K) F.body (aa eT 0 pz) aQ) with
 | none => rfl
 | some fin =>
  cases fin with
  | gO v m => rfl
  | ret v m =>
   simp only [zN]
   show (match jA (cG 7 m) m [v] with | some [V] => some V | _ => none) = oZ (cG 7 m) m v
   simp only [jA]
   cases oZ (cG 7 m) m v <;> rfl
end
end
section
def T5 (g : List EV -> Option EV) : Prop := ∀ args v, g args = some v -> fy args = true /\ Flat v = true
def adI : iM -> Prop
 | .go F => Gs F = true
 | .ext g | .pure g => T5 g
 | .spec _ => False
 | .NV _ _ => False
theorem BJ : ∀ args v, gy args = some v -> fy args = true /\ Flat v = true := by
 intro args v h
 unfold gy at h
 split at h
 ·cases h; exact ⟨rfl, rfl⟩
 ·cases h
theorem aH {T : Nat -> Option iM} {f : Nat} {F : az} (he : T f = some (.go F)) (h : Gs F = true) : ij T f (.go F) := ⟨F, he, S9 h, (OJ h).symm⟩
theorem NU {T : Nat -> Option iM} {f : Nat} {F F1 : az} (he : T f = some (.go F)) (h : lN F = true) (hs : F1 = F.sub) : ij T f (.go F1) := ⟨F, he, h, hs⟩
theorem KM {T B : Nat -> Option iM} (h : ∀ f e, B f = some e -> ij T f e) {g : Nat} {e0 : iM} (h0 : ij T g e0) : ∀ f e, up B g e0 f = some e -> ij T f e := by
 intro f e he
 unfold up at he
 cases hb : f.beq g <;> simp only [hb, cond_true, cond_false] at he
 ·exact h f e he
 ·cases he; rw [aV hb]; exact h0
theorem uJ {T B : Nat -> Option iM} (h : ∀ f e, B f = some e -> ij T f e) {f : Nat} {F1 : az} (hB : B f = some (.go F1)) : ∀ g e, up B f (.spec (kP B F1)) g = some e -> ij T g e := by
 obtain ⟨F, hT, eu, rfl⟩ := h f _ hB
 exact KM h (QY h hT eu)
theorem Ob {T B : Nat -> Option iM} (h : ∀ f e, B f = some e -> ij T f e) {f : Nat} {F1 : az} (hB : B f = some (.go F1)) {k : Nat} (hw : isTrue (aW B k f [] aQ) = true) : ij T f (.pure MB) := by
 obtain ⟨F, hT, eu, rfl⟩ := h f _ hB
 obtain ⟨m1, hm⟩ := O4 hw
 cases k with
 | zero => simp [aW] at hm
 | succ k =>
  simp only [aW, hB, iD] at hm;have hb : qU B F.sub [] = some (.bool true) := Ao hm (by rfl)
  have hp := Gp h hT eu (g := fun eT => match eT with | [] => some (.bool true) | _ => none) (fun eT V hv => by
   cases eT with
   | nil => cases hv; exact hb
   | cons a eT => cases hv)
  intro θ m m' args aA v hg ha hx
  unfold MB at hx
  split at hx
  ·cases hx
   exact hp θ m m' [] aA (.ret (.bool true) m) hg ha (by rfl)
  ·cases hx
theorem MH {T : Nat -> Option iM} {f : Nat} {F : az} [h : ct T f F] {args : List EV} {m : Mem} (hn : args.length <= F.ntmps) : run T f args m = pO F.results (exec T F.body (aa args 0 pz) m) := MI h.has hn
def Ve (f : Nat) : List Nat -> Bool
 | [] => false
 | a :: l => bif a.beq f then true else Ve f l
end
section
/- (*balustrade/lex.scanner).next -/
def bt : az :=
 ⟨73,
 (.seq
 (.region [iV 2 (.ab (kI 0))])
 (.seq
 (.draw [iV 8 (.ab (tm 0)),
 iV 9 (.cA (tm 8)),
 iV 10 (.aj 0 (tm 9)),
 iV 11 (.load none (tm 10)),
 iV 12 (.ab (tm 0)),
 iV 13 (.cA (tm 12)),
 iV 14 (.aj 1 (tm 13)),
 iV 15 (.load none (tm 14)),
 iV 16 (.gh (tm 11) (some (tm 15)) none),
 iV 3 (.alloc 9 [(.str [])]),
 iN (.store 1 (tm 3) (tm 16))] [])
 (.seq
 (.seq
 (.region [iV 17 (.load none (tm 3)),
 iV 18 (.eD (tm 17) (kI 0)),
 iC 19 48 [(tm 18)]])
 (.block 0
 (.seq
 (.region [iV 21 (.eq false (.aL 1) (tm 19) (kI 1)),
 iV 20 (.ab (tm 21))])
 (.cond (.tmp 20)
 (.draw [iV 22 (.ab (tm 0)),
 iV 23 (.cA (tm 22)),
 iV 24 (.aj 1 (tm 23)),
 iV 25 (.load none (tm 24)),
 iV 26 (.load none (tm 3)),
 iV 27 (.bB 3 1 1 [(.int .i64 0)] [(0, (kI 1))]),
 iC 28 49 [(tm 26), (tm 27)],
 iV 29 (.bin .add (tm 25) (tm 28)),
 iV 30 (.cA (tm 22)),
 iV 31 (.aj 1 (tm 30)),
 iN (.store 1 (tm 31) (tm 29))] [(3, 6)])
 (.seq
 (.region [iV 33 (.eq false (.aL 1) (tm 19) (kI 2)),
 iV 32 (.ab (tm 33))])
 (.cond (.tmp 32)
 (.seq
 (.region [iV 35 (.load none (tm 3)),
 iC 36 50 [(tm 35), (kS [10])],
 iV 34 (.ab (tm 36)),
 iV 37 (.extract (tm 34) 0),
 iV 38 (.extract (tm 34) 1),
 iV 39 (.extract (tm 34) 2),
 iV 4 (.ab (tm 37)),
 iV 5 (.ab (tm 38)),
 iV 6 (.ab (tm 39))])
 (.region [iV 40 (.ab (tm 0)),
 iV 41 (.cA (tm 40)),
 iV 42 (.aj 1 (tm 41)),
 iV 43 (.load none (tm 42)),
 iV 44 (.ab (tm 4)),
 iV 45 (.cH (tm 44)),
 iV 46 (.bin .add (tm 43) (tm 45)),
 iV 47 (.cA (tm 40)),
 iV 48 (.aj 1 (tm 47)),
 iN (.store 1 (tm 48) (tm 46))]))
 (.seq
 (.region [iV 50 (.eq false (.aL 1) (tm 19) (kI 3)),
 iV 49 (.ab (tm 50))])
 (.cond (.tmp 49)
 (.seq
 (.region [iV 51 (.ab (tm 0)),
 iV 52 (.load none (tm 3)),
 iC 53 51 [(tm 51), (tm 52)],
 iV 2 (.ab (tm 53))])
 .ret)
 (.seq
 (.region [iV 55 (.eq false (.aL 1) (tm 19) (kI 4)),
 iV 54 (.ab (tm 55))])
 (.cond (.tmp 54)
 (.seq
 (.region [iV 56 (.ab (tm 0)),
 iV 57 (.load none (tm 3)),
 iC 58 52 [(tm 56), (tm 57)],
 iV 2 (.ab (tm 58))])
 .ret)
 (.seq
 (.region [iV 60 (.eq false (.aL 1) (tm 19) (kI 5)),
 iV 59 (.ab (tm 60))])
 (.cond (.tmp 59)
 (.seq
 (.region [iV 61 (.load none (.const (V4 L_lex_signs))),
 iV 62 (.BQ 54 [] [(tm 3)]),
 iC 63 53 [(tm 61), (tm 62)],
 iV 7 (.ab (tm 63))])
 (.seq
 (.seq
 (.region [iV 64 (.ab (tm 7)),
 iV 65 (.bin .lss (tm 64) (kI 0))])
 (.cond (.tmp 65)
 (.seq
 (.region [iV 2 (.ab (kI 6))])
 .ret)
 .skip))
 (.region [iV 66 (.ab (tm 0)),
 iV 67 (.load none (.const (V4 L_lex_signs))),
 iV 68 (.ab (tm 7)),
 iV 69 (.ee 1 (tm 67) (tm 68)),
 iV 70 (.load none (tm 69)),
 iV 71 (.cH (tm 70)),
 iC 72 28 [(tm 66), (kI 4), (tm 71), (kI 0)]])))
 (.seq
 (.region [iV 2 (.ab (kI 6))])
 .ret)))))))))))))
 (.seq
 (.region [iV 2 (.ab (kI 0))])
 .ret)))),
 [.tmp 2]⟩
theorem W0 : bt = gJ.sub := by kernel_rfl
/- balustrade/lex.Word -/
def pI : az :=
 ⟨6,
 (.seq
 (.region [iV 2 (.ab (.const (.bool false)))])
 (.seq
 (.region [iV 3 (.load none (.const (V4 L_lex_words))),
 iV 4 (.ab (tm 0)),
 iC 5 79 [(tm 3), (tm 4)],
 iV 2 (.ab (tm 5))])
 .ret)),
 [.tmp 2]⟩
theorem WZ : pI = pJ.sub := by kernel_rfl
end
section
def T7 : Bt :=
 (.node 54 (.go dh) (.node 30 (.go dy) (.node 17 (.go dB) (.node 10 (.go gr) (.node 7 (.go hU) (.node 6 (.go eW) (.node 4 (.go cj) .leaf .leaf) .leaf) (.node 9 (.go gb) (.node 8 (.go lH) .leaf .leaf) .leaf)) (.node 14 (.go bG) (.node 13 (.go ke) (.node 12 (.go gd) .leaf .leaf) .leaf) (.node 16 (.go cC) (.node 15 (.go bu) .leaf .leaf) .leaf))) (.node 23 (.go mZ) (.node 20 (.go bz) (.node 19 (.go eI) (.node 18 (.go cx) .leaf .leaf) .leaf) (.node 22 (.go jj) (.node 21 (.go ep) .leaf .leaf) .leaf)) (.node 27 (.go bt) (.node 25 (.go ko) (.node 24 (.go j9) .leaf .leaf) .leaf) (.node 29 (.go bD) (.node 28 (.go eH) .leaf .leaf) .leaf)))) (.node 42 (.go jl) (.node 36 (.go lC) (.node 33 (.go dL) (.node 32 (.go bV) (.node 31 (.go cN) .leaf .leaf) .leaf) (.node 35 (.go cw) (.node 34 (.go de) .leaf .leaf) .leaf)) (.node 39 (.go lI) (.node 38 (.go hZ) (.node 37 (.go bq) .leaf .leaf) .leaf) (.node 41 (.go m6) (.node 40 (.go mY) .leaf .leaf) .leaf))) (.node 48 (.go ig) (.node 45 (.go ib) (.node 44 (.go ia) (.node 43 (.go jk) .leaf .leaf) .leaf) (.node 47 (.go j7) (.node 46 (.go j8) .leaf .leaf) .leaf)) (.node 51 (.go cM) (.node 50 (.go gm) (.node 49 (.go lG) .leaf .leaf) .leaf) (.node 53 (.go bU) (.node 52 (.go dg) .leaf .leaf) .leaf))))) (.node 79 (.go cb) (.node 66 (.go lE) (.node 60 (.go dQ) (.node 57 (.go eo) (.node 56 (.go dz) (.node 55 (.go dJ) .leaf .leaf) .leaf) (.node 59 (.go cd) (.node 58 (.go dA) .leaf .leaf) .leaf)) (.node 63 (.go hJ) (.node 62 (.go ka) (.node 61 (.go ji) .leaf .leaf) .leaf) (.node 65 (.go j5) (.node 64 (.go lD) .leaf .leaf) .leaf))) (.node 72 (.go aT) (.node 69 (.go cS) (.node 68 (.go dI) (.node 67 (.go lF) .leaf .leaf) .leaf) (.node 71 (.go pI) (.node 70 (.go bC) .leaf .leaf) .leaf)) (.node 75 (.go j6) (.node 74 (.go db) (.node 73 (.go gq) .leaf .leaf) .leaf) (.node 77 (.go eg) (.node 76 (.go aM) .leaf .leaf) .leaf)))) (.node 91 (.go dP) (.node 85 (.go ei) (.node 82 (.go da) (.node 81 (.go dK) (.node 80 (.go eh) .leaf .leaf) .leaf) (.node 84 (.go fq) (.node 83 (.go dc) .leaf .leaf) .leaf)) (.node 88 (.go er) (.node 87 (.go fm) (.node 86 (.go fo) .leaf .leaf) .leaf) (.node 90 (.go et) (.node 89 (.go fi) .leaf .leaf) .leaf))) (.node 98 (.go cy) (.node 95 (.go bl) (.node 94 (.go cY) (.node 92 (.ext gy) .leaf .leaf) .leaf) (.node 97 (.go dN) (.node 96 (.go cR) .leaf .leaf) .leaf)) (.node 101 (.go kc) (.node 100 (.go dM) (.node 99 (.go bL) .leaf .leaf) .leaf) (.node 103 (.go bS) (.node 102 (.go dO) .leaf .leaf) .leaf))))))
def A00 : Nat -> Option iM := T7.find
theorem V8 : ∀ f e, A00 f = some e -> ij T f e := Bt.Dq (t := T7)
 ⟨(aH (F := dh) acT (by kernel_rfl)), ⟨(aH (F := dy) adj (by kernel_rfl)), ⟨(aH (F := dB) adv (by kernel_rfl)), ⟨(aH (F := gr) adB (by kernel_rfl)), ⟨(aH (F := hU) at7 (by kernel_rfl)), ⟨(aH (F := eW) at6 (by kernel_rfl)), ⟨(aH (F := cj) at4 (by kernel_rfl)), trivial, trivial⟩, trivial⟩, ⟨(aH (F := gb) at9 (by kernel_rfl)), ⟨(aH (F := lH) at8 (by kernel_rfl)), trivial, trivial⟩, trivial⟩⟩, ⟨(aH (F := bG) ady (by kernel_rfl)), ⟨(aH (F := ke) adz (by kernel_rfl)), ⟨(aH (F := gd) adA (by kernel_rfl)), trivial, trivial⟩, trivial⟩, ⟨(aH (F := cC) adw (by kernel_rfl)), ⟨(aH (F := bu) adx (by kernel_rfl)), trivial, trivial⟩, trivial⟩⟩⟩, ⟨(aH (F := mZ) adp (by kernel_rfl)), ⟨(aH (F := bz) ads (by kernel_rfl)), ⟨(aH (F := eI) adt (by kernel_rfl)), ⟨(aH (F := cx) adu (by kernel_rfl)), trivial, trivial⟩, trivial⟩, ⟨(aH (F := jj) adq (by kernel_rfl)), ⟨(aH (F := ep) adr (by kernel_rfl)), trivial, trivial⟩, trivial⟩⟩, ⟨(NU (F := gJ) adm (by kernel_rfl) W0), ⟨(aH (F := ko) adn (by kernel_rfl)), ⟨(aH (F := j9) ado (by kernel_rfl)), trivial, trivial⟩, trivial⟩, ⟨(aH (F := bD) adk (by kernel_rfl)), ⟨(aH (F := eH) adl (by kernel_rfl)), trivial, trivial⟩, trivial⟩⟩⟩⟩, ⟨(aH (F := jl) ac5 (by kernel_rfl)), ⟨(aH (F := lC) adb (by kernel_rfl)), ⟨(aH (F := dL) adg (by kernel_rfl)), ⟨(aH (F := bV) adh (by kernel_rfl)), ⟨(aH (F := cN) adi (by kernel_rfl)), trivial, trivial⟩, trivial⟩, ⟨(aH (F := cw) ade (by kernel_rfl)), ⟨(aH (F := de) adf (by kernel_rfl)), trivial, trivial⟩, trivial⟩⟩, ⟨(aH (F := lI) ac8 (by kernel_rfl)), ⟨(aH (F := hZ) ac9 (by kernel_rfl)), ⟨(aH (F := bq) ada (by kernel_rfl)), trivial, trivial⟩, trivial⟩, ⟨(aH (F := m6) ac6 (by kernel_rfl)), ⟨(aH (F := mY) ac7 (by kernel_rfl)), trivial, trivial⟩, trivial⟩⟩⟩, ⟨(aH (F := ig) acZ (by kernel_rfl)), ⟨(aH (F := ib) ac2 (by kernel_rfl)), ⟨(aH (F := ia) ac3 (by kernel_rfl)), ⟨(aH (F := jk) ac4 (by kernel_rfl)), trivial, trivial⟩, trivial⟩, ⟨(aH (F := j7) ac0 (by kernel_rfl)), ⟨(aH (F := j8) ac1 (by kernel_rfl)), trivial, trivial⟩, trivial⟩⟩, ⟨(aH (F := cM) acW (by kernel_rfl)), ⟨(aH (F := gm) acX (by kernel_rfl)), ⟨(aH (F := lG) acY (by kernel_rfl)), trivial, trivial⟩, trivial⟩, ⟨(aH (F := bU) acU (by kernel_rfl)), ⟨(aH (F := dg) acV (by kernel_rfl)), trivial, trivial⟩, trivial⟩⟩⟩⟩⟩, ⟨(aH (F := cb) acv (by kernel_rfl)), ⟨(aH (F := lE) acH (by kernel_rfl)), ⟨(aH (F := dQ) acN (by kernel_rfl)), ⟨(aH (F := eo) acQ (by kernel_rfl)), ⟨(aH (F := dz) acR (by kernel_rfl)), ⟨(aH (F := dJ) acS (by kernel_rfl)), trivial, trivial⟩, trivial⟩, ⟨(aH (F := cd) acO (by kernel_rfl)), ⟨(aH (F := dA) acP (by kernel_rfl)), trivial, trivial⟩, trivial⟩⟩, ⟨(aH (F := hJ) acK (by kernel_rfl)), ⟨(aH (F := ka) acL (by kernel_rfl)), ⟨(aH (F := ji) acM (by kernel_rfl)), trivial, trivial⟩, trivial⟩, ⟨(aH (F := j5) acI (by kernel_rfl)), ⟨(aH (F := lD) acJ (by kernel_rfl)), trivial, trivial⟩, trivial⟩⟩⟩, ⟨(aH (F := aT) acB (by kernel_rfl)), ⟨(aH (F := cS) acE (by kernel_rfl)), ⟨(aH (F := dI) acF (by kernel_rfl)), ⟨(aH (F := lF) acG (by kernel_rfl)), trivial, trivial⟩, trivial⟩, ⟨(NU (F := pJ) acC (by kernel_rfl) WZ), ⟨(aH (F := bC) acD (by kernel_rfl)), trivial, trivial⟩, trivial⟩⟩, ⟨(aH (F := j6) acy (by kernel_rfl)), ⟨(aH (F := db) acz (by kernel_rfl)), ⟨(aH (F := gq) acA (by kernel_rfl)), trivial, trivial⟩, trivial⟩, ⟨(aH (F := eg) acw (by kernel_rfl)), ⟨(aH (F := aM) acx (by kernel_rfl)), trivial, trivial⟩, trivial⟩⟩⟩⟩, ⟨(aH (F := dP) ach (by kernel_rfl)), ⟨(aH (F := ei) aco (by kernel_rfl)), ⟨(aH (F := da) acr (by kernel_rfl)), ⟨(aH (F := dK) acs (by kernel_rfl)), ⟨(aH (F := eh) acu (by kernel_rfl)), trivial, trivial⟩, trivial⟩, ⟨(aH (F := fq) acp (by kernel_rfl)), ⟨(aH (F := dc) acq (by kernel_rfl)), trivial, trivial⟩, trivial⟩⟩, ⟨(aH (F := er) ack (by kernel_rfl)), ⟨(aH (F := fm) acm (by kernel_rfl)), ⟨(aH (F := fo) acn (by kernel_rfl)), trivial, trivial⟩, trivial⟩, ⟨(aH (F := et) aci (by kernel_rfl)), ⟨(aH (F := fi) acj (by kernel_rfl)), trivial, trivial⟩, trivial⟩⟩⟩, ⟨(aH (F := cy) aca (by kernel_rfl)), ⟨(aH (F := bl) ace (by kernel_rfl)), ⟨(aH (F := cY) acf (by kernel_rfl)), ⟨(TQ acg BJ), trivial, trivial⟩, trivial⟩, ⟨(aH (F := dN) acb (by kernel_rfl)), ⟨(aH (F := cR) acd (by kernel_rfl)), trivial, trivial⟩, trivial⟩⟩, ⟨(aH (F := kc) Yx (by kernel_rfl)), ⟨(aH (F := dM) Yy (by kernel_rfl)), ⟨(aH (F := bL) ab9 (by kernel_rfl)), trivial, trivial⟩, trivial⟩, ⟨(aH (F := bS) Yv (by kernel_rfl)), ⟨(aH (F := dO) Yw (by kernel_rfl)), trivial, trivial⟩, trivial⟩⟩⟩⟩⟩⟩
end
end Go.Proofs.YtdiccmapankckaaDoor.Ev
