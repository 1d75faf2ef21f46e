/- EvFz, EvSub, EvFzOp, EvFzOps, EvFzRun, EvJn, EvIt, EvT, EvPure. -/
import Derived.Test.YtblcomejcahkdaaDoorMd
set_option linter.unusedSimpArgs false
set_option linter.unusedVariables false
set_option linter.unusedSectionVars false
set_option linter.defProp false
set_option maxRecDepth 20000
set_option maxHeartbeats 8000000
namespace Go.Proofs.YtblcomejcahkdaaDoor.Ev
open Go
section
structure bF where
 eU : Nat -> Option Nat
 tag : Nat -> Option (Nat × Nat × Option Nat)
 eF : Nat -> Option cY
def bF.low (θ : bF) : bF := ⟨fun _ => none, fun _ => none, θ.eF⟩
mutual
inductive SV : bF -> EV -> EV -> Prop
 | undef {θ : bF} : SV θ .undef .undef
 | bool {θ : bF} (b : Bool) : SV θ (.bool b) (.bool b)
 | int {θ : bF} (k : IntKind) (n : Int) : SV θ (.int k n) (.int k n)
 | str {θ : bF} (s : List UInt8) : SV θ (.str s) (.str s)
 | bb {θ : bF} : SV θ .bb .bb
 | ptr {θ : bF} {b c off : Nat} (h : θ.eU b = some c) : SV θ (.ptr b off) (.ptr c off)
 | aa {θ : bF} : SV θ .aa .aa
 | slice {θ : bF} {b c off len : Nat} {cap : Option Nat} (h : θ.eU b = some c) : SV θ (.slice b off len cap) (.slice c off len cap)
 | aS {θ : bF} : SV θ .aS .aS
 | map {θ : bF} {b c : Nat} (h : θ.eU b = some c) : SV θ (.map b) (.map c)
 | aR {θ : bF} : SV θ .aR .aR
 | func {θ : bF} {f : Nat} {x y x' y' : List EV} (hx : cj θ x x') (hy : cj θ y y') : SV θ (.func f x y) (.func f x' y')
 | aq {θ : bF} : SV θ .aq .aq
 | iface {θ : bF} {t : Nat} {v v' : EV} (h : SV θ v v') : SV θ (.iface t v) (.iface t v')
 | agg {θ : bF} {x x' : List EV} (h : cj θ x x') : SV θ (.agg x) (.agg x')
 | tuple {θ : bF} {x x' : List EV} (h : cj θ x x') : SV θ (.tuple x) (.tuple x')
 | fz {θ : bF} {t esz : Nat} {els : List (List EV)} {b off : Nat} {cap : Option Nat} (h : SR θ esz els b off) (ht : t = 0 \/ θ.tag t = some (b, off, cap)) (hc : ∀ c, cap = some c -> els.length <= c) : SV θ (.fz t esz els) (.slice b off els.length cap)
 | sF {θ : bF} {t esz b off : Nat} (ht : t = 0 \/ θ.tag t = some (b, off, some 0)) : SV θ (.fz t esz []) (.slice b off 0 (some 0))
 | dl {θ : bF} {esz : Nat} {els : List (List EV)} {b off i k o : Nat} (h : SR θ esz els b off) (hi : i < els.length) (ho : o = off + i * esz + k) : SV θ (.dl esz els i k) (.ptr b o)
inductive cj : bF -> List EV -> List EV -> Prop
 | nil {θ : bF} : cj θ [] []
 | cons {θ : bF} {v v' : EV} {x x' : List EV} (h : SV θ v v') (hs : cj θ x x') : cj θ (v :: x) (v' :: x')
inductive SR : bF -> Nat -> List (List EV) -> Nat -> Nat -> Prop
 | mk {θ : bF} {esz : Nat} {els : List (List EV)} {b off k : Nat} {cs : List EV} {ro : Bool} (hs : θ.eF b = some (.cells cs esz k ro)) (hl : ∀ el ∈ els, el.length = esz) (hn : off + els.length * esz <= cs.length)
   (hx : cj θ.low els.flatten ((cs.drop off).take (els.length * esz))) : SR θ esz els b off
end
structure bF.Ext (θ θ' : bF) : Prop where
 eU : ∀ b c, θ.eU b = some c -> θ'.eU b = some c
 tag : ∀ t x, θ.tag t = some x -> θ'.tag t = some x
 eF : ∀ b B, θ.eF b = some B -> θ'.eF b = some B
theorem bF.Ext.refl (θ : bF) : bF.Ext θ θ := ⟨fun _ _ h => h, fun _ _ h => h, fun _ _ h => h⟩
theorem bF.Ext.trans {θ θ' XF : bF} (h : bF.Ext θ θ') (k : bF.Ext θ' XF) : bF.Ext θ XF := ⟨fun b c e => k.eU b c (h.eU b c e), fun t x e => k.tag t x (h.tag t x e), fun b B e => k.eF b B (h.eF b B e)⟩
theorem bF.Ext.low {θ θ' : bF} (e : bF.Ext θ θ') : bF.Ext θ.low θ'.low := ⟨fun _ _ h => h, fun _ _ h => h, e.eF⟩
theorem bF.Eh (θ : bF) : bF.Ext θ.low θ := ⟨fun _ _ h => (by simp [bF.low] at h), fun _ _ h => (by simp [bF.low] at h), fun _ _ h => h⟩
mutual
theorem SV.ext : ∀ {θ θ' : bF}, bF.Ext θ θ' -> ∀ {v v' : EV}, SV θ v v' -> SV θ' v v'
 | _, _, _, _, _, .undef => .undef
 | _, _, _, _, _, .bool b => .bool b
 | _, _, _, _, _, .int k n => .int k n
 | _, _, _, _, _, .str s => .str s
 | _, _, _, _, _, .bb => .bb
 | _, _, e, _, _, .ptr h => .ptr (e.eU _ _ h)
 | _, _, _, _, _, .aa => .aa
 | _, _, e, _, _, .slice h => .slice (e.eU _ _ h)
 | _, _, _, _, _, .aS => .aS
 | _, _, e, _, _, .map h => .map (e.eU _ _ h)
 | _, _, _, _, _, .aR => .aR
 | _, _, e, _, _, .func hx hy => .func (cj.ext e hx) (cj.ext e hy)
 | _, _, _, _, _, .aq => .aq
 | _, _, e, _, _, .iface h => .iface (SV.ext e h)
 | _, _, e, _, _, .agg h => .agg (cj.ext e h)
 | _, _, e, _, _, .tuple h => .tuple (cj.ext e h)
 | _, _, e, _, _, .fz h ht hc => .fz (SR.ext e h) (ht.imp id (e.tag _ _)) hc
 | _, _, e, _, _, .sF ht => .sF (ht.imp id (e.tag _ _))
 | _, _, e, _, _, .dl h hi ho => .dl (SR.ext e h) hi ho
theorem cj.ext : ∀ {θ θ' : bF}, bF.Ext θ θ' -> ∀ {v v' : List EV}, cj θ v v' -> cj θ' v v'
 | _, _, _, _, _, .nil => .nil
 | _, _, e, _, _, .cons h hs => .cons (SV.ext e h) (cj.ext e hs)
theorem SR.ext : ∀ {θ θ' : bF}, bF.Ext θ θ' -> ∀ {esz : Nat} {els : List (List EV)} {b off : Nat}, SR θ esz els b off -> SR θ' esz els b off
 | _, _, e, _, _, _, _, .mk hs hl hn hx => .mk (e.eF _ _ hs) hl hn (cj.ext e.low hx)
end
section
variable {θ : bF}
theorem cj.length : ∀ {x x' : List EV}, cj θ x x' -> x.length = x'.length
 | _, _, .nil => rfl
 | _, _, .cons _ hs => by simp [cj.length hs]
theorem cj.get : ∀ {x x' : List EV}, cj θ x x' -> ∀ {i : Nat} {v : EV}, x[i]? = some v -> ∃ v', x'[i]? = some v' /\ SV θ v v'
 | _, _, .nil, i, v, h => by simp at h
 | _, _, .cons (v' := a') h0 hs, i, v, h => by
  cases i with
  | zero => simp at h; subst h; exact ⟨a', rfl, h0⟩
  | succ i => simp at h; obtain ⟨v', hv, hr⟩ := cj.get hs h; exact ⟨v', by simpa using hv, hr⟩
theorem cj.lM : ∀ {x x' : List EV}, x.length = x'.length -> (∀ (i : Nat) (v v' : EV), x[i]? = some v -> x'[i]? = some v' -> SV θ v v') -> cj θ x x'
 | [], [], _, _ => .nil
 | [], _ :: _, h, _ => by simp at h
 | _ :: _, [], h, _ => by simp at h
 | a :: x, a' :: x', h, hg => .cons (hg 0 a a' rfl rfl) (cj.lM (by simpa using h) fun i v v' hv ll => hg (i + 1) v v' (by simpa using hv) (by simpa using ll))
theorem cj.append : ∀ {x y x' y' : List EV}, cj θ x x' -> cj θ y y' -> cj θ (x ++ y) (x' ++ y')
 | _, _, _, _, .nil, h => h
 | _, _, _, _, .cons h hs, k => .cons h (cj.append hs k)
theorem cj.take {x x' : List EV} (h : cj θ x x') (n : Nat) : cj θ (x.take n) (x'.take n) := by
 refine cj.lM (by simp [h.length]) fun i v v' hv ll => ?_
 rw [List.getElem?_take] at hv ll
 split at hv
 ·rename_i aP
  obtain ⟨u, hu, hr⟩ := h.get hv
  rw [if_pos aP, hu] at ll; cases ll; exact hr
 ·cases hv
theorem cj.drop {x x' : List EV} (h : cj θ x x') (n : Nat) : cj θ (x.drop n) (x'.drop n) := by
 refine cj.lM (by simp [h.length]) fun i v v' hv ll => ?_
 rw [List.getElem?_drop] at hv ll
 obtain ⟨u, hu, hr⟩ := h.get hv
 rw [hu] at ll; cases ll; exact hr
theorem cj.map {α : Type} (f g : α -> EV) : ∀ {l : List α}, (∀ a ∈ l, SV θ (f a) (g a)) -> cj θ (l.map f) (l.map g)
 | [], _ => .nil
 | a :: l, h => .cons (h a (by simp)) (cj.map f g fun b hb => h b (by simp [hb]))
theorem cj.replicate {v v' : EV} (h : SV θ v v') : ∀ n : Nat, cj θ (List.replicate n v) (List.replicate n v')
 | 0 => .nil
 | n + 1 => .cons h (cj.replicate h n)
mutual
theorem SV.of_flat : ∀ {v : EV}, Flat v = true -> SV θ v v
 | .undef, _ => .undef
 | .bool b, _ => .bool b
 | .int k n, _ => .int k n
 | .str s, _ => .str s
 | .bb, _ => .bb
 | .ptr _ _, h => by simp [Flat] at h
 | .aa, _ => .aa
 | .slice _ _ _ _, h => by simp [Flat] at h
 | .aS, _ => .aS
 | .map _, h => by simp [Flat] at h
 | .aR, _ => .aR
 | .func f x y, h => by simp only [Flat, kD] at h; exact .func (cj.of_flat h.1) (cj.of_flat h.2)
 | .aq, _ => .aq
 | .iface t v, h => .iface (SV.of_flat (by simpa only [Flat] using h))
 | .agg x, h => .agg (cj.of_flat (by simpa only [Flat] using h))
 | .tuple x, h => .tuple (cj.of_flat (by simpa only [Flat] using h))
 | .fz _ _ _, h => by simp [Flat] at h
 | .dl _ _ _ _, h => by simp [Flat] at h
theorem cj.of_flat : ∀ {x : List EV}, c9 x = true -> cj θ x x
 | [], _ => .nil
 | v :: x, h => by simp only [c9, kD] at h; exact .cons (SV.of_flat h.1) (cj.of_flat h.2)
end
mutual
theorem SV.flat : ∀ {v v' : EV}, SV θ v v' -> Flat v = true -> v' = v
 | _, _, .undef, _ | _, _, .bool _, _ | _, _, .int _ _, _ | _, _, .str _, _ | _, _, .bb, _ | _, _, .aa, _ | _, _, .aS, _ | _, _, .aR, _ | _, _, .aq, _ => rfl
 | _, _, .ptr _, h => by simp [Flat] at h
 | _, _, .slice _, h => by simp [Flat] at h
 | _, _, .map _, h => by simp [Flat] at h
 | _, _, .func hx hy, h => by simp only [Flat, kD] at h; rw [cj.flat hx h.1, cj.flat hy h.2]
 | _, _, .iface hv, h => by rw [SV.flat hv (by simpa only [Flat] using h)]
 | _, _, .agg hx, h => by rw [cj.flat hx (by simpa only [Flat] using h)]
 | _, _, .tuple hx, h => by rw [cj.flat hx (by simpa only [Flat] using h)]
 | _, _, .fz _ _ _, h => by simp [Flat] at h
 | _, _, .sF _, h => by simp [Flat] at h
 | _, _, .dl _ _ _, h => by simp [Flat] at h
theorem cj.flat : ∀ {x x' : List EV}, cj θ x x' -> c9 x = true -> x' = x
 | _, _, .nil, _ => rfl
 | _, _, .cons h hs, k => by simp only [c9, kD] at k; rw [SV.flat h k.1, cj.flat hs k.2]
end
mutual
theorem SV.fn : ∀ {a b c : EV}, SV θ a b -> SV θ a c -> Told a = true -> b = c
 | _, _, _, .undef, h, _ => by cases h; rfl
 | _, _, _, .bool _, h, _ => by cases h; rfl
 | _, _, _, .int _ _, h, _ => by cases h; rfl
 | _, _, _, .str _, h, _ => by cases h; rfl
 | _, _, _, .bb, h, _ => by cases h; rfl
 | _, _, _, .ptr h, k, _ => by cases k with | ptr k => rw [h] at k; cases k; rfl
 | _, _, _, .aa, h, _ => by cases h; rfl
 | _, _, _, .slice h, k, _ => by cases k with | slice k => rw [h] at k; cases k; rfl
 | _, _, _, .aS, h, _ => by cases h; rfl
 | _, _, _, .map h, k, _ => by cases k with | map k => rw [h] at k; cases k; rfl
 | _, _, _, .aR, h, _ => by cases h; rfl
 | _, _, _, .func hx hy, k, t => by
  simp only [Told, kD] at t
  cases k with | func kx ky => rw [cj.fn hx kx t.1, cj.fn hy ky t.2]
 | _, _, _, .aq, h, _ => by cases h; rfl
 | _, _, _, .iface h, k, t => by cases k with | iface k => rw [SV.fn h k (by simpa only [Told] using t)]
 | _, _, _, .agg h, k, t => by cases k with | agg k => rw [cj.fn h k (by simpa only [Told] using t)]
 | _, _, _, .tuple h, k, t => by cases k with | tuple k => rw [cj.fn h k (by simpa only [Told] using t)]
 | _, _, _, .fz _ ht _, k, t => by
  simp only [Told, kD, Bool.not_eq_true'] at t;have iv := gw t.1
  cases k with
  | fz _ kt _ =>
   rcases ht with ht | ht
   ·exact absurd ht iv
   ·rcases kt with kt | kt
    ·exact absurd kt iv
    ·rw [ht] at kt; cases kt; rfl
  | sF kt =>
   rcases ht with ht | ht
   ·exact absurd ht iv
   ·rcases kt with kt | kt
    ·exact absurd kt iv
    ·rw [ht] at kt; cases kt; rfl
 | _, _, _, .sF ht, k, t => by
  simp only [Told, kD, Bool.not_eq_true'] at t;have iv := gw t.1
  generalize hn : ([] : List (List EV)) = els at k
  cases k with
  | fz _ kt _ =>
   subst hn;rcases ht with ht | ht
   ·exact absurd ht iv
   ·rcases kt with kt | kt
    ·exact absurd kt iv
    ·rw [ht] at kt; cases kt; rfl
  | sF kt =>
   rcases ht with ht | ht
   ·exact absurd ht iv
   ·rcases kt with kt | kt
    ·exact absurd kt iv
    ·rw [ht] at kt; cases kt; rfl
 | _, _, _, .dl _ _ _, _, t => by simp [Told] at t
theorem cj.fn : ∀ {a b c : List EV}, cj θ a b -> cj θ a c -> gX a = true -> b = c
 | _, _, _, .nil, h, _ => by cases h; rfl
 | _, _, _, .cons h hs, k, t => by
  simp only [gX, kD] at t
  cases k with | cons k ks => rw [SV.fn h k t.1, cj.fn hs ks t.2]
end
mutual
theorem SV.told : ∀ {a b : EV}, SV θ a b -> Told b = true
 | _, _, .undef | _, _, .bool _ | _, _, .int _ _ | _, _, .str _ | _, _, .bb | _, _, .ptr _ | _, _, .aa | _, _, .slice _ | _, _, .aS | _, _, .map _ | _, _, .aR | _, _, .aq | _, _, .fz _ _ _ | _, _, .sF _ | _, _, .dl _ _ _ => rfl
 | _, _, .func hx hy => by simp only [Told, cj.told hx, cj.told hy, Bool.and_self]
 | _, _, .iface h => by simp only [Told]; exact SV.told h
 | _, _, .agg h => by simp only [Told]; exact cj.told h
 | _, _, .tuple h => by simp only [Told]; exact cj.told h
theorem cj.told : ∀ {a b : List EV}, cj θ a b -> gX b = true
 | _, _, .nil => rfl
 | _, _, .cons h hs => by simp only [gX, SV.told h, cj.told hs, Bool.and_self]
end
mutual
theorem mA : ∀ {a : EV}, EV.same a a = true -> Told a = true
 | .undef, _ | .bool _, _ | .int _ _, _ | .str _, _ | .bb, _ | .ptr _ _, _ | .aa, _ | .slice _ _ _ _, _ | .aS, _ | .map _, _ | .aR, _ | .aq, _ => rfl
 | .func f x y, h => by
  simp only [EV.same, Nat.beq_refl, cond_true] at h
  cases hx : EV.gO x x <;> simp only [hx, cond_true, cond_false, lm] at h
  simp only [Told, eW hx, eW h, Bool.and_self]
 | .iface t v, h => by simp only [EV.same, Nat.beq_refl, cond_true] at h; simp only [Told]; exact mA h
 | .agg x, h => by simp only [EV.same] at h; simp only [Told]; exact eW h
 | .tuple x, h => by simp only [EV.same] at h; simp only [Told]; exact eW h
 | .fz t e els, h => by
  simp only [EV.same, Nat.beq_refl, cond_true] at h
  cases ht : t.beq 0 <;> simp only [ht, cond_true, cond_false, lm] at h
  simp only [Told, ht, Bool.not_false, Bool.true_and];exact lW h
 | .dl _ _ _ _, h => by simp [EV.same] at h
theorem eW : ∀ {a : List EV}, EV.gO a a = true -> gX a = true
 | [], _ => rfl
 | v :: x, h => by
  simp only [EV.gO] at h
  cases hx : EV.same v v <;> simp only [hx, cond_true, cond_false, lm] at h
  simp only [gX, mA hx, eW h, Bool.and_self]
theorem lW : ∀ {a : List (List EV)}, EV.lK a a = true -> rq a = true
 | [], _ => rfl
 | v :: x, h => by
  simp only [EV.lK] at h
  cases hx : EV.gO v v <;> simp only [hx, cond_true, cond_false, lm] at h
  simp only [rq, eW hx, lW h, Bool.and_self]
end
theorem SV.same {a b a' b' : EV} (ha : SV θ a a') (hb : SV θ b b') (h : EV.same a b = true) : EV.same a' b' = true := by
 have e := sP h
 subst e;rw [SV.fn ha hb (mA h)];exact kH _ hb.told
theorem SV.cells {v v' : EV} {cs : List EV} (h : SV θ v v') (hc : v.cells = some cs) : ∃ iQ, v'.cells = some iQ /\ cj θ cs iQ := by
 cases h <;> simp only [EV.cells, reduceCtorEq, aQ] at hc <;> subst hc
 case agg h => exact ⟨_, rfl, h⟩
 case sF h => exact ⟨_, rfl, .cons (.sF h) .nil⟩
 all_goals exact ⟨_, rfl, .cons (by constructor <;> assumption) .nil⟩
theorem cj.part {x x' : List EV} (h : cj θ x x') {g : Option Nat} {off : Nat} {v : EV} (hp : partOf g x off = some v) : ∃ v', partOf g x' off = some v' /\ SV θ v v' := by
 cases g with
 | none => exact h.get hp
 | some n =>
  simp only [partOf] at hp ⊢
  rw [<- h.length]
  cases hb : (off + n).ble x.length <;> simp only [hb, cond_true, cond_false, reduceCtorEq, aQ] at hp ⊢
  subst hp;exact ⟨_, rfl, .agg ((h.drop off).take n)⟩
theorem cj.eG {x x' vs nq r : List EV} (h : cj θ x x') (hv : cj θ vs nq) {off : Nat} (hp : Ev.eG x off vs = some r) : ∃ r', Ev.eG x' off nq = some r' /\ cj θ r r' := by
 unfold Ev.eG at hp ⊢
 rw [<- h.length, <- hv.length]
 cases hb : (off + vs.length).ble x.length <;> simp only [hb, cond_true, cond_false, reduceCtorEq, aQ] at hp ⊢
 subst hp;exact ⟨_, rfl, ((h.take off).append hv).append (h.drop _)⟩
end
inductive j9 (θ : bF) : List (EV × EV) -> List (EV × EV) -> Prop
 | nil : j9 θ [] []
 | cons {k v k' v' : EV} {x x' : List (EV × EV)} (hk : SV θ k k') (hv : SV θ v v') (h : j9 θ x x') : j9 θ ((k, v) :: x) ((k', v') :: x')
theorem j9.ext {θ θ' : bF} (e : bF.Ext θ θ') : ∀ {x x' : List (EV × EV)}, j9 θ x x' -> j9 θ' x x'
 | _, _, .nil => .nil
 | _, _, .cons hk hv h => .cons (hk.ext e) (hv.ext e) (j9.ext e h)
def DR (θ : bF) : cY -> cY -> Prop
 | .dead, _ => True
 | .cells cs e k ro, B => ∃ iQ, B = .cells iQ e k ro /\ cj θ cs iQ
 | .map es, B => ∃ lS, B = .map lS /\ j9 θ es lS
theorem DR.ext {θ θ' : bF} (e : bF.Ext θ θ') {B B' : cY} (h : DR θ B B') : DR θ' B B' := by
 cases B with
 | dead => trivial
 | cells cs k t ro => obtain ⟨iQ, h1, h2⟩ := h; exact ⟨iQ, h1, h2.ext e⟩
 | map es => obtain ⟨lS, h1, h2⟩ := h; exact ⟨lS, h1, h2.ext e⟩
structure MemB (θ : bF) (m m' : Mem) : Prop where
 bT : ∀ b c, θ.eU b = some c -> DR θ (m.get b) (m'.get c)
 cl : ∀ b, θ.eU b = none -> m.get b = .dead
structure MemS (θ : bF) (m m' : Mem) : Prop extends MemB θ m m' where
 eF : ∀ b B, θ.eF b = some B -> m'.get b = B
structure lI (θ : bF) (n n' : Nat) : Prop where
 eU : ∀ b c, θ.eU b = some c -> b < n /\ c < n'
 inj : ∀ a b c, θ.eU a = some c -> θ.eU b = some c -> a = b
 off : ∀ b c, θ.eU b = some c -> θ.eF c = none
 eF : ∀ b B, θ.eF b = some B -> b < n'
theorem MemB.ext {θ θ' : bF} {m m' : Mem} (h : MemB θ m m') (e : bF.Ext θ θ') (hd : ∀ b c, θ.eU b = none -> θ'.eU b = some c -> m.get b = .dead) : MemB θ' m m' := by
 refine ⟨fun b c hb => ?_, fun b hb => ?_⟩
 ·cases hr : θ.eU b with
  | none => rw [h.cl b hr]; trivial
  | some d =>
   have := e.eU b d hr
   rw [hb] at this; cases this
   exact (h.bT b c hr).ext e
 ·cases hr : θ.eU b with
  | none => exact h.cl b hr
  | some d => rw [e.eU b d hr] at hb; cases hb
def bF.more (θ : bF) (b c : Nat) : bF := ⟨fun x => if x = b then some c else θ.eU x, θ.tag, θ.eF⟩
structure qB (θ : bF) (b c : Nat) : Prop where
 l : θ.eU b = none
 r : ∀ a, θ.eU a ≠ some c
 s : θ.eF c = none
theorem lI.fresh {θ : bF} {n n' : Nat} (h : lI θ n n') {b c : Nat} (hb : n <= b) (hc : n' <= c) : qB θ b c := by
 refine ⟨?_, fun a ha => ?_, ?_⟩
 ·cases e : θ.eU b with
  | none => rfl
  | some d => have := (h.eU b d e).1; omega
 ·have := (h.eU a c ha).2; omega
 ·cases e : θ.eF c with
  | none => rfl
  | some d => have := h.eF c d e; omega
theorem qB.ext {θ : bF} {b c : Nat} (h : qB θ b c) : bF.Ext θ (θ.more b c) := by
 refine ⟨fun x y e => ?_, fun _ _ e => e, fun _ _ e => e⟩
 show (if x = b then some c else θ.eU x) = some y
 by_cases hx : x = b
 ·subst hx; rw [h.l] at e; cases e
 ·rw [if_neg hx]; exact e
theorem kr {θ : bF} {b c : Nat} : (θ.more b c).eU b = some c := if_pos rfl
theorem lI.more {θ : bF} {n n' b c : Nat} (h : lI θ n n') (f : qB θ b c) {k k' : Nat} (hb : b < k) (hc : c < k') (hk : n <= k) (Bq : n' <= k') : lI (θ.more b c) k k' := by
 have eU : ∀ x y, (θ.more b c).eU x = some y -> (x = b /\ y = c) \/ θ.eU x = some y := by
  intro x y e
  have e' : (if x = b then some c else θ.eU x) = some y := e
  by_cases hx : x = b
  ·rw [if_pos hx] at e'; cases e'; exact .inl ⟨hx, rfl⟩
  ·rw [if_neg hx] at e'; exact .inr e'
 refine ⟨fun x y e => ?_, fun x y z e1 e2 => ?_, fun x y e => ?_, fun x B e => ?_⟩
 ·rcases eU x y e with ⟨rfl, rfl⟩ | e
  ·exact ⟨hb, hc⟩
  ·have := h.eU x y e; omega
 ·rcases eU x z e1 with ⟨rfl, rfl⟩ | e1 <;> rcases eU y _ e2 with ⟨h1, h2⟩ | e2
  ·exact h1.symm
  ·exact absurd e2 (f.r y)
  ·exact absurd e1 (h2 ▸ f.r x)
  ·exact h.inj x y z e1 e2
 ·rcases eU x y e with ⟨rfl, rfl⟩ | e
  ·exact f.s
  ·exact h.off x y e
 ·have := h.eF x B e; omega
theorem MemS.more {θ : bF} {m m' : Mem} {b c : Nat} (h : MemS θ m m') (f : qB θ b c) {B B' : cY} (hB : DR (θ.more b c) B B') : MemS (θ.more b c) (Mem.new ⟨b, m.kl⟩ B) (Mem.new ⟨c, m'.kl⟩ B') := by
 have g1 : ∀ x, (Mem.new ⟨b, m.kl⟩ B).get x = if x = b then B else m.get x := fun x => dv
 have g2 : ∀ x, (Mem.new ⟨c, m'.kl⟩ B').get x = if x = c then B' else m'.get x := fun x => dv
 refine ⟨⟨fun x y e => ?_, fun x e => ?_⟩, fun x C e => ?_⟩
 ·have e' : (if x = b then some c else θ.eU x) = some y := e
  by_cases hx : x = b
  ·rw [if_pos hx] at e'; cases e'
   rw [g1, g2, if_pos hx, if_pos rfl]; exact hB
  ·rw [if_neg hx] at e'
   have hy : y ≠ c := fun q => f.r x (q ▸ e')
   rw [g1, g2, if_neg hx, if_neg hy]; exact (h.bT x y e').ext f.ext
 ·have e' : (if x = b then some c else θ.eU x) = none := e
  by_cases hx : x = b
  ·rw [if_pos hx] at e'; cases e'
  ·rw [if_neg hx] at e'; rw [g1, if_neg hx]; exact h.cl x e'
 ·have hx : x ≠ c := fun q => by
   have e' : θ.eF x = some C := e
   subst q; rw [f.s] at e'; cases e'
  rw [g2, if_neg hx]; exact h.eF x C e
theorem MemS.set {θ : bF} {m m' : Mem} {n n' b c : Nat} (h : MemS θ m m') (k : lI θ n n') (hb : θ.eU b = some c) {B B' : cY} (hB : DR θ B B') : MemS θ (m.set b B) (m'.set c B') := by
 refine ⟨⟨fun x y e => ?_, fun x e => ?_⟩, fun x C e => ?_⟩
 ·by_cases hx : x = b
  ·subst hx; rw [hb] at e; cases e
   rw [fy, fy]; exact hB
  ·have hy : y ≠ c := fun q => hx (k.inj x b c (q ▸ e) hb)
   rw [bz hx, bz hy]; exact h.bT x y e
 ·have hx : x ≠ b := fun q => by subst q; rw [hb] at e; cases e
  rw [bz hx]; exact h.cl x e
 ·have hx : x ≠ c := fun q => by subst q; rw [k.off b x hb] at e; cases e
  rw [bz hx]; exact h.eF x C e
end
section
def jn (l : List (List UInt8)) : List (List EV) := l.map fun s => [.str s]
def OV (l : List (List UInt8)) : EV := .dl 1 [[.fz 0 1 (jn l)]] 0 0
def LM : EV -> EV
 | .ptr g 0 => match uw g with
  | some l => OV l
  | none => .ptr g 0
 | v => v
def Jz : EV -> Bool
 | .ptr g 0 => (uw g).isSome
 | _ => false
def fS : aD -> aD
 | .tmp t => .tmp t
 | .const v => .const (LM v)
def Ue (l : List Int) : cY := .cells (l.map (.int .u64)) 1 0 true
def jD (θ : bF) : Prop := (∀ g l, uw g = some l -> SV θ (OV l) (.ptr g 0)) /\ ∀ g l, tabl g = some l -> θ.eF g = some (Ue l)
theorem jD.ext {θ θ' : bF} (h : jD θ) (e : bF.Ext θ θ') : jD θ' := ⟨fun g l hg => (h.1 g l hg).ext e, fun g l hg => e.eF _ _ (h.2 g l hg)⟩
theorem SR.Vs {θ : bF} {esz : Nat} {els : List (List EV)} {b off : Nat} (h : SR θ esz els b off) : SR θ.low esz els b off := by
 cases h with | mk hs hl hn hx => exact .mk hs hl hn hx
theorem jD.down {θ θ' : bF} (h : jD θ) (e : bF.Ext θ.low θ') : jD θ' := by
 refine ⟨fun g l hg => ?_, fun g l hg => e.eF _ _ (h.2 g l hg)⟩
 have := h.1 g l hg
 unfold OV at this ⊢
 cases this with | dl hr hi ho => exact .dl (hr.Vs.ext e) hi ho
structure ed (θ : bF) (m m' : Mem) : Prop extends MemS θ m m' where
 ok : lI θ m.next m'.next
 vk : jD θ
theorem vY {v : EV} (h : Flat v = true) : LM v = v := by
 cases v <;> first | rfl | (simp [Flat] at h)
theorem LL {θ : bF} (hg : jD θ) {v : EV} (h : (Flat v || Jz v) = true) : SV θ (LM v) v := by
 cases hf : Flat v with
 | true => rw [vY hf]; exact SV.of_flat hf
 | false =>
  rw [hf, Bool.false_or] at h
  cases v with
  | ptr g off =>
   cases off with
   | zero =>
    simp only [Jz] at h
    cases JY : uw g with
    | none => rw [JY] at h; cases h
    | some l => simp only [LM, JY]; exact hg.1 g l JY
   | succ n => simp [Jz] at h
  | _ => simp [Jz] at h
def iR.ou (f : aD -> aD) : iR -> iR
 | .ab x => .ab (f x)
 | .pick c a b => .pick (f c) (f a) (f b)
 | .alloc e z => .alloc e z
 | .box e x => .box e (f x)
 | .build z ps => .build z (ps.map fun p => (p.1, p.2.1, f p.2.2))
 | .aU e z n zr ps => .aU e z n zr (ps.map fun p => (p.1, f p.2))
 | .load a x => .load a (f x)
 | .store n a x => .store n (f a) (f x)
 | .kn x => .kn (f x)
 | .bin o x y => .bin o (f x) (f y)
 | .eq n t x y => .eq n t (f x) (f y)
 | .un o x => .un o (f x)
 | .conv c x => .conv c (f x)
 | .iface t x => .iface t (f x)
 | .tX g a c => .tX g (a.map f) (c.map f)
 | .nz => .nz
 | .gy e z zr l c => .gy e z zr (f l) (f c)
 | .mW x l h => .mW (f x) (l.map f) (h.map f)
 | .lp e x l h m => .lp e (f x) (l.map f) (h.map f) (m.map f)
 | .kU n e x l h m => .kU n e (f x) (l.map f) (h.map f) (m.map f)
 | .ak o x => .ak o (f x)
 | .OX a o x => .OX a o (f x)
 | .ay e x i => .ay e (f x) (f i)
 | .c7 n e x i => .c7 n e (f x) (f i)
 | .cO x i => .cO (f x) (f i)
 | .nF n e a x i => .nF n e a (f x) (f i)
 | .lookup k z o m x => .lookup k z o (f m) (f x)
 | .kY k m x y => .kY k (f m) (f x) (f y)
 | .delete k m x => .delete k (f m) (f x)
 | .lP m => .lP (f m)
 | .ly t x => .ly t (f x)
 | .extract x i => .extract (f x) i
 | .len x => .len (f x)
 | .eH x => .eH (f x)
 | .nB n => .nB n
 | .cap x => .cap (f x)
 | .max l => .max (l.map f)
 | .min l => .min (l.map f)
 | .append e z b s x => .append e z b (f s) (f x)
 | .copy e d s => .copy e (f d) (f s)
theorem Il {f : aD -> aD} {op : iR} : bM (op.ou f) = bM op := by
 cases op with
 | conv c x => cases c <;> rfl
 | _ => rfl
theorem xa {ρ : aD -> EV} {f : aD -> aD} {op : iR} {m : Mem} : ap ρ (op.ou f) m = ap (fun x => ρ (f x)) op m := by
 cases op with
 | lp e x l h mx =>
  simp only [iR.ou, ap, Option.map_map, Function.comp_def]
  cases mx <;> rfl
 | _ => first | rfl | (simp only [iR.ou, ap, List.map_map, Option.map_map, Function.comp_def])
theorem gQ {α : Type} {f : α -> α} : ∀ {l : List α}, (∀ x ∈ l, f x = x) -> l.map f = l
 | [], _ => rfl
 | a :: l, h => by rw [List.map_cons, h a (by simp), gQ fun x hx => h x (by simp [hx])]
theorem jP {f : aD -> aD} {o : Option aD} (h : ∀ x ∈ tL o, f x = x) : o.map f = o := by
 cases o with
 | none => rfl
 | some x => rw [Option.map_some, h x (by simp [tL])]
theorem Gk {f : aD -> aD} {op : iR} (h : ∀ x ∈ eY op, f x = x) : op.ou f = op := by
 cases op with
 | build z ps =>
  simp only [iR.ou];rw [gQ fun p hp => by rw [h p.2.2 (by simp only [eY, List.mem_map]; exact ⟨p, hp, rfl⟩)]]
 | aU e z n zr ps =>
  simp only [iR.ou];rw [gQ fun p hp => by rw [h p.2 (by simp only [eY, List.mem_map]; exact ⟨p, hp, rfl⟩)]]
 | tX g a c =>
  simp only [iR.ou];rw [gQ fun x hx => h x (by simp only [eY, nY]; exact .inl hx), gQ fun x hx => h x (by simp only [eY, nY]; exact .inr hx)]
 | mW x l hh =>
  simp only [iR.ou];rw [h x (by simp [eY]), jP fun y hy => h y (by simp only [eY, lj, nY]; exact .inr (.inl hy)), jP fun y hy => h y (by simp only [eY, lj, nY]; exact .inr (.inr hy))]
 | lp e x l hh mm =>
  simp only [iR.ou];rw [h x (by simp [eY]), jP fun y hy => h y (by simp only [eY, lj, nY]; exact .inr (.inl hy)), jP fun y hy => h y (by simp only [eY, lj, nY]; exact .inr (.inr (.inl hy))), jP fun y hy => h y (by simp only [eY, lj, nY]; exact .inr (.inr (.inr hy)))]
 | kU n e x l hh mm =>
  simp only [iR.ou];rw [h x (by simp [eY]), jP fun y hy => h y (by simp only [eY, lj, nY]; exact .inr (.inl hy)), jP fun y hy => h y (by simp only [eY, lj, nY]; exact .inr (.inr (.inl hy))), jP fun y hy => h y (by simp only [eY, lj, nY]; exact .inr (.inr (.inr hy)))]
 | max l => simp only [iR.ou]; rw [gQ fun x hx => h x (by simp only [eY]; exact hx)]
 | min l => simp only [iR.ou]; rw [gQ fun x hx => h x (by simp only [eY]; exact hx)]
 | _ => simp only [eY, lj, List.not_mem_nil, or_false, forall_eq_or_imp, forall_eq] at h <;> simp only [iR.ou, h]
def qH.sub : qH -> qH
 | .val op => .val (op.ou fS)
 | .call f xs => .call (fS f) (xs.map fS)
 | .panic x => .panic (fS x)
 | .defer f xs => .defer (fS f) (xs.map fS)
def aF.sub (o : aF) : aF := ⟨o.dst, o.op.sub, o.guard⟩
def au.sub : au -> au
 | .skip => .skip
 | .region ops => .region (ops.map aF.sub)
 | .draw ops chk => .draw (ops.map aF.sub) chk
 | .seq a b => .seq a.sub b.sub
 | .cond c a b => .cond (fS c) a.sub b.sub
 | .block id a => .block id a.sub
 | .loop a => .loop a.sub
 | .exit id => .exit id
 | .ret => .ret
def ar.sub (F : ar) : ar := ⟨F.ntmps, F.body.sub, F.results⟩
def PC : aD -> Bool
 | .tmp _ => true
 | .const v => Flat v
def I5 (x : qH) : Bool := (kP x).all PC
def l5 : au -> Bool
 | .region ops | .draw ops _ => ops.all fun o => I5 o.op
 | .seq a b => l5 a && l5 b
 | .cond c a b => PC c && l5 a && l5 b
 | .block _ a | .loop a => l5 a
 | _ => true
theorem zJ {x : aD} (h : PC x = true) : fS x = x := by
 cases x with
 | tmp t => rfl
 | const v => simp only [fS, vY (show Flat v = true from h)]
theorem Ga {x : qH} (h : I5 x = true) : x.sub = x := by
 have hx : ∀ y ∈ kP x, fS y = y := fun y hy => zJ (List.all_eq_true.1 h y hy)
 cases x with
 | val op => simp only [qH.sub]; rw [Gk hx]
 | call f xs =>
  simp only [qH.sub];rw [hx f (by simp [kP]), gQ fun y hy => hx y (by simp [kP, hy])]
 | panic y => simp only [qH.sub]; rw [hx y (by simp [kP])]
 | defer f xs =>
  simp only [qH.sub];rw [hx f (by simp [kP]), gQ fun y hy => hx y (by simp [kP, hy])]
theorem wA {ops : List aF} (h : ops.all (fun o => I5 o.op) = true) : ops.map aF.sub = ops :=
 gQ fun o ho => by unfold aF.sub; rw [Ga (List.all_eq_true.1 h o ho)]
theorem jy : ∀ {c : au}, l5 c = true -> c.sub = c
 | .skip, _ => rfl
 | .region ops, h => by simp only [au.sub]; rw [wA (by simpa only [l5] using h)]
 | .draw ops chk, h => by simp only [au.sub]; rw [wA (by simpa only [l5] using h)]
 | .seq a b, h => by simp only [l5, kD] at h; simp only [au.sub]; rw [jy h.1, jy h.2]
 | .cond c a b, h => by simp only [l5, kD] at h; simp only [au.sub]; rw [zJ h.1.1, jy h.1.2, jy h.2]
 | .block id a, h => by simp only [l5] at h; simp only [au.sub]; rw [jy h]
 | .loop a, h => by simp only [l5] at h; simp only [au.sub]; rw [jy h]
 | .exit id, _ => rfl
 | .ret, _ => rfl
end
section
def rL : aD -> Bool
 | .tmp _ => true
 | .const v => Flat v || Jz v
def Cj : iR -> Bool
 | .alloc _ z | .build z _ | .aU _ _ _ z _ | .gy _ _ z _ _ => c9 z
 | .lookup _ z _ _ _ => Flat z
 | _ => true
def IX (op : iR) : Bool := (eY op).all rL && Cj op
def pz (θ : bF) (ρ ρ' : aD -> EV) : Prop := ∀ x, rL x = true -> SV θ (ρ x) (ρ' x)
def yL (θ : bF) (m m' : Mem) (v : EV) (m1 : Mem) (o : Option R1) : Prop :=
 ∃ v' dO, o = some (.val v' dO) /\
  ((SV θ v v' /\ MemS θ m1 dO /\ m1.next = m.next /\ dO.next = m'.next) \/
   (SV (θ.more m.next m'.next) v v' /\ MemS (θ.more m.next m'.next) m1 dO /\ m1.next = m.next + 1 /\ dO.next = m'.next + 1)) /\
  (∀ c, c ≠ m'.next -> (∀ b, θ.eU b ≠ some c) -> dO.get c = m'.get c)
section
variable {θ : bF} {m m' m1 : Mem} {v : EV} {o : Option R1} {n n' : Nat} {ρ ρ' : aD -> EV}
theorem yL.here (hm : MemS θ m m') (h1 : m1 = m) {v' : EV} (hv : SV θ v v') : yL θ m m' v m1 (some (.val v' m')) := by
 subst h1; exact ⟨v', m', rfl, .inl ⟨hv, hm, rfl, rfl⟩, fun _ _ _ => rfl⟩
theorem yL.new (hm : MemS θ m m') (f : qB θ m.next m'.next) {B B' : cY} {v' : EV} (hB : DR (θ.more m.next m'.next) B B') (hv : SV (θ.more m.next m'.next) v v') : yL θ m m' v (m.new B) (some (.val v' (m'.new B'))) :=
 ⟨v', _, rfl, .inr ⟨hv, hm.more f hB, rfl, rfl⟩, fun c hc _ => by rw [dv, if_neg hc]⟩
theorem N3 {b : Bool} {v' : EV} (h : SV θ (.bool b) v') : v' = .bool b := by cases h; rfl
theorem JA {k : IntKind} {i : Int} {v' : EV} (h : SV θ (.int k i) v') : v' = .int k i := by cases h; rfl
theorem qa {N i : Nat} {x x' : EV} (hx : SV θ x x') (h : idx N x = some i) : idx N x' = some i := by
 cases hx <;> first | exact h | simp [idx] at h
theorem db {lo : Option aD} (hl : ∀ x, lo = some x -> SV θ (ρ x) (ρ' x)) {d N i : Nat} (h : aw (lo.map ρ) d N = some i) : aw (lo.map ρ') d N = some i := by
 cases lo with
 | none => exact h
 | some x =>
  have hx := hl x rfl
  simp only [Option.map_some] at h ⊢
  generalize ρ x = a at hx h
  generalize ρ' x = a' at hx
  cases hx <;> first | exact h | simp [aw] at h
theorem uA : ∀ (ps : List (Nat × Nat × EV)) (Rx : List (Nat × Nat × EV)) (cs iQ r : List EV), ps.map (fun p => (p.1, p.2.1)) = Rx.map (fun p => (p.1, p.2.1)) -> cj θ (ps.map (·.2.2)) (Rx.map (·.2.2)) -> cj θ cs iQ -> cU cs ps = some r -> ∃ r', cU iQ Rx = some r' /\ cj θ r r'
 | [], [], cs, iQ, r, _, _, fx, h => by simp only [cU, aQ] at h ⊢; subst h; exact ⟨_, rfl, fx⟩
 | [], _ :: _, _, _, _, he, _, _, _ => by simp at he
 | _ :: _, [], _, _, _, he, _, _, _ => by simp at he
 | (off, size, v) :: ps, (Za, XL, v') :: Rx, cs, iQ, r, he, hv, fx, h => by
  simp only [List.map_cons, List.cons.injEq, kj] at he;obtain ⟨⟨rfl, rfl⟩, he⟩ := he
  cases hv with
  | cons hv pG =>
  simp only [cU] at h ⊢
  cases hc : v.cells with
  | none => simp [hc] at h
  | some vs =>
   obtain ⟨nq, So, hs⟩ := hv.cells hc
   simp only [hc, So, <- hs.length] at h ⊢
   cases hb : vs.length.beq size <;> simp only [hb, cond_true, cond_false, reduceCtorEq] at h ⊢
   cases hp : eG cs off vs with
   | none => simp [hp] at h
   | some q =>
    obtain ⟨q', hp', hq⟩ := fx.eG hs hp
    simp only [hp, hp'] at h ⊢
    exact uA ps Rx _ _ _ he pG hq h
theorem qo {z : List EV} (hz : c9 z = true) : ∀ n : Nat, c9 (cH n z) = true := by
 have Xy : ∀ a b : List EV, c9 a = true -> c9 b = true -> c9 (a ++ b) = true := by
  intro a b ha hb
  induction a with
  | nil => exact hb
  | cons x a ih => simp only [c9, kD] at ha; simp only [List.cons_append, c9, ha.1, ih ha.2, Bool.and_self]
 intro n
 induction n with
 | zero => rfl
 | succ n ih => unfold cH at ih ⊢; rw [List.replicate_succ, List.flatten_cons]; exact Xy _ _ hz ih
theorem Jj {esz i k : Nat} {els : List (List EV)} {a' : EV} (ha : SV θ (.dl esz els i k) a') {g : Option Nat} (h : m.load g (.dl esz els i k) = some v) : ∃ v', SV θ v v' /\ ∀ q : Mem, (∀ c B, θ.eF c = some B -> q.get c = B) -> q.load g a' = some v' := by
 cases ha with
 | @dl _ _ _ b off _ _ o hr hi ho =>
  simp only [Mem.load] at h
  cases hr with
  | @mk _ _ _ _ _ kk cs ro GF hl hn Q2 =>
  have hx := Q2.ext θ.Eh
  rw [ij hi] at h;simp only at h
  have uq : els[i].length = esz := hl _ (oU hi)
  -- the Rg cells, in the row
  have key : ∀ (L : List (List EV)) (i : Nat) (hi : i < L.length), (∀ el ∈ L, el.length = esz) -> (L.flatten.drop (i * esz)).take esz = L[i] := by
   intro L
   induction L with
   | nil => intro i hi; simp at hi
   | cons e L ih =>
    intro i hi hl
    have he : e.length = esz := hl e (by simp)
    cases i with
    | zero => simp [he]
    | succ i =>
     have := ih i (by simpa using hi) (fun el h => hl el (by simp [h]))
     rw [List.flatten_cons, Nat.succ_mul, Nat.add_comm, <- List.drop_drop, show (e ++ L.flatten).drop esz = L.flatten by rw [<- he]; simp]
     simpa using this
  have MJ : cj θ els[i] ((cs.drop (off + i * esz)).take esz) := by
   have h1 := ((hx.drop (i * esz)).take esz)
   rw [key els i hi hl] at h1;have h2 : (((cs.drop off).take (els.length * esz)).drop (i * esz)).take esz = (cs.drop (off + i * esz)).take esz := by
    have : i * esz + esz <= els.length * esz := by rw [<- Nat.succ_mul]; exact Nat.mul_le_mul_right _ hi
    rw [List.drop_take, List.drop_drop, List.take_take, Nat.min_eq_left (by omega)]
   rw [h2] at h1; exact h1
  obtain ⟨v', hp, hv⟩ := MJ.part h
  refine ⟨v', hv, fun Q hQ => ?_⟩
  have oC := hQ _ _ GF
  simp only [Mem.load, oC];subst ho;have hlen : off + i * esz + esz <= cs.length := by
   have : i * esz + esz <= els.length * esz := by rw [<- Nat.succ_mul]; exact Nat.mul_le_mul_right _ hi
   omega
  cases g with
  | none =>
   simp only [partOf] at hp ⊢
   rw [List.getElem?_take] at hp
   split at hp
   ·rw [List.getElem?_drop] at hp; exact hp
   ·cases hp
  | some q =>
   simp only [partOf] at hp ⊢
   have Sc : ((cs.drop (off + i * esz)).take esz).length = esz := by rw [List.length_take, Lv]; omega
   rw [Sc] at hp
   cases hb : (k + q).ble esz <;> simp only [hb, cond_true, cond_false, reduceCtorEq, aQ] at hp
   have := lk hb
   rw [lJ (show off + i * esz + k + q <= cs.length by omega)];simp only [cond_true, aQ];rw [<- hp, List.drop_take, List.drop_drop, List.take_take, Nat.min_eq_left (by omega)]
theorem xS (hm : MemB θ m m') {a a' : EV} (ha : SV θ a a') (hf : wK a = false) {g : Option Nat} (h : m.load g a = some v) : ∃ v', m'.load g a' = some v' /\ SV θ v v' := by
 cases ha <;> simp only [Mem.load, reduceCtorEq] at h
 case dl => simp [wK] at hf
 case ptr b c off hb =>
  have hB := hm.bT b c hb
  cases hg : m.get b with
  | dead => simp [hg] at h
  | map es => simp [hg] at h
  | cells cs e k ro =>
   rw [hg] at hB h;obtain ⟨iQ, oC, hs⟩ := hB
   simp only [Mem.load, oC];exact hs.part h
theorem zW (hm : MemS θ m m') {a a' : EV} (ha : SV θ a a') {g : Option Nat} (h : m.load g a = some v) : ∃ v', m'.load g a' = some v' /\ SV θ v v' := by
 cases hf : wK a with
 | false => exact xS hm.toMemB ha hf h
 | true =>
  cases a <;> simp only [wK, lm] at hf
  obtain ⟨v', h1, h2⟩ := Jj ha h
  exact ⟨v', h2 m' hm.eF, h1⟩
theorem xC (hm : MemS θ m m') {b c : Nat} (hb : θ.eU b = some c) {off N : Nat} {xs : List EV} (h : m.row b off N = some xs) : ∃ vo, m'.row c off N = some vo /\ cj θ xs vo := by
 by_cases h0 : N = 0
 ·subst h0; rw [Mem.jN] at h; cases h; exact ⟨_, Mem.jN, .nil⟩
 ·rw [Mem.jG h0] at h ⊢
  have hB := hm.bT b c hb
  unfold Mem.tG at h ⊢
  cases hg : m.get b with
  | dead => simp [hg] at h
  | map es => simp [hg] at h
  | cells cs e k ro =>
   rw [hg] at hB;obtain ⟨iQ, oC, hs⟩ := hB
   simp only [hg, oC, <- hs.length] at h ⊢
   cases hbb : (off + N).ble cs.length <;> simp only [hbb, cond_true, cond_false, reduceCtorEq, aQ] at h ⊢
   subst h;exact ⟨_, rfl, (hs.drop off).take N⟩
theorem mB (hm : MemS θ m m') {x x' : EV} (hx : SV θ x x') {esz N : Nat} {xs : List EV} (h : m.source esz x = some (N, xs)) : ∃ vo, m'.source esz x' = some (N, vo) /\ cj θ xs vo := by
 cases hx <;> simp only [Mem.source, reduceCtorEq] at h
 case str s =>
  refine ⟨xs, h, ?_⟩
  cases hb : esz.beq 1 <;> simp only [hb, cond_true, cond_false, reduceCtorEq, aQ, kj] at h
  rw [<- h.2];exact cj.map _ _ fun a _ => .int _ _
 case aa => simp only [aQ, kj] at h; obtain ⟨rfl, rfl⟩ := h; exact ⟨[], rfl, .nil⟩
 case slice b c off len cap hb =>
  obtain ⟨r, hr, he⟩ := fG.1 h
  obtain ⟨r', JL, hs⟩ := xC hm hb hr
  simp only [kj] at he;obtain ⟨rfl, rfl⟩ := he
  exact ⟨r', by simp only [Mem.source, JL, Option.map_some], hs⟩
 case sF t e b off ht =>
  cases hb : e.beq esz <;> simp only [hb, cond_true, cond_false, reduceCtorEq, aQ, kj] at h
  obtain ⟨rfl, rfl⟩ := h
  refine ⟨[], ?_, .nil⟩
  simp only [Mem.source, Nat.zero_mul, Mem.jN, Option.map_some, List.length_nil]
 case fz t e els b off cap hc hr ht =>
  cases hb : e.beq esz <;> simp only [hb, cond_true, cond_false, reduceCtorEq, aQ, kj] at h
  obtain ⟨rfl, rfl⟩ := h
  obtain rfl := aB hb
  cases hr with
  | mk GF hl hn Q2 =>
  have hx := Q2.ext θ.Eh
  rename_i cs ro
  refine ⟨(cs.drop off).take (els.length * e), ?_, hx⟩
  simp only [Mem.source];by_cases h0 : els.length * e = 0
  ·rw [h0, Mem.jN, List.take_zero]; rfl
  ·rw [Mem.jG h0, Mem.tG, hm.eF _ _ GF]
   simp only [lJ hn, cond_true, Option.map_some]
theorem qK (hm : MemS θ m m') (k : lI θ n n') {b c : Nat} (hb : θ.eU b = some c) {off : Nat} {vs nq : List EV} (hv : cj θ vs nq) (h : m.write b off vs = some m1) : ∃ dO, m'.write c off nq = some dO /\ MemS θ m1 dO /\ m1.next = m.next /\ dO.next = m'.next /\ ∀ d, d ≠ c -> dO.get d = m'.get d := by
 have hB := hm.bT b c hb
 unfold Mem.write at h ⊢
 cases hg : m.get b with
 | dead => simp [hg] at h
 | map es => simp [hg] at h
 | cells cs e t ro =>
  rw [hg] at hB;obtain ⟨iQ, oC, hs⟩ := hB
  simp only [hg, oC] at h ⊢
  cases ro <;> simp only [cond_true, cond_false, reduceCtorEq] at h ⊢
  obtain ⟨r, hr, rfl⟩ := fG.1 h
  obtain ⟨r', JL, hq⟩ := hs.eG hv hr
  exact ⟨_, by rw [JL]; rfl, hm.set k hb ⟨r', rfl, hq⟩, rfl, rfl, fun d hd => bz hd⟩
theorem Fo (hm : MemS θ m m') (k : lI θ n n') {size : Nat} {a a' x x' : EV} (ha : SV θ a a') (hx : SV θ x x') (h : m.store size a x = some m1) : ∃ dO, m'.store size a' x' = some dO /\ MemS θ m1 dO /\ m1.next = m.next /\ dO.next = m'.next /\ ∀ d, (∀ b, θ.eU b ≠ some d) -> dO.get d = m'.get d := by
 unfold Mem.store at h
 cases hc : x.cells with
 | none => rw [hc] at h; cases a <;> simp at h
 | some vs =>
  obtain ⟨nq, So, hs⟩ := hx.cells hc
  rw [hc] at h
  cases ha <;> simp only [reduceCtorEq] at h
  case ptr b c off hb =>
   cases hl : vs.length.beq size <;> simp only [hl, cond_true, cond_false, reduceCtorEq] at h
   obtain ⟨dO, h1, h2, h3, h4, h5⟩ := qK hm k hb hs h
   refine ⟨dO, ?_, h2, h3, h4, fun d hd => h5 d fun e => hd b (e ▸ hb)⟩
   simp only [Mem.store, So, <- hs.length, hl, cond_true]; exact h1
theorem KV {op : BinOp} {x y : EV} (h : aV op x y = some v) : Flat x = true /\ Flat y = true /\ Flat v = true := by
 cases x <;> cases y <;> simp only [aV, reduceCtorEq] at h
 case int.int k a l b =>
  refine ⟨rfl, rfl, ?_⟩
  have sh : ∀ op, mQ op k a b = some v -> Flat v = true := by
   intro op h
   unfold mQ at h
   split at h
   ·cases h
   ·cases op <;> simp at h <;> subst h <;> rfl
  have it : ∀ op, (bif (bf k).beq (bf l) then jZ op k a b else none) = some v -> Flat v = true := by
   intro op h
   cases hk : (bf k).beq (bf l) <;> simp only [hk, cond_true, cond_false, reduceCtorEq] at h
   cases op <;> simp only [jZ, lR, Option.map_some, aQ, reduceCtorEq] at h <;> first | (subst h; rfl) | (split at h <;> simp at h; subst h; rfl)
  cases op <;> first | exact sh _ h | exact it _ h
 case str.str a b =>
  refine ⟨rfl, rfl, ?_⟩
  cases op <;> simp only [reduceCtorEq, aQ] at h <;> first | (subst h; rfl) | skip
  cases hb : (a.length + b.length).ble 4294967296 <;> simp only [hb, cond_true, cond_false, reduceCtorEq, aQ] at h
  subst h; rfl
theorem LB {op : UnOp} {x : EV} (h : uF op x = some v) : Flat x = true /\ Flat v = true := by
 cases op <;> cases x <;> simp only [uF, reduceCtorEq, aQ, lR, Option.map_some] at h <;> subst h <;> exact ⟨rfl, rfl⟩
theorem Dd {t : Nat} {x y x' y' : EV} (hx : SV θ x x') (hy : SV θ y y') {b : Bool} (h : ca t x y = some b) : ca t x' y' = some b := by
 cases hx <;> cases hy <;> first | exact h | (simp only [ca, reduceCtorEq] at h ⊢ <;> done) | (simp only [ca] at h ⊢; exact h)
theorem Dc {fs : List (Option Nat × Nat × mw)} {x y : EV} {b : Bool} (h : cL (.agg fs) x y = some b) : ∃ a c, x = .agg a /\ y = .agg c /\ lf fs a c = some b := by
 rw [cL.eq_def] at h
 cases x <;> cases y <;> first | exact ⟨_, _, rfl, rfl, h⟩ | cases h
theorem ET {a : List EV} {x' : EV} (h : SV θ (.agg a) x') : ∃ a', x' = .agg a' /\ cj θ a a' := by
 cases h with | agg h => exact ⟨_, rfl, h⟩
mutual
theorem KB : ∀ (t : mw) {x y x' y' : EV}, SV θ x x' -> SV θ y y' -> ∀ {b : Bool}, cL t x y = some b -> cL t x' y' = some b
 | .ax t, _, _, _, _, hx, hy, b, h => by simp only [cL] at h ⊢; exact Dd hx hy h
 | .agg fs, _, _, _, _, hx, hy, b, h => by
  obtain ⟨a, c, rfl, rfl, h⟩ := Dc h
  obtain ⟨a', rfl, ha⟩ := ET hx
  obtain ⟨c', rfl, hc⟩ := ET hy
  simp only [cL];exact EH fs ha hc h
theorem EH : ∀ (fs : List (Option Nat × Nat × mw)) {x y x' y' : List EV}, cj θ x x' -> cj θ y y' -> ∀ {b : Bool}, lf fs x y = some b -> lf fs x' y' = some b
 | [], _, _, _, _, _, _, _, h => by simp only [lf] at h ⊢; exact h
 | (g, off, t) :: r, x, y, x', y', hx, hy, b, h => by
  simp only [lf] at h ⊢
  cases hp : partOf g x off with
  | none => simp [hp] at h
  | some p =>
   cases hq : partOf g y off with
   | none => simp [hp, hq] at h
   | some q =>
    obtain ⟨p', hp', sp⟩ := hx.part hp
    obtain ⟨q', wP, sq⟩ := hy.part hq
    simp only [hp, hq, hp', wP] at h ⊢
    cases he : cL t p q with
    | none => simp [he] at h
    | some c =>
     rw [KB t sp sq he]
     cases c
     ·simpa [he] using h
     ·simp only [he] at h ⊢; exact EH r hx hy h
end
theorem uR : ∀ {xs : List EV} {s : List UInt8}, bytesOf xs = some s -> c9 xs = true
 | [], _, _ => rfl
 | v :: xs, s, h => by
  unfold bytesOf at h
  split at h
  ·rename_i hh; cases hh
  ·rename_i hh; cases hh
   obtain ⟨r, hr, _⟩ := fG.1 h
   simp only [c9, Flat, uR hr, Bool.and_self]
  ·cases h
theorem Je : ∀ {l : List EV}, lH l = some v -> c9 l = true /\ Flat v = true := by
 have go : ∀ (k : IntKind) (l : List EV) (x : Int), gZ k x l = some v -> c9 l = true /\ Flat v = true := by
  intro k l
  induction l with
  | nil => intro x h; simp only [gZ, aQ] at h; subst h; exact ⟨rfl, rfl⟩
  | cons a l ih =>
   intro x h
   cases a <;> simp only [gZ, reduceCtorEq] at h
   rename_i k' y
   cases hk : (bf k).beq (bf k') <;> simp only [hk, cond_true, cond_false, reduceCtorEq] at h
   obtain ⟨h1, h2⟩ := ih _ h
   exact ⟨by simp only [c9, Flat, h1, Bool.and_self], h2⟩
 intro l h
 cases l with
 | nil => simp [lH] at h
 | cons a l =>
  cases a <;> simp only [lH, reduceCtorEq] at h
  obtain ⟨h1, h2⟩ := go _ _ _ h
  exact ⟨by simp only [c9, Flat, h1, Bool.and_self], h2⟩
theorem Jb : ∀ {l : List EV}, sc l = some v -> c9 l = true /\ Flat v = true := by
 have go : ∀ (k : IntKind) (l : List EV) (x : Int), ku k x l = some v -> c9 l = true /\ Flat v = true := by
  intro k l
  induction l with
  | nil => intro x h; simp only [ku, aQ] at h; subst h; exact ⟨rfl, rfl⟩
  | cons a l ih =>
   intro x h
   cases a <;> simp only [ku, reduceCtorEq] at h
   rename_i k' y
   cases hk : (bf k).beq (bf k') <;> simp only [hk, cond_true, cond_false, reduceCtorEq] at h
   obtain ⟨h1, h2⟩ := ih _ h
   exact ⟨by simp only [c9, Flat, h1, Bool.and_self], h2⟩
 intro l h
 cases l with
 | nil => simp [sc] at h
 | cons a l =>
  cases a <;> simp only [sc, reduceCtorEq] at h
  obtain ⟨h1, h2⟩ := go _ _ _ h
  exact ⟨by simp only [c9, Flat, h1, Bool.and_self], h2⟩
theorem pz.list (hρ : pz θ ρ ρ') : ∀ {l : List aD}, l.all rL = true -> cj θ (l.map ρ) (l.map ρ')
 | [], _ => .nil
 | x :: l, h => by simp only [List.all_cons, kD] at h; exact .cons (hρ x h.1) (pz.list hρ h.2)
theorem kG {k : EV} (h : hJ k ≠ 99) : Flat k = true := by cases k <;> first | rfl | exact absurd rfl h
theorem jS {kt : Nat} {k : EV} (h : iX kt k = true) : hJ k ≠ 99 := by
 cases k <;> simp only [iX, lm] at h <;> simp [hJ]
 rename_i kk n; cases kk <;> simp [bf]
theorem n8 {k : EV} (hk : hJ k ≠ 99) : ∀ {es lS : List (EV × EV)}, j9 θ es lS -> kp k es = true -> lS.map (·.1) = es.map (·.1) /\ kp k lS = true
 | _, _, .nil, _ => ⟨rfl, rfl⟩
 | _, _, .cons (k := a) ha hv hs, h => by
  simp only [kp] at h
  cases hb : (hJ a).beq (hJ k) <;> simp only [hb, cond_true, cond_false, lm] at h
  have hf : Flat a = true := kG (by rw [aB hb]; exact hk)
  have := ha.flat hf
  subst this;obtain ⟨h1, h2⟩ := n8 hk hs h
  exact ⟨by simp [h1], by simp only [kp, hb, cond_true, h2]⟩
theorem Ar {k : EV} : ∀ {es lS : List (EV × EV)}, j9 θ es lS -> lS.map (·.1) = es.map (·.1) -> (∀ v, find k es = some v -> ∃ v', find k lS = some v' /\ SV θ v v') /\ (find k es = none -> find k lS = none)
 | _, _, .nil, _ => ⟨fun v h => by simp [find] at h, fun _ => rfl⟩
 | _, _, .cons (k' := a) (v := w) (v' := w') ha hv hs, h => by
  simp only [List.map_cons, List.cons.injEq] at h;obtain ⟨rfl, h⟩ := h
  obtain ⟨h1, h2⟩ := Ar (k := k) hs h
  simp only [find]
  cases EV.same k a <;> simp only [cond_true, cond_false]
  ·exact ⟨h1, h2⟩
  ·exact ⟨fun v hh => by cases hh; exact ⟨w', rfl, hv⟩, fun hh => by cases hh⟩
theorem tb {k k' x x' : EV} (hk : SV θ k k') (hx : SV θ x x') (he : k' = k) : ∀ {es lS : List (EV × EV)}, j9 θ es lS -> lS.map (·.1) = es.map (·.1) -> j9 θ (update k x es) (update k' x' lS)
 | _, _, .nil, _ => .cons hk hx .nil
 | _, _, .cons (k' := a) ha hv hs, h => by
  simp only [List.map_cons, List.cons.injEq] at h;obtain ⟨rfl, h⟩ := h
  have ih := tb hk hx he hs h
  subst he;simp only [update]
  cases EV.same k' a <;> simp only [cond_true, cond_false]
  ·exact .cons ha hv ih
  ·exact .cons hk hx hs
theorem xc {k : EV} : ∀ {es lS : List (EV × EV)}, j9 θ es lS -> lS.map (·.1) = es.map (·.1) -> j9 θ (erase k es) (erase k lS)
 | _, _, .nil, _ => .nil
 | _, _, .cons (k' := a) ha hv hs, h => by
  simp only [List.map_cons, List.cons.injEq] at h;obtain ⟨rfl, h⟩ := h
  have ih := xc (k := k) hs h
  simp only [erase]
  cases EV.same k a <;> simp only [cond_true, cond_false]
  ·exact .cons ha hv ih
  ·exact hs
theorem j9.len : ∀ {es lS : List (EV × EV)}, j9 θ es lS -> es.length = lS.length
 | _, _, .nil => rfl
 | _, _, .cons _ _ h => by simp [j9.len h]
end
end
section
section
variable {θ : bF} {m m' m1 : Mem} {v : EV} {n n' : Nat} {ρ ρ' : aD -> EV}
theorem eZ {x : Option EV} (h : dQ m x = some (.val v m1)) : x = some v /\ m1 = m := by
 unfold dQ at h;obtain ⟨y, hy, he⟩ := fG.1 h
 cases he; exact ⟨hy, rfl⟩
theorem Mq {x : Option Mem} (h : ofM x = some (.val v m1)) : x = some m1 /\ v = .undef := by
 unfold ofM at h;obtain ⟨y, hy, he⟩ := fG.1 h
 cases he; exact ⟨hy, rfl⟩
theorem bN {a : EV} {q : Mem} (h : some (R1.val a q) = some (R1.val v m1)) : a = v /\ q = m1 := by cases h; exact ⟨rfl, rfl⟩
theorem j4 {lo : Option aD} (h : (tL lo).all rL = true) (hρ : pz θ ρ ρ') : ∀ x, lo = some x -> SV θ (ρ x) (ρ' x) := by
 intro x e; subst e
 simp only [tL, List.all_cons, List.all_nil, Bool.and_true] at h;exact hρ x h
theorem nP {θ' : bF} {esz b c off len : Nat} {cap : Option Nat} {lo hi max : Option aD} (hb : θ.eU b = some c) (kw : ∀ x, lo = some x -> SV θ (ρ x) (ρ' x)) (oB : ∀ x, hi = some x -> SV θ (ρ x) (ρ' x)) (GH : ∀ x, max = some x -> SV θ (ρ x) (ρ' x))
  (h : b9 esz b off len cap (lo.map ρ) (hi.map ρ) (max.map ρ) = some v) : ∃ v', b9 esz c off len cap (lo.map ρ') (hi.map ρ') (max.map ρ') = some v' /\ SV θ v v' := by
 cases cap with
 | some cp =>
  simp only [b9] at h ⊢
  cases h1 : aw (max.map ρ) cp cp with
  | none => simp [h1] at h
  | some t =>
   rw [db GH h1]; simp only [h1] at h ⊢
   cases h2 : aw (hi.map ρ) len t with
   | none => simp [h2] at h
   | some q =>
    rw [db oB h2]; simp only [h2] at h ⊢
    cases h3 : aw (lo.map ρ) 0 q with
    | none => simp [h3] at h
    | some l =>
     rw [db kw h3]; simp only [h3, aQ] at h ⊢
     subst h; exact ⟨_, rfl, .slice hb⟩
 | none =>
  cases max with
  | some mx =>
   simp only [b9, Option.map_some] at h ⊢
   cases h1 : aw (some (ρ mx)) len len with
   | none => simp [h1] at h
   | some t =>
    have Al : aw (some (ρ' mx)) len len = some t := db (lo := some mx) GH h1
    simp only [h1, Al] at h ⊢
    cases h2 : aw (hi.map ρ) len t with
    | none => simp [h2] at h
    | some q =>
     rw [db oB h2]; simp only [h2] at h ⊢
     cases h3 : aw (lo.map ρ) 0 q with
     | none => simp [h3] at h
     | some l =>
      rw [db kw h3]; simp only [h3, aQ] at h ⊢
      subst h; exact ⟨_, rfl, .slice hb⟩
  | none =>
   simp only [b9, Option.map_none] at h ⊢
   cases h2 : aw (hi.map ρ) len len with
   | none => simp [h2] at h
   | some q =>
    rw [db oB h2]; simp only [h2] at h ⊢
    cases h3 : aw (lo.map ρ) 0 q with
    | none => simp [h3] at h
    | some l =>
     rw [db kw h3]; simp only [h3, aQ] at h ⊢
     subst h; exact ⟨_, rfl, .slice hb⟩
theorem Ap {esz : Nat} : ∀ (L : List (List EV)) (l h : Nat), l <= h -> h <= L.length -> (∀ el ∈ L, el.length = esz) -> ((L.take h).drop l).flatten = (L.flatten.drop (l * esz)).take ((h - l) * esz) := by
 have tk : ∀ (L : List (List EV)) (h : Nat), (∀ el ∈ L, el.length = esz) -> (L.take h).flatten = L.flatten.take (h * esz) := by
  intro L
  induction L with
  | nil => intro h _; simp
  | cons e L ih =>
   intro h hl
   have he := hl e (by simp)
   cases h with
   | zero => simp
   | succ h => rw [List.take_succ_cons, List.flatten_cons, ih h (fun el q => hl el (by simp [q])), List.flatten_cons, Nat.succ_mul, Nat.add_comm, List.take_append, he, qI (l := e) (by rw [he]; omega)]; simp
 have dp : ∀ (L : List (List EV)) (h : Nat), (∀ el ∈ L, el.length = esz) -> (L.drop h).flatten = L.flatten.drop (h * esz) := by
  intro L
  induction L with
  | nil => intro h _; simp
  | cons e L ih =>
   intro h hl
   have he := hl e (by simp)
   cases h with
   | zero => simp
   | succ h => rw [List.drop_succ_cons, ih h (fun el q => hl el (by simp [q])), List.flatten_cons, Nat.succ_mul, Nat.add_comm, <- List.drop_drop, show (e ++ L.flatten).drop esz = L.flatten by rw [<- he]; simp]
 intro L l h Z2 hh hl
 rw [dp _ _ (fun el q => hl el (List.mem_of_mem_take q)), tk _ _ hl, List.drop_take, <- Nat.sub_mul]
theorem NA {esz t b off : Nat} {els : List (List EV)} {cap : Option Nat} (hx : SV θ (.fz t esz els) (.slice b off els.length cap)) (hm : MemS θ m m') {lo hi : Option aD} (kw : ∀ x, lo = some x -> SV θ (ρ x) (ρ' x)) (oB : ∀ x, hi = some x -> SV θ (ρ x) (ρ' x)) {h l : Nat}
  (h1 : aw (hi.map ρ) els.length els.length = some h) (h2 : aw (lo.map ρ) 0 h = some l) (hh : h <= els.length) (hl : l <= h) :
  ∃ v' , (match cap with
   | some c => dQ m' (b9 esz b off els.length (some c) (lo.map ρ') (hi.map ρ') none)
   | none => match m'.get b with
    | .cells _ e _ _ => bif e.beq esz then dQ m' (b9 esz b off els.length none (lo.map ρ') (hi.map ρ') none) else none
    | _ => none) = some (.val v' m') /\ SV θ (.fz 0 esz ((els.take h).drop l)) v' := by
 have Al := db oB h1
 have Wq := db kw h2
 have hlen : ((els.take h).drop l).length = h - l := by rw [Lv, List.length_take]; omega
 generalize l9 : EV.slice b off els.length cap = y at hx
 cases hx with
 | sF ht =>
  cases l9
  simp only [List.length_nil] at h1 Al hh
  obtain rfl : h = 0 := by omega
  obtain rfl : l = 0 := by omega
  simp only [List.length_nil, b9, gb, Al, Wq, dQ, Option.map_some];refine ⟨_, rfl, ?_⟩
  simp only [Nat.beq_refl, cond_true, Nat.sub_self, List.take_nil, List.drop_nil];exact .sF (.inl rfl)
 | fz hr ht hc =>
  cases l9
  cases hr with
  | @mk _ _ _ _ _ k cs ro hs hle hn CH =>
  have HE : cj θ.low ((els.take h).drop l).flatten ((cs.drop (off + l * esz)).take (((els.take h).drop l).length * esz)) := by
   rw [hlen, Ap els l h hl hh hle];have q := (CH.drop (l * esz)).take ((h - l) * esz)
   have : l * esz + (h - l) * esz <= els.length * esz := by rw [<- Nat.add_mul]; exact Nat.mul_le_mul_right _ (by omega)
   rw [List.drop_take, List.drop_drop, List.take_take, Nat.min_eq_left (by omega)] at q;exact q
  have ZY : off + l * esz + ((els.take h).drop l).length * esz <= cs.length := by
   have : l * esz + (h - l) * esz <= els.length * esz := by rw [<- Nat.add_mul]; exact Nat.mul_le_mul_right _ (by omega)
   rw [hlen]; omega
  have hr : SR θ esz ((els.take h).drop l) b (off + l * esz) := .mk hs (fun el q => hle el (List.mem_of_mem_take (List.mem_of_mem_drop q))) ZY HE
  cases cap with
  | some c =>
   have mN := hc c rfl
   have g1 : aw (hi.map ρ') els.length c = some h := by
    cases hi with
    | none => simp only [Option.map_none, aw, aQ] at Al ⊢; exact Al
    | some x =>
     simp only [Option.map_some] at Al ⊢
     generalize ρ' x = w at Al
     unfold aw at Al ⊢
     split at Al
     ·rename_i e; cases e
     ·rename_i e; cases e
      rename_i i
      cases hb : i.ble els.length <;> simp only [hb, cond_true, cond_false, reduceCtorEq, aQ] at Al
      have := lk hb
      subst Al
      simp only [lJ (show i <= c by omega), cond_true]
     ·cases Al
   simp only [b9, gb, g1, Wq, dQ, Option.map_some];refine ⟨_, rfl, ?_⟩
   by_cases Sm : c = l
   ·subst Sm
    obtain rfl : h = c := by omega
    simp only [Nat.beq_refl, cond_true, Nat.sub_self];have : (els.take h).drop h = [] := List.eq_nil_of_length_eq_zero (by rw [hlen]; omega)
    rw [this]; exact .sF (.inl rfl)
   ·simp only [gf Sm, cond_false]
    have := SV.fz (t := 0) (cap := some (c - l)) hr (.inl rfl) (fun q e => by cases e; rw [hlen]; omega)
    rw [hlen] at this; exact this
  | none =>
   simp only [hm.eF _ _ hs, Nat.beq_refl, cond_true, b9, gb, Al, Wq, dQ, Option.map_some];refine ⟨_, rfl, ?_⟩
   have := SV.fz (t := 0) (cap := none) hr (.inl rfl) (fun q e => by cases e)
   rw [hlen] at this; exact this
theorem uT {x : Option EV} {d qY i : Nat} (h : aw x d qY = some i) (hd : d <= qY) : i <= qY := by
 unfold aw at h
 split at h
 ·cases h; exact hd
 ·rename_i kk i'
  cases hb : i'.ble qY <;> simp only [hb, cond_true, cond_false, reduceCtorEq, aQ] at h
  rw [<- h]; exact lk hb
 ·cases h
theorem DH (hm : MemS θ m m') (k : lI θ n n') (f : qB θ m.next m'.next) {elem esz : Nat} {s s' x x' : EV} (hs : SV θ s s') (hx : SV θ x x') (h : eu m elem esz s x = some (v, m1)) : yL θ m m' v m1 (oq (eu m' elem esz s' x')) := by
 unfold eu at h ⊢
 cases fO : m.source esz x with
 | none => simp [fO] at h
 | some q =>
  obtain ⟨N, xs⟩ := q
  obtain ⟨vo, Aa, CH⟩ := mB hm hx fO
  simp only [fO, Aa] at h ⊢
  cases h0 : N.beq 0 <;> simp only [h0, cond_true, cond_false] at h ⊢
  ·cases hs <;> simp only [reduceCtorEq] at h
   case aa =>
    cases hr : N.ble room <;> simp only [hr, cond_true, cond_false, reduceCtorEq, aQ, kj] at h
    obtain ⟨rfl, rfl⟩ := h
    exact yL.new hm f ⟨vo, rfl, CH.ext f.ext⟩ (.slice kr)
   case slice b c off len cap hb =>
    cases hr : (len + N).ble room <;> simp only [hr, cond_true, cond_false, reduceCtorEq] at h ⊢
    cases jj : m.row b off (len * esz) with
    | none => simp [jj] at h
    | some old =>
     obtain ⟨old', RU, hold⟩ := xC hm hb jj
     simp only [jj, RU] at h ⊢
     cases cap with
     | some cp =>
      simp only at h ⊢
      cases hc : (len + N).ble cp <;> simp only [hc, cond_true, cond_false] at h ⊢
      ·simp only [aQ, kj] at h
       obtain ⟨rfl, rfl⟩ := h
       exact yL.new hm f ⟨_, rfl, (hold.append CH).ext f.ext⟩ (.slice kr)
      ·obtain ⟨m2, hw, he⟩ := fG.1 h
       simp only [kj] at he;obtain ⟨rfl, rfl⟩ := he
       obtain ⟨Mz, RO, h2, h3, h4, h5⟩ := qK hm k hb CH hw
       refine ⟨_, Mz, by simp only [RO, Option.map_some, oq], .inl ⟨.slice hb, h2, h3, h4⟩, fun d _ hd => h5 d fun e => hd b (e ▸ hb)⟩
     | none =>
      simp only at h ⊢
      have hB := hm.bT b c hb
      cases hg : m.get b with
      | dead => simp [hg] at h
      | map es => simp [hg] at h
      | cells cs e t ro =>
       rw [hg] at hB;obtain ⟨iQ, oC, _⟩ := hB
       cases ro with
       | true => simp [hg] at h
       | false =>
       simp only [hg, oC] at h ⊢
       cases he : e.beq esz <;> simp only [he, cond_true, cond_false, reduceCtorEq, aQ, kj] at h ⊢
       obtain ⟨rfl, rfl⟩ := h
       have ZZ := hm.more f (B := .cells (old ++ xs) esz elem false) (B' := .cells (old' ++ vo) esz elem false) ⟨_, rfl, (hold.append CH).ext f.ext⟩
       have k2 := k.more f (k := max n (m.next + 1)) (k' := max n' (m'.next + 1)) (by omega) (by omega) (by omega) (by omega)
       refine ⟨_, _, rfl, .inr ⟨.slice kr, ZZ.set k2 (f.ext.eU b c hb) (B := .dead) (B' := .dead) trivial, rfl, rfl⟩, fun d hd x8 => ?_⟩
       have hdc : d ≠ c := fun q => x8 b (q ▸ hb)
       rw [bz hdc, dv, if_neg hd]
  ·cases hs <;> simp only [reduceCtorEq, aQ, kj] at h
   case aa => obtain ⟨rfl, rfl⟩ := h; exact yL.here hm rfl .aa
   case slice hb => obtain ⟨rfl, rfl⟩ := h; exact yL.here hm rfl (.slice hb)
   case fz c a b => obtain ⟨rfl, rfl⟩ := h; exact yL.here hm rfl (.fz a b c)
   case sF ht => obtain ⟨rfl, rfl⟩ := h; exact yL.here hm rfl (.sF ht)
theorem KK (hm : MemS θ m m') (k : lI θ n n') {esz : Nat} {s s' x x' : EV} (hs : SV θ s s') (hx : SV θ x x') (h : pn m esz s x = some (v, m1)) : yL θ m m' v m1 (oq (pn m' esz s' x')) := by
 unfold pn at h ⊢
 cases hs <;> simp only [reduceCtorEq] at h
 case aa =>
  obtain ⟨q, hq, he⟩ := fG.1 h
  obtain ⟨vo, Aa, _⟩ := mB hm hx hq
  simp only [kj] at he;obtain ⟨rfl, rfl⟩ := he
  simp only [Aa, Option.map_some];exact yL.here hm rfl (.int _ _)
 case slice b c off len cap hb =>
  cases fO : m.source esz x with
  | none => simp [fO] at h
  | some q =>
   obtain ⟨N, xs⟩ := q
   obtain ⟨vo, Aa, CH⟩ := mB hm hx fO
   simp only [fO, Aa] at h ⊢
   obtain ⟨m2, hw, he⟩ := fG.1 h
   simp only [kj] at he;obtain ⟨rfl, rfl⟩ := he
   obtain ⟨Mz, RO, h2, h3, h4, h5⟩ := qK hm k hb (CH.take _) hw
   exact ⟨_, Mz, by simp only [RO, Option.map_some, oq], .inl ⟨.int _ _, h2, h3, h4⟩, fun d _ hd => h5 d fun e => hd b (e ▸ hb)⟩
theorem xE (hρ : pz θ ρ ρ') (hm : MemS θ m m') (k : lI θ n n') (f : qB θ m.next m'.next) {op : iR} (cy : IX op = true) (h : ap ρ op m = some (.val v m1)) : yL θ m m' v m1 (ap ρ' op m') := by
 cases op <;> simp only [IX, eY, Cj, List.all_cons, List.all_nil, List.all_append, Bool.and_true, Bool.true_and, kD] at cy <;> simp only [ap] at h ⊢
 case ab x => obtain ⟨rfl, rfl⟩ := bN h; exact .here hm rfl (hρ x cy)
 case pick c a b =>
  have hc := hρ c cy.1
  generalize ρ c = y at hc h; generalize ρ' c = y' at hc
  cases hc <;> simp only [reduceCtorEq] at h ⊢
  rename_i t
  obtain ⟨rfl, rfl⟩ := bN h
  cases t
  ·exact .here hm rfl (hρ b cy.2.2)
  ·exact .here hm rfl (hρ a cy.2.1)
 case alloc e z =>
  obtain ⟨rfl, rfl⟩ := bN h
  exact .new hm f ⟨z, rfl, cj.of_flat cy⟩ (.ptr kr)
 case box e x =>
  have hx := hρ x cy
  cases hc : (ρ x).cells with
  | none => simp [hc] at h
  | some cs =>
   obtain ⟨iQ, So, hs⟩ := hx.cells hc
   simp only [hc, So] at h ⊢
   obtain ⟨rfl, rfl⟩ := bN h
   rw [<- hs.length];exact .new hm f ⟨iQ, rfl, hs.ext f.ext⟩ (.ptr kr)
 case build z ps =>
  obtain ⟨h1, rfl⟩ := eZ h
  obtain ⟨r, hr, rfl⟩ := fG.1 h1
  have hp : cj θ ((ps.map fun p => (p.1, p.2.1, ρ p.2.2)).map (·.2.2)) ((ps.map fun p => (p.1, p.2.1, ρ' p.2.2)).map (·.2.2)) := by
   have := pz.list hρ cy.1
   rw [List.map_map, List.map_map] at this;rw [List.map_map, List.map_map]; exact this
  obtain ⟨r', JL, hs⟩ := uA _ (ps.map fun p => (p.1, p.2.1, ρ' p.2.2)) _ _ _ (by simp [Function.comp_def]) hp (cj.of_flat cy.2) hr
  simp only [JL, Option.map_some, dQ];exact .here hm rfl (.agg hs)
 case aU e esz len z ps =>
  cases hr : cU (cH len z) (ps.map fun p => (p.1 * esz, esz, ρ p.2)) with
  | none => simp [hr] at h
  | some r =>
   have hp : cj θ ((ps.map fun p => (p.1 * esz, esz, ρ p.2)).map (·.2.2)) ((ps.map fun p => (p.1 * esz, esz, ρ' p.2)).map (·.2.2)) := by
    have := pz.list hρ cy.1
    rw [List.map_map, List.map_map] at this;rw [List.map_map, List.map_map]; exact this
   obtain ⟨r', JL, hs⟩ := uA _ (ps.map fun p => (p.1 * esz, esz, ρ' p.2)) _ _ _ (by simp [Function.comp_def]) hp (cj.of_flat (qo cy.2 len)) hr
   simp only [hr, JL] at h ⊢
   obtain ⟨rfl, rfl⟩ := bN h
   exact .new hm f ⟨r', rfl, hs.ext f.ext⟩ (.slice kr)
 case load g a =>
  obtain ⟨h1, rfl⟩ := eZ h
  obtain ⟨v', hl, hv⟩ := zW hm (hρ a cy) h1
  simp only [hl, dQ, Option.map_some];exact .here hm rfl hv
 case store size a x =>
  obtain ⟨h1, rfl⟩ := Mq h
  obtain ⟨dO, hs, h2, h3, h4, h5⟩ := Fo hm k (hρ a cy.1) (hρ x cy.2) h1
  exact ⟨_, dO, by simp only [hs, ofM, Option.map_some], .inl ⟨.undef, h2, h3, h4⟩, fun c _ hc => h5 c hc⟩
 case kn x =>
  have hx := hρ x cy
  generalize ρ x = y at hx h; generalize ρ' x = y' at hx
  cases hx <;> simp only [reduceCtorEq] at h ⊢ <;> obtain ⟨rfl, rfl⟩ := bN h
  case ptr hb => exact .here hm rfl (.ptr hb)
  case func h1 h2 => exact .here hm rfl (.func h1 h2)
  case iface h1 => exact .here hm rfl (.iface h1)
  case dl h2 h3 h1 => exact .here hm rfl (.dl h1 h2 h3)
 case bin op x y =>
  obtain ⟨h1, rfl⟩ := eZ h
  obtain ⟨f1, f2, f3⟩ := KV h1
  rw [(hρ x cy.1).flat f1, (hρ y cy.2).flat f2, h1];exact .here hm rfl (SV.of_flat f3)
 case eq neg t x y =>
  obtain ⟨h1, rfl⟩ := eZ h
  obtain ⟨b, hb, rfl⟩ := fG.1 h1
  rw [KB t (hρ x cy.1) (hρ y cy.2) hb];exact .here hm rfl (.bool _)
 case un op x =>
  obtain ⟨h1, rfl⟩ := eZ h
  obtain ⟨f1, f2⟩ := LB h1
  rw [(hρ x cy).flat f1, h1];exact .here hm rfl (SV.of_flat f2)
 case conv c x =>
  have hx := hρ x cy
  unfold oq at h;obtain ⟨q, hq, he⟩ := fG.1 h
  obtain ⟨q1, q2⟩ := q
  cases he
  generalize ρ x = y at hx hq; generalize ρ' x = y' at hx
  cases c with
  | int kk =>
   cases hx <;> simp only [fA, reduceCtorEq, aQ, kj] at hq ⊢
   obtain ⟨rfl, rfl⟩ := hq
   exact .here hm rfl (.int _ _)
  | same =>
   cases hx <;> simp only [fA, reduceCtorEq, aQ, kj] at hq ⊢
   obtain ⟨rfl, rfl⟩ := hq
   exact .here hm rfl (.str _)
  | bytes e =>
   cases hx <;> simp only [fA, reduceCtorEq, aQ, kj] at hq ⊢
   obtain ⟨rfl, rfl⟩ := hq
   exact .new hm f ⟨_, rfl, cj.map _ _ fun a _ => .int _ _⟩ (.slice kr)
  | text =>
   cases hx <;> simp only [fA, reduceCtorEq, aQ, kj] at hq ⊢
   case aa => obtain ⟨rfl, rfl⟩ := hq; exact .here hm rfl (.str _)
   case slice b c off len cap hb =>
    cases hr : m.row b off len with
    | none => simp [hr] at hq
    | some cs =>
     obtain ⟨iQ, JL, hs⟩ := xC hm hb hr
     simp only [hr, JL] at hq ⊢
     obtain ⟨s, iM, he⟩ := fG.1 hq
     cases he
     rw [hs.flat (uR iM), iM];exact .here hm rfl (.str _)
 case iface t x => obtain ⟨rfl, rfl⟩ := bN h; exact .here hm rfl (.iface (hρ x cy))
 case tX g a c =>
  obtain ⟨rfl, rfl⟩ := bN h
  exact .here hm rfl (.func (pz.list hρ cy.1) (pz.list hρ cy.2))
 case nz =>
  obtain ⟨rfl, rfl⟩ := bN h
  exact .new hm f ⟨[], rfl, .nil⟩ (.map kr)
 case gy e esz z len cap =>
  have hl := hρ len cy.1.1
  have hc := hρ cap cy.1.2
  generalize ρ len = a at hl h; generalize ρ' len = a' at hl
  generalize ρ cap = b at hc h; generalize ρ' cap = b' at hc
  split at h
  ·rename_i l c
   have := JA hl; have := JA hc; subst_vars
   simp only
   cases hb : (bif l.ble c then c.ble room else false) <;> simp only [hb, cond_true, cond_false, reduceCtorEq] at h ⊢
   obtain ⟨rfl, rfl⟩ := bN h
   exact .new hm f ⟨_, rfl, cj.of_flat (qo cy.2 c)⟩ (.slice kr)
  ·cases h
 case mW x lo hi =>
  have hx := hρ x cy.1
  have kw := j4 cy.2.1 hρ
  have oB := j4 cy.2.2 hρ
  generalize ρ x = y at hx h; generalize ρ' x = y' at hx
  cases hx <;> simp only [reduceCtorEq] at h ⊢
  rename_i s
  cases h1 : aw (hi.map ρ) s.length s.length with
  | none => simp [h1] at h
  | some q =>
   rw [db oB h1]; simp only [h1] at h ⊢
   cases h2 : aw (lo.map ρ) 0 q with
   | none => simp [h2] at h
   | some l =>
    rw [db kw h2]; simp only [h2] at h ⊢
    obtain ⟨rfl, rfl⟩ := bN h
    exact .here hm rfl (.str _)
 case lp esz x lo hi mx =>
  have hx := hρ x cy.1
  have kw := j4 cy.2.1 hρ
  have oB := j4 cy.2.2.1 hρ
  have pH := j4 cy.2.2.2 hρ
  generalize hy : ρ x = y at hx h; generalize Tz : ρ' x = y' at hx
  have YC : ∀ (t e : Nat) (els : List (List EV)) (b off : Nat) (cap : Option Nat), SV θ (.fz t e els) (.slice b off els.length cap) -> (match mx with
   | none => bif e.beq esz then match aw (hi.map ρ) els.length els.length with
     | some h => match aw (lo.map ρ) 0 h with
      | some l => some (R1.val (.fz 0 e ((els.take h).drop l)) m)
      | none => none
     | none => none
    else none
   | some _ => none) = some (.val v m1) -> yL θ m m' v m1 (match cap with
   | some c => dQ m' (b9 esz b off els.length (some c) (lo.map ρ') (hi.map ρ') (mx.map ρ'))
   | none => match m'.get b with
    | .cells _ e _ _ => bif e.beq esz then dQ m' (b9 esz b off els.length none (lo.map ρ') (hi.map ρ') (mx.map ρ')) else none
    | _ => none) := by
   intro t e els b off cap ZE hh
   cases mx with
   | some x => cases hh
   | none =>
    simp only at hh
    cases he : e.beq esz <;> simp only [he, cond_true, cond_false, reduceCtorEq] at hh
    obtain rfl := aB he
    cases h1 : aw (hi.map ρ) els.length els.length with
    | none => simp [h1] at hh
    | some q =>
     simp only [h1] at hh
     cases h2 : aw (lo.map ρ) 0 q with
     | none => simp [h2] at hh
     | some l =>
      simp only [h2] at hh;obtain ⟨rfl, rfl⟩ := bN hh
      obtain ⟨v', e1, e2⟩ := NA ZE hm kw oB h1 h2 (uT h1 (ee _)) (uT h2 (pF _))
      rw [show (Option.map ρ' none : Option EV) = none from rfl, e1];exact .here hm rfl e2
  cases hx <;> (try simp only [reduceCtorEq] at h ⊢)
  case aa =>
   cases h1 : aw (mx.map ρ) 0 0 with
   | none => simp [h1] at h
   | some a =>
    cases h2 : aw (hi.map ρ) 0 0 with
    | none => simp [h1, h2] at h
    | some b =>
     cases h3 : aw (lo.map ρ) 0 0 with
     | none => simp [h1, h2, h3] at h
     | some c =>
      rw [db pH h1, db oB h2, db kw h3];simp only [h1, h2, h3] at h ⊢
      obtain ⟨rfl, rfl⟩ := bN h
      exact .here hm rfl .aa
  case slice b c off len cap hb =>
   cases cap with
   | some cp =>
    simp only at h ⊢
    obtain ⟨h1, rfl⟩ := eZ h
    obtain ⟨v', e1, e2⟩ := nP (θ' := θ) hb kw oB pH h1
    rw [e1];exact .here hm rfl e2
   | none =>
    simp only at h ⊢
    have hB := hm.bT b c hb
    cases hg : m.get b with
    | dead => simp [hg] at h
    | map es => simp [hg] at h
    | cells cs e t ro =>
     rw [hg] at hB;obtain ⟨iQ, oC, _⟩ := hB
     simp only [hg, oC] at h ⊢
     cases he : e.beq esz <;> simp only [he, cond_true, cond_false, reduceCtorEq] at h ⊢
     obtain ⟨h1, rfl⟩ := eZ h
     obtain ⟨v', e1, e2⟩ := nP (θ' := θ) hb kw oB pH h1
     rw [e1];exact .here hm rfl e2
  case fz t e els b off cap h3 h1 h2 =>
   have := YC t e els b off cap (.fz h1 h2 h3) h
   cases cap <;> exact this
  case sF t e b off ht =>
   exact YC t e [] b off (some 0) (.sF ht) h
 case kU N esz x lo hi mx =>
  have hx := hρ x cy.1
  have kw := j4 cy.2.1 hρ
  have oB := j4 cy.2.2.1 hρ
  have pH := j4 cy.2.2.2 hρ
  generalize ρ x = y at hx h; generalize ρ' x = y' at hx
  cases hx <;> simp only [reduceCtorEq] at h ⊢
  rename_i hb
  obtain ⟨h1, rfl⟩ := eZ h
  obtain ⟨v', e1, e2⟩ := nP (θ' := θ) hb kw oB pH h1
  rw [e1];exact .here hm rfl e2
 case ak off x =>
  have hx := hρ x cy
  generalize ρ x = y at hx h; generalize ρ' x = y' at hx
  cases hx <;> simp only [reduceCtorEq] at h ⊢ <;> obtain ⟨rfl, rfl⟩ := bN h
  case ptr hb => exact .here hm rfl (.ptr hb)
  case dl h2 h3 h1 => exact .here hm rfl (.dl h1 h2 (by omega))
 case OX g off x =>
  have hx := hρ x cy
  generalize ρ x = y at hx h; generalize ρ' x = y' at hx
  cases hx <;> simp only [reduceCtorEq] at h ⊢
  rename_i hs
  obtain ⟨h1, rfl⟩ := eZ h
  obtain ⟨v', e1, e2⟩ := hs.part h1
  rw [e1];exact .here hm rfl e2
 case ay esz x i =>
  have hx := hρ x cy.1
  have hi := hρ i cy.2
  generalize ρ x = y at hx h; generalize ρ' x = y' at hx
  cases hx <;> simp only [reduceCtorEq] at h ⊢
  case slice b c off len cap hb =>
   cases hj : idx len (ρ i) with
   | none => simp [hj] at h
   | some j =>
    rw [qa hi hj]; simp only [hj] at h ⊢
    obtain ⟨rfl, rfl⟩ := bN h
    exact .here hm rfl (.ptr hb)
  case fz t e els b off cap hc hr ht =>
   cases he : e.beq esz <;> simp only [he, cond_true, cond_false, reduceCtorEq] at h
   obtain rfl := aB he
   cases hj : idx els.length (ρ i) with
   | none => simp [hj] at h
   | some j =>
    rw [qa hi hj]; simp only [hj] at h ⊢
    obtain ⟨rfl, rfl⟩ := bN h
    refine .here hm rfl (.dl hr ?_ rfl)
    unfold idx at hj
    split at hj
    ·rename_i j' _
     cases hb : (j' + 1).ble els.length <;> simp only [hb, cond_true, cond_false, reduceCtorEq, aQ] at hj
     subst hj; exact lk hb
    ·cases hj
  case sF t e b off ht =>
   cases he : e.beq esz <;> simp only [he, cond_true, cond_false, reduceCtorEq] at h
   cases hj : idx 0 (ρ i) with
   | none => simp [hj] at h
   | some j =>
    unfold idx at hj
    split at hj
    ·exact absurd (show (none : Option Nat) = some j from hj) (by simp)
    ·cases hj
 case c7 N esz x i =>
  have hx := hρ x cy.1
  have hi := hρ i cy.2
  generalize ρ x = y at hx h; generalize ρ' x = y' at hx
  cases hx <;> simp only [reduceCtorEq] at h ⊢
  rename_i hb
  cases hj : idx N (ρ i) with
  | none => simp [hj] at h
  | some j =>
   rw [qa hi hj]; simp only [hj] at h ⊢
   obtain ⟨rfl, rfl⟩ := bN h
   exact .here hm rfl (.ptr hb)
 case cO x i =>
  have hx := hρ x cy.1
  have hi := hρ i cy.2
  generalize ρ x = y at hx h; generalize ρ' x = y' at hx
  cases hx <;> simp only [reduceCtorEq] at h ⊢
  rename_i s
  cases hj : idx s.length (ρ i) with
  | none => simp [hj] at h
  | some j =>
   rw [qa hi hj]; simp only [hj] at h ⊢
   cases hs : s[j]? with
   | none => simp [hs] at h
   | some c =>
    simp only [hs] at h ⊢
    obtain ⟨rfl, rfl⟩ := bN h
    exact .here hm rfl (.int _ _)
 case nF N esz g x i =>
  have hx := hρ x cy.1
  have hi := hρ i cy.2
  generalize ρ x = y at hx h; generalize ρ' x = y' at hx
  cases hx <;> simp only [reduceCtorEq] at h ⊢
  rename_i hs
  cases hj : idx N (ρ i) with
  | none => simp [hj] at h
  | some j =>
   rw [qa hi hj]; simp only [hj] at h ⊢
   obtain ⟨h1, rfl⟩ := eZ h
   obtain ⟨v', e1, e2⟩ := hs.part h1
   rw [e1];exact .here hm rfl e2
 case lookup kt z ok mp key =>
  have hx := hρ mp cy.1.1
  have hk := hρ key cy.1.2
  have hz : SV θ z z := SV.of_flat cy.2
  have X8 : SV θ (bif ok then .tuple [z, .bool false] else z) (bif ok then .tuple [z, .bool false] else z) := by
   cases ok
   ·exact hz
   ·exact .tuple (.cons hz (.cons (.bool _) .nil))
  generalize ρ mp = y at hx h; generalize ρ' mp = y' at hx
  cases hx <;> simp only [reduceCtorEq] at h ⊢
  case aS =>
   cases l8 : iX kt (ρ key) <;> simp only [l8, cond_true, cond_false, reduceCtorEq] at h
   rw [hk.flat (kG (jS l8)), l8];obtain ⟨rfl, rfl⟩ := bN h
   exact .here hm rfl X8
  case map b c hb =>
   have hB := hm.bT b c hb
   cases hg : m.get b with
   | dead => simp [hg] at h
   | cells cs e t ro => simp [hg] at h
   | map es =>
    rw [hg] at hB;obtain ⟨lS, oC, nk⟩ := hB
    simp only [hg, oC] at h ⊢
    cases Ew : e7 kt (ρ key) es <;> simp only [Ew, cond_true, cond_false, reduceCtorEq] at h
    unfold e7 at Ew
    cases l8 : iX kt (ρ key) <;> simp only [l8, cond_true, cond_false, lm] at Ew
    obtain ⟨g1, g2⟩ := n8 (jS l8) nk Ew
    obtain ⟨f1, f2⟩ := Ar (k := ρ key) nk g1
    rw [hk.flat (kG (jS l8))];simp only [e7, l8, g2, cond_true]
    cases hf : find (ρ key) es with
    | none =>
     rw [f2 hf]; simp only [hf] at h ⊢
     obtain ⟨rfl, rfl⟩ := bN h
     exact .here hm rfl X8
    | some w =>
     obtain ⟨w', e1, e2⟩ := f1 w hf
     rw [e1]; simp only [hf] at h ⊢
     obtain ⟨rfl, rfl⟩ := bN h
     refine .here hm rfl ?_
     cases ok
     ·exact e2
     ·exact .tuple (.cons e2 (.cons (.bool _) .nil))
 case kY kt mp key x =>
  have hx := hρ mp cy.1
  have hk := hρ key cy.2.1
  have hv := hρ x cy.2.2
  generalize ρ mp = y at hx h; generalize ρ' mp = y' at hx
  cases hx <;> simp only [reduceCtorEq] at h ⊢
  case map b c hb =>
   have hB := hm.bT b c hb
   cases hg : m.get b with
   | dead => simp [hg] at h
   | cells cs e t ro => simp [hg] at h
   | map es =>
    rw [hg] at hB;obtain ⟨lS, oC, nk⟩ := hB
    simp only [hg, oC] at h ⊢
    cases Ew : e7 kt (ρ key) es <;> simp only [Ew, cond_true, cond_false, reduceCtorEq] at h
    unfold e7 at Ew
    cases l8 : iX kt (ρ key) <;> simp only [l8, cond_true, cond_false, lm] at Ew
    obtain ⟨g1, g2⟩ := n8 (jS l8) nk Ew
    have Bp := hk.flat (kG (jS l8))
    have hu := tb hk hv Bp nk g1
    rw [Bp] at hu ⊢
    simp only [e7, l8, g2, cond_true];obtain ⟨rfl, rfl⟩ := bN h
    exact ⟨_, _, rfl, .inl ⟨.undef, hm.set k hb ⟨_, rfl, hu⟩, rfl, rfl⟩, fun d _ hd => bz fun e => hd b (e ▸ hb)⟩
 case delete kt mp key =>
  have hx := hρ mp cy.1
  have hk := hρ key cy.2
  generalize ρ mp = y at hx h; generalize ρ' mp = y' at hx
  cases hx <;> simp only [reduceCtorEq] at h ⊢
  case aS =>
   cases l8 : iX kt (ρ key) <;> simp only [l8, cond_true, cond_false, reduceCtorEq] at h
   rw [hk.flat (kG (jS l8)), l8];obtain ⟨rfl, rfl⟩ := bN h
   exact .here hm rfl (.tuple .nil)
  case map b c hb =>
   have hB := hm.bT b c hb
   cases hg : m.get b with
   | dead => simp [hg] at h
   | cells cs e t ro => simp [hg] at h
   | map es =>
    rw [hg] at hB;obtain ⟨lS, oC, nk⟩ := hB
    simp only [hg, oC] at h ⊢
    cases Ew : e7 kt (ρ key) es <;> simp only [Ew, cond_true, cond_false, reduceCtorEq] at h
    unfold e7 at Ew
    cases l8 : iX kt (ρ key) <;> simp only [l8, cond_true, cond_false, lm] at Ew
    obtain ⟨g1, g2⟩ := n8 (jS l8) nk Ew
    have Bp := hk.flat (kG (jS l8))
    rw [Bp];simp only [e7, l8, g2, cond_true];obtain ⟨rfl, rfl⟩ := bN h
    exact ⟨_, _, rfl, .inl ⟨.tuple .nil, hm.set k hb ⟨_, rfl, xc nk g1⟩, rfl, rfl⟩, fun d _ hd => bz fun e => hd b (e ▸ hb)⟩
 case lP mp =>
  have hx := hρ mp cy
  generalize ρ mp = y at hx h; generalize ρ' mp = y' at hx
  cases hx <;> simp only [reduceCtorEq] at h ⊢
  case aS => obtain ⟨rfl, rfl⟩ := bN h; exact .here hm rfl (.int _ _)
  case map b c hb =>
   have hB := hm.bT b c hb
   cases hg : m.get b with
   | dead => simp [hg] at h
   | cells cs e t ro => simp [hg] at h
   | map es =>
    rw [hg] at hB;obtain ⟨lS, oC, nk⟩ := hB
    simp only [hg, oC, nk.len] at h ⊢
    obtain ⟨rfl, rfl⟩ := bN h
    exact .here hm rfl (.int _ _)
 case ly t x =>
  have hx := hρ x cy
  generalize ρ x = y at hx h; generalize ρ' x = y' at hx
  cases hx <;> simp only [reduceCtorEq] at h ⊢
  rename_i u _ _ hs
  cases hb : t.beq u <;> simp only [hb, cond_true, cond_false, reduceCtorEq] at h ⊢
  obtain ⟨rfl, rfl⟩ := bN h
  exact .here hm rfl hs
 case extract x i =>
  have hx := hρ x cy
  generalize ρ x = y at hx h; generalize ρ' x = y' at hx
  cases hx <;> simp only [reduceCtorEq] at h ⊢
  rename_i hs
  obtain ⟨h1, rfl⟩ := eZ h
  obtain ⟨v', e1, e2⟩ := hs.get h1
  rw [e1];exact .here hm rfl e2
 case len x =>
  have hx := hρ x cy
  generalize ρ x = y at hx h; generalize ρ' x = y' at hx
  cases hx <;> simp only [reduceCtorEq] at h ⊢ <;> obtain ⟨rfl, rfl⟩ := bN h <;> exact .here hm rfl (.int _ _)
 case eH x =>
  have hx := hρ x cy
  generalize ρ x = y at hx h; generalize ρ' x = y' at hx
  cases hx <;> simp only [reduceCtorEq] at h ⊢
  obtain ⟨rfl, rfl⟩ := bN h; exact .here hm rfl (.int _ _)
 case nB N => obtain ⟨rfl, rfl⟩ := bN h; exact .here hm rfl (.int _ _)
 case cap x =>
  have hx := hρ x cy
  generalize ρ x = y at hx h; generalize ρ' x = y' at hx
  cases hx <;> (try simp only [reduceCtorEq] at h ⊢)
  case aa => obtain ⟨rfl, rfl⟩ := bN h; exact .here hm rfl (.int _ _)
  case slice cap hb =>
   cases cap <;> simp only [reduceCtorEq] at h ⊢
   obtain ⟨rfl, rfl⟩ := bN h; exact .here hm rfl (.int _ _)
 case max args =>
  obtain ⟨h1, rfl⟩ := eZ h
  obtain ⟨f1, f2⟩ := Je h1
  rw [(pz.list hρ cy).flat f1, h1];exact .here hm rfl (SV.of_flat f2)
 case min args =>
  obtain ⟨h1, rfl⟩ := eZ h
  obtain ⟨f1, f2⟩ := Jb h1
  rw [(pz.list hρ cy).flat f1, h1];exact .here hm rfl (SV.of_flat f2)
 case append e esz by_ s x =>
  unfold oq at h;obtain ⟨q, hq, he⟩ := fG.1 h
  obtain ⟨q1, q2⟩ := q
  cases he
  exact DH hm k f (hρ s cy.1) (hρ x cy.2) hq
 case copy esz d s =>
  unfold oq at h;obtain ⟨q, hq, he⟩ := fG.1 h
  obtain ⟨q1, q2⟩ := q
  cases he
  exact KK hm k (hρ d cy.1) (hρ s cy.2) hq
end
end
section
def Ed : qH -> Bool
 | .val op => IX op
 | .call f args | .defer f args => rL f && args.all rL
 | .panic x => rL x
def qW (o : aF) : Bool := Ed o.op
def hO : au -> Bool
 | .region ops | .draw ops _ => ops.all qW
 | .seq a b => hO a && hO b
 | .cond c a b => rL c && hO a && hO b
 | .block _ a | .loop a => hO a
 | _ => true
inductive vd (θ : bF) : List (Nat × List EV) -> List (Nat × List EV) -> Prop
 | nil : vd θ [] []
 | cons {g : Nat} {x x' : List EV} {l l' : List (Nat × List EV)} (hx : cj θ x x') (h : vd θ l l') : vd θ ((g, x) :: l) ((g, x') :: l')
theorem vd.ext {θ θ' : bF} (e : bF.Ext θ θ') : ∀ {l l' : List (Nat × List EV)}, vd θ l l' -> vd θ' l l'
 | _, _, .nil => .nil
 | _, _, .cons hx h => .cons (hx.ext e) (vd.ext e h)
theorem vd.none {θ : bF} {l l' : List (Nat × List EV)} (h : vd θ l l') (e : l = []) : l' = [] := by cases h with | nil => rfl | cons _ _ => cases e
structure sI (θ : bF) (fr fr' : Fr) : Prop where
 tmp : ∀ t, SV θ (fr.get t) (fr'.get t)
 EL : vd θ fr.defers fr'.defers
theorem sI.ext {θ θ' : bF} (e : bF.Ext θ θ') {fr fr' : Fr} (h : sI θ fr fr') : sI θ' fr fr' := ⟨fun t => (h.tmp t).ext e, h.EL.ext e⟩
theorem sI.put {θ : bF} {fr fr' : Fr} (h : sI θ fr fr') {v v' : EV} (hv : SV θ v v') (d : Option Nat) : sI θ (fr.put d v) (fr'.put d v') := by
 cases d with
 | none => exact h
 | some d =>
  refine ⟨fun t => ?_, h.EL⟩
  show SV θ ((fr.set d v).get t) ((fr'.set d v').get t)
  rw [Fr.ba, Fr.ba]
  split
  ·exact hv
  ·exact h.tmp t
theorem sI.ops {θ : bF} {fr fr' : Fr} (h : sI θ fr fr') (g : jD θ) : pz θ (fun x => fr.eval (fS x)) fr'.eval := by
 intro x hx
 cases x with
 | tmp t => exact h.tmp t
 | const v => exact LL g hx
structure ko (θ : bF) (m m' : Mem) (θ' : bF) (m1 dO : Mem) : Prop where
 ext : bF.Ext θ θ'
 eU : ∀ b c, θ'.eU b = some c -> θ.eU b = some c \/ (m.next <= b /\ m'.next <= c)
 eF : ∀ c B, θ'.eF c = some B -> θ.eF c = some B \/ (m'.next <= c /\ m.next < m1.next)
 n1 : m.next <= m1.next
 n2 : m'.next <= dO.next
 iY : ∀ c, c < m'.next -> (∀ b, θ.eU b ≠ some c) -> dO.get c = m'.get c
theorem ko.refl (θ : bF) (m m' : Mem) : ko θ m m' θ m m' := ⟨.refl θ, fun _ _ h => .inl h, fun _ _ h => .inl h, ee _, ee _, fun _ _ _ => rfl⟩
theorem ko.trans {θ θ1 θ2 : bF} {m m' m1 dO m2 Mz : Mem} (h : ko θ m m' θ1 m1 dO) (k : ko θ1 m1 dO θ2 m2 Mz) : ko θ m m' θ2 m2 Mz := by
 have a1 := h.n1; have a2 := h.n2; have b1 := k.n1; have b2 := k.n2
 refine ⟨h.ext.trans k.ext, fun b c e => ?_, fun c B e => ?_, by omega, by omega, fun c hc hr => ?_⟩
 ·rcases k.eU b c e with e | ⟨e1, e2⟩
  ·exact h.eU b c e
  ·exact .inr ⟨by omega, by omega⟩
 ·rcases k.eF c B e with e | ⟨e1, e2⟩
  ·rcases h.eF c B e with e | ⟨e1, e2⟩
   ·exact .inl e
   ·exact .inr ⟨e1, by omega⟩
  ·exact .inr ⟨by omega, by omega⟩
 ·rw [k.iY c (by omega) fun b e => ?_, h.iY c hc hr]
  rcases h.eU b c e with e | ⟨e1, e2⟩
  ·exact hr b e
  ·omega
def Fin.mem : Fin -> Mem
 | .ret _ m | .dZ _ m => m
def Out.mem : Out -> Mem
 | .norm _ m | .exit _ _ m | .ret _ m | .dZ _ _ m => m
inductive QJ (θ : bF) : Fin -> Fin -> Prop
 | ret {v v' : EV} {m m' : Mem} (hv : SV θ v v') (hg : ed θ m m') : QJ θ (.ret v m) (.ret v' m')
 | dZ {v v' : EV} {m m' : Mem} (hv : SV θ v v') (hg : ed θ m m') : QJ θ (.dZ v m) (.dZ v' m')
inductive Bm (θ : bF) : Out -> Out -> Prop
 | norm {fr fr' : Fr} {m m' : Mem} (hf : sI θ fr fr') (hg : ed θ m m') : Bm θ (.norm fr m) (.norm fr' m')
 | exit {id : Nat} {fr fr' : Fr} {m m' : Mem} (hf : sI θ fr fr') (hg : ed θ m m') : Bm θ (.exit id fr m) (.exit id fr' m')
 | ret {fr fr' : Fr} {m m' : Mem} (hf : sI θ fr fr') (hg : ed θ m m') : Bm θ (.ret fr m) (.ret fr' m')
 | dZ {v v' : EV} {fr fr' : Fr} {m m' : Mem} (hv : SV θ v v') (hf : sI θ fr fr') (hg : ed θ m m') : Bm θ (.dZ v fr m) (.dZ v' fr' m')
def nX (θ : bF) (m m' : Mem) (fin : Fin) (o : Option Fin) : Prop := ∃ θ' CX, o = some CX /\ QJ θ' fin CX /\ ko θ m m' θ' fin.mem CX.mem
def mu (θ : bF) (m m' : Mem) (out : Out) (o : Option Out) : Prop := ∃ θ' su, o = some su /\ Bm θ' out su /\ ko θ m m' θ' out.mem su.mem
def qE (T : Nat -> Option fg) (call : Call) : Prop := ∀ f args m fin, call f args m = some fin -> ∀ θ m' aj, ed θ m m' -> cj θ args aj -> nX θ m m' fin (run T f aj m')
theorem mu.after {θ θ1 : bF} {m m' m1 dO : Mem} {out : Out} {o : Option Out} (h : ko θ m m' θ1 m1 dO) (k : mu θ1 m1 dO out o) : mu θ m m' out o := by
 obtain ⟨θ2, su, e, ho, hs⟩ := k
 exact ⟨θ2, su, e, ho, h.trans hs⟩
section
variable {T : Nat -> Option fg} {call : Call}
theorem yL.ni {θ : bF} {m m' m1 : Mem} {v : EV} {o : Option R1} (hg : ed θ m m') (h : yL θ m m' v m1 o) : ∃ θ' v' dO, o = some (.val v' dO) /\ SV θ' v v' /\ ed θ' m1 dO /\ ko θ m m' θ' m1 dO := by
 obtain ⟨v', dO, e, hc, hk⟩ := h
 rcases hc with ⟨h1, h2, h3, h4⟩ | ⟨h1, h2, h3, h4⟩
 ·exact ⟨θ, v', dO, e, h1, ⟨h2, by rw [h3, h4]; exact hg.ok, hg.vk⟩, ⟨.refl θ, fun _ _ h => .inl h, fun _ _ h => .inl h, by omega, by omega, fun c hc hr => hk c (by omega) hr⟩⟩
 ·have f := hg.ok.fresh (ee m.next) (ee m'.next)
  refine ⟨_, v', dO, e, h1, ⟨h2, by rw [h3, h4]; exact hg.ok.more f (by omega) (by omega) (by omega) (by omega), hg.vk.ext f.ext⟩, ⟨f.ext, fun b c hb => ?_, fun _ _ h => .inl h, by omega, by omega, fun c hc hr => hk c (by omega) hr⟩⟩
  have uu : (if b = m.next then some m'.next else θ.eU b) = some c := hb
  by_cases hx : b = m.next
  ·rw [if_pos hx] at uu; cases uu; exact .inr ⟨by omega, ee _⟩
  ·rw [if_neg hx] at uu; exact .inl uu
theorem s9 {θ : bF} {fr fr' : Fr} (h : sI θ fr fr') {g : Option (Nat × Bool)} {b : Bool} (hw : aG fr g = some b) : aG fr' g = some b := by
 cases g with
 | none => exact hw
 | some p =>
  obtain ⟨t, w⟩ := p
  simp only [aG] at hw ⊢
  have := h.tmp t
  generalize fr.get t = x at this hw; generalize fr'.get t = x' at this
  cases this <;> first | exact hw | simp at hw
theorem zD {d : Option Nat} {op : qH} {g : Option (Nat × Bool)} {l : List aF} {fr : Fr} {m : Mem} {b : Bool} (h : aG fr g = some b) : kq T (⟨d, op, g⟩ :: l) fr m = bif b then kq T (⟨d, op, none⟩ :: l) fr m else kq T l (fr.put d .undef) m := by
 cases g with
 | none => simp only [aG, aQ] at h; subst h; rfl
 | some p =>
  obtain ⟨t, w⟩ := p
  rw [nv];simp only [aG] at h
  cases hx : fr.get t <;> simp only [hx, reduceCtorEq, aQ] at h
  ·subst h; rfl
  ·subst h; rfl
theorem De {chk : List (Nat × Nat)} {B0 i : Nat} {sn : List (Nat × Mem)} {se : List Seen} {d : Option Nat} {op : qH} {g : Option (Nat × Bool)} {l : List aF} {fr : Fr} {m : Mem} {b : Bool} (h : aG fr g = some b) :
  ib T chk B0 (⟨d, op, g⟩ :: l) i fr m sn se = bif b then ib T chk B0 (⟨d, op, none⟩ :: l) i fr m sn se else ib T chk B0 l (i + 1) (fr.put d .undef) m sn se := by
 cases g with
 | none => simp only [aG, aQ] at h; subst h; rfl
 | some p =>
  obtain ⟨t, w⟩ := p
  rw [gA];simp only [aG] at h
  cases hx : fr.get t <;> simp only [hx, reduceCtorEq, aQ] at h
  ·subst h; rfl
  ·subst h; rfl
theorem Ci {d : Option Nat} {f : aD} {args : List aD} {l : List aF} {fr : Fr} {m : Mem} {g : Nat} {x y : List EV} (h : fr.eval f = .func g x y) : kq T (⟨d, .defer f args, none⟩ :: l) fr m = kq T l (Fr.put ⟨fr.tmps, (g, x ++ args.map fr.eval ++ y) :: fr.defers⟩ d .undef) m := by
 refine bV fun r => ?_
 rw [dP];simp only [et, aG, h];exact dP.symm
theorem SV.uy {θ : bF} {g : Nat} {x y : List EV} {v' : EV} (h : SV θ (.func g x y) v') : ∃ x' y', v' = .func g x' y' /\ cj θ x x' /\ cj θ y y' := by
 cases h with | func h1 h2 => exact ⟨_, _, rfl, h1, h2⟩
theorem AX {fv : EV} {cM : List EV} {m : Mem} {fin : Fin} (h : dy call fv cM m = some fin) : ∃ g x y, fv = .func g x y /\ call g (x ++ cM ++ y) m = some fin := by
 cases fv <;> first | exact ⟨_, _, _, rfl, h⟩ | (simp only [dy, reduceCtorEq] at h)
theorem SV.Vo {θ : bF} {a b : EV} (h : SV θ a b) : wK b = false := by cases h <;> rfl
theorem Ea (aY : qE T call) : ∀ (l : List aF) (fr : Fr) (m : Mem) (out : Out), et call (l.map aF.sub) fr m = some out -> l.all qW = true -> ∀ (θ : bF) (fr' : Fr) (m' : Mem), sI θ fr fr' -> ed θ m m' -> mu θ m m' out (kq T l fr' m')
 | [], fr, m, out, h, _, θ, fr', m', hf, hg => by
  simp only [List.map_nil, et, aQ] at h; subst h
  exact ⟨θ, _, zE, .norm hf hg, .refl _ _ _⟩
 | o :: l, fr, m, out, h, cy, θ, fr', m', hf, hg => by
  have ih := Ea aY l
  simp only [List.all_cons, kD] at cy;obtain ⟨d, op, g⟩ := o
  simp only [List.map_cons, aF.sub, et] at h
  cases hw : aG fr g with
  | none => simp [hw] at h
  | some b =>
  rw [zD (s9 hf hw)]
  cases b with
  | false =>
   simp only [hw] at h;exact ih _ _ _ h cy.2 θ _ _ (hf.put .undef d) hg
  | true =>
   simp only [hw] at h;simp only [cond_true]
   cases op with
   | val op =>
    simp only [qH.sub, xa] at h
    cases he : ap (fun x => fr.eval (fS x)) op m with
    | none => simp [he] at h
    | some q =>
     obtain ⟨v, m1⟩ := q
     simp only [he] at h;obtain ⟨θ', v', dO, e1, e2, e3, e4⟩ := yL.ni hg (xE (hf.ops hg.vk) hg.toMemS hg.ok (hg.ok.fresh (ee _) (ee _)) cy.1 he)
     rw [tM, e1];exact mu.after e4 (ih _ _ _ h cy.2 θ' _ _ ((hf.ext e4.ext).put e2 d) e3)
   | call f args =>
    have oz := cy.1
    simp only [qW, Ed, kD] at oz;simp only [qH.sub, List.map_map, Function.comp_def] at h;have Af : SV θ (fr.eval (fS f)) (fr'.eval f) := (hf.ops hg.vk) f oz.1
    have x9 : cj θ (args.map fun x => fr.eval (fS x)) (args.map fr'.eval) := pz.list (hf.ops hg.vk) oz.2
    cases l9 : dy call (fr.eval (fS f)) (args.map fun x => fr.eval (fS x)) m with
    | none => rw [l9] at h; cases h
    | some fin =>
     obtain ⟨gg, x, y, MW, hc⟩ := AX l9
     rw [MW] at Af;obtain ⟨x', y', JZ, hx, hy⟩ := Af.uy
     rw [o2, JZ, qR];obtain ⟨θ', CX, e1, e2, e3⟩ := aY _ _ _ _ hc θ m' _ hg ((hx.append x9).append hy)
     rw [e1]
     cases e2 with
     | ret hv oC =>
      rw [l9] at h; simp only at h
      exact mu.after e3 (ih _ _ _ h cy.2 θ' _ _ ((hf.ext e3.ext).put hv d) oC)
     | dZ hv oC =>
      rw [l9] at h; simp only [aQ] at h
      subst h;exact ⟨θ', _, rfl, .dZ hv (hf.ext e3.ext) oC, e3⟩
   | panic x =>
    have hx : SV θ (fr.eval (fS x)) (fr'.eval x) := (hf.ops hg.vk) x cy.1
    simp only [qH.sub] at h
    cases GD : fr.eval (fS x) <;> simp only [GD, reduceCtorEq, aQ] at h
    rename_i t v
    rw [GD] at hx;generalize VA : fr'.eval x = w at hx
    cases hx with
    | iface hv =>
     rw [Cg VA];subst h;exact ⟨θ, _, rfl, .dZ (.iface hv) hf hg, .refl _ _ _⟩
   | defer f args =>
    have oz := cy.1
    simp only [qW, Ed, kD] at oz;simp only [qH.sub, List.map_map, Function.comp_def] at h;have Af : SV θ (fr.eval (fS f)) (fr'.eval f) := (hf.ops hg.vk) f oz.1
    have x9 : cj θ (args.map fun x => fr.eval (fS x)) (args.map fr'.eval) := pz.list (hf.ops hg.vk) oz.2
    cases MW : fr.eval (fS f) <;> simp only [MW, reduceCtorEq] at h
    rename_i gg x y
    rw [MW] at Af;obtain ⟨x', y', JZ, hx, hy⟩ := Af.uy
    rw [Ci JZ];exact ih _ _ _ h cy.2 θ _ _ (sI.put (fr := ⟨fr.tmps, _ :: fr.defers⟩) (fr' := ⟨fr'.tmps, _ :: fr'.defers⟩) ⟨hf.tmp, .cons ((hx.append x9).append hy) hf.EL⟩ .undef d) hg
structure Tq (θ : bF) (m : Mem) (s s' : Nat × Mem) : Prop where
 i : s'.1 = s.1
 bT : MemB θ s.2 s'.2
 le : s.2.next <= m.next
 eF : s.2.next = m.next -> ∀ c B, θ.eF c = some B -> s'.2.get c = B
inductive ie (θ : bF) (m : Mem) : List (Nat × Mem) -> List (Nat × Mem) -> Prop
 | nil : ie θ m [] []
 | cons {s s' : Nat × Mem} {l l' : List (Nat × Mem)} (h : Tq θ m s s') (hs : ie θ m l l') : ie θ m (s :: l) (s' :: l')
def u3 (θ : bF) (se : List Seen) (s' : Seen) : Prop :=
 (∃ s, s ∈ se /\ s'.i = s.i /\ s'.agg = s.agg /\ wK s.a = false /\ SV θ s.a s'.a /\ SV θ s.v s'.v) \/ (Told s'.v = true /\ ∀ q : Mem, (∀ c B, θ.eF c = some B -> q.get c = B) -> q.load s'.agg s'.a = some s'.v)
theorem u3.ext {θ θ' : bF} {se : List Seen} {s' : Seen} (h : u3 θ se s') (e : bF.Ext θ θ') : u3 θ' se s' := by
 rcases h with ⟨s, h1, h2, h3, h4, h5, h6⟩ | ⟨h1, h2⟩
 ·exact .inl ⟨s, h1, h2, h3, h4, h5.ext e, h6.ext e⟩
 ·exact .inr ⟨h1, fun q hq => h2 q fun c B hc => hq c B (e.eF c B hc)⟩
theorem ie.step {θ θ' : bF} {m m1 m' dO : Mem} (cx : ko θ m m' θ' m1 dO) (hd : ∀ b c, θ.eU b = none -> θ'.eU b = some c -> ∀ s : Nat × Mem, s.2.next <= m.next -> True) : ∀ {l l' : List (Nat × Mem)}, ie θ m l l' -> ie θ' m1 l l'
 | _, _, .nil => .nil
 | _, _, .cons h hs => .cons ⟨h.i, h.bT.ext cx.ext fun b c hb _ => h.bT.cl b hb, vn h.le cx.n1, fun e c B hc => by
   have h1 := h.le; have h2 := cx.n1
   rcases cx.eF c B hc with q | ⟨_, q⟩
   ·exact h.eF (by omega) c B q
   ·omega⟩ (ie.step cx hd hs)
theorem ie.same {θ θ1 : bF} {m m1 : Mem} (he : bF.Ext θ θ1) (hs : θ1.eF = θ.eF) (hn : m1.next = m.next) : ∀ {l l' : List (Nat × Mem)}, ie θ m l l' -> ie θ1 m1 l l'
 | _, _, .nil => .nil
 | _, _, .cons h ZG => .cons ⟨h.i, h.bT.ext he fun b c hb _ => h.bT.cl b hb, by rw [hn]; exact h.le, fun e c B hc => by rw [hs] at hc; exact h.eF (e.trans hn) c B hc⟩ (ie.same he hs hn ZG)
theorem rD {m : Mem} {g : Option Nat} {a v : EV} (h : m.load g a = some v) (ht : Told v = true) : m.cJ g a v = true := by
 unfold Mem.cJ; rw [h]; exact kH v ht
theorem tr {θ : bF} {m : Mem} {chk : List (Nat × Nat)} {i : Nat} {g : Option Nat} {a a' v v' : EV} (ha : SV θ a a') (hv : SV θ v v') (hf : wK a = false) : ∀ {l l' : List (Nat × Mem)}, ie θ m l l' -> aT chk i g a v l = true -> aT chk i g a' v' l' = true
 | _, _, .nil, _ => rfl
 | _, _, .cons (s := (j, mj)) (s' := (j', Vp)) h hs, hc => by
  obtain rfl : j' = j := h.i
  simp only [aT] at hc ⊢
  cases hp : aZ i j' chk <;> simp only [hp, cond_true, cond_false] at hc ⊢
  ·exact tr ha hv hf hs hc
  ·cases cx : mj.cJ g a v <;> simp only [cx, cond_true, cond_false, lm] at hc
   have PR : Vp.cJ g a' v' = true := by
    unfold Mem.cJ at cx ⊢
    cases hl : mj.load g a with
    | none => simp [hl] at cx
    | some x =>
     obtain ⟨x', qe, hx⟩ := xS h.bT ha hf hl
     simp only [hl] at cx;rw [qe]; exact hx.same hv cx
   simp only [PR, cond_true];exact tr ha hv hf hs hc
theorem xF {θ : bF} {m : Mem} {chk : List (Nat × Nat)} {i : Nat} {g : Option Nat} {a' v' : EV} (ht : Told v' = true) (hl : ∀ q : Mem, (∀ c B, θ.eF c = some B -> q.get c = B) -> q.load g a' = some v') : ∀ {l l' : List (Nat × Mem)}, ie θ m l l' -> cb chk i m.next l = true -> aT chk i g a' v' l' = true
 | _, _, .nil, _ => rfl
 | _, _, .cons (s := (j, mj)) (s' := (j', Vp)) h hs, hc => by
  obtain rfl : j' = j := h.i
  simp only [aT, cb] at hc ⊢
  cases hp : aZ i j' chk <;> simp only [hp, cond_true, cond_false] at hc ⊢
  ·exact xF ht hl hs hc
  ·cases hn : mj.next.beq m.next <;> simp only [hn, cond_true, cond_false, lm] at hc
   have := rD (hl Vp (h.eF (aB hn))) ht
   simp only [this, cond_true];exact xF ht hl hs hc
theorem tD {θ : bF} {m1 dO : Mem} {chk : List (Nat × Nat)} {j : Nat} (hm : MemS θ m1 dO) {se : List Seen} (hc : aE chk j m1 se = true) : ∀ {se' : List Seen}, (∀ s', s' ∈ se' -> u3 θ se s') -> aE chk j dO se' = true
 | [], _ => rfl
 | s' :: se', h => by
  have ih := tD hm hc (se' := se') fun x hx => h x (by simp [hx])
  simp only [aE, ih]
  cases hp : aZ s'.i j chk <;> simp only [cond_true, cond_false]
  have : dO.cJ s'.agg s'.a s'.v = true := by
   rcases h s' (by simp) with ⟨s, h1, h2, h3, h4, h5, h6⟩ | ⟨h1, h2⟩
   ·rw [h2] at hp
    have cx := kB hc s h1 hp
    unfold Mem.cJ at cx ⊢
    cases hl : m1.load s.agg s.a with
    | none => simp [hl] at cx
    | some x =>
     obtain ⟨x', qe, hx⟩ := xS hm.toMemB h5 h4 hl
     simp only [hl] at cx;rw [h3, qe]; exact hx.same h6 cx
   ·exact rD (h2 dO hm.eF) h1
  simp only [this, cond_true]
theorem MemS.I6 {θ : bF} {m m' : Mem} (h : MemS θ m m') (n n' : Nat) : MemS θ ⟨n, m.kl⟩ ⟨n', m'.kl⟩ := ⟨⟨h.bT, h.cl⟩, h.eF⟩
def Kept (θ : bF) (B0 B0' i n : Nat) : Prop := ∀ j, i <= j -> j < n -> qB θ (B0 + j) (B0' + j)
theorem Kept.step {θ θ' : bF} {m m' m1 dO : Mem} (cx : ko θ m m' θ' m1 dO) {B0 B0' i n : Nat} (h : Kept θ B0 B0' i n) (h1 : B0 + n <= m.next) (h2 : B0' + n <= m'.next) : Kept θ' B0 B0' i n := by
 intro j hj hn
 have f := h j hj hn
 refine ⟨?_, fun a ha => ?_, ?_⟩
 ·cases e : θ'.eU (B0 + j) with
  | none => rfl
  | some c =>
   rcases cx.eU _ _ e with q | ⟨q, _⟩
   ·rw [f.l] at q; cases q
   ·omega
 ·rcases cx.eU _ _ ha with q | ⟨_, q⟩
  ·exact f.r a q
  ·omega
 ·cases e : θ'.eF (B0' + j) with
  | none => rfl
  | some c =>
   rcases cx.eF _ _ e with q | ⟨q, _⟩
   ·rw [f.s] at q; cases q
   ·omega
theorem AP (aY : qE T call) {chk : List (Nat × Nat)} {B0 B0' n : Nat} {θ0 : bF} {m0 m0' : Mem} (e0 : m0.next = B0) (e0' : m0'.next = B0') : ∀ (l : List aF) (i : Nat) (fr : Fr) (m : Mem) (sn : List (Nat × Mem)) (se : List Seen) (out : Out), i + l.length = n ->
  b6 call chk B0 (l.map aF.sub) i fr m sn se = some out -> l.all qW = true -> ∀ (θ : bF) (fr' : Fr) (m' : Mem) (tt : List (Nat × Mem)) (se' : List Seen), sI θ fr fr' -> ed θ m m' -> B0 + n <= m.next -> B0' + n <= m'.next -> Kept θ B0 B0' i n -> ie θ m sn tt -> (∀ s', s' ∈ se' -> u3 θ se s') ->
  ko θ0 m0 m0' θ m m' -> mu θ0 m0 m0' out (ib T chk B0' l i fr' m' tt se')
 | [], i, fr, m, sn, se, out, hn, h, _, θ, fr', m', tt, se', hf, hg, _, _, _, _, _, cx => by
  simp only [List.map_nil, b6, aQ] at h; subst h
  exact ⟨θ, _, EJ, .norm hf hg, cx⟩
 | o :: l, i, fr, m, sn, se, out, hn, h, cy, θ, fr', m', tt, se', hf, hg, hb, uu, hk, sA, MK, cx => by
  have ih := AP aY e0 e0' (chk := chk) (B0 := B0) (B0' := B0') (n := n) (θ0 := θ0) (m0 := m0) (m0' := m0') l (i + 1)
  have PX : i + 1 + l.length = n := by rw [List.length_cons] at hn; omega
  have sE : i < n := by rw [List.length_cons] at hn; omega
  have ul : Kept θ B0 B0' (i + 1) n := fun j hj => hk j (by omega)
  simp only [List.all_cons, kD] at cy;obtain ⟨d, op, g⟩ := o
  simp only [List.map_cons, aF.sub, b6] at h
  cases hw : aG fr g with
  | none => simp [hw] at h
  | some b =>
  rw [De (s9 hf hw)]
  cases b with
  | false =>
   simp only [hw] at h;exact ih _ _ _ _ _ PX h cy.2 θ _ _ _ _ (hf.put .undef d) hg hb uu ul sA MK cx
  | true =>
   simp only [hw] at h;simp only [cond_true]
   cases op with
   | panic x => simp [qH.sub] at h
   | defer f args => simp [qH.sub] at h
   | call f args =>
    have oz := cy.1
    simp only [qW, Ed, kD] at oz;simp only [qH.sub, List.map_map, Function.comp_def] at h;have Af : SV θ (fr.eval (fS f)) (fr'.eval f) := (hf.ops hg.vk) f oz.1
    have x9 : cj θ (args.map fun x => fr.eval (fS x)) (args.map fr'.eval) := pz.list (hf.ops hg.vk) oz.2
    cases l9 : dy call (fr.eval (fS f)) (args.map fun x => fr.eval (fS x)) m with
    | none => rw [l9] at h; cases h
    | some fin =>
     obtain ⟨gg, x, y, MW, hc⟩ := AX l9
     rw [MW] at Af;obtain ⟨x', y', JZ, hx, hy⟩ := Af.uy
     rw [qt, JZ, qR];obtain ⟨θ', CX, e1, e2, e3⟩ := aY _ _ _ _ hc θ m' _ hg ((hx.append x9).append hy)
     rw [e1]
     cases e2 with
     | dZ hv oC => rw [l9] at h; cases h
     | @ret v v' m1 dO hv oC =>
      rw [l9] at h; simp only at h
      cases fx : aE chk i m1 se <;> simp only [fx, cond_true, cond_false, reduceCtorEq] at h
      have JK : ∀ s', s' ∈ se' -> u3 θ' se s' := fun s' x6 => (MK s' x6).ext e3.ext
      have a1 := e3.n1; have a2 := e3.n2
      simp only [Fin.mem] at a1 a2;simp only [lX, tD oC.toMemS fx JK, jT];refine ih _ _ _ _ _ PX h cy.2 θ' _ _ _ _ ((hf.ext e3.ext).put hv d) oC (by omega) (by omega) (ul.step e3 hb uu) (.cons ?_ (sA.step e3 fun _ _ _ _ _ _ => trivial)) JK (cx.trans e3)
      refine ⟨rfl, hg.toMemB.ext e3.ext fun b c hb _ => hg.cl b hb, a1, fun e c B hc => ?_⟩
      rcases e3.eF c B hc with q | ⟨_, q⟩
      ·exact hg.eF c B q
      ·simp only [Fin.mem] at q e; omega
   | val op =>
    simp only [qH.sub, Il, xa] at h;have oz : IX op = true := cy.1
    have h3 := Im op
    by_cases VJ : bM op = 0
    ·simp only [VJ] at h
     rw [Dg VJ]
     cases he : ap (fun x => fr.eval (fS x)) op m with
     | none => simp [he] at h
     | some q =>
      obtain ⟨v, m1⟩ := q
      simp only [he] at h;obtain ⟨rfl, _⟩ := zy VJ he
      obtain ⟨v', dO, l9, fx, _⟩ := xE (hf.ops hg.vk) hg.toMemS hg.ok (hg.ok.fresh (ee _) (ee _)) oz he
      rw [l9];rcases fx with ⟨qb, _, _, _⟩ | ⟨_, _, q, _⟩
      ·exact ih _ _ _ _ _ PX h cy.2 θ _ _ _ _ (hf.put qb d) hg hb uu ul sA MK cx
      ·omega
    ·by_cases iM : bM op = 1
     ·simp only [iM] at h
      rw [Df iM]
      cases he : ap (fun x => fr.eval (fS x)) op ⟨B0 + i, m.kl⟩ with
      | none => simp [he] at h
      | some q =>
       obtain ⟨v, m1⟩ := q
       simp only [he] at h;have f := hk i (ee _) sE
       obtain ⟨v', dO, e1, fx, Ex⟩ := xE (hf.ops hg.vk) (hg.toMemS.I6 (B0 + i) (B0' + i)) hg.ok f oz he
       obtain ⟨B, mk, _, hB, _⟩ := tY iM he
       rw [e1];rcases fx with ⟨c1, c2, c3, c4⟩ | ⟨c1, c2, c3, c4⟩
       ·rw [hB] at c3
        have c3' : B0 + i + 1 = B0 + i := c3
        omega
       ·have VN : lI (θ.more (B0 + i) (B0' + i)) m.next m'.next := hg.ok.more f (by omega) (by omega) (ee _) (ee _)
        have PU : ∀ b c, (θ.more (B0 + i) (B0' + i)).eU b = some c -> θ.eU b = some c \/ (b = B0 + i /\ c = B0' + i) := by
         intro b c MY
         have MX : (if b = B0 + i then some (B0' + i) else θ.eU b) = some c := MY
         by_cases hx : b = B0 + i
         ·rw [if_pos hx] at MX; cases MX; exact .inr ⟨hx, rfl⟩
         ·rw [if_neg hx] at MX; exact .inl MX
        refine ih _ _ _ _ _ PX h cy.2 (θ.more (B0 + i) (B0' + i)) _ _ _ _ ((hf.ext f.ext).put c1 d) ⟨c2.I6 _ _, VN, hg.vk.ext f.ext⟩ hb uu ?_ (ie.same (m := m) (m1 := ⟨m.next, m1.kl⟩) f.ext rfl rfl sA) (fun s' x6 => (MK s' x6).ext f.ext) ⟨cx.ext.trans f.ext, ?_, cx.eF, cx.n1, cx.n2, ?_⟩
        ·intro j hj Z6
         have fj := hk j (by omega) Z6
         refine ⟨?_, fun a ha => ?_, fj.s⟩
         ·cases e : (θ.more (B0 + i) (B0' + i)).eU (B0 + j) with
          | none => rfl
          | some c =>
           rcases PU _ _ e with q | ⟨q, _⟩
           ·rw [fj.l] at q; cases q
           ·omega
         ·rcases PU _ _ ha with q | ⟨_, q⟩
          ·exact fj.r a q
          ·omega
        ·intro b c MY
         rcases PU b c MY with q | ⟨rfl, rfl⟩
         ·exact cx.eU b c q
         ·exact .inr ⟨by omega, by omega⟩
        ·intro c hc hr
         have h1 : dO.get c = m'.get c := by
          refine Ex c (show c ≠ B0' + i by omega) fun b MY => ?_
          rcases cx.eU b c MY with q | ⟨_, q⟩
          ·exact hr b q
          ·omega
         exact h1.trans (cx.iY c hc hr)
     ·by_cases Lo : bM op = 2
      ·cases op <;> simp only [bM, reduceCtorEq, Nat.reduceEqDiff] at Lo
       case conv c x => cases c <;> simp at Lo
       rename_i agg a
       simp only [bM, iR.ou] at h;have ha : SV θ (fr.eval (fS a)) (fr'.eval a) := (hf.ops hg.vk) a (by simpa only [IX, eY, Cj, List.all_cons, List.all_nil, Bool.and_true] using oz)
       rw [qq];have R7 := ha.Vo
       simp only [Ll, R7, cond_false]
       cases hl : m.load agg (fr.eval (fS a)) with
       | none => simp [hl] at h
       | some v =>
        simp only [hl] at h
        cases hF : wK (fr.eval (fS a)) <;> simp only [hF, cond_true, cond_false] at h
        ·cases fx : aT chk i agg (fr.eval (fS a)) v sn <;> simp only [fx, cond_true, cond_false, reduceCtorEq] at h
         obtain ⟨v', qe, hv⟩ := xS hg.toMemB ha hF hl
         simp only [qe, mV, tr ha hv hF sA fx, jT];refine ih _ _ _ _ _ PX h cy.2 θ _ _ _ _ (hf.put hv d) hg hb uu ul sA (fun s' x6 => ?_) cx
         rcases lj.1 x6 with rfl | x6
         ·exact .inl ⟨⟨i, agg, fr.eval (fS a), v⟩, by simp, rfl, rfl, hF, ha, hv⟩
         ·rcases MK s' x6 with ⟨s, q1, q2⟩ | q
          ·exact .inl ⟨s, by simp [q1], q2⟩
          ·exact .inr q
        ·cases fx : cb chk i m.next sn <;> simp only [fx, cond_true, cond_false, reduceCtorEq] at h
         generalize MW : fr.eval (fS a) = y at ha hF hl
         cases y <;> simp only [wK, lm] at hF
         obtain ⟨v', hv, hall⟩ := Jj ha hl
         simp only [hall m' hg.eF, mV, xF hv.told hall sA fx, jT];refine ih _ _ _ _ _ PX h cy.2 θ _ _ _ _ (hf.put hv d) hg hb uu ul sA (fun s' x6 => ?_) cx
         rcases lj.1 x6 with rfl | x6
         ·exact .inr ⟨hv.told, hall⟩
         ·exact MK s' x6
      ·have Yk : bM op = 3 := by omega
       simp only [Yk] at h;rw [yu Yk]
       cases he : ap (fun x => fr.eval (fS x)) op m with
       | none => simp [he] at h
       | some q =>
        obtain ⟨v, m1⟩ := q
        simp only [he] at h
        cases fx : aE chk i m1 se <;> simp only [fx, cond_true, cond_false, reduceCtorEq] at h
        obtain ⟨θ', v', dO, e1, e2, e3, e4⟩ := yL.ni hg (xE (hf.ops hg.vk) hg.toMemS hg.ok (hg.ok.fresh (ee _) (ee _)) oz he)
        rw [e1];have JK : ∀ s', s' ∈ se' -> u3 θ' se s' := fun s' x6 => (MK s' x6).ext e4.ext
        have a1 := e4.n1; have a2 := e4.n2
        simp only [dY, tD e3.toMemS fx JK, jT];refine ih _ _ _ _ _ PX h cy.2 θ' _ _ _ _ ((hf.ext e4.ext).put e2 d) e3 (by omega) (by omega) (ul.step e4 hb uu) (.cons ?_ (sA.step e4 fun _ _ _ _ _ _ => trivial)) JK (cx.trans e4)
        refine ⟨rfl, hg.toMemB.ext e4.ext fun b c hb _ => hg.cl b hb, a1, fun e c B hc => ?_⟩
        rcases e4.eF c B hc with q | ⟨_, q⟩
        ·exact hg.eF c B q
        ·simp only at e; omega
theorem Bm.ik {θ : bF} {m m' : Mem} {out Mi : Out} {X : Option Out} {K : Fr -> Mem -> Option Out} {k : Fr -> Mem -> Option Out} (hX : mu θ m m' out X)
  (h : (match out with | .norm fr m1 => k fr m1 | o => some o) = some Mi)
  (hk : ∀ θ1 fr m1 fr' dO, sI θ1 fr fr' -> ed θ1 m1 dO -> k fr m1 = some Mi -> mu θ1 m1 dO Mi (K fr' dO)) : mu θ m m' Mi (Ev.ik X K) := by
 obtain ⟨θ1, su, rfl, hs, cx⟩ := hX
 cases hs with
 | norm hf hg => exact mu.after cx (hk _ _ _ _ _ hf hg h)
 | exit hf hg => simp only [aQ] at h; subst h; exact ⟨θ1, _, rfl, .exit hf hg, cx⟩
 | ret hf hg => simp only [aQ] at h; subst h; exact ⟨θ1, _, rfl, .ret hf hg, cx⟩
 | dZ hv hf hg => simp only [aQ] at h; subst h; exact ⟨θ1, _, rfl, .dZ hv hf hg, cx⟩
theorem Hl {θ : bF} {m m' : Mem} (hg : ed θ m m') (k : Nat) : ed θ ⟨m.next + k, m.kl⟩ ⟨m'.next + k, m'.kl⟩ :=
 ⟨hg.toMemS.I6 _ _, ⟨fun b c h => by have := hg.ok.eU b c h; exact ⟨ve this.1 (Nat.le_add_right _ _), ve this.2 (Nat.le_add_right _ _)⟩, hg.ok.inj, hg.ok.off, fun b B h => ve (hg.ok.eF b B h) (Nat.le_add_right _ _)⟩, hg.vk⟩
theorem gU (aY : qE T call) (n : Nat) : ∀ (c : au) (fr : Fr) (m : Mem) (out : Out), ah call n c.sub fr m = some out -> hO c = true -> ∀ (θ : bF) (fr' : Fr) (m' : Mem), sI θ fr fr' -> ed θ m m' -> mu θ m m' out (exec T c fr' m')
 | .skip, fr, m, out, h, _, θ, fr', m', hf, hg => by
  simp only [au.sub, ah, aQ] at h; subst h
  exact ⟨θ, _, wZ, .norm hf hg, .refl _ _ _⟩
 | .ret, fr, m, out, h, _, θ, fr', m', hf, hg => by
  simp only [au.sub, ah, aQ] at h; subst h
  exact ⟨θ, _, Aw, .ret hf hg, .refl _ _ _⟩
 | .exit id, fr, m, out, h, _, θ, fr', m', hf, hg => by
  simp only [au.sub, ah, aQ] at h; subst h
  exact ⟨θ, _, w7, .exit hf hg, .refl _ _ _⟩
 | .region ops, fr, m, out, h, cy, θ, fr', m', hf, hg => by
  simp only [au.sub, ah] at h;rw [sa];exact Ea aY ops fr m out h (by simpa only [hO] using cy) θ fr' m' hf hg
 | .draw ops chk, fr, m, out, h, cy, θ, fr', m', hf, hg => by
  simp only [au.sub, ah] at h;rw [GY];rw [List.length_map] at h;have hg2 := Hl hg ops.length
  refine AP aY (n := ops.length) (θ0 := θ) (m0 := m) (m0' := m') rfl rfl ops 0 fr _ [] [] out (Nat.zero_add _) h (by simpa only [hO] using cy) θ fr' _ [] [] hf hg2 (ee _) (ee _) (fun j _ hj => hg.ok.fresh (Nat.le_add_right _ _) (Nat.le_add_right _ _)) .nil (fun s' x6 => by simp at x6)
   ⟨.refl θ, fun _ _ h => .inl h, fun _ _ h => .inl h, Nat.le_add_right _ _, Nat.le_add_right _ _, fun _ _ _ => rfl⟩
 | .seq a b, fr, m, out, h, cy, θ, fr', m', hf, hg => by
  simp only [hO, kD] at cy;simp only [au.sub, ah] at h;rw [nO]
  cases ha : ah call n a.sub fr m with
  | none => simp [ha] at h
  | some o =>
   refine Bm.ik (k := ah call n b.sub) (gU aY n a fr m o ha cy.1 θ fr' m' hf hg) (by rw [ha] at h; cases o <;> exact h) fun θ1 dB m1 SY dO my hg1 h1 => gU aY n b _ _ _ h1 cy.2 θ1 _ _ my hg1
 | .cond c a b, fr, m, out, h, cy, θ, fr', m', hf, hg => by
  simp only [hO, kD] at cy;simp only [au.sub, ah] at h;have hc : SV θ (fr.eval (fS c)) (fr'.eval c) := (hf.ops hg.vk) c cy.1.1
  cases TM : fr.eval (fS c) <;> simp only [TM, reduceCtorEq] at h
  rename_i t
  simp only [TM] at hc;rw [w9 (N3 hc)]
  cases t
  ·exact gU aY n b _ _ _ h cy.2 θ _ _ hf hg
  ·exact gU aY n a _ _ _ h cy.1.2 θ _ _ hf hg
 | .block id a, fr, m, out, h, cy, θ, fr', m', hf, hg => by
  simp only [au.sub, ah] at h;rw [uE]
  cases ha : ah call n a.sub fr m with
  | none => simp [ha] at h
  | some o =>
   obtain ⟨θ1, su, e, hs, cx⟩ := gU aY n a fr m o ha (by simpa only [hO] using cy) θ fr' m' hf hg
   rw [e];rw [ha] at h
   cases hs with
   | norm hf hg => simp only [aQ] at h; subst h; exact ⟨θ1, _, rfl, .norm hf hg, cx⟩
   | ret hf hg => simp only [aQ] at h; subst h; exact ⟨θ1, _, rfl, .ret hf hg, cx⟩
   | dZ hv hf hg => simp only [aQ] at h; subst h; exact ⟨θ1, _, rfl, .dZ hv hf hg, cx⟩
   | @exit j dB SY m1 dO hf hg =>
    simp only [lb];simp only at h
    cases hb : j.beq id <;> simp only [hb, cond_true, cond_false, aQ] at h ⊢ <;> subst h
    ·exact ⟨θ1, _, rfl, .exit hf hg, cx⟩
    ·exact ⟨θ1, _, rfl, .norm hf hg, cx⟩
 | .loop a, fr, m, out, h, cy, θ, fr', m', hf, hg => by
  simp only [au.sub, ah] at h;have VO : hO a = true := by simpa only [hO] using cy
  have ha := gU aY n a
  have go : ∀ (k : Nat) (fr : Fr) (m : Mem) (out : Out), iter (ah call n a.sub) k fr m = some out -> ∀ (θ : bF) (fr' : Fr) (m' : Mem), sI θ fr fr' -> ed θ m m' -> mu θ m m' out (exec T (.loop a) fr' m') := by
   intro k
   induction k with
   | zero => intro fr m out h; simp [iter] at h
   | succ k ih =>
    intro fr m out h θ fr' m' hf hg
    simp only [iter] at h;rw [w6]
    cases hb : ah call n a.sub fr m with
    | none => simp [hb] at h
    | some o =>
     refine Bm.ik (k := iter (ah call n a.sub) k) (ha fr m o hb VO θ fr' m' hf hg) (by rw [hb] at h; cases o <;> exact h) fun θ1 dB m1 SY dO my hg1 h1 => ih _ _ _ h1 θ1 _ _ my hg1
  exact go n fr m out h θ fr' m' hf hg
theorem nV {θ : bF} : ∀ {x x' : List EV} (i : Nat) {t t' : Tr EV}, cj θ x x' -> (∀ k, SV θ (((⟨t, []⟩ : Fr)).get k) (((⟨t', []⟩ : Fr)).get k)) -> ∀ k, SV θ (((⟨bO x i t, []⟩ : Fr)).get k) (((⟨bO x' i t', []⟩ : Fr)).get k)
 | _, _, i, t, t', .nil, h => h
 | _, _, i, t, t', .cons (v := v) (v' := v') hv hs, h => by
  refine nV (i + 1) hs fun k => ?_
  show SV θ ((Fr.set ⟨t, []⟩ i v).get k) ((Fr.set ⟨t', []⟩ i v').get k)
  rw [Fr.ba, Fr.ba]
  split
  ·exact hv
  ·exact h k
theorem fh {θ : bF} {m m' : Mem} (hm : MemS θ m m') {fr fr' : Fr} (hf : sI θ fr fr') : ∀ (rs : List jd) (vs : List EV), aX fr m rs = some vs -> ∃ nq, aX fr' m' rs = some nq /\ cj θ vs nq
 | [], vs, h => by simp only [aX, aQ] at h; subst h; exact ⟨[], rfl, .nil⟩
 | r :: rs, vs, h => by
  simp only [aX] at h ⊢
  cases hr : qp fr m r with
  | none => simp [hr] at h
  | some v =>
   have hv : ∃ v', qp fr' m' r = some v' /\ SV θ v v' := by
    cases r with
    | tmp t => simp only [qp, aQ] at hr ⊢; subst hr; exact ⟨_, rfl, hf.tmp t⟩
    | cell t agg => simp only [qp] at hr ⊢; exact zW hm (hf.tmp t) hr
   obtain ⟨v', JL, qb⟩ := hv
   simp only [hr, JL] at h ⊢
   obtain ⟨ws, hw, rfl⟩ := fG.1 h
   obtain ⟨YW, RO, hs⟩ := fh hm hf rs ws hw
   exact ⟨v' :: YW, by rw [RO]; rfl, .cons qb hs⟩
theorem pT {θ : bF} {x x' : List EV} (h : cj θ x x') : SV θ (one x) (one x') := by
 cases h with
 | nil => exact .tuple .nil
 | cons hv hs =>
  cases hs with
  | nil => exact hv
  | cons hv2 Lo => exact .tuple (.cons hv (.cons hv2 Lo))
def wz (F : ar) : Bool := hO F.body && l5 F.body
def jx (F : ar) : Bool := hO F.body
theorem F5 {F : ar} (h : wz F = true) : F.sub = F := by
 simp only [wz, kD] at h;unfold ar.sub; rw [jy h.2]
theorem Mo {F : ar} (h : wz F = true) : jx F = true := by simp only [wz, kD] at h; exact h.1
theorem A7 (aY : qE T call) (n : Nat) {f : Nat} {F : ar} (hT : T f = some (.go F)) (cy : jx F = true) {args : List EV} {m : Mem} {fin : Fin} (h : cf call n F.sub args m = some fin) {θ : bF} {m' : Mem} {aj : List EV} (hg : ed θ m m') (ha : cj θ args aj) : nX θ m m' fin (run T f aj m') := by
 unfold cf at h;simp only [ar.sub] at h
 cases hb : args.length.ble F.ntmps <;> simp only [hb, cond_true, cond_false, reduceCtorEq] at h
 have hlen : aj.length <= F.ntmps := by rw [<- ha.length]; exact lk hb
 rw [Ix hT hlen]
 cases hc : ah call n F.body.sub ⟨bO args 0 .leaf, []⟩ m with
 | none => simp [hc] at h
 | some out =>
  have hf : sI θ ⟨bO args 0 .leaf, []⟩ ⟨bO aj 0 .leaf, []⟩ := ⟨nV 0 ha fun k => by rw [show (⟨.leaf, []⟩ : Fr) = oE from rfl, mg]; exact .undef, .nil⟩
  obtain ⟨θ1, su, e, hs, cx⟩ := gU aY n F.body _ _ _ hc cy θ _ m' hf hg
  rw [e];simp only [hc] at h
  cases hs with
  | exit hf hg => simp at h
  | @norm fr fr' m1 dO my hg1 =>
   cases hd : fr.defers with
   | cons d ds => simp [hd] at h
   | nil =>
    simp only [hd] at h;have x8 : fr'.defers = [] := my.EL.none hd
    simp only [nu, x8];obtain ⟨vs, hv, rfl⟩ := fG.1 h
    obtain ⟨nq, ll, pG⟩ := fh hg1.toMemS my F.results vs hv
    rw [ll];exact ⟨θ1, _, rfl, .ret (pT pG) hg1, cx⟩
  | @ret fr fr' m1 dO my hg1 =>
   cases hd : fr.defers with
   | cons d ds => simp [hd] at h
   | nil =>
    simp only [hd] at h;have x8 : fr'.defers = [] := my.EL.none hd
    simp only [nu, x8];obtain ⟨vs, hv, rfl⟩ := fG.1 h
    obtain ⟨nq, ll, pG⟩ := fh hg1.toMemS my F.results vs hv
    rw [ll];exact ⟨θ1, _, rfl, .ret (pT pG) hg1, cx⟩
  | @dZ v v' fr fr' m1 dO qb my hg1 =>
   cases hd : fr.defers with
   | cons d ds => simp [hd] at h
   | nil =>
    simp only [hd, aQ] at h;have x8 : fr'.defers = [] := my.EL.none hd
    simp only [nu, x8];subst h;exact ⟨θ1, _, rfl, .dZ qb hg1, cx⟩
def BJ (D : List (Nat × Option Nat × ar)) : List (Nat × Option Nat × ar) := D.map fun p => (p.1, p.2.1, p.2.2.sub)
theorem xg {g : Nat} {b : Option Nat} {FD : ar} : ∀ {D : List (Nat × Option Nat × ar)}, jq g (BJ D) = some (b, FD) -> ∃ F0, jq g D = some (b, F0) /\ FD = F0.sub
 | [], h => by simp [BJ, jq] at h
 | (g', b', F') :: D, h => by
  simp only [BJ, List.map_cons, jq] at h ⊢
  cases hb : g'.beq g <;> simp only [hb, cond_true, cond_false] at h ⊢
  ·exact xg (D := D) h
  ·simp only [aQ, kj] at h
   obtain ⟨rfl, rfl⟩ := h
   exact ⟨F', rfl, rfl⟩
def RA (D : List (Nat × Option Nat × ar)) : Bool := D.all fun p => jx p.2.2
theorem zG {g : Nat} {b : Option Nat} {F : ar} : ∀ {D : List (Nat × Option Nat × ar)}, RA D = true -> jq g D = some (b, F) -> jx F = true
 | [], _, h => by simp [jq] at h
 | (g', b', F') :: D, ho, h => by
  simp only [RA, List.all_cons, kD] at ho;simp only [jq] at h
  cases hb : g'.beq g <;> simp only [hb, cond_true, cond_false] at h
  ·exact zG (D := D) ho.2 h
  ·cases h; exact ho.1
theorem Hp (aY : qE T call) (n : Nat) {F : ar} (cy : jx F = true) {args : List EV} {m : Mem} {fin : Fin} (h : cf call n F.sub args m = some fin) {θ : bF} {m' : Mem} {aj : List EV} (hg : ed θ m m') (ha : cj θ args aj) : nX θ m m' fin (Ba T F aj m') := by
 unfold cf at h;simp only [ar.sub] at h
 cases hb : args.length.ble F.ntmps <;> simp only [hb, cond_true, cond_false, reduceCtorEq] at h
 have hlen : aj.length <= F.ntmps := by rw [<- ha.length]; exact lk hb
 rw [KT hlen]
 cases hc : ah call n F.body.sub ⟨bO args 0 .leaf, []⟩ m with
 | none => simp [hc] at h
 | some out =>
  have hf : sI θ ⟨bO args 0 .leaf, []⟩ ⟨bO aj 0 .leaf, []⟩ := ⟨nV 0 ha fun k => by rw [show (⟨.leaf, []⟩ : Fr) = oE from rfl, mg]; exact .undef, .nil⟩
  obtain ⟨θ1, su, e, hs, cx⟩ := gU aY n F.body _ _ _ hc cy θ _ m' hf hg
  rw [e];simp only [hc] at h
  cases hs with
  | exit hf hg => simp at h
  | @norm fr fr' m1 dO my hg1 =>
   cases hd : fr.defers with
   | cons d ds => simp [hd] at h
   | nil =>
    simp only [hd] at h;have x8 : fr'.defers = [] := my.EL.none hd
    simp only [nu, x8];obtain ⟨vs, hv, rfl⟩ := fG.1 h
    obtain ⟨nq, ll, pG⟩ := fh hg1.toMemS my F.results vs hv
    rw [ll];exact ⟨θ1, _, rfl, .ret (pT pG) hg1, cx⟩
  | @ret fr fr' m1 dO my hg1 =>
   cases hd : fr.defers with
   | cons d ds => simp [hd] at h
   | nil =>
    simp only [hd] at h;have x8 : fr'.defers = [] := my.EL.none hd
    simp only [nu, x8];obtain ⟨vs, hv, rfl⟩ := fG.1 h
    obtain ⟨nq, ll, pG⟩ := fh hg1.toMemS my F.results vs hv
    rw [ll];exact ⟨θ1, _, rfl, .ret (pT pG) hg1, cx⟩
  | @dZ v v' fr fr' m1 dO qb my hg1 =>
   cases hd : fr.defers with
   | cons d ds => simp [hd] at h
   | nil =>
    simp only [hd, aQ] at h;have x8 : fr'.defers = [] := my.EL.none hd
    simp only [nu, x8];subst h;exact ⟨θ1, _, rfl, .dZ qb hg1, cx⟩
def DM (θ : bF) (u u' : Option EV) : Prop := match u with
 | none => u' = none
 | some v => ∃ v', u' = some v' /\ SV θ v v'
theorem DM.ext {θ θ' : bF} (e : bF.Ext θ θ') {u u' : Option EV} (h : DM θ u u') : DM θ' u u' := by
 cases u with
 | none => exact h
 | some v => obtain ⟨v', h1, h2⟩ := h; exact ⟨v', h1, h2.ext e⟩
theorem DM.get {θ : bF} {u u' : Option EV} (h : DM θ u u') : SV θ (u.getD .aq) (u'.getD .aq) := by
 cases u with
 | none => cases h; exact .aq
 | some v => obtain ⟨v', rfl, h2⟩ := h; exact h2
theorem DD (aY : qE T call) (n : Nat) {d : Nat} {F : ar} (cy : jx F = true) {args : List EV} {u u' : Option EV} {m m1 : Mem} (h : dj call n d F.sub args u m = some m1) {θ : bF} {m' : Mem} {aj : List EV} (hg : ed θ m m') (ha : cj θ args aj) (hu : DM θ u u') :
  ∃ θ1 dO, yG T d F aj u' m' = some dO /\ ed θ1 m1 dO /\ ko θ m m' θ1 m1 dO := by
 unfold dj at h;simp only [ar.sub] at h
 cases hb : args.length.ble F.ntmps <;> simp only [hb, cond_true, cond_false, reduceCtorEq] at h
 have hlen : aj.length <= F.ntmps := by rw [<- ha.length]; exact lk hb
 rw [Hn hlen]
 cases hc : ah call n F.body.sub (Fr.set ⟨bO args 0 .leaf, []⟩ d (u.getD .aq)) m with
 | none => simp [hc] at h
 | some out =>
  have hf : sI θ ⟨bO args 0 .leaf, []⟩ ⟨bO aj 0 .leaf, []⟩ := ⟨nV 0 ha fun k => by rw [show (⟨.leaf, []⟩ : Fr) = oE from rfl, mg]; exact .undef, .nil⟩
  obtain ⟨θ1, su, e, hs, cx⟩ := gU aY n F.body _ _ _ hc cy θ _ m' (hf.put hu.get (some d)) hg
  have e' : exec T F.body (Fr.set ⟨bO aj 0 .leaf, []⟩ d (u'.getD .aq)) m' = some su := e
  rw [e'];simp only [hc] at h
  cases hs with
  | exit hf hg => simp at h
  | @norm fr fr' m2 Mz my hg1 =>
   cases hd : fr.defers with
   | cons d ds => simp [hd] at h
   | nil =>
    simp only [hd] at h;have x8 : fr'.defers = [] := my.EL.none hd
    simp only [L8, x8];obtain ⟨vs, hv, rfl⟩ := fG.1 h
    obtain ⟨nq, ll, pG⟩ := fh hg1.toMemS my F.results vs hv
    rw [ll];exact ⟨θ1, _, rfl, hg1, cx⟩
  | @ret fr fr' m2 Mz my hg1 =>
   cases hd : fr.defers with
   | cons d ds => simp [hd] at h
   | nil =>
    simp only [hd] at h;have x8 : fr'.defers = [] := my.EL.none hd
    simp only [L8, x8];obtain ⟨vs, hv, rfl⟩ := fG.1 h
    obtain ⟨nq, ll, pG⟩ := fh hg1.toMemS my F.results vs hv
    rw [ll];exact ⟨θ1, _, rfl, hg1, cx⟩
  | @dZ v v' fr fr' m2 Mz qb my hg1 => simp at h
theorem nX.after {θ θ1 : bF} {m m' m1 dO : Mem} {fin : Fin} {o : Option Fin} (hs : ko θ m m' θ1 m1 dO) (h : nX θ1 m1 dO fin o) : nX θ m m' fin o := by
 obtain ⟨θ2, CX, e, h1, h2⟩ := h
 cases h1 with
 | ret hv hg => exact ⟨θ2, _, e, .ret hv hg, hs.trans h2⟩
 | dZ hv hg => exact ⟨θ2, _, e, .dZ hv hg, hs.trans h2⟩
theorem kJ (aY : qE T call) (n : Nat) {rs : List jd} {D : List (Nat × Option Nat × ar)} (hD : RA D = true) {fr fr' : Fr} : ∀ (ds nQ : List (Nat × List EV)) (u u' : Option EV) (θ : bF) (m m' : Mem) (fin : Fin), vd θ ds nQ -> DM θ u u' -> ed θ m m' -> sI θ fr fr' -> bK call n rs (BJ D) fr ds u m = some fin -> nX θ m m' fin (jA T rs D fr' nQ u' m')
 | [], nQ, u, u', θ, m, m', fin, ur, hu, hg, hf, h => by
  cases ur
  cases u with
  | none =>
   cases hu
   simp only [bK] at h;obtain ⟨vs, hv, rfl⟩ := fG.1 h
   obtain ⟨nq, ll, pG⟩ := fh hg.toMemS hf rs vs hv
   rw [CC, ll];exact ⟨θ, _, rfl, .ret (pT pG) hg, .refl _ _ _⟩
  | some v =>
   obtain ⟨v', rfl, hv⟩ := hu
   simp only [bK, aQ] at h;subst h;rw [CB];exact ⟨θ, _, rfl, .dZ hv hg, .refl _ _ _⟩
 | (g, args) :: ds, nQ, u, u', θ, m, m', fin, ur, hu, hg, hf, h => by
  cases ur with
  | @cons _ _ aj _ N1 hx ur =>
  simp only [bK] at h
  cases vE : jq g (BJ D) with
  | none => simp [vE] at h
  | some q =>
  obtain ⟨b, FD⟩ := q
  obtain ⟨F0, Wo, rfl⟩ := xg vE
  have cy := zG hD Wo
  cases b with
  | some d =>
   simp only [vE] at h
   cases hb : dj call n d F0.sub args u m with
   | none => simp [hb] at h
   | some m1 =>
    simp only [hb] at h;obtain ⟨θ1, dO, e1, hg1, iM⟩ := DD aY n cy hb hg hx hu
    rw [CA Wo, e1];exact (kJ aY n hD ds N1 none none θ1 m1 dO fin (ur.ext iM.ext) rfl hg1 (hf.ext iM.ext) h).after iM
  | none =>
   simp only [vE] at h
   cases hb : cf call n F0.sub args m with
   | none => simp [hb] at h
   | some SZ =>
    simp only [hb] at h;obtain ⟨θ1, YE, e1, my, iM⟩ := Hp aY n cy hb hg hx
    rw [zX Wo, e1]
    cases my with
    | ret hv hg1 => exact (kJ aY n hD ds N1 u u' θ1 _ _ fin (ur.ext iM.ext) (hu.ext iM.ext) hg1 (hf.ext iM.ext) h).after iM
    | @dZ v v' _ _ hv hg1 =>
     cases u with
     | some x => cases h
     | none =>
      cases hu
      exact (kJ aY n hD ds N1 (some v) (some v') θ1 _ _ fin (ur.ext iM.ext) ⟨v', rfl, hv⟩ hg1 (hf.ext iM.ext) h).after iM
theorem Hq (aY : qE T call) (n : Nat) {f : Nat} {F : ar} {D : List (Nat × Option Nat × ar)} (hT : T f = some (.EK F D)) (cy : jx F = true) (hD : RA D = true) {args : List EV} {m : Mem} {fin : Fin} (h : fC call n F.sub (BJ D) args m = some fin) {θ : bF} {m' : Mem} {aj : List EV} (hg : ed θ m m') (ha : cj θ args aj) : nX θ m m' fin (run T f aj m') := by
 unfold fC at h;simp only [ar.sub] at h
 cases hb : args.length.ble F.ntmps <;> simp only [hb, cond_true, cond_false, reduceCtorEq] at h
 have hlen : aj.length <= F.ntmps := by rw [<- ha.length]; exact lk hb
 rw [L3 hT hlen]
 cases hc : ah call n F.body.sub ⟨bO args 0 .leaf, []⟩ m with
 | none => simp [hc] at h
 | some out =>
  have hf : sI θ ⟨bO args 0 .leaf, []⟩ ⟨bO aj 0 .leaf, []⟩ := ⟨nV 0 ha fun k => by rw [show (⟨.leaf, []⟩ : Fr) = oE from rfl, mg]; exact .undef, .nil⟩
  obtain ⟨θ1, su, e, hs, cx⟩ := gU aY n F.body _ _ _ hc cy θ _ m' hf hg
  rw [e];simp only [hc] at h
  cases hs with
  | exit hf hg => simp at h
  | norm my hg1 => exact (kJ aY n hD _ _ none none θ1 _ _ fin my.EL rfl hg1 my h).after cx
  | ret my hg1 => exact (kJ aY n hD _ _ none none θ1 _ _ fin my.EL rfl hg1 my h).after cx
  | @dZ v v' _ _ _ _ qb my hg1 => exact (kJ aY n hD _ _ (some v) (some v') θ1 _ _ fin my.EL ⟨v', rfl, qb⟩ hg1 my h).after cx
def fU (T : Nat -> Option fg) (f : Nat) : fg -> Prop
 | .go F1 => ∃ F, T f = some (.go F) /\ jx F = true /\ F1 = F.sub
 | .ext g => ∀ θ m m' args aj v, ed θ m m' -> cj θ args aj -> g args = some v -> nX θ m m' (.ret v m) (run T f aj m')
 | .pure g => ∀ θ m m' args aj v, ed θ m m' -> cj θ args aj -> g args = some v -> nX θ m m' (.ret v m) (run T f aj m')
 | .spec g => ∀ θ m m' args aj fin, ed θ m m' -> cj θ args aj -> g args m = some fin -> nX θ m m' fin (run T f aj m')
 | .EK F1 D1 => ∃ F D, T f = some (.EK F D) /\ jx F = true /\ RA D = true /\ F1 = F.sub /\ D1 = BJ D
theorem ye {T1 : Nat -> Option fg} (h1 : ∀ f e, T1 f = some e -> fU T f e) : ∀ k, qE T (aC T1 k)
 | 0 => fun f args m fin h => by simp [aC] at h
 | k + 1 => fun f args m fin h θ m' aj hg ha => by
  simp only [aC] at h
  cases he : T1 f with
  | none => simp [he] at h
  | some e =>
   have hE := h1 f e he
   simp only [he] at h
   cases e with
   | go F =>
    obtain ⟨F0, hT, cy, rfl⟩ := hE
    exact A7 (ye h1 k) k hT cy h hg ha
   | ext g =>
    obtain ⟨v, hv, rfl⟩ := fG.1 h
    exact hE θ m m' args aj v hg ha hv
   | pure g =>
    obtain ⟨v, hv, rfl⟩ := fG.1 h
    exact hE θ m m' args aj v hg ha hv
   | spec g => exact hE θ m m' args aj fin hg ha h
   | EK F D =>
    obtain ⟨F0, D0, hT, cy, hD, rfl, rfl⟩ := hE
    exact Hq (ye h1 k) k hT cy hD h hg ha
end
end
section
open Go Go.RowKit
def strOf : List EV -> Option (List (List UInt8))
 | [] => some []
 | .str s :: r => (strOf r).map (s :: ·)
 | _ => none
theorem ze : ∀ {cs : List EV} {l : List (List UInt8)}, strOf cs = some l -> cs = l.map .str
 | [], l, h => by simp only [strOf, aQ] at h; subst h; rfl
 | v :: r, l, h => by
  cases v <;> simp only [strOf, reduceCtorEq] at h
  obtain ⟨l', h1, rfl⟩ := fG.1 h
  rw [List.map_cons, ze h1]
theorem vZ (l : List (List UInt8)) : strOf (l.map .str) = some l := by
 induction l with
 | nil => rfl
 | cons s l ih => simp only [List.map_cons, strOf, ih, Option.map_some]
def El (l : List (List UInt8)) (sep : List UInt8) (m : Mem) : Option Fin := bif l.length.ble 1000000000 && (Go.Lib.join l sep).length.ble 4294967296 then some (.ret (.str (Go.Lib.join l sep)) m) else none
def ue : EV -> Bool
 | .str _ => true
 | _ => false
def nE (args : List EV) (m : Mem) : Option Fin := match args with
 | [v, .str sep] => match m.source 1 v, ue v with
  | some (_, cs), false => match strOf cs with
   | some l => El l sep m
   | none => none
  | _, _ => none
 | _ => none
theorem wJ {args : List EV} {m : Mem} {fin : Fin} (h : nE args m = some fin) : ∃ v sep n l, args = [v, .str sep] /\ ue v = false /\ m.source 1 v = some (n, l.map .str) /\ l.length <= 1000000000 /\ (Go.Lib.join l sep).length <= 4294967296 /\ fin = .ret (.str (Go.Lib.join l sep)) m := by
 unfold nE at h
 split at h
 ·rename_i v sep
  split at h
  ·rename_i n cs hs cx
   split at h
   ·rename_i l hl
    unfold El at h
    cases hc : (l.length.ble 1000000000 && (Go.Lib.join l sep).length.ble 4294967296) <;> simp only [hc, cond_true, cond_false, reduceCtorEq, aQ] at h
    simp only [kD] at hc;exact ⟨v, sep, n, l, rfl, cx, by rw [hs, ze hl], lk hc.1, lk hc.2, h.symm⟩
   ·cases h
  ·cases h
 ·cases h
theorem D4 {ρ : Ren} : ∀ {l : List (List UInt8)} {vs : List Value}, cS ρ (l.map .str) vs -> ∃ xs : List ByteArray, vs = xs.map .string /\ xs.map (·.data.toList) = l
 | [], vs, h => by cases h; exact ⟨[], rfl, rfl⟩
 | s :: l, vs, h => by
  rw [List.map_cons] at h;generalize hx : EV.str s = x at h
  cases h with
  | cons h1 h2 =>
   obtain ⟨xs, rfl, e2⟩ := D4 h2
   cases h1 <;> cases hx
   rename_i b
   exact ⟨b :: xs, rfl, by rw [List.map_cons, e2]⟩
theorem R.O0 {base : Nat} {ρ : Ren} {m : Mem} {w w' : World} (hR : R base ρ m w) (b : Below w.heap.size w w') : R base ρ m w' /\ Step ρ m w ρ m w' := by
 refine ⟨⟨hR.lt, fun c L hb => ?_, hR.inj, vn hR.base b.size, hR.clean⟩, ⟨.refl ρ, fun _ h h' => absurd h h', ee _, fun _ _ _ => rfl, fun _ _ h => h, b.size, fun _ _ h => h, fun i hi _ => b.block i hi, b.os, b.tape, b.output⟩⟩
 have hB := hR.bT c L hb
 by_cases hd : m.get c = .dead
 ·rw [hd]; trivial
 ·exact hB.of_heap (.refl ρ) (b.block _ (hB.lt hd))
theorem ta {ρ : Ren} (l : List UInt8) : VR ρ (.str l) (.string ⟨l.toArray⟩) := by
 have := VR.str (ρ := ρ) ⟨l.toArray⟩
 simpa using this
theorem MD {G : List Nat} {f : Nat} (hf : jR.f 156 = f) {fn : Func} (hfn : Tryd.prog.funcs[f]? = some fn) (sB : (fn.name == "runtime.NumGoroutine") = false) (hb : fn.body.isSome = true) : xq Tryd.prog G f (.spec nE) := by
 intro base ρ m w args aj fin hR hG hv h
 obtain ⟨v, sep, n, l, rfl, cx, hs, hl, hj, rfl⟩ := wJ h
 obtain ⟨aj⟩ := aj
 refine ⟨?_, ?_⟩
 ·obtain ⟨c, hc⟩ := Option.isSome_iff_exists.1 hb
  simp [callFunc, hfn, hc]
  simpa using sB
 have ll : cS ρ [v, .str sep] aj := hv
 generalize hq : EV.str sep = q at ll
 cases ll with
 | cons h1 h2 =>
 cases h2 with
 | cons h2 h3 =>
 cases h3
 cases h2 <;> cases hq
 rename_i v' sb
 have fin : ∀ {a : Option Addr} {c : Nat} {e : Ending} {w' : World}, e = .returned (.string ⟨(Go.Lib.join l sb.data.toList).toArray⟩) -> Below w.heap.size w w' -> gY base ρ m w (.ret (.str (Go.Lib.join l sb.data.toList)) m) e w' := by
  intro a c e w' he Wg
  obtain ⟨r1, r2⟩ := hR.O0 Wg
  exact ⟨ρ, _, he, ta _, r1, r2⟩
 subst hf;by_cases P3 : l = []
 ·subst P3
  have hval : ∃ a c, v' = .slice a 0 c := by
   cases h1 <;> simp only [Mem.source, reduceCtorEq, aQ, kj] at hs
   case aa => exact ⟨none, 0, rfl⟩
   case slice b off len c o L hL hc ho hr =>
    obtain ⟨cs, fx, h2⟩ := fG.1 hs
    simp only [kj] at h2;obtain ⟨rfl, rfl⟩ := h2
    have := iT fx
    simp at this
    subst this;exact ⟨_, _, rfl⟩
   case dD => exact ⟨_, _, rfl⟩
   case cT b off len c o L hL hc ho =>
    obtain ⟨cs, fx, h2⟩ := fG.1 hs
    simp only [kj] at h2;obtain ⟨rfl, rfl⟩ := h2
    have := iT fx
    simp at this
    subst this;exact ⟨_, _, rfl⟩
   case str s => simp [ue] at cx
  obtain ⟨a, c, rfl⟩ := hval
  refine (Any.strings_Join_none Ek Av a c sb w).mono fun e w' ⟨he, hw⟩ => ?_
  subst hw;refine fin (a := none) (c := 0) ?_ (Below.refl _ _)
  rw [he]; rfl
 ·have vD : 0 < l.length := List.length_pos_iff.2 P3
  have key : ∀ (b off c o : Nat) (L : Loc) (cap : Option Nat), ρ b = some L -> m.source 1 (.slice b off n cap) = some (n, l.map .str) -> n <= c -> o = L.off + off -> Calls Tryd.prog (jR.f 156) #[.slice (some ⟨L.bT, o, none⟩) n c, .string sb] w (gY base ρ m w (.ret (.str (Go.Lib.join l sb.data.toList)) m)) := by
   intro b off c o L cap hL hs hc ho
   simp only [Mem.source, Nat.mul_one] at hs;obtain ⟨cs, fx, h2⟩ := fG.1 hs
   simp only [kj, true_and] at h2;subst h2;have hn := iT fx
   rw [List.length_map] at hn;rw [Mem.jG (by omega)] at fx;unfold Mem.tG at fx
   cases hm : m.get b with
   | dead => simp [hm] at fx
   | map es => simp [hm] at fx
   | cells cs esz el ro =>
    simp only [hm] at fx
    cases Sq : (off + n).ble cs.length <;> simp only [Sq, cond_true, cond_false, reduceCtorEq, aQ] at fx
    obtain ⟨vs, q1, q2, q3, q4⟩ := hR.cells hL hm off n (lk Sq)
    rw [fx] at q3;obtain ⟨xs, rfl, hx⟩ := D4 q3
    rw [List.length_map] at q1;subst q1;subst ho;refine (Any.strings_Join Ek Av L.bT (L.off + off) c xs sb w (fun j x hj => ?_) ?_ (by omega) hc (by rw [hx]; omega)).mono fun e w' ⟨he, hw⟩ => fin (a := none) (c := 0) (by rw [he, hx]) hw
    ·rw [q2 j (kO.1 hj).1, List.getElem?_map, hj]; rfl
    ·have hB := hR.bT b L hL
     rw [hm] at hB;obtain ⟨arr, e, fz, e1, _⟩ := hB
     exact (Array.getElem?_eq_some_iff.1 e1).1
  cases h1 <;> simp only [Mem.source, reduceCtorEq, aQ, kj] at hs
  case aa => exact absurd (List.map_eq_nil_iff.1 hs.2.symm) P3
  case slice b off len c o L hL hc ho hr =>
   have PY : n = len := by
    obtain ⟨cs, fx, h2⟩ := fG.1 hs
    simp only [kj] at h2;exact h2.1.symm
   subst PY;have hn : l.length = n := by
    obtain ⟨cs, fx, h2⟩ := fG.1 hs
    simp only [kj, true_and] at h2;subst h2;have := iT fx
    rw [List.length_map] at this; omega
   exact key b off c o L none hL (by simp only [Mem.source]; exact hs) hc (ho (by omega))
  case dD =>
   obtain ⟨cs, fx, h2⟩ := fG.1 hs
   simp only [kj] at h2;obtain ⟨rfl, rfl⟩ := h2
   have := iT fx
   rw [List.length_map] at this; omega
  case cT b off len c o L hL hc ho =>
   have PY : n = len := by
    obtain ⟨cs, fx, h2⟩ := fG.1 hs
    simp only [kj] at h2;exact h2.1.symm
   subst PY;have hn : l.length = n := by
    obtain ⟨cs, fx, h2⟩ := fG.1 hs
    simp only [kj, true_and] at h2;subst h2;have := iT fx
    rw [List.length_map] at this; omega
   exact key b off c o L (some c) hL (by simp only [Mem.source]; exact hs) hc (ho (by omega))
  case str s => simp [ue] at cx
theorem Ju {T : Nat -> Option fg} {f : Nat} (hT : T f = some (.spec nE)) : fU T f (.spec nE) := by
 intro θ m m' args aj fin hg ha h
 obtain ⟨v, sep, n, l, rfl, cx, hs, hl, hj, rfl⟩ := wJ h
 obtain ⟨v', r', rfl, hv, hr⟩ : ∃ v' r', aj = v' :: r' /\ SV θ v v' /\ cj θ [.str sep] r' := by
  cases ha with | cons h hs => exact ⟨_, _, rfl, h, hs⟩
 have : r' = [.str sep] := hr.flat rfl
 subst this;obtain ⟨iQ, h1, h2⟩ := mB hg.toMemS hv hs
 have Br : c9 (l.map EV.str) = true := by
  clear hs h2 hl hj h
  induction l with
  | nil => rfl
  | cons s l ih => simp only [List.map_cons, c9, Flat, ih, Bool.true_and]
 have := h2.flat Br
 subst this;refine ⟨θ, .ret (.str (Go.Lib.join l sep)) m', ?_, .ret (.str _) hg, .refl _ _ _⟩
 rw [lZ hT];have PR : ue v' = false := by cases hv <;> first | rfl | (simp [ue] at cx)
 unfold nE;simp only [h1, PR, vZ, El, lJ hl, lJ hj, Bool.and_self, cond_true]
end
section
open Go Go.RowKit
def Eo : cY -> Bool
 | .cells cs _ _ _ => EV.gO cs (Go.Lib.pow10Tab.map (.int .u64))
 | _ => false
def wN (n : Int) : Bool := decide (-9223372036854775808 <= n) && decide (n <= 9223372036854775807)
def ud (args : List EV) (m : Mem) : Option Fin := match args with
 | [.int .i64 n] => bif Eo (m.get pO) && wN n then some (.ret (.str (Go.Lib.itoa n)) m) else none
 | _ => none
def yU : List EV -> Option EV
 | [.int .i64 n] => bif wN n then some (.str (Go.Lib.itoa n)) else none
 | _ => none
theorem wM {n : Int} : wN n = true ↔ -9223372036854775808 <= n /\ n <= 9223372036854775807 := by simp [wN]
theorem Gz {args : List EV} {m : Mem} {fin : Fin} (h : ud args m = some fin) : ∃ n, args = [.int .i64 n] /\ Eo (m.get pO) = true /\ (-9223372036854775808 <= n /\ n <= 9223372036854775807) /\ fin = .ret (.str (Go.Lib.itoa n)) m := by
 unfold ud at h
 split at h
 ·rename_i n
  cases hc : (Eo (m.get pO) && wN n) <;> simp only [hc, cond_true, cond_false, reduceCtorEq, aQ] at h
  simp only [kD] at hc;exact ⟨n, rfl, hc.1, wM.1 hc.2, h.symm⟩
 ·cases h
theorem DG (w : World) (k : Nat) (os : Array Obj) : Below w.heap.size w (Go.Sort.grow (w.drewN k) os) := by
 refine ⟨rfl, rfl, rfl, ?_, fun i hi => ?_⟩
 ·show w.heap.size <= (w.heap ++ os).size
  simp
 ·show (w.heap ++ os)[i]? = w.heap[i]?
  rw [Array.getElem?_append_left hi]
theorem MF {G : List Nat} (hGc : G.contains pO = true) {f : Nat} (hf : nC.f 171 = f) {fn : Func} (hfn : Tryd.prog.funcs[f]? = some fn) (sB : (fn.name == "runtime.NumGoroutine") = false) (hb : fn.body.isSome = true) : xq Tryd.prog G f (.spec ud) := by
 intro base ρ m w args aj fin hR hG hv h
 obtain ⟨n, rfl, ht, hn, rfl⟩ := Gz h
 obtain ⟨aj⟩ := aj
 refine ⟨?_, ?_⟩
 ·obtain ⟨c, hc⟩ := Option.isSome_iff_exists.1 hb
  simp [callFunc, hfn, hc]
  simpa using sB
 have ll : cS ρ [.int .i64 n] aj := hv
 cases ll with
 | cons h1 h2 =>
 cases h2
 cases h1
 subst hf;have VF : Go.Lib.TabIs Tryd.prog w "internal/strconv.uint64pow10" .u64 Go.Lib.pow10Tab := by
  obtain ⟨L, h1, h2, h3, h4⟩ := hG pO hGc
  have hB := hR.bT _ L h1
  have PQ := h4 _ y9
  cases hm : m.get pO with
  | dead => rw [hm] at ht; cases ht
  | map es => rw [hm] at ht; cases ht
  | cells cs esz el ro =>
   rw [hm] at hB ht;have fx := kV ht
   subst fx;obtain ⟨arr, e, fz, q1, q2, q3, q4, q5, q6, q7⟩ := hB
   rw [h2] at q1;have lq : arr = (Go.Lib.pow10Tab.map fun z => Value.int .u64 z).toArray := by
    apply Array.ext'
    rw [List.toList_toArray];refine List.ext_getElem? fun i => ?_
    by_cases hi : i < Go.Lib.pow10Tab.length
    ·obtain ⟨v', g1, g2, _⟩ := q6 i (.int .u64 Go.Lib.pow10Tab[i]) (by rw [List.getElem?_map, ij hi]; rfl)
     rw [h3, Nat.zero_add] at g1
     cases g2
     rw [Array.getElem?_toList, g1, List.getElem?_map, ij hi]; rfl
    ·rw [List.getElem?_eq_none (by rw [Array.length_toList]; omega), List.getElem?_eq_none (by rw [List.length_map]; omega)]
   unfold Go.Lib.TabIs World.var?
   rw [Pd];simp only [Option.bind_some, q1, lq]
 refine (Any.strconv_Itoa MB n hn.1 hn.2 w VF).mono fun e w' ⟨he, k, os, hw⟩ => ?_
 subst hw;obtain ⟨r1, r2⟩ := hR.O0 (DG w k os)
 exact ⟨ρ, _, he, ta _, r1, r2⟩
theorem B8 (l : List Int) : EV.gO (l.map (.int .u64)) (l.map (.int .u64)) = true := by
 induction l with
 | nil => rfl
 | cons a l ih =>
  have : EV.same (.int .u64 a) (.int .u64 a) = true := kH _ rfl
  simp only [List.map_cons, EV.gO, this, cond_true, ih]
theorem Jy {T : Nat -> Option fg} {f : Nat} (hT : T f = some (.spec ud)) : fU T f (.pure yU) := by
 intro θ m m' args aj v hg ha h
 unfold yU at h
 split at h
 ·rename_i n
  cases hc : wN n <;> simp only [hc, cond_true, cond_false, reduceCtorEq, aQ] at h
  subst h;have : aj = [.int .i64 n] := ha.flat rfl
  subst this;have hm := hg.eF _ _ (hg.vk.2 _ _ y9)
  refine ⟨θ, .ret (.str (Go.Lib.itoa n)) m', ?_, .ret (.str _) hg, .refl _ _ _⟩
  rw [lZ hT];have ht : Eo (m'.get pO) = true := by rw [hm]; exact B8 _
  simp only [ud, ht, hc, Bool.and_self, cond_true]
 ·cases h
end
section
theorem mix : Tryd.prog.follows .mixedOrders = true := by kernel_rfl
theorem ltG : ∀ g, G.contains g = true -> g < 6 := fun g h => by simp [G] at h; try omega
def tree : Bt :=
 (.node 38 (.go bE) (.node 20 (.go iI) (.node 11 (.go ez) (.node 7 (.go iL) (.node 5 (.go ei) (.node 4 (.go bU) (.node 3 (.go ej) .leaf .leaf) .leaf) (.node 6 (.go eh) .leaf .leaf)) (.node 9 (.go gG) (.node 8 (.go iK) .leaf .leaf) (.node 10 (.go dN) .leaf .leaf))) (.node 16 (.go cr) (.node 14 (.go cK) (.node 13 (.go fo) (.node 12 (.go dH) .leaf .leaf) .leaf) (.node 15 (.go dn) .leaf .leaf)) (.node 18 (.go iE) (.node 17 (.go gF) .leaf .leaf) (.node 19 (.go eB) .leaf .leaf)))) (.node 29 (.go bG) (.node 25 (.go ep) (.node 23 (.go dm) (.node 22 (.go mv) (.node 21 (.go j8) .leaf .leaf) .leaf) (.node 24 (.go dz) .leaf .leaf)) (.node 27 (.go ff) (.node 26 (.go bI) .leaf .leaf) (.node 28 (.go dc) .leaf .leaf))) (.node 34 (.go dL) (.node 32 (.go bh) (.node 31 (.spec ud) (.node 30 (.go cq) .leaf .leaf) .leaf) (.node 33 (.spec nE) .leaf .leaf)) (.node 36 (.go aH) (.node 35 (.go iB) .leaf .leaf) (.node 37 (.go fD) .leaf .leaf))))) (.node 58 (.go eC) (.node 48 (.go gq) (.node 43 (.go bq) (.node 41 (.go bJ) (.node 40 (.go fE) (.node 39 (.go eE) .leaf .leaf) .leaf) (.node 42 (.go cm) .leaf .leaf)) (.node 45 (.go fk) (.node 44 (.go jf) .leaf .leaf) (.node 47 (.go fm) .leaf .leaf))) (.node 53 (.go dM) (.node 51 (.go gj) (.node 50 (.go iD) (.node 49 (.go eA) .leaf .leaf) .leaf) (.node 52 (.go j7) .leaf .leaf)) (.node 55 (.go bC) (.node 54 (.go bZ) .leaf .leaf) (.node 57 (.go je) .leaf .leaf)))) (.node 69 (.go iJ) (.node 63 (.go bX) (.node 61 (.go gl) (.node 60 (.go gn) (.node 59 (.go fp) .leaf .leaf) .leaf) (.node 62 (.go bi) .leaf .leaf)) (.node 65 (.go bd) (.node 64 (.go fK) .leaf .leaf) (.node 66 (.go bp) .leaf .leaf))) (.node 73 (.go bc) (.node 71 (.go dx) (.node 70 (.go bA) .leaf .leaf) (.node 72 (.go bB) .leaf .leaf)) (.node 75 (.go fR) (.node 74 (.go bQ) .leaf .leaf) (.node 76 (.go fQ) .leaf .leaf))))))
def T : Nat -> Option fg := tree.find
theorem okT : ∀ f e, T f = some e -> xq Tryd.prog G f e := Bt.sZ (t := tree)
 ⟨⟨_, Tryd.func38, UW⟩, ⟨⟨_, Tryd.func20, Vc⟩, ⟨⟨_, Tryd.func11, Vl⟩, ⟨⟨_, Tryd.func7, Y5⟩, ⟨⟨_, Tryd.func5, Y7⟩, ⟨⟨_, Tryd.func4, Y8⟩, ⟨⟨_, Tryd.func3, Y9⟩, trivial, trivial⟩, trivial⟩, ⟨⟨_, Tryd.func6, Y6⟩, trivial, trivial⟩⟩, ⟨⟨_, Tryd.func9, Y3⟩, ⟨⟨_, Tryd.func8, Y4⟩, trivial, trivial⟩, ⟨⟨_, Tryd.func10, Vm⟩, trivial, trivial⟩⟩⟩, ⟨⟨_, Tryd.func16, Vg⟩, ⟨⟨_, Tryd.func14, Vi⟩, ⟨⟨_, Tryd.func13, Vj⟩, ⟨⟨_, Tryd.func12, Vk⟩, trivial, trivial⟩, trivial⟩, ⟨⟨_, Tryd.func15, Vh⟩, trivial, trivial⟩⟩, ⟨⟨_, Tryd.func18, Ve⟩, ⟨⟨_, Tryd.func17, Vf⟩, trivial, trivial⟩, ⟨⟨_, Tryd.func19, Vd⟩, trivial, trivial⟩⟩⟩⟩, ⟨⟨_, Tryd.func29, U3⟩, ⟨⟨_, Tryd.func25, U7⟩, ⟨⟨_, Tryd.func23, U9⟩, ⟨⟨_, Tryd.func22, Va⟩, ⟨⟨_, Tryd.func21, Vb⟩, trivial, trivial⟩, trivial⟩, ⟨⟨_, Tryd.func24, U8⟩, trivial, trivial⟩⟩, ⟨⟨_, Tryd.func27, U5⟩, ⟨⟨_, Tryd.func26, U6⟩, trivial, trivial⟩, ⟨⟨_, Tryd.func28, U4⟩, trivial, trivial⟩⟩⟩, ⟨⟨_, Tryd.func34, U0⟩, ⟨⟨_, Tryd.func32, U1⟩, ⟨(MF (by kernel_rfl) PL PM (by kernel_rfl) (by kernel_rfl)), ⟨⟨_, Tryd.func30, U2⟩, trivial, trivial⟩, trivial⟩, ⟨(MD PI PJ (by kernel_rfl) (by kernel_rfl)), trivial, trivial⟩⟩, ⟨⟨_, Tryd.func36, UY⟩, ⟨⟨_, Tryd.func35, UZ⟩, trivial, trivial⟩, ⟨⟨_, Tryd.func37, UX⟩, trivial, trivial⟩⟩⟩⟩⟩, ⟨⟨_, Tryd.func58, UC⟩, ⟨⟨_, Tryd.func48, UL⟩, ⟨⟨_, Tryd.func43, UP⟩, ⟨⟨_, Tryd.func41, UR⟩, ⟨⟨_, Tryd.func40, US⟩, ⟨⟨_, Tryd.func39, UU⟩, trivial, trivial⟩, trivial⟩, ⟨⟨_, Tryd.func42, UQ⟩, trivial, trivial⟩⟩, ⟨⟨_, Tryd.func45, UN⟩, ⟨⟨_, Tryd.func44, UO⟩, trivial, trivial⟩, ⟨⟨_, Tryd.func47, UM⟩, trivial, trivial⟩⟩⟩, ⟨⟨_, Tryd.func53, UG⟩, ⟨⟨_, Tryd.func51, UI⟩, ⟨⟨_, Tryd.func50, UJ⟩, ⟨⟨_, Tryd.func49, UK⟩, trivial, trivial⟩, trivial⟩, ⟨⟨_, Tryd.func52, UH⟩, trivial, trivial⟩⟩, ⟨⟨_, Tryd.func55, UE⟩, ⟨⟨_, Tryd.func54, UF⟩, trivial, trivial⟩, ⟨⟨_, Tryd.func57, UD⟩, trivial, trivial⟩⟩⟩⟩, ⟨⟨_, Tryd.func69, Ut⟩, ⟨⟨_, Tryd.func63, Ux⟩, ⟨⟨_, Tryd.func61, Uz⟩, ⟨⟨_, Tryd.func60, UA⟩, ⟨⟨_, Tryd.func59, UB⟩, trivial, trivial⟩, trivial⟩, ⟨⟨_, Tryd.func62, Uy⟩, trivial, trivial⟩⟩, ⟨⟨_, Tryd.func65, Uv⟩, ⟨⟨_, Tryd.func64, Uw⟩, trivial, trivial⟩, ⟨⟨_, Tryd.func66, Uu⟩, trivial, trivial⟩⟩⟩, ⟨⟨_, Tryd.func73, Up⟩, ⟨⟨_, Tryd.func71, Ur⟩, ⟨⟨_, Tryd.func70, Us⟩, trivial, trivial⟩, ⟨⟨_, Tryd.func72, Uq⟩, trivial, trivial⟩⟩, ⟨⟨_, Tryd.func75, Un⟩, ⟨⟨_, Tryd.func74, Uo⟩, trivial, trivial⟩, ⟨⟨_, Tryd.func76, Um⟩, trivial, trivial⟩⟩⟩⟩⟩⟩
theorem at3 : T 3 = some (.go ej) := rfl
theorem at4 : T 4 = some (.go bU) := rfl
theorem at5 : T 5 = some (.go ei) := rfl
theorem at6 : T 6 = some (.go eh) := rfl
theorem at7 : T 7 = some (.go iL) := rfl
theorem at8 : T 8 = some (.go iK) := rfl
theorem at9 : T 9 = some (.go gG) := rfl
theorem Xx : T 10 = some (.go dN) := rfl
theorem Xw : T 11 = some (.go ez) := rfl
theorem Xv : T 12 = some (.go dH) := rfl
theorem Xu : T 13 = some (.go fo) := rfl
theorem Xt : T 14 = some (.go cK) := rfl
theorem Xs : T 15 = some (.go dn) := rfl
theorem Xr : T 16 = some (.go cr) := rfl
theorem Xq : T 17 = some (.go gF) := rfl
theorem Xp : T 18 = some (.go iE) := rfl
theorem Xo : T 19 = some (.go eB) := rfl
theorem Xn : T 20 = some (.go iI) := rfl
theorem Xm : T 21 = some (.go j8) := rfl
theorem Xl : T 22 = some (.go mv) := rfl
theorem Xk : T 23 = some (.go dm) := rfl
theorem Xj : T 24 = some (.go dz) := rfl
theorem Xi : T 25 = some (.go ep) := rfl
theorem Xh : T 26 = some (.go bI) := rfl
theorem Xg : T 27 = some (.go ff) := rfl
theorem Xf : T 28 = some (.go dc) := rfl
theorem Xe : T 29 = some (.go bG) := rfl
theorem Xd : T 30 = some (.go cq) := rfl
theorem Xc : T 31 = some (.spec ud) := rfl
theorem Xb : T 32 = some (.go bh) := rfl
theorem Xa : T 33 = some (.spec nE) := rfl
theorem W9 : T 34 = some (.go dL) := rfl
theorem W8 : T 35 = some (.go iB) := rfl
theorem W7 : T 36 = some (.go aH) := rfl
theorem W6 : T 37 = some (.go fD) := rfl
theorem W5 : T 38 = some (.go bE) := rfl
theorem W4 : T 39 = some (.go eE) := rfl
theorem W3 : T 40 = some (.go fE) := rfl
theorem W2 : T 41 = some (.go bJ) := rfl
theorem W1 : T 42 = some (.go cm) := rfl
theorem W0 : T 43 = some (.go bq) := rfl
theorem WZ : T 47 = some (.go fm) := rfl
theorem WY : T 48 = some (.go gq) := rfl
theorem WX : T 49 = some (.go eA) := rfl
theorem WW : T 50 = some (.go iD) := rfl
theorem WV : T 51 = some (.go gj) := rfl
theorem WU : T 52 = some (.go j7) := rfl
theorem WT : T 53 = some (.go dM) := rfl
theorem WS : T 54 = some (.go bZ) := rfl
theorem WR : T 55 = some (.go bC) := rfl
theorem WQ : T 58 = some (.go eC) := rfl
theorem WO : T 59 = some (.go fp) := rfl
theorem WN : T 60 = some (.go gn) := rfl
theorem WM : T 61 = some (.go gl) := rfl
theorem WL : T 62 = some (.go bi) := rfl
theorem WK : T 63 = some (.go bX) := rfl
theorem WJ : T 65 = some (.go bd) := rfl
theorem WI : T 66 = some (.go bp) := rfl
theorem WH : T 69 = some (.go iJ) := rfl
theorem WG : T 70 = some (.go bA) := rfl
theorem WE : T 71 = some (.go dx) := rfl
theorem WD : T 72 = some (.go bB) := rfl
theorem WC : T 73 = some (.go bc) := rfl
theorem WB : T 74 = some (.go bQ) := rfl
end
section
def chunk (e : Nat) : Nat -> List EV -> List (List EV)
 | 0, _ => []
 | n + 1, l => l.take e :: chunk e n (l.drop e)
def qx (cap : Option Nat) (n : Nat) : Bool := match cap with
 | none => true
 | some c => n.ble c
mutual
def kA (F : List EV -> Option (List EV)) (m : Mem) : EV -> Option EV
 | .slice b off n cap => match m.get b with
  | .cells cs e _ _ => bif qx cap n then (bif (off + n * e).ble cs.length then (F ((cs.drop off).take (n * e))).map fun ys => .fz 0 e (chunk e n ys) else none) else none
  | _ => none
 | .agg xs => (e8 F m xs).map .agg
 | .tuple xs => (e8 F m xs).map .tuple
 | .iface t v => (kA F m v).map (.iface t)
 | .func f x y => match e8 F m x, e8 F m y with
  | some x, some y => some (.func f x y)
  | _, _ => none
 | .fz _ e els => some (.fz 0 e els)
 | .ptr _ _ | .map _ | .dl _ _ _ _ => none
 | .undef => some .undef
 | .bool b => some (.bool b)
 | .int k n => some (.int k n)
 | .str s => some (.str s)
 | .bb => some .bb
 | .aa => some .aa
 | .aS => some .aS
 | .aR => some .aR
 | .aq => some .aq
def e8 (F : List EV -> Option (List EV)) (m : Mem) : List EV -> Option (List EV)
 | [] => some []
 | v :: l => match kA F m v, e8 F m l with
  | some v, some l => some (v :: l)
  | _, _ => none
end
def bj : Nat -> Mem -> List EV -> Option (List EV)
 | 0, _, _ => none
 | d + 1, m, l => e8 (bj d m) m l
mutual
def closed : EV -> Bool
 | .ptr _ _ | .slice _ _ _ _ | .map _ | .dl _ _ _ _ => false
 | .func _ x y => dw x && dw y
 | .iface _ v => closed v
 | .agg x | .tuple x => dw x
 | _ => true
def dw : List EV -> Bool
 | [] => true
 | v :: x => closed v && dw x
end
theorem mq {e : Nat} : ∀ (n : Nat) (l : List EV), (chunk e n l).length = n
 | 0, _ => rfl
 | n + 1, l => by simp [chunk, mq n]
theorem xi {e : Nat} : ∀ (n : Nat) (l : List EV), l.length = n * e -> (∀ el ∈ chunk e n l, el.length = e) /\ (chunk e n l).flatten = l
 | 0, l, h => by
  rw [Nat.zero_mul] at h;have := List.eq_nil_of_length_eq_zero h
  subst this; simp [chunk]
 | n + 1, l, h => by
  rw [Nat.succ_mul] at h;obtain ⟨h1, h2⟩ := xi (e := e) n (l.drop e) (by rw [Lv]; omega)
  refine ⟨fun el uq => ?_, ?_⟩
  ·simp only [chunk, lj] at uq
   rcases uq with rfl | uq
   ·rw [List.length_take]; omega
   ·exact h1 el uq
  ·simp only [chunk, List.flatten_cons, h2, List.take_append_drop]
open Classical in
noncomputable def bF.end_ (θ : bF) (m' : Mem) : bF := ⟨fun _ => none, fun _ => none, fun c => if ∃ b, θ.eU b = some c then some (m'.get c) else θ.eF c⟩
theorem NT {θ : bF} {m' : Mem} {b c : Nat} (h : θ.eU b = some c) : (θ.end_ m').eF c = some (m'.get c) := by
 unfold bF.end_; simp only; exact if_pos ⟨b, h⟩
theorem yr {θ : bF} {m' : Mem} {c : Nat} {B : cY} (h : (θ.end_ m').eF c = some B) : ((∃ b, θ.eU b = some c) /\ B = m'.get c) \/ θ.eF c = some B := by
 unfold bF.end_ at h; simp only at h
 split at h
 ·rename_i hx; cases h; exact .inl ⟨hx, rfl⟩
 ·exact .inr h
theorem Ei {θ : bF} {m' : Mem} {n n' : Nat} (k : lI θ n n') : bF.Ext θ.low (θ.end_ m') := by
 refine ⟨fun _ _ h => (by simp [bF.low] at h), fun _ _ h => (by simp [bF.low] at h), fun c B h => ?_⟩
 have h' : θ.eF c = some B := h
 unfold bF.end_; simp only
 rw [if_neg, h']
 rintro ⟨b, hb⟩
 rw [k.off b c hb] at h'; cases h'
theorem SR.low {θ : bF} {e : Nat} {els : List (List EV)} {b off : Nat} (h : SR θ e els b off) : SR θ.low e els b off := by
 cases h with | mk hs hl hn hx => exact .mk hs hl hn hx
section
variable {θ : bF} {m m' : Mem} {F : List EV -> Option (List EV)}
theorem cj.xH {l' : List EV} (h : cj θ [] l') : l' = [] := by cases h; rfl
theorem cj.cons_inv {v : EV} {l l' : List EV} (h : cj θ (v :: l) l') : ∃ v' r', l' = v' :: r' /\ SV θ v v' /\ cj θ l r' := by
 cases h with | cons h hs => exact ⟨_, _, rfl, h, hs⟩
theorem wV {v : EV} {l r : List EV} (h : e8 F m (v :: l) = some r) : ∃ a b, kA F m v = some a /\ e8 F m l = some b /\ r = a :: b := by
 simp only [e8] at h
 cases h1 : kA F m v with
 | none => simp [h1] at h
 | some a =>
  cases h2 : e8 F m l with
  | none => simp [h1, h2] at h
  | some b => simp only [h1, h2, aQ] at h; exact ⟨a, b, rfl, rfl, h.symm⟩
mutual
theorem EC (hg : ed θ m m') (hF : ∀ l r l', F l = some r -> cj θ l l' -> cj (θ.end_ m') r l') : ∀ {v r v' : EV}, kA F m v = some r -> SV θ v v' -> SV (θ.end_ m') r v'
 | .undef, r, v', h, hv => by cases hv; cases h; exact .undef
 | .bool b, r, v', h, hv => by cases hv; cases h; exact .bool b
 | .int k n, r, v', h, hv => by cases hv; cases h; exact .int k n
 | .str s, r, v', h, hv => by cases hv; cases h; exact .str s
 | .bb, r, v', h, hv => by cases hv; cases h; exact .bb
 | .aa, r, v', h, hv => by cases hv; cases h; exact .aa
 | .aS, r, v', h, hv => by cases hv; cases h; exact .aS
 | .aR, r, v', h, hv => by cases hv; cases h; exact .aR
 | .aq, r, v', h, hv => by cases hv; cases h; exact .aq
 | .ptr _ _, r, v', h, hv => by simp [kA] at h
 | .map _, r, v', h, hv => by simp [kA] at h
 | .dl _ _ _ _, r, v', h, hv => by simp [kA] at h
 | .fz t e els, r, v', h, hv => by
  simp only [kA, aQ] at h; subst h
  cases hv with
  | fz hr ht hc => exact .fz (hr.low.ext (Ei hg.ok)) (.inl rfl) hc
  | sF ht => exact .sF (.inl rfl)
 | .slice b off n cap, r, v', h, hv => by
  cases hv with
  | @slice _ _ c _ _ _ hb =>
  simp only [kA] at h;have hB := hg.bT b c hb
  cases P9 : m.get b with
  | dead => simp [P9] at h
  | map es => simp [P9] at h
  | cells cs e k ro =>
   rw [P9] at hB;obtain ⟨iQ, oC, hs⟩ := hB
   simp only [P9] at h
   cases GN : qx cap n <;> simp only [GN, cond_true, cond_false, reduceCtorEq] at h
   cases hl : (off + n * e).ble cs.length <;> simp only [hl, cond_true, cond_false, reduceCtorEq] at h
   have hle := lk hl
   obtain ⟨ys, hy, rfl⟩ := fG.1 h
   have MJ := hF _ _ _ hy ((hs.drop off).take (n * e))
   have Q1 : ys.length = n * e := by rw [MJ.length, List.length_take, Lv, <- hs.length]; omega
   obtain ⟨q1, q2⟩ := xi n ys Q1
   have cx := NT (m' := m') hb
   rw [oC] at cx;have hr : SR (θ.end_ m') e (chunk e n ys) c off := .mk cx q1 (by rw [mq, <- hs.length]; exact hle) (by rw [q2, mq]; exact MJ)
   have := SV.fz (t := 0) (cap := cap) hr (.inl rfl) (fun q hq => by subst hq; rw [mq]; exact lk GN)
   rw [mq] at this; exact this
 | .agg x, r, v', h, hv => by
  simp only [kA] at h;obtain ⟨y, hy, rfl⟩ := fG.1 h
  cases hv with | agg hx => exact .agg (mf hg hF hy hx)
 | .tuple x, r, v', h, hv => by
  simp only [kA] at h;obtain ⟨y, hy, rfl⟩ := fG.1 h
  cases hv with | tuple hx => exact .tuple (mf hg hF hy hx)
 | .iface t x, r, v', h, hv => by
  simp only [kA] at h;obtain ⟨y, hy, rfl⟩ := fG.1 h
  cases hv with | iface hx => exact .iface (EC hg hF hy hx)
 | .func f x y, r, v', h, hv => by
  simp only [kA] at h
  cases h1 : e8 F m x with
  | none => simp [h1] at h
  | some a =>
   cases h2 : e8 F m y with
   | none => simp [h1, h2] at h
   | some b =>
    simp only [h1, h2, aQ] at h; subst h
    cases hv with | func hx hy => exact .func (mf hg hF h1 hx) (mf hg hF h2 hy)
theorem mf (hg : ed θ m m') (hF : ∀ l r l', F l = some r -> cj θ l l' -> cj (θ.end_ m') r l') : ∀ {l r l' : List EV}, e8 F m l = some r -> cj θ l l' -> cj (θ.end_ m') r l'
 | [], r, l', h, hv => by
  have := hv.xH; subst this
  simp only [e8, aQ] at h; subst h; exact .nil
 | v :: l, r, l', h, hv => by
  obtain ⟨a, b, h1, h2, rfl⟩ := wV h
  obtain ⟨v', r', rfl, g1, g2⟩ := hv.cons_inv
  exact .cons (EC hg hF h1 g1) (mf hg hF h2 g2)
end
theorem nL (hg : ed θ m m') : ∀ (d : Nat) (l r l' : List EV), bj d m l = some r -> cj θ l l' -> cj (θ.end_ m') r l'
 | 0, l, r, l', h, _ => by simp [bj] at h
 | d + 1, l, r, l', h, hv => mf hg (nL hg d) h hv
mutual
theorem uz : ∀ {v r v' : EV}, kA F m v = some r -> closed v = true -> SV θ v v' -> SV θ.low r v'
 | .undef, r, v', h, _, hv => by cases hv; cases h; exact .undef
 | .bool b, r, v', h, _, hv => by cases hv; cases h; exact .bool b
 | .int k n, r, v', h, _, hv => by cases hv; cases h; exact .int k n
 | .str s, r, v', h, _, hv => by cases hv; cases h; exact .str s
 | .bb, r, v', h, _, hv => by cases hv; cases h; exact .bb
 | .aa, r, v', h, _, hv => by cases hv; cases h; exact .aa
 | .aS, r, v', h, _, hv => by cases hv; cases h; exact .aS
 | .aR, r, v', h, _, hv => by cases hv; cases h; exact .aR
 | .aq, r, v', h, _, hv => by cases hv; cases h; exact .aq
 | .ptr _ _, r, v', h, _, hv => by simp [kA] at h
 | .map _, r, v', h, _, hv => by simp [kA] at h
 | .dl _ _ _ _, r, v', h, _, hv => by simp [kA] at h
 | .slice _ _ _ _, r, v', h, hc, hv => by simp [closed] at hc
 | .fz t e els, r, v', h, _, hv => by
  simp only [kA, aQ] at h; subst h
  cases hv with
  | fz hr ht hc => exact .fz hr.low (.inl rfl) hc
  | sF ht => exact .sF (.inl rfl)
 | .agg x, r, v', h, hc, hv => by
  simp only [kA] at h;obtain ⟨y, hy, rfl⟩ := fG.1 h
  cases hv with | agg hx => exact .agg (iw hy (by simpa only [closed] using hc) hx)
 | .tuple x, r, v', h, hc, hv => by
  simp only [kA] at h;obtain ⟨y, hy, rfl⟩ := fG.1 h
  cases hv with | tuple hx => exact .tuple (iw hy (by simpa only [closed] using hc) hx)
 | .iface t x, r, v', h, hc, hv => by
  simp only [kA] at h;obtain ⟨y, hy, rfl⟩ := fG.1 h
  cases hv with | iface hx => exact .iface (uz hy (by simpa only [closed] using hc) hx)
 | .func f x y, r, v', h, hc, hv => by
  simp only [kA] at h;simp only [closed, kD] at hc
  cases h1 : e8 F m x with
  | none => simp [h1] at h
  | some a =>
   cases h2 : e8 F m y with
   | none => simp [h1, h2] at h
   | some b =>
    simp only [h1, h2, aQ] at h; subst h
    cases hv with | func hx hy => exact .func (iw h1 hc.1 hx) (iw h2 hc.2 hy)
theorem iw : ∀ {l r l' : List EV}, e8 F m l = some r -> dw l = true -> cj θ l l' -> cj θ.low r l'
 | [], r, l', h, _, hv => by
  have := hv.xH; subst this
  simp only [e8, aQ] at h; subst h; exact .nil
 | v :: l, r, l', h, hc, hv => by
  simp only [dw, kD] at hc;obtain ⟨a, b, h1, h2, rfl⟩ := wV h
  obtain ⟨v', r', rfl, g1, g2⟩ := hv.cons_inv
  exact .cons (uz h1 hc.1 g1) (iw h2 hc.2 g2)
end
def dW : Nat -> List EV -> List EV
 | _, [] => []
 | i, v :: r => (match v with | .fz _ e els => .fz i e els | v => v) :: dW (i + 1) r
def Ia (l : List EV) (t : Nat) : Option (Nat × Nat × Option Nat) := match l[t - 1]? with
 | some (.slice b off _ cap) => some (b, off, cap)
 | _ => none
theorem sL {S : Nat -> Option cY} {tg : Nat -> Option (Nat × Nat × Option Nat)} : ∀ (l l' : List EV) (i : Nat), (∀ j b off n cap, l'[j]? = some (.slice b off n cap) -> tg (i + j) = some (b, off, cap)) -> cj ⟨fun _ => none, fun _ => none, S⟩ l l' -> cj ⟨fun _ => none, tg, S⟩ (dW i l) l'
 | [], l', i, _, h => by have := h.xH; subst this; exact .nil
 | v :: l, l', i, ht, h => by
  obtain ⟨v', r', rfl, g1, g2⟩ := h.cons_inv
  have e : bF.Ext ⟨fun _ => none, fun _ => none, S⟩ ⟨fun _ => none, tg, S⟩ := ⟨fun _ _ h => by simp at h, fun _ _ h => by simp at h, fun _ _ h => h⟩
  refine .cons ?_ (sL l r' (i + 1) (fun j b off n cap hj => by have := ht (j + 1) b off n cap (by simpa using hj); rw [show i + 1 + j = i + (j + 1) by omega]; exact this) g2)
  have iY : SV ⟨fun _ => none, tg, S⟩ v v' := g1.ext e
  cases v <;> try exact iY
  cases g1 with
  | fz hr _ hc => exact .fz (hr.ext e) (.inr (by have := ht 0 _ _ _ _ rfl; exact this)) hc
  | sF _ => exact .sF (.inr (by have := ht 0 _ _ _ _ rfl; exact this))
theorem tf (l : List EV) : ∀ j b off n cap, l[j]? = some (.slice b off n cap) -> Ia l (1 + j) = some (b, off, cap) := by
 intro j b off n cap h
 unfold Ia;rw [show 1 + j - 1 = j by omega, h]
end
def cu : Mem := ⟨0, .leaf⟩
theorem Gi (b : Nat) : cu.get b = .dead := Jc 0 b
def deep : Nat := 8
def gK (g : List EV -> Option EV) (args : List EV) (m : Mem) : Option Fin := match bj deep m args with
 | some cM => match g (dW 1 cM) with
  | some V => bif Flat V then some (.ret V m) else none
  | none => none
 | none => none
def fu (g : List EV -> Option EV) (args : List EV) (m : Mem) : Option Fin := bif dw args then match bj deep m args with
 | some cM => match g (dW 1 cM) with
  | some V => some (.ret V ⟨m.next + 1, m.kl⟩)
  | none => none
 | none => none else none
noncomputable def gW (T : Nat -> Option fg) (F : ar) (cM : List EV) : Option EV := bif cM.length.ble F.ntmps then
 match nu F (exec T F.body ⟨bO cM 0 .leaf, []⟩ cu) with
 | some (.ret v m) => match bj deep m [v] with
  | some [V] => some V
  | _ => none
 | _ => none else none
section
variable {T T1 : Nat -> Option fg}
theorem N4 {F : ar} {cM : List EV} {fin : Fin} (hl : cM.length.ble F.ntmps = true) (h : nu F (exec T1 F.body ⟨bO cM 0 .leaf, []⟩ cu) = some fin) : ∃ n, cf (aC T1 n) n F cM cu = some fin := by
 cases hc : exec T1 F.body ⟨bO cM 0 .leaf, []⟩ cu with
 | none => simp [hc, nu] at h
 | some o =>
  obtain ⟨n, hn⟩ := bn.1 hc
  refine ⟨n, ?_⟩
  rw [hc] at h;simp only [cf, hl, cond_true, hn]
  cases o <;> exact h
theorem NJ {F : ar} {cM : List EV} {fin : Fin} {n : Nat} (h : cf (aC T1 n) n F cM cu = some fin) : cM.length.ble F.ntmps = true /\ nu F (exec T1 F.body ⟨bO cM 0 .leaf, []⟩ cu) = some fin := by
 unfold cf at h
 cases hl : cM.length.ble F.ntmps <;> simp only [hl, cond_true, cond_false, reduceCtorEq] at h
 refine ⟨rfl, ?_⟩
 cases hc : ah (aC T1 n) n F.body ⟨bO cM 0 .leaf, []⟩ cu with
 | none => simp [hc] at h
 | some o =>
  rw [bn.2 ⟨n, hc⟩];simp only [hc] at h
  cases o <;> exact h
theorem rn {F : ar} {cM : List EV} {V : EV} (h : gW T1 F cM = some V) : ∃ n v m, cf (aC T1 n) n F cM cu = some (.ret v m) /\ bj deep m [v] = some [V] := by
 unfold gW at h
 cases hl : cM.length.ble F.ntmps <;> simp only [hl, cond_true, cond_false, reduceCtorEq] at h
 cases hr : nu F (exec T1 F.body ⟨bO cM 0 .leaf, []⟩ cu) with
 | none => simp [hr] at h
 | some fin =>
  cases fin with
  | dZ v m => simp [hr] at h
  | ret v m =>
   simp only [hr] at h;obtain ⟨n, hn⟩ := N4 hl hr
   refine ⟨n, v, m, hn, ?_⟩
   split at h
   ·rename_i q; cases h; exact q
   ·cases h
theorem nU {F : ar} {cM : List EV} {V v : EV} {m : Mem} {n : Nat} (h : cf (aC T1 n) n F cM cu = some (.ret v m)) (hv : bj deep m [v] = some [V]) : gW T1 F cM = some V := by
 obtain ⟨h1, h2⟩ := NJ h
 unfold gW;simp only [h1, cond_true, h2, hv]
theorem pure_run (h1 : ∀ f e, T1 f = some e -> fU T f e) {f : Nat} {F : ar} (hT : T f = some (.go F)) (cy : jx F = true) {cM : List EV} {V : EV} (h : gW T1 F.sub cM = some V) {tg : Nat -> Option (Nat × Nat × Option Nat)} {S : Nat -> Option cY} {m' : Mem} {aj : List EV}
  (GF : ∀ b B, S b = some B -> m'.get b = B /\ b < m'.next) (ha : cj ⟨fun _ => none, tg, S⟩ cM aj) (JY : jD ⟨fun _ => none, tg, S⟩) :
  ∃ v' m1 dO θ, run T f aj m' = some (.ret v' dO) /\ ko ⟨fun _ => none, tg, S⟩ cu m' θ m1 dO /\ ed θ m1 dO /\ SV (θ.end_ dO) V v' := by
 obtain ⟨n, v, m, hb, hf⟩ := rn h
 have hg : ed ⟨fun _ => none, tg, S⟩ cu m' := ⟨⟨⟨fun b c hb => by simp at hb, fun b _ => Gi b⟩, fun b B hb => (GF b B hb).1⟩, ⟨fun b c hb => by simp at hb, fun a b c hb => by simp at hb, fun b c hb => by simp at hb, fun b B hb => (GF b B hb).2⟩, JY⟩
 obtain ⟨θ, CX, e, hs, cx⟩ := A7 (ye h1 n) n hT cy hb hg ha
 cases hs with
 | @ret _ v' _ dO hv hg1 =>
  have := nL hg1 deep [v] [V] [v'] hf (.cons hv .nil)
  obtain ⟨w, r, hw, q1, q2⟩ := this.cons_inv
  cases hw
  exact ⟨v', m, dO, θ, e, cx, hg1, q1⟩
theorem wu (h1 : ∀ f e, T1 f = some e -> fU T f e) {f : Nat} {F : ar} (hT : T f = some (.go F)) (cy : jx F = true) {g : List EV -> Option EV} (hg : ∀ cM V, g cM = some V -> gW T1 F.sub cM = some V) : fU T f (.spec (gK g)) := by
 intro θ m m' args aj fin kz ha h
 unfold gK at h
 cases hfz : bj deep m args with
 | none => simp [hfz] at h
 | some cM =>
  simp only [hfz] at h
  cases hv : g (dW 1 cM) with
  | none => simp [hv] at h
  | some V =>
   simp only [hv] at h
   cases Br : Flat V <;> simp only [Br, cond_true, cond_false, reduceCtorEq, aQ] at h
   subst h;have hs := nL kz deep args cM aj hfz ha
   obtain ⟨v', m1, dO, θ1, e, cx, hg1, qb⟩ := pure_run h1 hT cy (hg _ _ hv) (m' := m') (S := (θ.end_ m').eF) (fun b B hb => by
    rcases yr hb with ⟨⟨x, hx⟩, rfl⟩ | hb
    ·exact ⟨rfl, (kz.ok.eU x b hx).2⟩
    ·exact ⟨kz.eF b B hb, kz.ok.eF b B hb⟩) (sL cM aj 1 (tf aj) hs) (kz.vk.down ⟨fun _ _ h => (by simp [bF.low] at h), fun _ _ h => (by simp [bF.low] at h), (Ei kz.ok).eF⟩)
   have := qb.flat Br
   subst this;have iY : ∀ c, c < m'.next -> dO.get c = m'.get c := fun c hc => cx.iY c hc fun b hb => by simp at hb
   refine ⟨θ, _, e, .ret (SV.of_flat Br) ⟨⟨⟨fun b c hb => ?_, kz.cl⟩, fun b B hb => ?_⟩, ⟨fun b c hb => ⟨(kz.ok.eU b c hb).1, ve (kz.ok.eU b c hb).2 cx.n2⟩, kz.ok.inj, kz.ok.off, fun b B hb => ve (kz.ok.eF b B hb) cx.n2⟩, kz.vk⟩,
    ⟨.refl θ, fun _ _ h => .inl h, fun _ _ h => .inl h, ee _, cx.n2, fun c hc _ => iY c hc⟩⟩
   ·rw [iY c (kz.ok.eU b c hb).2]; exact kz.bT b c hb
   ·rw [iY b (kz.ok.eF b B hb)]; exact kz.eF b B hb
theorem wq (h1 : ∀ f e, T1 f = some e -> fU T f e) {f : Nat} {F : ar} (hT : T f = some (.go F)) (cy : jx F = true) {g : List EV -> Option EV} (hg : ∀ cM V, g cM = some V -> gW T1 F.sub cM = some V) : fU T f (.spec (fu g)) := by
 intro θ m m' args aj fin kz ha h
 unfold fu at h
 cases mN : dw args <;> simp only [mN, cond_true, cond_false, reduceCtorEq] at h
 cases hfz : bj deep m args with
 | none => simp [hfz] at h
 | some cM =>
  simp only [hfz] at h
  cases hv : g (dW 1 cM) with
  | none => simp [hv] at h
  | some V =>
   simp only [hv, aQ] at h;subst h;have hs : cj θ.low cM aj := iw (F := bj 7 m) (m := m) hfz mN ha
   obtain ⟨v', m1, dO, θ1, e, cx, hg1, qb⟩ := pure_run h1 hT cy (hg _ _ hv) (m' := m') (S := θ.eF) (fun b B hb => ⟨kz.eF b B hb, kz.ok.eF b B hb⟩) (sL cM aj 1 (tf aj) hs) (kz.vk.down ⟨fun _ _ h => (by simp [bF.low] at h), fun _ _ h => (by simp [bF.low] at h), fun _ _ h => h⟩)
   have iY : ∀ c, c < m'.next -> dO.get c = m'.get c := fun c hc => cx.iY c hc fun b hb => by simp at hb
   let θ2 : bF := ⟨θ.eU, θ.tag, fun c => if c < m'.next then θ.eF c else (θ1.end_ dO).eF c⟩
   have s1 : ∀ c, c < m'.next -> θ2.eF c = θ.eF c := fun c hc => if_pos hc
   have s2 : ∀ c, ¬ c < m'.next -> θ2.eF c = (θ1.end_ dO).eF c := fun c hc => if_neg hc
   have Yv : ∀ c B, (θ1.end_ dO).eF c = some B -> dO.get c = B /\ c < dO.next := by
    intro c B hb
    rcases yr hb with ⟨⟨x, hx⟩, rfl⟩ | hb
    ·exact ⟨rfl, (hg1.ok.eU x c hx).2⟩
    ·exact ⟨hg1.eF c B hb, hg1.ok.eF c B hb⟩
   have Ws : bF.Ext (θ1.end_ dO) θ2 := by
    refine ⟨fun _ _ h => (by simp [bF.end_] at h), fun _ _ h => (by simp [bF.end_] at h), fun c B hb => ?_⟩
    by_cases hc : c < m'.next
    ·rw [s1 c hc]
     rcases yr hb with ⟨⟨x, hx⟩, rfl⟩ | hb
     ·rcases cx.eU x c hx with q | ⟨_, q⟩
      ·simp at q
      ·omega
     ·rcases cx.eF c B hb with q | ⟨q, _⟩
      ·exact q
      ·omega
    ·rw [s2 c hc]; exact hb
   have ext : bF.Ext θ θ2 := ⟨fun _ _ h => h, fun _ _ h => h, fun c B hb => by rw [s1 c (kz.ok.eF c B hb)]; exact hb⟩
   refine ⟨θ2, _, e, .ret (qb.ext Ws) ⟨⟨⟨fun b c hb => ?_, kz.cl⟩, fun c B hb => ?_⟩, ⟨fun b c hb => ⟨Nat.lt_succ_of_lt (kz.ok.eU b c hb).1, ve (kz.ok.eU b c hb).2 cx.n2⟩, kz.ok.inj, fun b c hb => ?_, fun c B hb => ?_⟩, kz.vk.ext ext⟩,
    ⟨ext, fun _ _ h => .inl h, fun c B hb => ?_, Nat.le_succ _, cx.n2, fun c hc _ => iY c hc⟩⟩
   ·have := kz.ok.eU b c hb
    rw [iY c this.2]; exact (kz.bT b c hb).ext ext
   ·by_cases hc : c < m'.next
    ·rw [s1 c hc] at hb; rw [iY c hc]; exact kz.eF c B hb
    ·rw [s2 c hc] at hb; exact (Yv c B hb).1
   ·rw [s1 c (kz.ok.eU b c hb).2]; exact kz.ok.off b c hb
   ·by_cases hc : c < m'.next
    ·exact ve hc cx.n2
    ·rw [s2 c hc] at hb; exact (Yv c B hb).2
   ·by_cases hc : c < m'.next
    ·rw [s1 c hc] at hb; exact .inl hb
    ·exact .inr ⟨Nat.le_of_not_lt hc, Nat.lt_succ_self _⟩
end
end
end Go.Proofs.YtblcomejcahkdaaDoor.Ev
