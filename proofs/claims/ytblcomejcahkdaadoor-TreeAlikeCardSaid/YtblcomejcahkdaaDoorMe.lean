/- EvFz, EvSub, EvFzOp, EvFzOps, EvFzRun, EvJn, EvIt, EvT, EvPure. -/
import Derived.Test.YtblcomejcahkdaaDoorMd
set_option linter.unusedSimpArgs false
set_option linter.unusedVariables false
set_option linter.unusedSectionVars false
section
namespace Go.Proofs.YtblcomejcahkdaaDoor.Ev
open Go

structure Tie where
  ren : Nat → Option Nat
  tag : Nat → Option (Nat × Nat × Option Nat)
  sta : Nat → Option Blk

def Tie.low (θ : Tie) : Tie := ⟨fun _ => none, fun _ => none, θ.sta⟩
mutual
inductive SV : Tie → EV → EV → Prop
  | undef {θ : Tie} : SV θ .undef .undef
  | bool {θ : Tie} (b : Bool) : SV θ (.bool b) (.bool b)
  | int {θ : Tie} (k : IntKind) (n : Int) : SV θ (.int k n) (.int k n)
  | str {θ : Tie} (s : List UInt8) : SV θ (.str s) (.str s)
  | nilptr {θ : Tie} : SV θ .nilptr .nilptr
  | ptr {θ : Tie} {b c off : Nat} (h : θ.ren b = some c) : SV θ (.ptr b off) (.ptr c off)
  | nilslice {θ : Tie} : SV θ .nilslice .nilslice
  | slice {θ : Tie} {b c off len : Nat} {cap : Option Nat} (h : θ.ren b = some c) : SV θ (.slice b off len cap) (.slice c off len cap)
  | nilmap {θ : Tie} : SV θ .nilmap .nilmap
  | map {θ : Tie} {b c : Nat} (h : θ.ren b = some c) : SV θ (.map b) (.map c)
  | nilfunc {θ : Tie} : SV θ .nilfunc .nilfunc
  | func {θ : Tie} {f : Nat} {x y x' y' : List EV} (hx : SVs θ x x') (hy : SVs θ y y') : SV θ (.func f x y) (.func f x' y')
  | niliface {θ : Tie} : SV θ .niliface .niliface
  | iface {θ : Tie} {t : Nat} {v v' : EV} (h : SV θ v v') : SV θ (.iface t v) (.iface t v')
  | agg {θ : Tie} {x x' : List EV} (h : SVs θ x x') : SV θ (.agg x) (.agg x')
  | tuple {θ : Tie} {x x' : List EV} (h : SVs θ x x') : SV θ (.tuple x) (.tuple x')
  | fz {θ : Tie} {t esz : Nat} {els : List (List EV)} {b off : Nat} {cap : Option Nat} (h : SR θ esz els b off) (ht : t = 0 ∨ θ.tag t = some (b, off, cap)) (hc : ∀ c, cap = some c → els.length ≤ c) : SV θ (.fz t esz els) (.slice b off els.length cap)
  | fz0 {θ : Tie} {t esz b off : Nat} (ht : t = 0 ∨ θ.tag t = some (b, off, some 0)) : SV θ (.fz t esz []) (.slice b off 0 (some 0))
  | fptr {θ : Tie} {esz : Nat} {els : List (List EV)} {b off i k o : Nat} (h : SR θ esz els b off) (hi : i < els.length) (ho : o = off + i * esz + k) : SV θ (.fptr esz els i k) (.ptr b o)
inductive SVs : Tie → List EV → List EV → Prop
  | nil {θ : Tie} : SVs θ [] []
  | cons {θ : Tie} {v v' : EV} {x x' : List EV} (h : SV θ v v') (hs : SVs θ x x') : SVs θ (v :: x) (v' :: x')
inductive SR : Tie → Nat → List (List EV) → Nat → Nat → Prop
  | mk {θ : Tie} {esz : Nat} {els : List (List EV)} {b off k : Nat} {cs : List EV} {ro : Bool} (hs : θ.sta b = some (.cells cs esz k ro)) (hl : ∀ el ∈ els, el.length = esz) (hn : off + els.length * esz ≤ cs.length)
      (hx : SVs θ.low els.flatten ((cs.drop off).take (els.length * esz))) : SR θ esz els b off
end

structure Tie.Ext (θ θ' : Tie) : Prop where
  ren : ∀ b c, θ.ren b = some c → θ'.ren b = some c
  tag : ∀ t x, θ.tag t = some x → θ'.tag t = some x
  sta : ∀ b B, θ.sta b = some B → θ'.sta b = some B
theorem Tie.Ext.refl (θ : Tie) : Tie.Ext θ θ := ⟨fun _ _ h => h, fun _ _ h => h, fun _ _ h => h⟩
theorem Tie.Ext.trans {θ θ' θ'' : Tie} (h : Tie.Ext θ θ') (k : Tie.Ext θ' θ'') : Tie.Ext θ θ'' := ⟨fun b c e => k.ren b c (h.ren b c e), fun t x e => k.tag t x (h.tag t x e), fun b B e => k.sta b B (h.sta b B e)⟩
theorem Tie.Ext.low {θ θ' : Tie} (e : Tie.Ext θ θ') : Tie.Ext θ.low θ'.low := ⟨fun _ _ h => h, fun _ _ h => h, e.sta⟩
theorem Tie.low_ext (θ : Tie) : Tie.Ext θ.low θ := ⟨fun _ _ h => (by simp [Tie.low] at h), fun _ _ h => (by simp [Tie.low] at h), fun _ _ h => h⟩
mutual
theorem SV.ext : ∀ {θ θ' : Tie}, Tie.Ext θ θ' → ∀ {v v' : EV}, SV θ v v' → SV θ' v v'
  | _, _, _, _, _, .undef => .undef
  | _, _, _, _, _, .bool b => .bool b
  | _, _, _, _, _, .int k n => .int k n
  | _, _, _, _, _, .str s => .str s
  | _, _, _, _, _, .nilptr => .nilptr
  | _, _, e, _, _, .ptr h => .ptr (e.ren _ _ h)
  | _, _, _, _, _, .nilslice => .nilslice
  | _, _, e, _, _, .slice h => .slice (e.ren _ _ h)
  | _, _, _, _, _, .nilmap => .nilmap
  | _, _, e, _, _, .map h => .map (e.ren _ _ h)
  | _, _, _, _, _, .nilfunc => .nilfunc
  | _, _, e, _, _, .func hx hy => .func (SVs.ext e hx) (SVs.ext e hy)
  | _, _, _, _, _, .niliface => .niliface
  | _, _, e, _, _, .iface h => .iface (SV.ext e h)
  | _, _, e, _, _, .agg h => .agg (SVs.ext e h)
  | _, _, e, _, _, .tuple h => .tuple (SVs.ext e h)
  | _, _, e, _, _, .fz h ht hc => .fz (SR.ext e h) (ht.imp id (e.tag _ _)) hc
  | _, _, e, _, _, .fz0 ht => .fz0 (ht.imp id (e.tag _ _))
  | _, _, e, _, _, .fptr h hi ho => .fptr (SR.ext e h) hi ho
theorem SVs.ext : ∀ {θ θ' : Tie}, Tie.Ext θ θ' → ∀ {v v' : List EV}, SVs θ v v' → SVs θ' v v'
  | _, _, _, _, _, .nil => .nil
  | _, _, e, _, _, .cons h hs => .cons (SV.ext e h) (SVs.ext e hs)
theorem SR.ext : ∀ {θ θ' : Tie}, Tie.Ext θ θ' → ∀ {esz : Nat} {els : List (List EV)} {b off : Nat}, SR θ esz els b off → SR θ' esz els b off
  | _, _, e, _, _, _, _, .mk hs hl hn hx => .mk (e.sta _ _ hs) hl hn (SVs.ext e.low hx)
end

section
variable {θ : Tie}
theorem SVs.length : ∀ {x x' : List EV}, SVs θ x x' → x.length = x'.length
  | _, _, .nil => rfl
  | _, _, .cons _ hs => by simp [SVs.length hs]
theorem SVs.get : ∀ {x x' : List EV}, SVs θ x x' → ∀ {i : Nat} {v : EV}, x[i]? = some v → ∃ v', x'[i]? = some v' ∧ SV θ v v'
  | _, _, .nil, i, v, h => by simp at h
  | _, _, .cons (v' := a') h0 hs, i, v, h => by
    cases i with
    | zero => simp at h; subst h; exact ⟨a', rfl, h0⟩
    | succ i => simp at h; obtain ⟨v', hv, hr⟩ := SVs.get hs h; exact ⟨v', by simpa using hv, hr⟩
theorem SVs.of_get : ∀ {x x' : List EV}, x.length = x'.length → (∀ (i : Nat) (v v' : EV), x[i]? = some v → x'[i]? = some v' → SV θ v v') → SVs θ x x'
  | [], [], _, _ => .nil
  | [], _ :: _, h, _ => by simp at h
  | _ :: _, [], h, _ => by simp at h
  | a :: x, a' :: x', h, hg => .cons (hg 0 a a' rfl rfl) (SVs.of_get (by simpa using h) fun i v v' hv hv' => hg (i + 1) v v' (by simpa using hv) (by simpa using hv'))
theorem SVs.append : ∀ {x y x' y' : List EV}, SVs θ x x' → SVs θ y y' → SVs θ (x ++ y) (x' ++ y')
  | _, _, _, _, .nil, h => h
  | _, _, _, _, .cons h hs, k => .cons h (SVs.append hs k)
theorem SVs.take {x x' : List EV} (h : SVs θ x x') (n : Nat) : SVs θ (x.take n) (x'.take n) := by
  refine SVs.of_get (by simp [h.length]) fun i v v' hv hv' => ?_
  rw [List.getElem?_take] at hv hv'
  split at hv
  · rename_i hlt
    obtain ⟨u, hu, hr⟩ := h.get hv
    rw [if_pos hlt, hu] at hv'; cases hv'; exact hr
  · cases hv
theorem SVs.drop {x x' : List EV} (h : SVs θ x x') (n : Nat) : SVs θ (x.drop n) (x'.drop n) := by
  refine SVs.of_get (by simp [h.length]) fun i v v' hv hv' => ?_
  rw [List.getElem?_drop] at hv hv'
  obtain ⟨u, hu, hr⟩ := h.get hv
  rw [hu] at hv'; cases hv'; exact hr
theorem SVs.map {α : Type} (f g : α → EV) : ∀ {l : List α}, (∀ a ∈ l, SV θ (f a) (g a)) → SVs θ (l.map f) (l.map g)
  | [], _ => .nil
  | a :: l, h => .cons (h a (by simp)) (SVs.map f g fun b hb => h b (by simp [hb]))
theorem SVs.replicate {v v' : EV} (h : SV θ v v') : ∀ n : Nat, SVs θ (List.replicate n v) (List.replicate n v')
  | 0 => .nil
  | n + 1 => .cons h (SVs.replicate h n)
mutual
theorem SV.of_flat : ∀ {v : EV}, Flat v = true → SV θ v v
  | .undef, _ => .undef
  | .bool b, _ => .bool b
  | .int k n, _ => .int k n
  | .str s, _ => .str s
  | .nilptr, _ => .nilptr
  | .ptr _ _, h => by simp [Flat] at h
  | .nilslice, _ => .nilslice
  | .slice _ _ _ _, h => by simp [Flat] at h
  | .nilmap, _ => .nilmap
  | .map _, h => by simp [Flat] at h
  | .nilfunc, _ => .nilfunc
  | .func f x y, h => by simp only [Flat, Bool.and_eq_true] at h; exact .func (SVs.of_flat h.1) (SVs.of_flat h.2)
  | .niliface, _ => .niliface
  | .iface t v, h => .iface (SV.of_flat (by simpa only [Flat] using h))
  | .agg x, h => .agg (SVs.of_flat (by simpa only [Flat] using h))
  | .tuple x, h => .tuple (SVs.of_flat (by simpa only [Flat] using h))
  | .fz _ _ _, h => by simp [Flat] at h
  | .fptr _ _ _ _, h => by simp [Flat] at h
theorem SVs.of_flat : ∀ {x : List EV}, flats x = true → SVs θ x x
  | [], _ => .nil
  | v :: x, h => by simp only [flats, Bool.and_eq_true] at h; exact .cons (SV.of_flat h.1) (SVs.of_flat h.2)
end
mutual
theorem SV.flat : ∀ {v v' : EV}, SV θ v v' → Flat v = true → v' = v
  | _, _, .undef, _ | _, _, .bool _, _ | _, _, .int _ _, _ | _, _, .str _, _ | _, _, .nilptr, _ | _, _, .nilslice, _ | _, _, .nilmap, _ | _, _, .nilfunc, _ | _, _, .niliface, _ => rfl
  | _, _, .ptr _, h => by simp [Flat] at h
  | _, _, .slice _, h => by simp [Flat] at h
  | _, _, .map _, h => by simp [Flat] at h
  | _, _, .func hx hy, h => by simp only [Flat, Bool.and_eq_true] at h; rw [SVs.flat hx h.1, SVs.flat hy h.2]
  | _, _, .iface hv, h => by rw [SV.flat hv (by simpa only [Flat] using h)]
  | _, _, .agg hx, h => by rw [SVs.flat hx (by simpa only [Flat] using h)]
  | _, _, .tuple hx, h => by rw [SVs.flat hx (by simpa only [Flat] using h)]
  | _, _, .fz _ _ _, h => by simp [Flat] at h
  | _, _, .fz0 _, h => by simp [Flat] at h
  | _, _, .fptr _ _ _, h => by simp [Flat] at h
theorem SVs.flat : ∀ {x x' : List EV}, SVs θ x x' → flats x = true → x' = x
  | _, _, .nil, _ => rfl
  | _, _, .cons h hs, k => by simp only [flats, Bool.and_eq_true] at k; rw [SV.flat h k.1, SVs.flat hs k.2]
end
mutual
theorem SV.fn : ∀ {a b c : EV}, SV θ a b → SV θ a c → Told a = true → b = c
  | _, _, _, .undef, h, _ => by cases h; rfl
  | _, _, _, .bool _, h, _ => by cases h; rfl
  | _, _, _, .int _ _, h, _ => by cases h; rfl
  | _, _, _, .str _, h, _ => by cases h; rfl
  | _, _, _, .nilptr, h, _ => by cases h; rfl
  | _, _, _, .ptr h, k, _ => by cases k with | ptr k => rw [h] at k; cases k; rfl
  | _, _, _, .nilslice, h, _ => by cases h; rfl
  | _, _, _, .slice h, k, _ => by cases k with | slice k => rw [h] at k; cases k; rfl
  | _, _, _, .nilmap, h, _ => by cases h; rfl
  | _, _, _, .map h, k, _ => by cases k with | map k => rw [h] at k; cases k; rfl
  | _, _, _, .nilfunc, h, _ => by cases h; rfl
  | _, _, _, .func hx hy, k, t => by
    simp only [Told, Bool.and_eq_true] at t
    cases k with | func kx ky => rw [SVs.fn hx kx t.1, SVs.fn hy ky t.2]
  | _, _, _, .niliface, h, _ => by cases h; rfl
  | _, _, _, .iface h, k, t => by cases k with | iface k => rw [SV.fn h k (by simpa only [Told] using t)]
  | _, _, _, .agg h, k, t => by cases k with | agg k => rw [SVs.fn h k (by simpa only [Told] using t)]
  | _, _, _, .tuple h, k, t => by cases k with | tuple k => rw [SVs.fn h k (by simpa only [Told] using t)]
  | _, _, _, .fz _ ht _, k, t => by
    simp only [Told, Bool.and_eq_true, Bool.not_eq_true'] at t
    have hne := of_beq_ff t.1
    cases k with
    | fz _ kt _ =>
      rcases ht with ht | ht
      · exact absurd ht hne
      · rcases kt with kt | kt
        · exact absurd kt hne
        · rw [ht] at kt; cases kt; rfl
    | fz0 kt =>
      rcases ht with ht | ht
      · exact absurd ht hne
      · rcases kt with kt | kt
        · exact absurd kt hne
        · rw [ht] at kt; cases kt; rfl
  | _, _, _, .fz0 ht, k, t => by
    simp only [Told, Bool.and_eq_true, Bool.not_eq_true'] at t
    have hne := of_beq_ff t.1
    generalize hn : ([] : List (List EV)) = els at k
    cases k with
    | fz _ kt _ =>
      subst hn
      rcases ht with ht | ht
      · exact absurd ht hne
      · rcases kt with kt | kt
        · exact absurd kt hne
        · rw [ht] at kt; cases kt; rfl
    | fz0 kt =>
      rcases ht with ht | ht
      · exact absurd ht hne
      · rcases kt with kt | kt
        · exact absurd kt hne
        · rw [ht] at kt; cases kt; rfl
  | _, _, _, .fptr _ _ _, _, t => by simp [Told] at t
theorem SVs.fn : ∀ {a b c : List EV}, SVs θ a b → SVs θ a c → Tolds a = true → b = c
  | _, _, _, .nil, h, _ => by cases h; rfl
  | _, _, _, .cons h hs, k, t => by
    simp only [Tolds, Bool.and_eq_true] at t
    cases k with | cons k ks => rw [SV.fn h k t.1, SVs.fn hs ks t.2]
end
mutual
theorem SV.told : ∀ {a b : EV}, SV θ a b → Told b = true
  | _, _, .undef | _, _, .bool _ | _, _, .int _ _ | _, _, .str _ | _, _, .nilptr | _, _, .ptr _ | _, _, .nilslice | _, _, .slice _ | _, _, .nilmap | _, _, .map _ | _, _, .nilfunc | _, _, .niliface | _, _, .fz _ _ _ | _, _, .fz0 _ | _, _, .fptr _ _ _ => rfl
  | _, _, .func hx hy => by simp only [Told, SVs.told hx, SVs.told hy, Bool.and_self]
  | _, _, .iface h => by simp only [Told]; exact SV.told h
  | _, _, .agg h => by simp only [Told]; exact SVs.told h
  | _, _, .tuple h => by simp only [Told]; exact SVs.told h
theorem SVs.told : ∀ {a b : List EV}, SVs θ a b → Tolds b = true
  | _, _, .nil => rfl
  | _, _, .cons h hs => by simp only [Tolds, SV.told h, SVs.told hs, Bool.and_self]
end
mutual
theorem told_of_same : ∀ {a : EV}, EV.same a a = true → Told a = true
  | .undef, _ | .bool _, _ | .int _ _, _ | .str _, _ | .nilptr, _ | .ptr _ _, _ | .nilslice, _ | .slice _ _ _ _, _ | .nilmap, _ | .map _, _ | .nilfunc, _ | .niliface, _ => rfl
  | .func f x y, h => by
    simp only [EV.same, Nat.beq_refl, cond_true] at h
    cases hx : EV.sames x x <;> simp only [hx, cond_true, cond_false, Bool.false_eq_true] at h
    simp only [Told, tolds_of_sames hx, tolds_of_sames h, Bool.and_self]
  | .iface t v, h => by simp only [EV.same, Nat.beq_refl, cond_true] at h; simp only [Told]; exact told_of_same h
  | .agg x, h => by simp only [EV.same] at h; simp only [Told]; exact tolds_of_sames h
  | .tuple x, h => by simp only [EV.same] at h; simp only [Told]; exact tolds_of_sames h
  | .fz t e els, h => by
    simp only [EV.same, Nat.beq_refl, cond_true] at h
    cases ht : t.beq 0 <;> simp only [ht, cond_true, cond_false, Bool.false_eq_true] at h
    simp only [Told, ht, Bool.not_false, Bool.true_and]
    exact toldss_of_samess h
  | .fptr _ _ _ _, h => by simp [EV.same] at h
theorem tolds_of_sames : ∀ {a : List EV}, EV.sames a a = true → Tolds a = true
  | [], _ => rfl
  | v :: x, h => by
    simp only [EV.sames] at h
    cases hx : EV.same v v <;> simp only [hx, cond_true, cond_false, Bool.false_eq_true] at h
    simp only [Tolds, told_of_same hx, tolds_of_sames h, Bool.and_self]
theorem toldss_of_samess : ∀ {a : List (List EV)}, EV.samess a a = true → Toldss a = true
  | [], _ => rfl
  | v :: x, h => by
    simp only [EV.samess] at h
    cases hx : EV.sames v v <;> simp only [hx, cond_true, cond_false, Bool.false_eq_true] at h
    simp only [Toldss, tolds_of_sames hx, toldss_of_samess h, Bool.and_self]
end
theorem SV.same {a b a' b' : EV} (ha : SV θ a a') (hb : SV θ b b') (h : EV.same a b = true) : EV.same a' b' = true := by
  have e := same_eq h
  subst e
  rw [SV.fn ha hb (told_of_same h)]
  exact same_refl _ hb.told
theorem SV.cells {v v' : EV} {cs : List EV} (h : SV θ v v') (hc : v.cells = some cs) : ∃ cs', v'.cells = some cs' ∧ SVs θ cs cs' := by
  cases h <;> simp only [EV.cells, reduceCtorEq, Option.some.injEq] at hc <;> subst hc
  case agg h => exact ⟨_, rfl, h⟩
  case fz0 h => exact ⟨_, rfl, .cons (.fz0 h) .nil⟩
  all_goals exact ⟨_, rfl, .cons (by constructor <;> assumption) .nil⟩
theorem SVs.part {x x' : List EV} (h : SVs θ x x') {g : Option Nat} {off : Nat} {v : EV} (hp : partOf g x off = some v) : ∃ v', partOf g x' off = some v' ∧ SV θ v v' := by
  cases g with
  | none => exact h.get hp
  | some n =>
    simp only [partOf] at hp ⊢
    rw [← h.length]
    cases hb : (off + n).ble x.length <;> simp only [hb, cond_true, cond_false, reduceCtorEq, Option.some.injEq] at hp ⊢
    subst hp
    exact ⟨_, rfl, .agg ((h.drop off).take n)⟩
theorem SVs.splice {x x' vs vs' r : List EV} (h : SVs θ x x') (hv : SVs θ vs vs') {off : Nat} (hp : Ev.splice x off vs = some r) : ∃ r', Ev.splice x' off vs' = some r' ∧ SVs θ r r' := by
  unfold Ev.splice at hp ⊢
  rw [← h.length, ← hv.length]
  cases hb : (off + vs.length).ble x.length <;> simp only [hb, cond_true, cond_false, reduceCtorEq, Option.some.injEq] at hp ⊢
  subst hp
  exact ⟨_, rfl, ((h.take off).append hv).append (h.drop _)⟩
end

inductive EntsS (θ : Tie) : List (EV × EV) → List (EV × EV) → Prop
  | nil : EntsS θ [] []
  | cons {k v k' v' : EV} {x x' : List (EV × EV)} (hk : SV θ k k') (hv : SV θ v v') (h : EntsS θ x x') : EntsS θ ((k, v) :: x) ((k', v') :: x')
theorem EntsS.ext {θ θ' : Tie} (e : Tie.Ext θ θ') : ∀ {x x' : List (EV × EV)}, EntsS θ x x' → EntsS θ' x x'
  | _, _, .nil => .nil
  | _, _, .cons hk hv h => .cons (hk.ext e) (hv.ext e) (EntsS.ext e h)
def BlkS (θ : Tie) : Blk → Blk → Prop
  | .dead, _ => True
  | .cells cs e k ro, B => ∃ cs', B = .cells cs' e k ro ∧ SVs θ cs cs'
  | .map es, B => ∃ es', B = .map es' ∧ EntsS θ es es'
theorem BlkS.ext {θ θ' : Tie} (e : Tie.Ext θ θ') {B B' : Blk} (h : BlkS θ B B') : BlkS θ' B B' := by
  cases B with
  | dead => trivial
  | cells cs k t ro => obtain ⟨cs', h1, h2⟩ := h; exact ⟨cs', h1, h2.ext e⟩
  | map es => obtain ⟨es', h1, h2⟩ := h; exact ⟨es', h1, h2.ext e⟩
structure MemB (θ : Tie) (m m' : Mem) : Prop where
  blk : ∀ b c, θ.ren b = some c → BlkS θ (m.get b) (m'.get c)
  cl : ∀ b, θ.ren b = none → m.get b = .dead
structure MemS (θ : Tie) (m m' : Mem) : Prop extends MemB θ m m' where
  sta : ∀ b B, θ.sta b = some B → m'.get b = B
structure TieOk (θ : Tie) (n n' : Nat) : Prop where
  ren : ∀ b c, θ.ren b = some c → b < n ∧ c < n'
  inj : ∀ a b c, θ.ren a = some c → θ.ren b = some c → a = b
  off : ∀ b c, θ.ren b = some c → θ.sta c = none
  sta : ∀ b B, θ.sta b = some B → b < n'
theorem MemB.ext {θ θ' : Tie} {m m' : Mem} (h : MemB θ m m') (e : Tie.Ext θ θ') (hd : ∀ b c, θ.ren b = none → θ'.ren b = some c → m.get b = .dead) : MemB θ' m m' := by
  refine ⟨fun b c hb => ?_, fun b hb => ?_⟩
  · cases hr : θ.ren b with
    | none => rw [h.cl b hr]; trivial
    | some d =>
      have := e.ren b d hr
      rw [hb] at this; cases this
      exact (h.blk b c hr).ext e
  · cases hr : θ.ren b with
    | none => exact h.cl b hr
    | some d => rw [e.ren b d hr] at hb; cases hb

def Tie.more (θ : Tie) (b c : Nat) : Tie := ⟨fun x => if x = b then some c else θ.ren x, θ.tag, θ.sta⟩
structure Fresh (θ : Tie) (b c : Nat) : Prop where
  l : θ.ren b = none
  r : ∀ a, θ.ren a ≠ some c
  s : θ.sta c = none
theorem TieOk.fresh {θ : Tie} {n n' : Nat} (h : TieOk θ n n') {b c : Nat} (hb : n ≤ b) (hc : n' ≤ c) : Fresh θ b c := by
  refine ⟨?_, fun a ha => ?_, ?_⟩
  · cases e : θ.ren b with
    | none => rfl
    | some d => have := (h.ren b d e).1; omega
  · have := (h.ren a c ha).2; omega
  · cases e : θ.sta c with
    | none => rfl
    | some d => have := h.sta c d e; omega
theorem Fresh.ext {θ : Tie} {b c : Nat} (h : Fresh θ b c) : Tie.Ext θ (θ.more b c) := by
  refine ⟨fun x y e => ?_, fun _ _ e => e, fun _ _ e => e⟩
  show (if x = b then some c else θ.ren x) = some y
  by_cases hx : x = b
  · subst hx; rw [h.l] at e; cases e
  · rw [if_neg hx]; exact e
theorem more_at {θ : Tie} {b c : Nat} : (θ.more b c).ren b = some c := if_pos rfl
theorem TieOk.more {θ : Tie} {n n' b c : Nat} (h : TieOk θ n n') (f : Fresh θ b c) {k k' : Nat} (hb : b < k) (hc : c < k') (hk : n ≤ k) (hk' : n' ≤ k') : TieOk (θ.more b c) k k' := by
  have ren : ∀ x y, (θ.more b c).ren x = some y → (x = b ∧ y = c) ∨ θ.ren x = some y := by
    intro x y e
    have e' : (if x = b then some c else θ.ren x) = some y := e
    by_cases hx : x = b
    · rw [if_pos hx] at e'; cases e'; exact .inl ⟨hx, rfl⟩
    · rw [if_neg hx] at e'; exact .inr e'
  refine ⟨fun x y e => ?_, fun x y z e1 e2 => ?_, fun x y e => ?_, fun x B e => ?_⟩
  · rcases ren x y e with ⟨rfl, rfl⟩ | e
    · exact ⟨hb, hc⟩
    · have := h.ren x y e; omega
  · rcases ren x z e1 with ⟨rfl, rfl⟩ | e1 <;> rcases ren y _ e2 with ⟨h1, h2⟩ | e2
    · exact h1.symm
    · exact absurd e2 (f.r y)
    · exact absurd e1 (h2 ▸ f.r x)
    · exact h.inj x y z e1 e2
  · rcases ren x y e with ⟨rfl, rfl⟩ | e
    · exact f.s
    · exact h.off x y e
  · have := h.sta x B e; omega
theorem MemS.more {θ : Tie} {m m' : Mem} {b c : Nat} (h : MemS θ m m') (f : Fresh θ b c) {B B' : Blk} (hB : BlkS (θ.more b c) B B') : MemS (θ.more b c) (Mem.new ⟨b, m.tbl⟩ B) (Mem.new ⟨c, m'.tbl⟩ B') := by
  have g1 : ∀ x, (Mem.new ⟨b, m.tbl⟩ B).get x = if x = b then B else m.get x := fun x => get_new
  have g2 : ∀ x, (Mem.new ⟨c, m'.tbl⟩ B').get x = if x = c then B' else m'.get x := fun x => get_new
  refine ⟨⟨fun x y e => ?_, fun x e => ?_⟩, fun x C e => ?_⟩
  · have e' : (if x = b then some c else θ.ren x) = some y := e
    by_cases hx : x = b
    · rw [if_pos hx] at e'; cases e'
      rw [g1, g2, if_pos hx, if_pos rfl]; exact hB
    · rw [if_neg hx] at e'
      have hy : y ≠ c := fun q => f.r x (q ▸ e')
      rw [g1, g2, if_neg hx, if_neg hy]; exact (h.blk x y e').ext f.ext
  · have e' : (if x = b then some c else θ.ren x) = none := e
    by_cases hx : x = b
    · rw [if_pos hx] at e'; cases e'
    · rw [if_neg hx] at e'; rw [g1, if_neg hx]; exact h.cl x e'
  · have hx : x ≠ c := fun q => by
      have e' : θ.sta x = some C := e
      subst q; rw [f.s] at e'; cases e'
    rw [g2, if_neg hx]; exact h.sta x C e
theorem MemS.set {θ : Tie} {m m' : Mem} {n n' b c : Nat} (h : MemS θ m m') (k : TieOk θ n n') (hb : θ.ren b = some c) {B B' : Blk} (hB : BlkS θ B B') : MemS θ (m.set b B) (m'.set c B') := by
  refine ⟨⟨fun x y e => ?_, fun x e => ?_⟩, fun x C e => ?_⟩
  · by_cases hx : x = b
    · subst hx; rw [hb] at e; cases e
      rw [get_set_eq, get_set_eq]; exact hB
    · have hy : y ≠ c := fun q => hx (k.inj x b c (q ▸ e) hb)
      rw [get_set_ne hx, get_set_ne hy]; exact h.blk x y e
  · have hx : x ≠ b := fun q => by subst q; rw [hb] at e; cases e
    rw [get_set_ne hx]; exact h.cl x e
  · have hx : x ≠ c := fun q => by subst q; rw [k.off b x hb] at e; cases e
    rw [get_set_ne hx]; exact h.sta x C e
end Go.Proofs.YtblcomejcahkdaaDoor.Ev
end
section
namespace Go.Proofs.YtblcomejcahkdaaDoor.Ev
open Go
def strs1 (l : List (List UInt8)) : List (List EV) := l.map fun s => [.str s]
def glV (l : List (List UInt8)) : EV := .fptr 1 [[.fz 0 1 (strs1 l)]] 0 0
def subV : EV → EV
  | .ptr g 0 => match glob g with
    | some l => glV l
    | none => .ptr g 0
  | v => v
def isGl : EV → Bool
  | .ptr g 0 => (glob g).isSome
  | _ => false
def subO : Opd → Opd
  | .tmp t => .tmp t
  | .const v => .const (subV v)
def tabC (l : List Int) : Blk := .cells (l.map (.int .u64)) 1 0 true
def GlobOk (θ : Tie) : Prop := (∀ g l, glob g = some l → SV θ (glV l) (.ptr g 0)) ∧ ∀ g l, tabl g = some l → θ.sta g = some (tabC l)
theorem GlobOk.ext {θ θ' : Tie} (h : GlobOk θ) (e : Tie.Ext θ θ') : GlobOk θ' := ⟨fun g l hg => (h.1 g l hg).ext e, fun g l hg => e.sta _ _ (h.2 g l hg)⟩
theorem SR.lowG {θ : Tie} {esz : Nat} {els : List (List EV)} {b off : Nat} (h : SR θ esz els b off) : SR θ.low esz els b off := by
  cases h with | mk hs hl hn hx => exact .mk hs hl hn hx
theorem GlobOk.down {θ θ' : Tie} (h : GlobOk θ) (e : Tie.Ext θ.low θ') : GlobOk θ' := by
  refine ⟨fun g l hg => ?_, fun g l hg => e.sta _ _ (h.2 g l hg)⟩
  have := h.1 g l hg
  unfold glV at this ⊢
  cases this with | fptr hr hi ho => exact .fptr (hr.lowG.ext e) hi ho
structure GoodS (θ : Tie) (m m' : Mem) : Prop extends MemS θ m m' where
  ok : TieOk θ m.next m'.next
  glb : GlobOk θ
theorem subV_flat {v : EV} (h : Flat v = true) : subV v = v := by
  cases v <;> first | rfl | (simp [Flat] at h)
theorem subV_sv {θ : Tie} (hg : GlobOk θ) {v : EV} (h : (Flat v || isGl v) = true) : SV θ (subV v) v := by
  cases hf : Flat v with
  | true => rw [subV_flat hf]; exact SV.of_flat hf
  | false =>
    rw [hf, Bool.false_or] at h
    cases v with
    | ptr g off =>
      cases off with
      | zero =>
        simp only [isGl] at h
        cases hgl : glob g with
        | none => rw [hgl] at h; cases h
        | some l => simp only [subV, hgl]; exact hg.1 g l hgl
      | succ n => simp [isGl] at h
    | _ => simp [isGl] at h
def IOp.mapO (f : Opd → Opd) : IOp → IOp
  | .mov x => .mov (f x)
  | .pick c a b => .pick (f c) (f a) (f b)
  | .alloc e z => .alloc e z
  | .box e x => .box e (f x)
  | .build z ps => .build z (ps.map fun p => (p.1, p.2.1, f p.2.2))
  | .bslice e z n zr ps => .bslice e z n zr (ps.map fun p => (p.1, f p.2))
  | .load a x => .load a (f x)
  | .store n a x => .store n (f a) (f x)
  | .nilck x => .nilck (f x)
  | .bin o x y => .bin o (f x) (f y)
  | .eq n t x y => .eq n t (f x) (f y)
  | .un o x => .un o (f x)
  | .conv c x => .conv c (f x)
  | .iface t x => .iface t (f x)
  | .mkfn g a c => .mkfn g (a.map f) (c.map f)
  | .mkmap => .mkmap
  | .mkslice e z zr l c => .mkslice e z zr (f l) (f c)
  | .slstr x l h => .slstr (f x) (l.map f) (h.map f)
  | .slsl e x l h m => .slsl e (f x) (l.map f) (h.map f) (m.map f)
  | .slarr n e x l h m => .slarr n e (f x) (l.map f) (h.map f) (m.map f)
  | .faddr o x => .faddr o (f x)
  | .fld a o x => .fld a o (f x)
  | .iaddr e x i => .iaddr e (f x) (f i)
  | .iaddrArr n e x i => .iaddrArr n e (f x) (f i)
  | .idxstr x i => .idxstr (f x) (f i)
  | .idxagg n e a x i => .idxagg n e a (f x) (f i)
  | .lookup k z o m x => .lookup k z o (f m) (f x)
  | .mapupd k m x y => .mapupd k (f m) (f x) (f y)
  | .delete k m x => .delete k (f m) (f x)
  | .lenmap m => .lenmap (f m)
  | .tassert t x => .tassert t (f x)
  | .extract x i => .extract (f x) i
  | .len x => .len (f x)
  | .lenstr x => .lenstr (f x)
  | .lenarr n => .lenarr n
  | .cap x => .cap (f x)
  | .max l => .max (l.map f)
  | .min l => .min (l.map f)
  | .append e z b s x => .append e z b (f s) (f x)
  | .copy e d s => .copy e (f d) (f s)
theorem srt_mapO {f : Opd → Opd} {op : IOp} : srt (op.mapO f) = srt op := by
  cases op with
  | conv c x => cases c <;> rfl
  | _ => rfl
theorem evOp_mapO {ρ : Opd → EV} {f : Opd → Opd} {op : IOp} {m : Mem} : evOp ρ (op.mapO f) m = evOp (fun x => ρ (f x)) op m := by
  cases op with
  | slsl e x l h mx =>
    simp only [IOp.mapO, evOp, Option.map_map, Function.comp_def]
    cases mx <;> rfl
  | _ => first | rfl | (simp only [IOp.mapO, evOp, List.map_map, Option.map_map, Function.comp_def])
theorem map_same {α : Type} {f : α → α} : ∀ {l : List α}, (∀ x ∈ l, f x = x) → l.map f = l
  | [], _ => rfl
  | a :: l, h => by rw [List.map_cons, h a (by simp), map_same fun x hx => h x (by simp [hx])]
theorem opt_same {f : Opd → Opd} {o : Option Opd} (h : ∀ x ∈ optl o, f x = x) : o.map f = o := by
  cases o with
  | none => rfl
  | some x => rw [Option.map_some, h x (by simp [optl])]
theorem mapO_same {f : Opd → Opd} {op : IOp} (h : ∀ x ∈ opds op, f x = x) : op.mapO f = op := by
  cases op with
  | build z ps =>
    simp only [IOp.mapO]
    rw [map_same fun p hp => by rw [h p.2.2 (by simp only [opds, List.mem_map]; exact ⟨p, hp, rfl⟩)]]
  | bslice e z n zr ps =>
    simp only [IOp.mapO]
    rw [map_same fun p hp => by rw [h p.2 (by simp only [opds, List.mem_map]; exact ⟨p, hp, rfl⟩)]]
  | mkfn g a c =>
    simp only [IOp.mapO]
    rw [map_same fun x hx => h x (by simp only [opds, List.mem_append]; exact .inl hx), map_same fun x hx => h x (by simp only [opds, List.mem_append]; exact .inr hx)]
  | slstr x l hh =>
    simp only [IOp.mapO]
    rw [h x (by simp [opds]), opt_same fun y hy => h y (by simp only [opds, List.mem_cons, List.mem_append]; exact .inr (.inl hy)), opt_same fun y hy => h y (by simp only [opds, List.mem_cons, List.mem_append]; exact .inr (.inr hy))]
  | slsl e x l hh mm =>
    simp only [IOp.mapO]
    rw [h x (by simp [opds]), opt_same fun y hy => h y (by simp only [opds, List.mem_cons, List.mem_append]; exact .inr (.inl hy)), opt_same fun y hy => h y (by simp only [opds, List.mem_cons, List.mem_append]; exact .inr (.inr (.inl hy))), opt_same fun y hy => h y (by simp only [opds, List.mem_cons, List.mem_append]; exact .inr (.inr (.inr hy)))]
  | slarr n e x l hh mm =>
    simp only [IOp.mapO]
    rw [h x (by simp [opds]), opt_same fun y hy => h y (by simp only [opds, List.mem_cons, List.mem_append]; exact .inr (.inl hy)), opt_same fun y hy => h y (by simp only [opds, List.mem_cons, List.mem_append]; exact .inr (.inr (.inl hy))), opt_same fun y hy => h y (by simp only [opds, List.mem_cons, List.mem_append]; exact .inr (.inr (.inr hy)))]
  | max l => simp only [IOp.mapO]; rw [map_same fun x hx => h x (by simp only [opds]; exact hx)]
  | min l => simp only [IOp.mapO]; rw [map_same fun x hx => h x (by simp only [opds]; exact hx)]
  | _ => simp only [opds, List.mem_cons, List.not_mem_nil, or_false, forall_eq_or_imp, forall_eq] at h <;> simp only [IOp.mapO, h]
def XOp.sub : XOp → XOp
  | .val op => .val (op.mapO subO)
  | .call f xs => .call (subO f) (xs.map subO)
  | .panic x => .panic (subO x)
  | .defer f xs => .defer (subO f) (xs.map subO)
def IOper.sub (o : IOper) : IOper := ⟨o.dst, o.op.sub, o.guard⟩
def ICode.sub : ICode → ICode
  | .skip => .skip
  | .region ops => .region (ops.map IOper.sub)
  | .draw ops chk => .draw (ops.map IOper.sub) chk
  | .seq a b => .seq a.sub b.sub
  | .cond c a b => .cond (subO c) a.sub b.sub
  | .block id a => .block id a.sub
  | .loop a => .loop a.sub
  | .exit id => .exit id
  | .ret => .ret
def IFun.sub (F : IFun) : IFun := ⟨F.ntmps, F.body.sub, F.results⟩
def noGl : Opd → Bool
  | .tmp _ => true
  | .const v => Flat v
def noGlX (x : XOp) : Bool := (xopds x).all noGl
def noGlC : ICode → Bool
  | .region ops | .draw ops _ => ops.all fun o => noGlX o.op
  | .seq a b => noGlC a && noGlC b
  | .cond c a b => noGl c && noGlC a && noGlC b
  | .block _ a | .loop a => noGlC a
  | _ => true
theorem noGl_sub {x : Opd} (h : noGl x = true) : subO x = x := by
  cases x with
  | tmp t => rfl
  | const v => simp only [subO, subV_flat (show Flat v = true from h)]
theorem noGlX_sub {x : XOp} (h : noGlX x = true) : x.sub = x := by
  have hx : ∀ y ∈ xopds x, subO y = y := fun y hy => noGl_sub (List.all_eq_true.1 h y hy)
  cases x with
  | val op => simp only [XOp.sub]; rw [mapO_same hx]
  | call f xs =>
    simp only [XOp.sub]
    rw [hx f (by simp [xopds]), map_same fun y hy => hx y (by simp [xopds, hy])]
  | panic y => simp only [XOp.sub]; rw [hx y (by simp [xopds])]
  | defer f xs =>
    simp only [XOp.sub]
    rw [hx f (by simp [xopds]), map_same fun y hy => hx y (by simp [xopds, hy])]
theorem noGlO_sub {ops : List IOper} (h : ops.all (fun o => noGlX o.op) = true) : ops.map IOper.sub = ops :=
  map_same fun o ho => by unfold IOper.sub; rw [noGlX_sub (List.all_eq_true.1 h o ho)]
theorem noGlC_sub : ∀ {c : ICode}, noGlC c = true → c.sub = c
  | .skip, _ => rfl
  | .region ops, h => by simp only [ICode.sub]; rw [noGlO_sub (by simpa only [noGlC] using h)]
  | .draw ops chk, h => by simp only [ICode.sub]; rw [noGlO_sub (by simpa only [noGlC] using h)]
  | .seq a b, h => by simp only [noGlC, Bool.and_eq_true] at h; simp only [ICode.sub]; rw [noGlC_sub h.1, noGlC_sub h.2]
  | .cond c a b, h => by simp only [noGlC, Bool.and_eq_true] at h; simp only [ICode.sub]; rw [noGl_sub h.1.1, noGlC_sub h.1.2, noGlC_sub h.2]
  | .block id a, h => by simp only [noGlC] at h; simp only [ICode.sub]; rw [noGlC_sub h]
  | .loop a, h => by simp only [noGlC] at h; simp only [ICode.sub]; rw [noGlC_sub h]
  | .exit id, _ => rfl
  | .ret, _ => rfl
end Go.Proofs.YtblcomejcahkdaaDoor.Ev
end
section
namespace Go.Proofs.YtblcomejcahkdaaDoor.Ev
open Go

def okOpd : Opd → Bool
  | .tmp _ => true
  | .const v => Flat v || isGl v
def okZero : IOp → Bool
  | .alloc _ z | .build z _ | .bslice _ _ _ z _ | .mkslice _ _ z _ _ => flats z
  | .lookup _ z _ _ _ => Flat z
  | _ => true
def okOp (op : IOp) : Bool := (opds op).all okOpd && okZero op
def OpsS (θ : Tie) (ρ ρ' : Opd → EV) : Prop := ∀ x, okOpd x = true → SV θ (ρ x) (ρ' x)
def OpS (θ : Tie) (m m' : Mem) (v : EV) (m1 : Mem) (o : Option R1) : Prop :=
  ∃ v' m1', o = some (.val v' m1') ∧
    ((SV θ v v' ∧ MemS θ m1 m1' ∧ m1.next = m.next ∧ m1'.next = m'.next) ∨
      (SV (θ.more m.next m'.next) v v' ∧ MemS (θ.more m.next m'.next) m1 m1' ∧ m1.next = m.next + 1 ∧ m1'.next = m'.next + 1)) ∧
    (∀ c, c ≠ m'.next → (∀ b, θ.ren b ≠ some c) → m1'.get c = m'.get c)
section
variable {θ : Tie} {m m' m1 : Mem} {v : EV} {o : Option R1} {n n' : Nat} {ρ ρ' : Opd → EV}
theorem OpS.here (hm : MemS θ m m') (h1 : m1 = m) {v' : EV} (hv : SV θ v v') : OpS θ m m' v m1 (some (.val v' m')) := by
  subst h1; exact ⟨v', m', rfl, .inl ⟨hv, hm, rfl, rfl⟩, fun _ _ _ => rfl⟩
theorem OpS.new (hm : MemS θ m m') (f : Fresh θ m.next m'.next) {B B' : Blk} {v' : EV} (hB : BlkS (θ.more m.next m'.next) B B') (hv : SV (θ.more m.next m'.next) v v') : OpS θ m m' v (m.new B) (some (.val v' (m'.new B'))) :=
  ⟨v', _, rfl, .inr ⟨hv, hm.more f hB, rfl, rfl⟩, fun c hc _ => by rw [get_new, if_neg hc]⟩
theorem bool_of {b : Bool} {v' : EV} (h : SV θ (.bool b) v') : v' = .bool b := by cases h; rfl
theorem int_of {k : IntKind} {i : Int} {v' : EV} (h : SV θ (.int k i) v') : v' = .int k i := by cases h; rfl
theorem idx_sim {N i : Nat} {x x' : EV} (hx : SV θ x x') (h : idx N x = some i) : idx N x' = some i := by
  cases hx <;> first | exact h | simp [idx] at h
theorem bound_sim {lo : Option Opd} (hl : ∀ x, lo = some x → SV θ (ρ x) (ρ' x)) {d N i : Nat} (h : bound (lo.map ρ) d N = some i) : bound (lo.map ρ') d N = some i := by
  cases lo with
  | none => exact h
  | some x =>
    have hx := hl x rfl
    simp only [Option.map_some] at h ⊢
    generalize ρ x = a at hx h
    generalize ρ' x = a' at hx
    cases hx <;> first | exact h | simp [bound] at h
theorem fill_sim : ∀ (ps : List (Nat × Nat × EV)) (ps' : List (Nat × Nat × EV)) (cs cs' r : List EV), ps.map (fun p => (p.1, p.2.1)) = ps'.map (fun p => (p.1, p.2.1)) → SVs θ (ps.map (·.2.2)) (ps'.map (·.2.2)) → SVs θ cs cs' → fillIn cs ps = some r → ∃ r', fillIn cs' ps' = some r' ∧ SVs θ r r'
  | [], [], cs, cs', r, _, _, hcs, h => by simp only [fillIn, Option.some.injEq] at h ⊢; subst h; exact ⟨_, rfl, hcs⟩
  | [], _ :: _, _, _, _, he, _, _, _ => by simp at he
  | _ :: _, [], _, _, _, he, _, _, _ => by simp at he
  | (off, size, v) :: ps, (off', size', v') :: ps', cs, cs', r, he, hv, hcs, h => by
    simp only [List.map_cons, List.cons.injEq, Prod.mk.injEq] at he
    obtain ⟨⟨rfl, rfl⟩, he⟩ := he
    cases hv with
    | cons hv hvs =>
    simp only [fillIn] at h ⊢
    cases hc : v.cells with
    | none => simp [hc] at h
    | some vs =>
      obtain ⟨vs', hc', hs⟩ := hv.cells hc
      simp only [hc, hc', ← hs.length] at h ⊢
      cases hb : vs.length.beq size <;> simp only [hb, cond_true, cond_false, reduceCtorEq] at h ⊢
      cases hp : splice cs off vs with
      | none => simp [hp] at h
      | some q =>
        obtain ⟨q', hp', hq⟩ := hcs.splice hs hp
        simp only [hp, hp'] at h ⊢
        exact fill_sim ps ps' _ _ _ he hvs hq h
theorem flat_flatten {z : List EV} (hz : flats z = true) : ∀ n : Nat, flats (copies n z) = true := by
  have app : ∀ a b : List EV, flats a = true → flats b = true → flats (a ++ b) = true := by
    intro a b ha hb
    induction a with
    | nil => exact hb
    | cons x a ih => simp only [flats, Bool.and_eq_true] at ha; simp only [List.cons_append, flats, ha.1, ih ha.2, Bool.and_self]
  intro n
  induction n with
  | zero => rfl
  | succ n ih => unfold copies at ih ⊢; rw [List.replicate_succ, List.flatten_cons]; exact app _ _ hz ih
theorem load_f {esz i k : Nat} {els : List (List EV)} {a' : EV} (ha : SV θ (.fptr esz els i k) a') {g : Option Nat} (h : m.load g (.fptr esz els i k) = some v) : ∃ v', SV θ v v' ∧ ∀ q : Mem, (∀ c B, θ.sta c = some B → q.get c = B) → q.load g a' = some v' := by
  cases ha with
  | @fptr _ _ _ b off _ _ o hr hi ho =>
    simp only [Mem.load] at h
    cases hr with
    | @mk _ _ _ _ _ kk cs ro hsta hl hn hx0 =>
    have hx := hx0.ext θ.low_ext
    rw [List.getElem?_eq_getElem hi] at h
    simp only at h
    have hel : els[i].length = esz := hl _ (List.getElem_mem hi)
    -- the element's cells, in the row
    have key : ∀ (L : List (List EV)) (i : Nat) (hi : i < L.length), (∀ el ∈ L, el.length = esz) → (L.flatten.drop (i * esz)).take esz = L[i] := by
      intro L
      induction L with
      | nil => intro i hi; simp at hi
      | cons e L ih =>
        intro i hi hl
        have he : e.length = esz := hl e (by simp)
        cases i with
        | zero => simp [he]
        | succ i =>
          have := ih i (by simpa using hi) (fun el h => hl el (by simp [h]))
          rw [List.flatten_cons, Nat.succ_mul, Nat.add_comm, ← List.drop_drop, show (e ++ L.flatten).drop esz = L.flatten by rw [← he]; simp]
          simpa using this
    have hseg : SVs θ els[i] ((cs.drop (off + i * esz)).take esz) := by
      have h1 := ((hx.drop (i * esz)).take esz)
      rw [key els i hi hl] at h1
      have h2 : (((cs.drop off).take (els.length * esz)).drop (i * esz)).take esz = (cs.drop (off + i * esz)).take esz := by
        have : i * esz + esz ≤ els.length * esz := by rw [← Nat.succ_mul]; exact Nat.mul_le_mul_right _ hi
        rw [List.drop_take, List.drop_drop, List.take_take, Nat.min_eq_left (by omega)]
      rw [h2] at h1; exact h1
    obtain ⟨v', hp, hv⟩ := hseg.part h
    refine ⟨v', hv, fun Q hQ => ?_⟩
    have hg' := hQ _ _ hsta
    simp only [Mem.load, hg']
    subst ho
    have hlen : off + i * esz + esz ≤ cs.length := by
      have : i * esz + esz ≤ els.length * esz := by rw [← Nat.succ_mul]; exact Nat.mul_le_mul_right _ hi
      omega
    cases g with
    | none =>
      simp only [partOf] at hp ⊢
      rw [List.getElem?_take] at hp
      split at hp
      · rw [List.getElem?_drop] at hp; exact hp
      · cases hp
    | some q =>
      simp only [partOf] at hp ⊢
      have hl2 : ((cs.drop (off + i * esz)).take esz).length = esz := by rw [List.length_take, List.length_drop]; omega
      rw [hl2] at hp
      cases hb : (k + q).ble esz <;> simp only [hb, cond_true, cond_false, reduceCtorEq, Option.some.injEq] at hp
      have := Nat.le_of_ble_eq_true hb
      rw [Nat.ble_eq_true_of_le (show off + i * esz + k + q ≤ cs.length by omega)]
      simp only [cond_true, Option.some.injEq]
      rw [← hp, List.drop_take, List.drop_drop, List.take_take, Nat.min_eq_left (by omega)]
theorem load_b (hm : MemB θ m m') {a a' : EV} (ha : SV θ a a') (hf : isF a = false) {g : Option Nat} (h : m.load g a = some v) : ∃ v', m'.load g a' = some v' ∧ SV θ v v' := by
  cases ha <;> simp only [Mem.load, reduceCtorEq] at h
  case fptr => simp [isF] at hf
  case ptr b c off hb =>
    have hB := hm.blk b c hb
    cases hg : m.get b with
    | dead => simp [hg] at h
    | map es => simp [hg] at h
    | cells cs e k ro =>
      rw [hg] at hB h
      obtain ⟨cs', hg', hs⟩ := hB
      simp only [Mem.load, hg']
      exact hs.part h
theorem load_sim (hm : MemS θ m m') {a a' : EV} (ha : SV θ a a') {g : Option Nat} (h : m.load g a = some v) : ∃ v', m'.load g a' = some v' ∧ SV θ v v' := by
  cases hf : isF a with
  | false => exact load_b hm.toMemB ha hf h
  | true =>
    cases a <;> simp only [isF, Bool.false_eq_true] at hf
    obtain ⟨v', h1, h2⟩ := load_f ha h
    exact ⟨v', h2 m' hm.sta, h1⟩
theorem row_sim (hm : MemS θ m m') {b c : Nat} (hb : θ.ren b = some c) {off N : Nat} {xs : List EV} (h : m.row b off N = some xs) : ∃ xs', m'.row c off N = some xs' ∧ SVs θ xs xs' := by
  by_cases h0 : N = 0
  · subst h0; rw [Mem.row_none] at h; cases h; exact ⟨_, Mem.row_none, .nil⟩
  · rw [Mem.row_pos h0] at h ⊢
    have hB := hm.blk b c hb
    unfold Mem.row1 at h ⊢
    cases hg : m.get b with
    | dead => simp [hg] at h
    | map es => simp [hg] at h
    | cells cs e k ro =>
      rw [hg] at hB
      obtain ⟨cs', hg', hs⟩ := hB
      simp only [hg, hg', ← hs.length] at h ⊢
      cases hbb : (off + N).ble cs.length <;> simp only [hbb, cond_true, cond_false, reduceCtorEq, Option.some.injEq] at h ⊢
      subst h
      exact ⟨_, rfl, (hs.drop off).take N⟩
theorem source_sim (hm : MemS θ m m') {x x' : EV} (hx : SV θ x x') {esz N : Nat} {xs : List EV} (h : m.source esz x = some (N, xs)) : ∃ xs', m'.source esz x' = some (N, xs') ∧ SVs θ xs xs' := by
  cases hx <;> simp only [Mem.source, reduceCtorEq] at h
  case str s =>
    refine ⟨xs, h, ?_⟩
    cases hb : esz.beq 1 <;> simp only [hb, cond_true, cond_false, reduceCtorEq, Option.some.injEq, Prod.mk.injEq] at h
    rw [← h.2]
    exact SVs.map _ _ fun a _ => .int _ _
  case nilslice => simp only [Option.some.injEq, Prod.mk.injEq] at h; obtain ⟨rfl, rfl⟩ := h; exact ⟨[], rfl, .nil⟩
  case slice b c off len cap hb =>
    obtain ⟨r, hr, he⟩ := Option.map_eq_some_iff.1 h
    obtain ⟨r', hr', hs⟩ := row_sim hm hb hr
    simp only [Prod.mk.injEq] at he
    obtain ⟨rfl, rfl⟩ := he
    exact ⟨r', by simp only [Mem.source, hr', Option.map_some], hs⟩
  case fz0 t e b off ht =>
    cases hb : e.beq esz <;> simp only [hb, cond_true, cond_false, reduceCtorEq, Option.some.injEq, Prod.mk.injEq] at h
    obtain ⟨rfl, rfl⟩ := h
    refine ⟨[], ?_, .nil⟩
    simp only [Mem.source, Nat.zero_mul, Mem.row_none, Option.map_some, List.length_nil]
  case fz t e els b off cap hc hr ht =>
    cases hb : e.beq esz <;> simp only [hb, cond_true, cond_false, reduceCtorEq, Option.some.injEq, Prod.mk.injEq] at h
    obtain ⟨rfl, rfl⟩ := h
    obtain rfl := of_beq hb
    cases hr with
    | mk hsta hl hn hx0 =>
    have hx := hx0.ext θ.low_ext
    rename_i cs ro
    refine ⟨(cs.drop off).take (els.length * e), ?_, hx⟩
    simp only [Mem.source]
    by_cases h0 : els.length * e = 0
    · rw [h0, Mem.row_none, List.take_zero]; rfl
    · rw [Mem.row_pos h0, Mem.row1, hm.sta _ _ hsta]
      simp only [Nat.ble_eq_true_of_le hn, cond_true, Option.map_some]
theorem write_sim (hm : MemS θ m m') (k : TieOk θ n n') {b c : Nat} (hb : θ.ren b = some c) {off : Nat} {vs vs' : List EV} (hv : SVs θ vs vs') (h : m.write b off vs = some m1) : ∃ m1', m'.write c off vs' = some m1' ∧ MemS θ m1 m1' ∧ m1.next = m.next ∧ m1'.next = m'.next ∧ ∀ d, d ≠ c → m1'.get d = m'.get d := by
  have hB := hm.blk b c hb
  unfold Mem.write at h ⊢
  cases hg : m.get b with
  | dead => simp [hg] at h
  | map es => simp [hg] at h
  | cells cs e t ro =>
    rw [hg] at hB
    obtain ⟨cs', hg', hs⟩ := hB
    simp only [hg, hg'] at h ⊢
    cases ro <;> simp only [cond_true, cond_false, reduceCtorEq] at h ⊢
    obtain ⟨r, hr, rfl⟩ := Option.map_eq_some_iff.1 h
    obtain ⟨r', hr', hq⟩ := hs.splice hv hr
    exact ⟨_, by rw [hr']; rfl, hm.set k hb ⟨r', rfl, hq⟩, rfl, rfl, fun d hd => get_set_ne hd⟩
theorem store_sim (hm : MemS θ m m') (k : TieOk θ n n') {size : Nat} {a a' x x' : EV} (ha : SV θ a a') (hx : SV θ x x') (h : m.store size a x = some m1) : ∃ m1', m'.store size a' x' = some m1' ∧ MemS θ m1 m1' ∧ m1.next = m.next ∧ m1'.next = m'.next ∧ ∀ d, (∀ b, θ.ren b ≠ some d) → m1'.get d = m'.get d := by
  unfold Mem.store at h
  cases hc : x.cells with
  | none => rw [hc] at h; cases a <;> simp at h
  | some vs =>
    obtain ⟨vs', hc', hs⟩ := hx.cells hc
    rw [hc] at h
    cases ha <;> simp only [reduceCtorEq] at h
    case ptr b c off hb =>
      cases hl : vs.length.beq size <;> simp only [hl, cond_true, cond_false, reduceCtorEq] at h
      obtain ⟨m1', h1, h2, h3, h4, h5⟩ := write_sim hm k hb hs h
      refine ⟨m1', ?_, h2, h3, h4, fun d hd => h5 d fun e => hd b (e ▸ hb)⟩
      simp only [Mem.store, hc', ← hs.length, hl, cond_true]; exact h1

theorem bin_flat {op : BinOp} {x y : EV} (h : evBin op x y = some v) : Flat x = true ∧ Flat y = true ∧ Flat v = true := by
  cases x <;> cases y <;> simp only [evBin, reduceCtorEq] at h
  case int.int k a l b =>
    refine ⟨rfl, rfl, ?_⟩
    have sh : ∀ op, evShift op k a b = some v → Flat v = true := by
      intro op h
      unfold evShift at h
      split at h
      · cases h
      · cases op <;> simp at h <;> subst h <;> rfl
    have it : ∀ op, (bif (kindNo k).beq (kindNo l) then evInt op k a b else none) = some v → Flat v = true := by
      intro op h
      cases hk : (kindNo k).beq (kindNo l) <;> simp only [hk, cond_true, cond_false, reduceCtorEq] at h
      cases op <;> simp only [evInt, evBits, Option.map_some, Option.some.injEq, reduceCtorEq] at h <;> first | (subst h; rfl) | (split at h <;> simp at h; subst h; rfl)
    cases op <;> first | exact sh _ h | exact it _ h
  case str.str a b =>
    refine ⟨rfl, rfl, ?_⟩
    cases op <;> simp only [reduceCtorEq, Option.some.injEq] at h <;> first | (subst h; rfl) | skip
    cases hb : (a.length + b.length).ble 4294967296 <;> simp only [hb, cond_true, cond_false, reduceCtorEq, Option.some.injEq] at h
    subst h; rfl
theorem un_flat {op : UnOp} {x : EV} (h : evUn op x = some v) : Flat x = true ∧ Flat v = true := by
  cases op <;> cases x <;> simp only [evUn, reduceCtorEq, Option.some.injEq, evBits, Option.map_some] at h <;> subst h <;> exact ⟨rfl, rfl⟩
theorem eqPrim_sim {t : Nat} {x y x' y' : EV} (hx : SV θ x x') (hy : SV θ y y') {b : Bool} (h : evEqPrim t x y = some b) : evEqPrim t x' y' = some b := by
  cases hx <;> cases hy <;> first | exact h | (simp only [evEqPrim, reduceCtorEq] at h ⊢ <;> done) | (simp only [evEqPrim] at h ⊢; exact h)
theorem eq_agg_inv {fs : List (Option Nat × Nat × EqTy)} {x y : EV} {b : Bool} (h : evEq (.agg fs) x y = some b) : ∃ a c, x = .agg a ∧ y = .agg c ∧ evEqs fs a c = some b := by
  rw [evEq.eq_def] at h
  cases x <;> cases y <;> first | exact ⟨_, _, rfl, rfl, h⟩ | cases h
theorem agg_inv {a : List EV} {x' : EV} (h : SV θ (.agg a) x') : ∃ a', x' = .agg a' ∧ SVs θ a a' := by
  cases h with | agg h => exact ⟨_, rfl, h⟩
mutual
theorem eq_sim : ∀ (t : EqTy) {x y x' y' : EV}, SV θ x x' → SV θ y y' → ∀ {b : Bool}, evEq t x y = some b → evEq t x' y' = some b
  | .prim t, _, _, _, _, hx, hy, b, h => by simp only [evEq] at h ⊢; exact eqPrim_sim hx hy h
  | .agg fs, _, _, _, _, hx, hy, b, h => by
    obtain ⟨a, c, rfl, rfl, h⟩ := eq_agg_inv h
    obtain ⟨a', rfl, ha⟩ := agg_inv hx
    obtain ⟨c', rfl, hc⟩ := agg_inv hy
    simp only [evEq]
    exact eqs_sim fs ha hc h
theorem eqs_sim : ∀ (fs : List (Option Nat × Nat × EqTy)) {x y x' y' : List EV}, SVs θ x x' → SVs θ y y' → ∀ {b : Bool}, evEqs fs x y = some b → evEqs fs x' y' = some b
  | [], _, _, _, _, _, _, _, h => by simp only [evEqs] at h ⊢; exact h
  | (g, off, t) :: r, x, y, x', y', hx, hy, b, h => by
    simp only [evEqs] at h ⊢
    cases hp : partOf g x off with
    | none => simp [hp] at h
    | some p =>
      cases hq : partOf g y off with
      | none => simp [hp, hq] at h
      | some q =>
        obtain ⟨p', hp', sp⟩ := hx.part hp
        obtain ⟨q', hq', sq⟩ := hy.part hq
        simp only [hp, hq, hp', hq'] at h ⊢
        cases he : evEq t p q with
        | none => simp [he] at h
        | some c =>
          rw [eq_sim t sp sq he]
          cases c
          · simpa [he] using h
          · simp only [he] at h ⊢; exact eqs_sim r hx hy h
end
theorem bytes_flat : ∀ {xs : List EV} {s : List UInt8}, bytesOf xs = some s → flats xs = true
  | [], _, _ => rfl
  | v :: xs, s, h => by
    unfold bytesOf at h
    split at h
    · rename_i hh; cases hh
    · rename_i hh; cases hh
      obtain ⟨r, hr, _⟩ := Option.map_eq_some_iff.1 h
      simp only [flats, Flat, bytes_flat hr, Bool.and_self]
    · cases h
theorem max_flat : ∀ {l : List EV}, evMax l = some v → flats l = true ∧ Flat v = true := by
  have go : ∀ (k : IntKind) (l : List EV) (x : Int), maxFrom k x l = some v → flats l = true ∧ Flat v = true := by
    intro k l
    induction l with
    | nil => intro x h; simp only [maxFrom, Option.some.injEq] at h; subst h; exact ⟨rfl, rfl⟩
    | cons a l ih =>
      intro x h
      cases a <;> simp only [maxFrom, reduceCtorEq] at h
      rename_i k' y
      cases hk : (kindNo k).beq (kindNo k') <;> simp only [hk, cond_true, cond_false, reduceCtorEq] at h
      obtain ⟨h1, h2⟩ := ih _ h
      exact ⟨by simp only [flats, Flat, h1, Bool.and_self], h2⟩
  intro l h
  cases l with
  | nil => simp [evMax] at h
  | cons a l =>
    cases a <;> simp only [evMax, reduceCtorEq] at h
    obtain ⟨h1, h2⟩ := go _ _ _ h
    exact ⟨by simp only [flats, Flat, h1, Bool.and_self], h2⟩
theorem min_flat : ∀ {l : List EV}, evMin l = some v → flats l = true ∧ Flat v = true := by
  have go : ∀ (k : IntKind) (l : List EV) (x : Int), minFrom k x l = some v → flats l = true ∧ Flat v = true := by
    intro k l
    induction l with
    | nil => intro x h; simp only [minFrom, Option.some.injEq] at h; subst h; exact ⟨rfl, rfl⟩
    | cons a l ih =>
      intro x h
      cases a <;> simp only [minFrom, reduceCtorEq] at h
      rename_i k' y
      cases hk : (kindNo k).beq (kindNo k') <;> simp only [hk, cond_true, cond_false, reduceCtorEq] at h
      obtain ⟨h1, h2⟩ := ih _ h
      exact ⟨by simp only [flats, Flat, h1, Bool.and_self], h2⟩
  intro l h
  cases l with
  | nil => simp [evMin] at h
  | cons a l =>
    cases a <;> simp only [evMin, reduceCtorEq] at h
    obtain ⟨h1, h2⟩ := go _ _ _ h
    exact ⟨by simp only [flats, Flat, h1, Bool.and_self], h2⟩
theorem OpsS.list (hρ : OpsS θ ρ ρ') : ∀ {l : List Opd}, l.all okOpd = true → SVs θ (l.map ρ) (l.map ρ')
  | [], _ => .nil
  | x :: l, h => by simp only [List.all_cons, Bool.and_eq_true] at h; exact .cons (hρ x h.1) (OpsS.list hρ h.2)

theorem sort_flat {k : EV} (h : sortOf k ≠ 99) : Flat k = true := by cases k <;> first | rfl | exact absurd rfl h
theorem key_sort {kt : Nat} {k : EV} (h : keyIs kt k = true) : sortOf k ≠ 99 := by
  cases k <;> simp only [keyIs, Bool.false_eq_true] at h <;> simp [sortOf]
  rename_i kk n; cases kk <;> simp [kindNo]
theorem sorts_sim {k : EV} (hk : sortOf k ≠ 99) : ∀ {es es' : List (EV × EV)}, EntsS θ es es' → sortsOk k es = true → es'.map (·.1) = es.map (·.1) ∧ sortsOk k es' = true
  | _, _, .nil, _ => ⟨rfl, rfl⟩
  | _, _, .cons (k := a) ha hv hs, h => by
    simp only [sortsOk] at h
    cases hb : (sortOf a).beq (sortOf k) <;> simp only [hb, cond_true, cond_false, Bool.false_eq_true] at h
    have hf : Flat a = true := sort_flat (by rw [of_beq hb]; exact hk)
    have := ha.flat hf
    subst this
    obtain ⟨h1, h2⟩ := sorts_sim hk hs h
    exact ⟨by simp [h1], by simp only [sortsOk, hb, cond_true, h2]⟩
theorem find_sim {k : EV} : ∀ {es es' : List (EV × EV)}, EntsS θ es es' → es'.map (·.1) = es.map (·.1) → (∀ v, find k es = some v → ∃ v', find k es' = some v' ∧ SV θ v v') ∧ (find k es = none → find k es' = none)
  | _, _, .nil, _ => ⟨fun v h => by simp [find] at h, fun _ => rfl⟩
  | _, _, .cons (k' := a) (v := w) (v' := w') ha hv hs, h => by
    simp only [List.map_cons, List.cons.injEq] at h
    obtain ⟨rfl, h⟩ := h
    obtain ⟨h1, h2⟩ := find_sim (k := k) hs h
    simp only [find]
    cases EV.same k a <;> simp only [cond_true, cond_false]
    · exact ⟨h1, h2⟩
    · exact ⟨fun v hh => by cases hh; exact ⟨w', rfl, hv⟩, fun hh => by cases hh⟩
theorem update_sim {k k' x x' : EV} (hk : SV θ k k') (hx : SV θ x x') (he : k' = k) : ∀ {es es' : List (EV × EV)}, EntsS θ es es' → es'.map (·.1) = es.map (·.1) → EntsS θ (update k x es) (update k' x' es')
  | _, _, .nil, _ => .cons hk hx .nil
  | _, _, .cons (k' := a) ha hv hs, h => by
    simp only [List.map_cons, List.cons.injEq] at h
    obtain ⟨rfl, h⟩ := h
    have ih := update_sim hk hx he hs h
    subst he
    simp only [update]
    cases EV.same k' a <;> simp only [cond_true, cond_false]
    · exact .cons ha hv ih
    · exact .cons hk hx hs
theorem erase_sim {k : EV} : ∀ {es es' : List (EV × EV)}, EntsS θ es es' → es'.map (·.1) = es.map (·.1) → EntsS θ (erase k es) (erase k es')
  | _, _, .nil, _ => .nil
  | _, _, .cons (k' := a) ha hv hs, h => by
    simp only [List.map_cons, List.cons.injEq] at h
    obtain ⟨rfl, h⟩ := h
    have ih := erase_sim (k := k) hs h
    simp only [erase]
    cases EV.same k a <;> simp only [cond_true, cond_false]
    · exact .cons ha hv ih
    · exact hs
theorem EntsS.len : ∀ {es es' : List (EV × EV)}, EntsS θ es es' → es.length = es'.length
  | _, _, .nil => rfl
  | _, _, .cons _ _ h => by simp [EntsS.len h]
end
end Go.Proofs.YtblcomejcahkdaaDoor.Ev
end
section
namespace Go.Proofs.YtblcomejcahkdaaDoor.Ev
open Go
section
variable {θ : Tie} {m m' m1 : Mem} {v : EV} {n n' : Nat} {ρ ρ' : Opd → EV}
theorem ofEV_inv {x : Option EV} (h : ofEV m x = some (.val v m1)) : x = some v ∧ m1 = m := by
  unfold ofEV at h
  obtain ⟨y, hy, he⟩ := Option.map_eq_some_iff.1 h
  cases he; exact ⟨hy, rfl⟩
theorem ofM_inv {x : Option Mem} (h : ofM x = some (.val v m1)) : x = some m1 ∧ v = .undef := by
  unfold ofM at h
  obtain ⟨y, hy, he⟩ := Option.map_eq_some_iff.1 h
  cases he; exact ⟨hy, rfl⟩
theorem val_inv {a : EV} {q : Mem} (h : some (R1.val a q) = some (R1.val v m1)) : a = v ∧ q = m1 := by cases h; exact ⟨rfl, rfl⟩
theorem all_optl {lo : Option Opd} (h : (optl lo).all okOpd = true) (hρ : OpsS θ ρ ρ') : ∀ x, lo = some x → SV θ (ρ x) (ρ' x) := by
  intro x e; subst e
  simp only [optl, List.all_cons, List.all_nil, Bool.and_true] at h
  exact hρ x h
theorem evSlice_sim {θ' : Tie} {esz b c off len : Nat} {cap : Option Nat} {lo hi max : Option Opd} (hb : θ.ren b = some c) (hlo : ∀ x, lo = some x → SV θ (ρ x) (ρ' x)) (hhi : ∀ x, hi = some x → SV θ (ρ x) (ρ' x)) (hmax : ∀ x, max = some x → SV θ (ρ x) (ρ' x))
    (h : evSlice esz b off len cap (lo.map ρ) (hi.map ρ) (max.map ρ) = some v) : ∃ v', evSlice esz c off len cap (lo.map ρ') (hi.map ρ') (max.map ρ') = some v' ∧ SV θ v v' := by
  cases cap with
  | some cp =>
    simp only [evSlice] at h ⊢
    cases h1 : bound (max.map ρ) cp cp with
    | none => simp [h1] at h
    | some t =>
      rw [bound_sim hmax h1]; simp only [h1] at h ⊢
      cases h2 : bound (hi.map ρ) len t with
      | none => simp [h2] at h
      | some q =>
        rw [bound_sim hhi h2]; simp only [h2] at h ⊢
        cases h3 : bound (lo.map ρ) 0 q with
        | none => simp [h3] at h
        | some l =>
          rw [bound_sim hlo h3]; simp only [h3, Option.some.injEq] at h ⊢
          subst h; exact ⟨_, rfl, .slice hb⟩
  | none =>
    cases max with
    | some mx =>
      simp only [evSlice, Option.map_some] at h ⊢
      cases h1 : bound (some (ρ mx)) len len with
      | none => simp [h1] at h
      | some t =>
        have h1' : bound (some (ρ' mx)) len len = some t := bound_sim (lo := some mx) hmax h1
        simp only [h1, h1'] at h ⊢
        cases h2 : bound (hi.map ρ) len t with
        | none => simp [h2] at h
        | some q =>
          rw [bound_sim hhi h2]; simp only [h2] at h ⊢
          cases h3 : bound (lo.map ρ) 0 q with
          | none => simp [h3] at h
          | some l =>
            rw [bound_sim hlo h3]; simp only [h3, Option.some.injEq] at h ⊢
            subst h; exact ⟨_, rfl, .slice hb⟩
    | none =>
      simp only [evSlice, Option.map_none] at h ⊢
      cases h2 : bound (hi.map ρ) len len with
      | none => simp [h2] at h
      | some q =>
        rw [bound_sim hhi h2]; simp only [h2] at h ⊢
        cases h3 : bound (lo.map ρ) 0 q with
        | none => simp [h3] at h
        | some l =>
          rw [bound_sim hlo h3]; simp only [h3, Option.some.injEq] at h ⊢
          subst h; exact ⟨_, rfl, .slice hb⟩
theorem flatten_seg {esz : Nat} : ∀ (L : List (List EV)) (l h : Nat), l ≤ h → h ≤ L.length → (∀ el ∈ L, el.length = esz) → ((L.take h).drop l).flatten = (L.flatten.drop (l * esz)).take ((h - l) * esz) := by
  have tk : ∀ (L : List (List EV)) (h : Nat), (∀ el ∈ L, el.length = esz) → (L.take h).flatten = L.flatten.take (h * esz) := by
    intro L
    induction L with
    | nil => intro h _; simp
    | cons e L ih =>
      intro h hl
      have he := hl e (by simp)
      cases h with
      | zero => simp
      | succ h => rw [List.take_succ_cons, List.flatten_cons, ih h (fun el q => hl el (by simp [q])), List.flatten_cons, Nat.succ_mul, Nat.add_comm, List.take_append, he, List.take_of_length_le (l := e) (by rw [he]; omega)]; simp
  have dp : ∀ (L : List (List EV)) (h : Nat), (∀ el ∈ L, el.length = esz) → (L.drop h).flatten = L.flatten.drop (h * esz) := by
    intro L
    induction L with
    | nil => intro h _; simp
    | cons e L ih =>
      intro h hl
      have he := hl e (by simp)
      cases h with
      | zero => simp
      | succ h => rw [List.drop_succ_cons, ih h (fun el q => hl el (by simp [q])), List.flatten_cons, Nat.succ_mul, Nat.add_comm, ← List.drop_drop, show (e ++ L.flatten).drop esz = L.flatten by rw [← he]; simp]
  intro L l h hlh hh hl
  rw [dp _ _ (fun el q => hl el (List.mem_of_mem_take q)), tk _ _ hl, List.drop_take, ← Nat.sub_mul]
theorem fz_part {esz t b off : Nat} {els : List (List EV)} {cap : Option Nat} (hx : SV θ (.fz t esz els) (.slice b off els.length cap)) (hm : MemS θ m m') {lo hi : Option Opd} (hlo : ∀ x, lo = some x → SV θ (ρ x) (ρ' x)) (hhi : ∀ x, hi = some x → SV θ (ρ x) (ρ' x)) {h l : Nat}
    (h1 : bound (hi.map ρ) els.length els.length = some h) (h2 : bound (lo.map ρ) 0 h = some l) (hh : h ≤ els.length) (hl : l ≤ h) :
    ∃ v' , (match cap with
      | some c => ofEV m' (evSlice esz b off els.length (some c) (lo.map ρ') (hi.map ρ') none)
      | none => match m'.get b with
        | .cells _ e _ _ => bif e.beq esz then ofEV m' (evSlice esz b off els.length none (lo.map ρ') (hi.map ρ') none) else none
        | _ => none) = some (.val v' m') ∧ SV θ (.fz 0 esz ((els.take h).drop l)) v' := by
  have h1' := bound_sim hhi h1
  have h2' := bound_sim hlo h2
  have hlen : ((els.take h).drop l).length = h - l := by rw [List.length_drop, List.length_take]; omega
  generalize hev : EV.slice b off els.length cap = y at hx
  cases hx with
  | fz0 ht =>
    cases hev
    simp only [List.length_nil] at h1 h1' hh
    obtain rfl : h = 0 := by omega
    obtain rfl : l = 0 := by omega
    simp only [List.length_nil, evSlice, bound_none, h1', h2', ofEV, Option.map_some]
    refine ⟨_, rfl, ?_⟩
    simp only [Nat.beq_refl, cond_true, Nat.sub_self, List.take_nil, List.drop_nil]
    exact .fz0 (.inl rfl)
  | fz hr ht hc =>
    cases hev
    cases hr with
    | @mk _ _ _ _ _ k cs ro hs hle hn hxs =>
    have hx' : SVs θ.low ((els.take h).drop l).flatten ((cs.drop (off + l * esz)).take (((els.take h).drop l).length * esz)) := by
      rw [hlen, flatten_seg els l h hl hh hle]
      have q := (hxs.drop (l * esz)).take ((h - l) * esz)
      have : l * esz + (h - l) * esz ≤ els.length * esz := by rw [← Nat.add_mul]; exact Nat.mul_le_mul_right _ (by omega)
      rw [List.drop_take, List.drop_drop, List.take_take, Nat.min_eq_left (by omega)] at q
      exact q
    have hn' : off + l * esz + ((els.take h).drop l).length * esz ≤ cs.length := by
      have : l * esz + (h - l) * esz ≤ els.length * esz := by rw [← Nat.add_mul]; exact Nat.mul_le_mul_right _ (by omega)
      rw [hlen]; omega
    have hr : SR θ esz ((els.take h).drop l) b (off + l * esz) := .mk hs (fun el q => hle el (List.mem_of_mem_take (List.mem_of_mem_drop q))) hn' hx'
    cases cap with
    | some c =>
      have hcl := hc c rfl
      have g1 : bound (hi.map ρ') els.length c = some h := by
        cases hi with
        | none => simp only [Option.map_none, bound, Option.some.injEq] at h1' ⊢; exact h1'
        | some x =>
          simp only [Option.map_some] at h1' ⊢
          generalize ρ' x = w at h1'
          unfold bound at h1' ⊢
          split at h1'
          · rename_i e; cases e
          · rename_i e; cases e
            rename_i i
            cases hb : i.ble els.length <;> simp only [hb, cond_true, cond_false, reduceCtorEq, Option.some.injEq] at h1'
            have := Nat.le_of_ble_eq_true hb
            subst h1'
            simp only [Nat.ble_eq_true_of_le (show i ≤ c by omega), cond_true]
          · cases h1'
      simp only [evSlice, bound_none, g1, h2', ofEV, Option.map_some]
      refine ⟨_, rfl, ?_⟩
      by_cases hcl' : c = l
      · subst hcl'
        obtain rfl : h = c := by omega
        simp only [Nat.beq_refl, cond_true, Nat.sub_self]
        have : (els.take h).drop h = [] := List.eq_nil_of_length_eq_zero (by rw [hlen]; omega)
        rw [this]; exact .fz0 (.inl rfl)
      · simp only [beq_ff hcl', cond_false]
        have := SV.fz (t := 0) (cap := some (c - l)) hr (.inl rfl) (fun q e => by cases e; rw [hlen]; omega)
        rw [hlen] at this; exact this
    | none =>
      simp only [hm.sta _ _ hs, Nat.beq_refl, cond_true, evSlice, bound_none, h1', h2', ofEV, Option.map_some]
      refine ⟨_, rfl, ?_⟩
      have := SV.fz (t := 0) (cap := none) hr (.inl rfl) (fun q e => by cases e)
      rw [hlen] at this; exact this
theorem bound_le {x : Option EV} {d most i : Nat} (h : bound x d most = some i) (hd : d ≤ most) : i ≤ most := by
  unfold bound at h
  split at h
  · cases h; exact hd
  · rename_i kk i'
    cases hb : i'.ble most <;> simp only [hb, cond_true, cond_false, reduceCtorEq, Option.some.injEq] at h
    rw [← h]; exact Nat.le_of_ble_eq_true hb
  · cases h
theorem append_sim (hm : MemS θ m m') (k : TieOk θ n n') (f : Fresh θ m.next m'.next) {elem esz : Nat} {s s' x x' : EV} (hs : SV θ s s') (hx : SV θ x x') (h : evAppend m elem esz s x = some (v, m1)) : OpS θ m m' v m1 (ofEM (evAppend m' elem esz s' x')) := by
  unfold evAppend at h ⊢
  cases hsrc : m.source esz x with
  | none => simp [hsrc] at h
  | some q =>
    obtain ⟨N, xs⟩ := q
    obtain ⟨xs', hsrc', hxs⟩ := source_sim hm hx hsrc
    simp only [hsrc, hsrc'] at h ⊢
    cases h0 : N.beq 0 <;> simp only [h0, cond_true, cond_false] at h ⊢
    · cases hs <;> simp only [reduceCtorEq] at h
      case nilslice =>
        cases hr : N.ble room <;> simp only [hr, cond_true, cond_false, reduceCtorEq, Option.some.injEq, Prod.mk.injEq] at h
        obtain ⟨rfl, rfl⟩ := h
        exact OpS.new hm f ⟨xs', rfl, hxs.ext f.ext⟩ (.slice more_at)
      case slice b c off len cap hb =>
        cases hr : (len + N).ble room <;> simp only [hr, cond_true, cond_false, reduceCtorEq] at h ⊢
        cases hrow : m.row b off (len * esz) with
        | none => simp [hrow] at h
        | some old =>
          obtain ⟨old', hrow', hold⟩ := row_sim hm hb hrow
          simp only [hrow, hrow'] at h ⊢
          cases cap with
          | some cp =>
            simp only at h ⊢
            cases hc : (len + N).ble cp <;> simp only [hc, cond_true, cond_false] at h ⊢
            · simp only [Option.some.injEq, Prod.mk.injEq] at h
              obtain ⟨rfl, rfl⟩ := h
              exact OpS.new hm f ⟨_, rfl, (hold.append hxs).ext f.ext⟩ (.slice more_at)
            · obtain ⟨m2, hw, he⟩ := Option.map_eq_some_iff.1 h
              simp only [Prod.mk.injEq] at he
              obtain ⟨rfl, rfl⟩ := he
              obtain ⟨m2', hw', h2, h3, h4, h5⟩ := write_sim hm k hb hxs hw
              refine ⟨_, m2', by simp only [hw', Option.map_some, ofEM], .inl ⟨.slice hb, h2, h3, h4⟩, fun d _ hd => h5 d fun e => hd b (e ▸ hb)⟩
          | none =>
            simp only at h ⊢
            have hB := hm.blk b c hb
            cases hg : m.get b with
            | dead => simp [hg] at h
            | map es => simp [hg] at h
            | cells cs e t ro =>
              rw [hg] at hB
              obtain ⟨cs', hg', _⟩ := hB
              cases ro with
              | true => simp [hg] at h
              | false =>
              simp only [hg, hg'] at h ⊢
              cases he : e.beq esz <;> simp only [he, cond_true, cond_false, reduceCtorEq, Option.some.injEq, Prod.mk.injEq] at h ⊢
              obtain ⟨rfl, rfl⟩ := h
              have hmo := hm.more f (B := .cells (old ++ xs) esz elem false) (B' := .cells (old' ++ xs') esz elem false) ⟨_, rfl, (hold.append hxs).ext f.ext⟩
              have k2 := k.more f (k := max n (m.next + 1)) (k' := max n' (m'.next + 1)) (by omega) (by omega) (by omega) (by omega)
              refine ⟨_, _, rfl, .inr ⟨.slice more_at, hmo.set k2 (f.ext.ren b c hb) (B := .dead) (B' := .dead) trivial, rfl, rfl⟩, fun d hd hd' => ?_⟩
              have hdc : d ≠ c := fun q => hd' b (q ▸ hb)
              rw [get_set_ne hdc, get_new, if_neg hd]
    · cases hs <;> simp only [reduceCtorEq, Option.some.injEq, Prod.mk.injEq] at h
      case nilslice => obtain ⟨rfl, rfl⟩ := h; exact OpS.here hm rfl .nilslice
      case slice hb => obtain ⟨rfl, rfl⟩ := h; exact OpS.here hm rfl (.slice hb)
      case fz c a b => obtain ⟨rfl, rfl⟩ := h; exact OpS.here hm rfl (.fz a b c)
      case fz0 ht => obtain ⟨rfl, rfl⟩ := h; exact OpS.here hm rfl (.fz0 ht)
theorem copy_sim (hm : MemS θ m m') (k : TieOk θ n n') {esz : Nat} {s s' x x' : EV} (hs : SV θ s s') (hx : SV θ x x') (h : evCopy m esz s x = some (v, m1)) : OpS θ m m' v m1 (ofEM (evCopy m' esz s' x')) := by
  unfold evCopy at h ⊢
  cases hs <;> simp only [reduceCtorEq] at h
  case nilslice =>
    obtain ⟨q, hq, he⟩ := Option.map_eq_some_iff.1 h
    obtain ⟨xs', hsrc', _⟩ := source_sim hm hx hq
    simp only [Prod.mk.injEq] at he
    obtain ⟨rfl, rfl⟩ := he
    simp only [hsrc', Option.map_some]
    exact OpS.here hm rfl (.int _ _)
  case slice b c off len cap hb =>
    cases hsrc : m.source esz x with
    | none => simp [hsrc] at h
    | some q =>
      obtain ⟨N, xs⟩ := q
      obtain ⟨xs', hsrc', hxs⟩ := source_sim hm hx hsrc
      simp only [hsrc, hsrc'] at h ⊢
      obtain ⟨m2, hw, he⟩ := Option.map_eq_some_iff.1 h
      simp only [Prod.mk.injEq] at he
      obtain ⟨rfl, rfl⟩ := he
      obtain ⟨m2', hw', h2, h3, h4, h5⟩ := write_sim hm k hb (hxs.take _) hw
      exact ⟨_, m2', by simp only [hw', Option.map_some, ofEM], .inl ⟨.int _ _, h2, h3, h4⟩, fun d _ hd => h5 d fun e => hd b (e ▸ hb)⟩
theorem op_sim (hρ : OpsS θ ρ ρ') (hm : MemS θ m m') (k : TieOk θ n n') (f : Fresh θ m.next m'.next) {op : IOp} (hok : okOp op = true) (h : evOp ρ op m = some (.val v m1)) : OpS θ m m' v m1 (evOp ρ' op m') := by
  cases op <;> simp only [okOp, opds, okZero, List.all_cons, List.all_nil, List.all_append, Bool.and_true, Bool.true_and, Bool.and_eq_true] at hok <;> simp only [evOp] at h ⊢
  case mov x => obtain ⟨rfl, rfl⟩ := val_inv h; exact .here hm rfl (hρ x hok)
  case pick c a b =>
    have hc := hρ c hok.1
    generalize ρ c = y at hc h; generalize ρ' c = y' at hc
    cases hc <;> simp only [reduceCtorEq] at h ⊢
    rename_i t
    obtain ⟨rfl, rfl⟩ := val_inv h
    cases t
    · exact .here hm rfl (hρ b hok.2.2)
    · exact .here hm rfl (hρ a hok.2.1)
  case alloc e z =>
    obtain ⟨rfl, rfl⟩ := val_inv h
    exact .new hm f ⟨z, rfl, SVs.of_flat hok⟩ (.ptr more_at)
  case box e x =>
    have hx := hρ x hok
    cases hc : (ρ x).cells with
    | none => simp [hc] at h
    | some cs =>
      obtain ⟨cs', hc', hs⟩ := hx.cells hc
      simp only [hc, hc'] at h ⊢
      obtain ⟨rfl, rfl⟩ := val_inv h
      rw [← hs.length]
      exact .new hm f ⟨cs', rfl, hs.ext f.ext⟩ (.ptr more_at)
  case build z ps =>
    obtain ⟨h1, rfl⟩ := ofEV_inv h
    obtain ⟨r, hr, rfl⟩ := Option.map_eq_some_iff.1 h1
    have hp : SVs θ ((ps.map fun p => (p.1, p.2.1, ρ p.2.2)).map (·.2.2)) ((ps.map fun p => (p.1, p.2.1, ρ' p.2.2)).map (·.2.2)) := by
      have := OpsS.list hρ hok.1
      rw [List.map_map, List.map_map] at this
      rw [List.map_map, List.map_map]; exact this
    obtain ⟨r', hr', hs⟩ := fill_sim _ (ps.map fun p => (p.1, p.2.1, ρ' p.2.2)) _ _ _ (by simp [Function.comp_def]) hp (SVs.of_flat hok.2) hr
    simp only [hr', Option.map_some, ofEV]
    exact .here hm rfl (.agg hs)
  case bslice e esz len z ps =>
    cases hr : fillIn (copies len z) (ps.map fun p => (p.1 * esz, esz, ρ p.2)) with
    | none => simp [hr] at h
    | some r =>
      have hp : SVs θ ((ps.map fun p => (p.1 * esz, esz, ρ p.2)).map (·.2.2)) ((ps.map fun p => (p.1 * esz, esz, ρ' p.2)).map (·.2.2)) := by
        have := OpsS.list hρ hok.1
        rw [List.map_map, List.map_map] at this
        rw [List.map_map, List.map_map]; exact this
      obtain ⟨r', hr', hs⟩ := fill_sim _ (ps.map fun p => (p.1 * esz, esz, ρ' p.2)) _ _ _ (by simp [Function.comp_def]) hp (SVs.of_flat (flat_flatten hok.2 len)) hr
      simp only [hr, hr'] at h ⊢
      obtain ⟨rfl, rfl⟩ := val_inv h
      exact .new hm f ⟨r', rfl, hs.ext f.ext⟩ (.slice more_at)
  case load g a =>
    obtain ⟨h1, rfl⟩ := ofEV_inv h
    obtain ⟨v', hl, hv⟩ := load_sim hm (hρ a hok) h1
    simp only [hl, ofEV, Option.map_some]
    exact .here hm rfl hv
  case store size a x =>
    obtain ⟨h1, rfl⟩ := ofM_inv h
    obtain ⟨m1', hs, h2, h3, h4, h5⟩ := store_sim hm k (hρ a hok.1) (hρ x hok.2) h1
    exact ⟨_, m1', by simp only [hs, ofM, Option.map_some], .inl ⟨.undef, h2, h3, h4⟩, fun c _ hc => h5 c hc⟩
  case nilck x =>
    have hx := hρ x hok
    generalize ρ x = y at hx h; generalize ρ' x = y' at hx
    cases hx <;> simp only [reduceCtorEq] at h ⊢ <;> obtain ⟨rfl, rfl⟩ := val_inv h
    case ptr hb => exact .here hm rfl (.ptr hb)
    case func h1 h2 => exact .here hm rfl (.func h1 h2)
    case iface h1 => exact .here hm rfl (.iface h1)
    case fptr h2 h3 h1 => exact .here hm rfl (.fptr h1 h2 h3)
  case bin op x y =>
    obtain ⟨h1, rfl⟩ := ofEV_inv h
    obtain ⟨f1, f2, f3⟩ := bin_flat h1
    rw [(hρ x hok.1).flat f1, (hρ y hok.2).flat f2, h1]
    exact .here hm rfl (SV.of_flat f3)
  case eq neg t x y =>
    obtain ⟨h1, rfl⟩ := ofEV_inv h
    obtain ⟨b, hb, rfl⟩ := Option.map_eq_some_iff.1 h1
    rw [eq_sim t (hρ x hok.1) (hρ y hok.2) hb]
    exact .here hm rfl (.bool _)
  case un op x =>
    obtain ⟨h1, rfl⟩ := ofEV_inv h
    obtain ⟨f1, f2⟩ := un_flat h1
    rw [(hρ x hok).flat f1, h1]
    exact .here hm rfl (SV.of_flat f2)
  case conv c x =>
    have hx := hρ x hok
    unfold ofEM at h
    obtain ⟨q, hq, he⟩ := Option.map_eq_some_iff.1 h
    obtain ⟨q1, q2⟩ := q
    cases he
    generalize ρ x = y at hx hq; generalize ρ' x = y' at hx
    cases c with
    | int kk =>
      cases hx <;> simp only [evConv, reduceCtorEq, Option.some.injEq, Prod.mk.injEq] at hq ⊢
      obtain ⟨rfl, rfl⟩ := hq
      exact .here hm rfl (.int _ _)
    | same =>
      cases hx <;> simp only [evConv, reduceCtorEq, Option.some.injEq, Prod.mk.injEq] at hq ⊢
      obtain ⟨rfl, rfl⟩ := hq
      exact .here hm rfl (.str _)
    | bytes e =>
      cases hx <;> simp only [evConv, reduceCtorEq, Option.some.injEq, Prod.mk.injEq] at hq ⊢
      obtain ⟨rfl, rfl⟩ := hq
      exact .new hm f ⟨_, rfl, SVs.map _ _ fun a _ => .int _ _⟩ (.slice more_at)
    | text =>
      cases hx <;> simp only [evConv, reduceCtorEq, Option.some.injEq, Prod.mk.injEq] at hq ⊢
      case nilslice => obtain ⟨rfl, rfl⟩ := hq; exact .here hm rfl (.str _)
      case slice b c off len cap hb =>
        cases hr : m.row b off len with
        | none => simp [hr] at hq
        | some cs =>
          obtain ⟨cs', hr', hs⟩ := row_sim hm hb hr
          simp only [hr, hr'] at hq ⊢
          obtain ⟨s, hs1, he⟩ := Option.map_eq_some_iff.1 hq
          cases he
          rw [hs.flat (bytes_flat hs1), hs1]
          exact .here hm rfl (.str _)
  case iface t x => obtain ⟨rfl, rfl⟩ := val_inv h; exact .here hm rfl (.iface (hρ x hok))
  case mkfn g a c =>
    obtain ⟨rfl, rfl⟩ := val_inv h
    exact .here hm rfl (.func (OpsS.list hρ hok.1) (OpsS.list hρ hok.2))
  case mkmap =>
    obtain ⟨rfl, rfl⟩ := val_inv h
    exact .new hm f ⟨[], rfl, .nil⟩ (.map more_at)
  case mkslice e esz z len cap =>
    have hl := hρ len hok.1.1
    have hc := hρ cap hok.1.2
    generalize ρ len = a at hl h; generalize ρ' len = a' at hl
    generalize ρ cap = b at hc h; generalize ρ' cap = b' at hc
    split at h
    · rename_i l c
      have := int_of hl; have := int_of hc; subst_vars
      simp only
      cases hb : (bif l.ble c then c.ble room else false) <;> simp only [hb, cond_true, cond_false, reduceCtorEq] at h ⊢
      obtain ⟨rfl, rfl⟩ := val_inv h
      exact .new hm f ⟨_, rfl, SVs.of_flat (flat_flatten hok.2 c)⟩ (.slice more_at)
    · cases h
  case slstr x lo hi =>
    have hx := hρ x hok.1
    have hlo := all_optl hok.2.1 hρ
    have hhi := all_optl hok.2.2 hρ
    generalize ρ x = y at hx h; generalize ρ' x = y' at hx
    cases hx <;> simp only [reduceCtorEq] at h ⊢
    rename_i s
    cases h1 : bound (hi.map ρ) s.length s.length with
    | none => simp [h1] at h
    | some q =>
      rw [bound_sim hhi h1]; simp only [h1] at h ⊢
      cases h2 : bound (lo.map ρ) 0 q with
      | none => simp [h2] at h
      | some l =>
        rw [bound_sim hlo h2]; simp only [h2] at h ⊢
        obtain ⟨rfl, rfl⟩ := val_inv h
        exact .here hm rfl (.str _)
  case slsl esz x lo hi mx =>
    have hx := hρ x hok.1
    have hlo := all_optl hok.2.1 hρ
    have hhi := all_optl hok.2.2.1 hρ
    have hmx := all_optl hok.2.2.2 hρ
    generalize hy : ρ x = y at hx h; generalize hy' : ρ' x = y' at hx
    have fzc : ∀ (t e : Nat) (els : List (List EV)) (b off : Nat) (cap : Option Nat), SV θ (.fz t e els) (.slice b off els.length cap) → (match mx with
      | none => bif e.beq esz then match bound (hi.map ρ) els.length els.length with
          | some h => match bound (lo.map ρ) 0 h with
            | some l => some (R1.val (.fz 0 e ((els.take h).drop l)) m)
            | none => none
          | none => none
        else none
      | some _ => none) = some (.val v m1) → OpS θ m m' v m1 (match cap with
      | some c => ofEV m' (evSlice esz b off els.length (some c) (lo.map ρ') (hi.map ρ') (mx.map ρ'))
      | none => match m'.get b with
        | .cells _ e _ _ => bif e.beq esz then ofEV m' (evSlice esz b off els.length none (lo.map ρ') (hi.map ρ') (mx.map ρ')) else none
        | _ => none) := by
      intro t e els b off cap hsv hh
      cases mx with
      | some x => cases hh
      | none =>
        simp only at hh
        cases he : e.beq esz <;> simp only [he, cond_true, cond_false, reduceCtorEq] at hh
        obtain rfl := of_beq he
        cases h1 : bound (hi.map ρ) els.length els.length with
        | none => simp [h1] at hh
        | some q =>
          simp only [h1] at hh
          cases h2 : bound (lo.map ρ) 0 q with
          | none => simp [h2] at hh
          | some l =>
            simp only [h2] at hh
            obtain ⟨rfl, rfl⟩ := val_inv hh
            obtain ⟨v', e1, e2⟩ := fz_part hsv hm hlo hhi h1 h2 (bound_le h1 (Nat.le_refl _)) (bound_le h2 (Nat.zero_le _))
            rw [show (Option.map ρ' none : Option EV) = none from rfl, e1]
            exact .here hm rfl e2
    cases hx <;> (try simp only [reduceCtorEq] at h ⊢)
    case nilslice =>
      cases h1 : bound (mx.map ρ) 0 0 with
      | none => simp [h1] at h
      | some a =>
        cases h2 : bound (hi.map ρ) 0 0 with
        | none => simp [h1, h2] at h
        | some b =>
          cases h3 : bound (lo.map ρ) 0 0 with
          | none => simp [h1, h2, h3] at h
          | some c =>
            rw [bound_sim hmx h1, bound_sim hhi h2, bound_sim hlo h3]
            simp only [h1, h2, h3] at h ⊢
            obtain ⟨rfl, rfl⟩ := val_inv h
            exact .here hm rfl .nilslice
    case slice b c off len cap hb =>
      cases cap with
      | some cp =>
        simp only at h ⊢
        obtain ⟨h1, rfl⟩ := ofEV_inv h
        obtain ⟨v', e1, e2⟩ := evSlice_sim (θ' := θ) hb hlo hhi hmx h1
        rw [e1]
        exact .here hm rfl e2
      | none =>
        simp only at h ⊢
        have hB := hm.blk b c hb
        cases hg : m.get b with
        | dead => simp [hg] at h
        | map es => simp [hg] at h
        | cells cs e t ro =>
          rw [hg] at hB
          obtain ⟨cs', hg', _⟩ := hB
          simp only [hg, hg'] at h ⊢
          cases he : e.beq esz <;> simp only [he, cond_true, cond_false, reduceCtorEq] at h ⊢
          obtain ⟨h1, rfl⟩ := ofEV_inv h
          obtain ⟨v', e1, e2⟩ := evSlice_sim (θ' := θ) hb hlo hhi hmx h1
          rw [e1]
          exact .here hm rfl e2
    case fz t e els b off cap h3 h1 h2 =>
      have := fzc t e els b off cap (.fz h1 h2 h3) h
      cases cap <;> exact this
    case fz0 t e b off ht =>
      exact fzc t e [] b off (some 0) (.fz0 ht) h
  case slarr N esz x lo hi mx =>
    have hx := hρ x hok.1
    have hlo := all_optl hok.2.1 hρ
    have hhi := all_optl hok.2.2.1 hρ
    have hmx := all_optl hok.2.2.2 hρ
    generalize ρ x = y at hx h; generalize ρ' x = y' at hx
    cases hx <;> simp only [reduceCtorEq] at h ⊢
    rename_i hb
    obtain ⟨h1, rfl⟩ := ofEV_inv h
    obtain ⟨v', e1, e2⟩ := evSlice_sim (θ' := θ) hb hlo hhi hmx h1
    rw [e1]
    exact .here hm rfl e2
  case faddr off x =>
    have hx := hρ x hok
    generalize ρ x = y at hx h; generalize ρ' x = y' at hx
    cases hx <;> simp only [reduceCtorEq] at h ⊢ <;> obtain ⟨rfl, rfl⟩ := val_inv h
    case ptr hb => exact .here hm rfl (.ptr hb)
    case fptr h2 h3 h1 => exact .here hm rfl (.fptr h1 h2 (by omega))
  case fld g off x =>
    have hx := hρ x hok
    generalize ρ x = y at hx h; generalize ρ' x = y' at hx
    cases hx <;> simp only [reduceCtorEq] at h ⊢
    rename_i hs
    obtain ⟨h1, rfl⟩ := ofEV_inv h
    obtain ⟨v', e1, e2⟩ := hs.part h1
    rw [e1]
    exact .here hm rfl e2
  case iaddr esz x i =>
    have hx := hρ x hok.1
    have hi := hρ i hok.2
    generalize ρ x = y at hx h; generalize ρ' x = y' at hx
    cases hx <;> simp only [reduceCtorEq] at h ⊢
    case slice b c off len cap hb =>
      cases hj : idx len (ρ i) with
      | none => simp [hj] at h
      | some j =>
        rw [idx_sim hi hj]; simp only [hj] at h ⊢
        obtain ⟨rfl, rfl⟩ := val_inv h
        exact .here hm rfl (.ptr hb)
    case fz t e els b off cap hc hr ht =>
      cases he : e.beq esz <;> simp only [he, cond_true, cond_false, reduceCtorEq] at h
      obtain rfl := of_beq he
      cases hj : idx els.length (ρ i) with
      | none => simp [hj] at h
      | some j =>
        rw [idx_sim hi hj]; simp only [hj] at h ⊢
        obtain ⟨rfl, rfl⟩ := val_inv h
        refine .here hm rfl (.fptr hr ?_ rfl)
        unfold idx at hj
        split at hj
        · rename_i j' _
          cases hb : (j' + 1).ble els.length <;> simp only [hb, cond_true, cond_false, reduceCtorEq, Option.some.injEq] at hj
          subst hj; exact Nat.le_of_ble_eq_true hb
        · cases hj
    case fz0 t e b off ht =>
      cases he : e.beq esz <;> simp only [he, cond_true, cond_false, reduceCtorEq] at h
      cases hj : idx 0 (ρ i) with
      | none => simp [hj] at h
      | some j =>
        unfold idx at hj
        split at hj
        · exact absurd (show (none : Option Nat) = some j from hj) (by simp)
        · cases hj
  case iaddrArr N esz x i =>
    have hx := hρ x hok.1
    have hi := hρ i hok.2
    generalize ρ x = y at hx h; generalize ρ' x = y' at hx
    cases hx <;> simp only [reduceCtorEq] at h ⊢
    rename_i hb
    cases hj : idx N (ρ i) with
    | none => simp [hj] at h
    | some j =>
      rw [idx_sim hi hj]; simp only [hj] at h ⊢
      obtain ⟨rfl, rfl⟩ := val_inv h
      exact .here hm rfl (.ptr hb)
  case idxstr x i =>
    have hx := hρ x hok.1
    have hi := hρ i hok.2
    generalize ρ x = y at hx h; generalize ρ' x = y' at hx
    cases hx <;> simp only [reduceCtorEq] at h ⊢
    rename_i s
    cases hj : idx s.length (ρ i) with
    | none => simp [hj] at h
    | some j =>
      rw [idx_sim hi hj]; simp only [hj] at h ⊢
      cases hs : s[j]? with
      | none => simp [hs] at h
      | some c =>
        simp only [hs] at h ⊢
        obtain ⟨rfl, rfl⟩ := val_inv h
        exact .here hm rfl (.int _ _)
  case idxagg N esz g x i =>
    have hx := hρ x hok.1
    have hi := hρ i hok.2
    generalize ρ x = y at hx h; generalize ρ' x = y' at hx
    cases hx <;> simp only [reduceCtorEq] at h ⊢
    rename_i hs
    cases hj : idx N (ρ i) with
    | none => simp [hj] at h
    | some j =>
      rw [idx_sim hi hj]; simp only [hj] at h ⊢
      obtain ⟨h1, rfl⟩ := ofEV_inv h
      obtain ⟨v', e1, e2⟩ := hs.part h1
      rw [e1]
      exact .here hm rfl e2
  case lookup kt z ok mp key =>
    have hx := hρ mp hok.1.1
    have hk := hρ key hok.1.2
    have hz : SV θ z z := SV.of_flat hok.2
    have hzk : SV θ (bif ok then .tuple [z, .bool false] else z) (bif ok then .tuple [z, .bool false] else z) := by
      cases ok
      · exact hz
      · exact .tuple (.cons hz (.cons (.bool _) .nil))
    generalize ρ mp = y at hx h; generalize ρ' mp = y' at hx
    cases hx <;> simp only [reduceCtorEq] at h ⊢
    case nilmap =>
      cases hki : keyIs kt (ρ key) <;> simp only [hki, cond_true, cond_false, reduceCtorEq] at h
      rw [hk.flat (sort_flat (key_sort hki)), hki]
      obtain ⟨rfl, rfl⟩ := val_inv h
      exact .here hm rfl hzk
    case map b c hb =>
      have hB := hm.blk b c hb
      cases hg : m.get b with
      | dead => simp [hg] at h
      | cells cs e t ro => simp [hg] at h
      | map es =>
        rw [hg] at hB
        obtain ⟨es', hg', hes⟩ := hB
        simp only [hg, hg'] at h ⊢
        cases hko : keysOk kt (ρ key) es <;> simp only [hko, cond_true, cond_false, reduceCtorEq] at h
        unfold keysOk at hko
        cases hki : keyIs kt (ρ key) <;> simp only [hki, cond_true, cond_false, Bool.false_eq_true] at hko
        obtain ⟨g1, g2⟩ := sorts_sim (key_sort hki) hes hko
        obtain ⟨f1, f2⟩ := find_sim (k := ρ key) hes g1
        rw [hk.flat (sort_flat (key_sort hki))]
        simp only [keysOk, hki, g2, cond_true]
        cases hf : find (ρ key) es with
        | none =>
          rw [f2 hf]; simp only [hf] at h ⊢
          obtain ⟨rfl, rfl⟩ := val_inv h
          exact .here hm rfl hzk
        | some w =>
          obtain ⟨w', e1, e2⟩ := f1 w hf
          rw [e1]; simp only [hf] at h ⊢
          obtain ⟨rfl, rfl⟩ := val_inv h
          refine .here hm rfl ?_
          cases ok
          · exact e2
          · exact .tuple (.cons e2 (.cons (.bool _) .nil))
  case mapupd kt mp key x =>
    have hx := hρ mp hok.1
    have hk := hρ key hok.2.1
    have hv := hρ x hok.2.2
    generalize ρ mp = y at hx h; generalize ρ' mp = y' at hx
    cases hx <;> simp only [reduceCtorEq] at h ⊢
    case map b c hb =>
      have hB := hm.blk b c hb
      cases hg : m.get b with
      | dead => simp [hg] at h
      | cells cs e t ro => simp [hg] at h
      | map es =>
        rw [hg] at hB
        obtain ⟨es', hg', hes⟩ := hB
        simp only [hg, hg'] at h ⊢
        cases hko : keysOk kt (ρ key) es <;> simp only [hko, cond_true, cond_false, reduceCtorEq] at h
        unfold keysOk at hko
        cases hki : keyIs kt (ρ key) <;> simp only [hki, cond_true, cond_false, Bool.false_eq_true] at hko
        obtain ⟨g1, g2⟩ := sorts_sim (key_sort hki) hes hko
        have hkk := hk.flat (sort_flat (key_sort hki))
        have hu := update_sim hk hv hkk hes g1
        rw [hkk] at hu ⊢
        simp only [keysOk, hki, g2, cond_true]
        obtain ⟨rfl, rfl⟩ := val_inv h
        exact ⟨_, _, rfl, .inl ⟨.undef, hm.set k hb ⟨_, rfl, hu⟩, rfl, rfl⟩, fun d _ hd => get_set_ne fun e => hd b (e ▸ hb)⟩
  case delete kt mp key =>
    have hx := hρ mp hok.1
    have hk := hρ key hok.2
    generalize ρ mp = y at hx h; generalize ρ' mp = y' at hx
    cases hx <;> simp only [reduceCtorEq] at h ⊢
    case nilmap =>
      cases hki : keyIs kt (ρ key) <;> simp only [hki, cond_true, cond_false, reduceCtorEq] at h
      rw [hk.flat (sort_flat (key_sort hki)), hki]
      obtain ⟨rfl, rfl⟩ := val_inv h
      exact .here hm rfl (.tuple .nil)
    case map b c hb =>
      have hB := hm.blk b c hb
      cases hg : m.get b with
      | dead => simp [hg] at h
      | cells cs e t ro => simp [hg] at h
      | map es =>
        rw [hg] at hB
        obtain ⟨es', hg', hes⟩ := hB
        simp only [hg, hg'] at h ⊢
        cases hko : keysOk kt (ρ key) es <;> simp only [hko, cond_true, cond_false, reduceCtorEq] at h
        unfold keysOk at hko
        cases hki : keyIs kt (ρ key) <;> simp only [hki, cond_true, cond_false, Bool.false_eq_true] at hko
        obtain ⟨g1, g2⟩ := sorts_sim (key_sort hki) hes hko
        have hkk := hk.flat (sort_flat (key_sort hki))
        rw [hkk]
        simp only [keysOk, hki, g2, cond_true]
        obtain ⟨rfl, rfl⟩ := val_inv h
        exact ⟨_, _, rfl, .inl ⟨.tuple .nil, hm.set k hb ⟨_, rfl, erase_sim hes g1⟩, rfl, rfl⟩, fun d _ hd => get_set_ne fun e => hd b (e ▸ hb)⟩
  case lenmap mp =>
    have hx := hρ mp hok
    generalize ρ mp = y at hx h; generalize ρ' mp = y' at hx
    cases hx <;> simp only [reduceCtorEq] at h ⊢
    case nilmap => obtain ⟨rfl, rfl⟩ := val_inv h; exact .here hm rfl (.int _ _)
    case map b c hb =>
      have hB := hm.blk b c hb
      cases hg : m.get b with
      | dead => simp [hg] at h
      | cells cs e t ro => simp [hg] at h
      | map es =>
        rw [hg] at hB
        obtain ⟨es', hg', hes⟩ := hB
        simp only [hg, hg', hes.len] at h ⊢
        obtain ⟨rfl, rfl⟩ := val_inv h
        exact .here hm rfl (.int _ _)
  case tassert t x =>
    have hx := hρ x hok
    generalize ρ x = y at hx h; generalize ρ' x = y' at hx
    cases hx <;> simp only [reduceCtorEq] at h ⊢
    rename_i u _ _ hs
    cases hb : t.beq u <;> simp only [hb, cond_true, cond_false, reduceCtorEq] at h ⊢
    obtain ⟨rfl, rfl⟩ := val_inv h
    exact .here hm rfl hs
  case extract x i =>
    have hx := hρ x hok
    generalize ρ x = y at hx h; generalize ρ' x = y' at hx
    cases hx <;> simp only [reduceCtorEq] at h ⊢
    rename_i hs
    obtain ⟨h1, rfl⟩ := ofEV_inv h
    obtain ⟨v', e1, e2⟩ := hs.get h1
    rw [e1]
    exact .here hm rfl e2
  case len x =>
    have hx := hρ x hok
    generalize ρ x = y at hx h; generalize ρ' x = y' at hx
    cases hx <;> simp only [reduceCtorEq] at h ⊢ <;> obtain ⟨rfl, rfl⟩ := val_inv h <;> exact .here hm rfl (.int _ _)
  case lenstr x =>
    have hx := hρ x hok
    generalize ρ x = y at hx h; generalize ρ' x = y' at hx
    cases hx <;> simp only [reduceCtorEq] at h ⊢
    obtain ⟨rfl, rfl⟩ := val_inv h; exact .here hm rfl (.int _ _)
  case lenarr N => obtain ⟨rfl, rfl⟩ := val_inv h; exact .here hm rfl (.int _ _)
  case cap x =>
    have hx := hρ x hok
    generalize ρ x = y at hx h; generalize ρ' x = y' at hx
    cases hx <;> (try simp only [reduceCtorEq] at h ⊢)
    case nilslice => obtain ⟨rfl, rfl⟩ := val_inv h; exact .here hm rfl (.int _ _)
    case slice cap hb =>
      cases cap <;> simp only [reduceCtorEq] at h ⊢
      obtain ⟨rfl, rfl⟩ := val_inv h; exact .here hm rfl (.int _ _)
  case max args =>
    obtain ⟨h1, rfl⟩ := ofEV_inv h
    obtain ⟨f1, f2⟩ := max_flat h1
    rw [(OpsS.list hρ hok).flat f1, h1]
    exact .here hm rfl (SV.of_flat f2)
  case min args =>
    obtain ⟨h1, rfl⟩ := ofEV_inv h
    obtain ⟨f1, f2⟩ := min_flat h1
    rw [(OpsS.list hρ hok).flat f1, h1]
    exact .here hm rfl (SV.of_flat f2)
  case append e esz by_ s x =>
    unfold ofEM at h
    obtain ⟨q, hq, he⟩ := Option.map_eq_some_iff.1 h
    obtain ⟨q1, q2⟩ := q
    cases he
    exact append_sim hm k f (hρ s hok.1) (hρ x hok.2) hq
  case copy esz d s =>
    unfold ofEM at h
    obtain ⟨q, hq, he⟩ := Option.map_eq_some_iff.1 h
    obtain ⟨q1, q2⟩ := q
    cases he
    exact copy_sim hm k (hρ d hok.1) (hρ s hok.2) hq
end
end Go.Proofs.YtblcomejcahkdaaDoor.Ev
end
section
namespace Go.Proofs.YtblcomejcahkdaaDoor.Ev
open Go

def okXop : XOp → Bool
  | .val op => okOp op
  | .call f args | .defer f args => okOpd f && args.all okOpd
  | .panic x => okOpd x
def okOper (o : IOper) : Bool := okXop o.op
def okCode : ICode → Bool
  | .region ops | .draw ops _ => ops.all okOper
  | .seq a b => okCode a && okCode b
  | .cond c a b => okOpd c && okCode a && okCode b
  | .block _ a | .loop a => okCode a
  | _ => true
inductive DefS (θ : Tie) : List (Nat × List EV) → List (Nat × List EV) → Prop
  | nil : DefS θ [] []
  | cons {g : Nat} {x x' : List EV} {l l' : List (Nat × List EV)} (hx : SVs θ x x') (h : DefS θ l l') : DefS θ ((g, x) :: l) ((g, x') :: l')
theorem DefS.ext {θ θ' : Tie} (e : Tie.Ext θ θ') : ∀ {l l' : List (Nat × List EV)}, DefS θ l l' → DefS θ' l l'
  | _, _, .nil => .nil
  | _, _, .cons hx h => .cons (hx.ext e) (DefS.ext e h)
theorem DefS.none {θ : Tie} {l l' : List (Nat × List EV)} (h : DefS θ l l') (e : l = []) : l' = [] := by cases h with | nil => rfl | cons _ _ => cases e
structure FrS (θ : Tie) (fr fr' : Fr) : Prop where
  tmp : ∀ t, SV θ (fr.get t) (fr'.get t)
  dfr : DefS θ fr.defers fr'.defers
theorem FrS.ext {θ θ' : Tie} (e : Tie.Ext θ θ') {fr fr' : Fr} (h : FrS θ fr fr') : FrS θ' fr fr' := ⟨fun t => (h.tmp t).ext e, h.dfr.ext e⟩
theorem FrS.put {θ : Tie} {fr fr' : Fr} (h : FrS θ fr fr') {v v' : EV} (hv : SV θ v v') (d : Option Nat) : FrS θ (fr.put d v) (fr'.put d v') := by
  cases d with
  | none => exact h
  | some d =>
    refine ⟨fun t => ?_, h.dfr⟩
    show SV θ ((fr.set d v).get t) ((fr'.set d v').get t)
    rw [Fr.get_set, Fr.get_set]
    split
    · exact hv
    · exact h.tmp t
theorem FrS.ops {θ : Tie} {fr fr' : Fr} (h : FrS θ fr fr') (g : GlobOk θ) : OpsS θ (fun x => fr.eval (subO x)) fr'.eval := by
  intro x hx
  cases x with
  | tmp t => exact h.tmp t
  | const v => exact subV_sv g hx
structure StepS (θ : Tie) (m m' : Mem) (θ' : Tie) (m1 m1' : Mem) : Prop where
  ext : Tie.Ext θ θ'
  ren : ∀ b c, θ'.ren b = some c → θ.ren b = some c ∨ (m.next ≤ b ∧ m'.next ≤ c)
  sta : ∀ c B, θ'.sta c = some B → θ.sta c = some B ∨ (m'.next ≤ c ∧ m.next < m1.next)
  n1 : m.next ≤ m1.next
  n2 : m'.next ≤ m1'.next
  keep : ∀ c, c < m'.next → (∀ b, θ.ren b ≠ some c) → m1'.get c = m'.get c
theorem StepS.refl (θ : Tie) (m m' : Mem) : StepS θ m m' θ m m' := ⟨.refl θ, fun _ _ h => .inl h, fun _ _ h => .inl h, Nat.le_refl _, Nat.le_refl _, fun _ _ _ => rfl⟩
theorem StepS.trans {θ θ1 θ2 : Tie} {m m' m1 m1' m2 m2' : Mem} (h : StepS θ m m' θ1 m1 m1') (k : StepS θ1 m1 m1' θ2 m2 m2') : StepS θ m m' θ2 m2 m2' := by
  have a1 := h.n1; have a2 := h.n2; have b1 := k.n1; have b2 := k.n2
  refine ⟨h.ext.trans k.ext, fun b c e => ?_, fun c B e => ?_, by omega, by omega, fun c hc hr => ?_⟩
  · rcases k.ren b c e with e | ⟨e1, e2⟩
    · exact h.ren b c e
    · exact .inr ⟨by omega, by omega⟩
  · rcases k.sta c B e with e | ⟨e1, e2⟩
    · rcases h.sta c B e with e | ⟨e1, e2⟩
      · exact .inl e
      · exact .inr ⟨e1, by omega⟩
    · exact .inr ⟨by omega, by omega⟩
  · rw [k.keep c (by omega) fun b e => ?_, h.keep c hc hr]
    rcases h.ren b c e with e | ⟨e1, e2⟩
    · exact hr b e
    · omega
def Fin.mem : Fin → Mem
  | .ret _ m | .pan _ m => m
def Out.mem : Out → Mem
  | .norm _ m | .exit _ _ m | .ret _ m | .pan _ _ m => m
inductive FinS (θ : Tie) : Fin → Fin → Prop
  | ret {v v' : EV} {m m' : Mem} (hv : SV θ v v') (hg : GoodS θ m m') : FinS θ (.ret v m) (.ret v' m')
  | pan {v v' : EV} {m m' : Mem} (hv : SV θ v v') (hg : GoodS θ m m') : FinS θ (.pan v m) (.pan v' m')
inductive OutS (θ : Tie) : Out → Out → Prop
  | norm {fr fr' : Fr} {m m' : Mem} (hf : FrS θ fr fr') (hg : GoodS θ m m') : OutS θ (.norm fr m) (.norm fr' m')
  | exit {id : Nat} {fr fr' : Fr} {m m' : Mem} (hf : FrS θ fr fr') (hg : GoodS θ m m') : OutS θ (.exit id fr m) (.exit id fr' m')
  | ret {fr fr' : Fr} {m m' : Mem} (hf : FrS θ fr fr') (hg : GoodS θ m m') : OutS θ (.ret fr m) (.ret fr' m')
  | pan {v v' : EV} {fr fr' : Fr} {m m' : Mem} (hv : SV θ v v') (hf : FrS θ fr fr') (hg : GoodS θ m m') : OutS θ (.pan v fr m) (.pan v' fr' m')
def FinOk (θ : Tie) (m m' : Mem) (fin : Fin) (o : Option Fin) : Prop := ∃ θ' fin', o = some fin' ∧ FinS θ' fin fin' ∧ StepS θ m m' θ' fin.mem fin'.mem
def OutOk (θ : Tie) (m m' : Mem) (out : Out) (o : Option Out) : Prop := ∃ θ' out', o = some out' ∧ OutS θ' out out' ∧ StepS θ m m' θ' out.mem out'.mem
def CallS (T : Nat → Option Ent) (call : Call) : Prop := ∀ f args m fin, call f args m = some fin → ∀ θ m' args', GoodS θ m m' → SVs θ args args' → FinOk θ m m' fin (run T f args' m')
theorem OutOk.after {θ θ1 : Tie} {m m' m1 m1' : Mem} {out : Out} {o : Option Out} (h : StepS θ m m' θ1 m1 m1') (k : OutOk θ1 m1 m1' out o) : OutOk θ m m' out o := by
  obtain ⟨θ2, out', e, ho, hs⟩ := k
  exact ⟨θ2, out', e, ho, h.trans hs⟩
section
variable {T : Nat → Option Ent} {call : Call}
theorem OpS.good {θ : Tie} {m m' m1 : Mem} {v : EV} {o : Option R1} (hg : GoodS θ m m') (h : OpS θ m m' v m1 o) : ∃ θ' v' m1', o = some (.val v' m1') ∧ SV θ' v v' ∧ GoodS θ' m1 m1' ∧ StepS θ m m' θ' m1 m1' := by
  obtain ⟨v', m1', e, hc, hk⟩ := h
  rcases hc with ⟨h1, h2, h3, h4⟩ | ⟨h1, h2, h3, h4⟩
  · exact ⟨θ, v', m1', e, h1, ⟨h2, by rw [h3, h4]; exact hg.ok, hg.glb⟩, ⟨.refl θ, fun _ _ h => .inl h, fun _ _ h => .inl h, by omega, by omega, fun c hc hr => hk c (by omega) hr⟩⟩
  · have f := hg.ok.fresh (Nat.le_refl m.next) (Nat.le_refl m'.next)
    refine ⟨_, v', m1', e, h1, ⟨h2, by rw [h3, h4]; exact hg.ok.more f (by omega) (by omega) (by omega) (by omega), hg.glb.ext f.ext⟩, ⟨f.ext, fun b c hb => ?_, fun _ _ h => .inl h, by omega, by omega, fun c hc hr => hk c (by omega) hr⟩⟩
    have hb' : (if b = m.next then some m'.next else θ.ren b) = some c := hb
    by_cases hx : b = m.next
    · rw [if_pos hx] at hb'; cases hb'; exact .inr ⟨by omega, Nat.le_refl _⟩
    · rw [if_neg hx] at hb'; exact .inl hb'
theorem wanted_sim {θ : Tie} {fr fr' : Fr} (h : FrS θ fr fr') {g : Option (Nat × Bool)} {b : Bool} (hw : wantedE fr g = some b) : wantedE fr' g = some b := by
  cases g with
  | none => exact hw
  | some p =>
    obtain ⟨t, w⟩ := p
    simp only [wantedE] at hw ⊢
    have := h.tmp t
    generalize fr.get t = x at this hw; generalize fr'.get t = x' at this
    cases this <;> first | exact hw | simp at hw
theorem oprs_wanted {d : Option Nat} {op : XOp} {g : Option (Nat × Bool)} {l : List IOper} {fr : Fr} {m : Mem} {b : Bool} (h : wantedE fr g = some b) : oprs T (⟨d, op, g⟩ :: l) fr m = bif b then oprs T (⟨d, op, none⟩ :: l) fr m else oprs T l (fr.put d .undef) m := by
  cases g with
  | none => simp only [wantedE, Option.some.injEq] at h; subst h; rfl
  | some p =>
    obtain ⟨t, w⟩ := p
    rw [oprs_guard']
    simp only [wantedE] at h
    cases hx : fr.get t <;> simp only [hx, reduceCtorEq, Option.some.injEq] at h
    · subst h; rfl
    · subst h; rfl
theorem drw_wanted {chk : List (Nat × Nat)} {B0 i : Nat} {sn : List (Nat × Mem)} {se : List Seen} {d : Option Nat} {op : XOp} {g : Option (Nat × Bool)} {l : List IOper} {fr : Fr} {m : Mem} {b : Bool} (h : wantedE fr g = some b) :
    drw T chk B0 (⟨d, op, g⟩ :: l) i fr m sn se = bif b then drw T chk B0 (⟨d, op, none⟩ :: l) i fr m sn se else drw T chk B0 l (i + 1) (fr.put d .undef) m sn se := by
  cases g with
  | none => simp only [wantedE, Option.some.injEq] at h; subst h; rfl
  | some p =>
    obtain ⟨t, w⟩ := p
    rw [drw_guard]
    simp only [wantedE] at h
    cases hx : fr.get t <;> simp only [hx, reduceCtorEq, Option.some.injEq] at h
    · subst h; rfl
    · subst h; rfl
theorem oprs_defer {d : Option Nat} {f : Opd} {args : List Opd} {l : List IOper} {fr : Fr} {m : Mem} {g : Nat} {x y : List EV} (h : fr.eval f = .func g x y) : oprs T (⟨d, .defer f args, none⟩ :: l) fr m = oprs T l (Fr.put ⟨fr.tmps, (g, x ++ args.map fr.eval ++ y) :: fr.defers⟩ d .undef) m := by
  refine opt_ext fun r => ?_
  rw [oprs_iff]
  simp only [evOps, wantedE, h]
  exact oprs_iff.symm
theorem SV.func_inv {θ : Tie} {g : Nat} {x y : List EV} {v' : EV} (h : SV θ (.func g x y) v') : ∃ x' y', v' = .func g x' y' ∧ SVs θ x x' ∧ SVs θ y y' := by
  cases h with | func h1 h2 => exact ⟨_, _, rfl, h1, h2⟩
theorem call_inv {fv : EV} {asx : List EV} {m : Mem} {fin : Fin} (h : evCall call fv asx m = some fin) : ∃ g x y, fv = .func g x y ∧ call g (x ++ asx ++ y) m = some fin := by
  cases fv <;> first | exact ⟨_, _, _, rfl, h⟩ | (simp only [evCall, reduceCtorEq] at h)
theorem SV.notF {θ : Tie} {a b : EV} (h : SV θ a b) : isF b = false := by cases h <;> rfl
theorem ops_sim (hcall : CallS T call) : ∀ (l : List IOper) (fr : Fr) (m : Mem) (out : Out), evOps call (l.map IOper.sub) fr m = some out → l.all okOper = true → ∀ (θ : Tie) (fr' : Fr) (m' : Mem), FrS θ fr fr' → GoodS θ m m' → OutOk θ m m' out (oprs T l fr' m')
  | [], fr, m, out, h, _, θ, fr', m', hf, hg => by
    simp only [List.map_nil, evOps, Option.some.injEq] at h; subst h
    exact ⟨θ, _, oprs_nil, .norm hf hg, .refl _ _ _⟩
  | o :: l, fr, m, out, h, hok, θ, fr', m', hf, hg => by
    have ih := ops_sim hcall l
    simp only [List.all_cons, Bool.and_eq_true] at hok
    obtain ⟨d, op, g⟩ := o
    simp only [List.map_cons, IOper.sub, evOps] at h
    cases hw : wantedE fr g with
    | none => simp [hw] at h
    | some b =>
    rw [oprs_wanted (wanted_sim hf hw)]
    cases b with
    | false =>
      simp only [hw] at h
      exact ih _ _ _ h hok.2 θ _ _ (hf.put .undef d) hg
    | true =>
      simp only [hw] at h
      simp only [cond_true]
      cases op with
      | val op =>
        simp only [XOp.sub, evOp_mapO] at h
        cases he : evOp (fun x => fr.eval (subO x)) op m with
        | none => simp [he] at h
        | some q =>
          obtain ⟨v, m1⟩ := q
          simp only [he] at h
          obtain ⟨θ', v', m1', e1, e2, e3, e4⟩ := OpS.good hg (op_sim (hf.ops hg.glb) hg.toMemS hg.ok (hg.ok.fresh (Nat.le_refl _) (Nat.le_refl _)) hok.1 he)
          rw [oprs_val, e1]
          exact OutOk.after e4 (ih _ _ _ h hok.2 θ' _ _ ((hf.ext e4.ext).put e2 d) e3)
      | call f args =>
        have hok1 := hok.1
        simp only [okOper, okXop, Bool.and_eq_true] at hok1
        simp only [XOp.sub, List.map_map, Function.comp_def] at h
        have hfv : SV θ (fr.eval (subO f)) (fr'.eval f) := (hf.ops hg.glb) f hok1.1
        have hav : SVs θ (args.map fun x => fr.eval (subO x)) (args.map fr'.eval) := OpsS.list (hf.ops hg.glb) hok1.2
        cases hev : evCall call (fr.eval (subO f)) (args.map fun x => fr.eval (subO x)) m with
        | none => rw [hev] at h; cases h
        | some fin =>
          obtain ⟨gg, x, y, hfe, hc⟩ := call_inv hev
          rw [hfe] at hfv
          obtain ⟨x', y', hfe', hx, hy⟩ := hfv.func_inv
          rw [oprs_callv, hfe', runV_func]
          obtain ⟨θ', fin', e1, e2, e3⟩ := hcall _ _ _ _ hc θ m' _ hg ((hx.append hav).append hy)
          rw [e1]
          cases e2 with
          | ret hv hg' =>
            rw [hev] at h; simp only at h
            exact OutOk.after e3 (ih _ _ _ h hok.2 θ' _ _ ((hf.ext e3.ext).put hv d) hg')
          | pan hv hg' =>
            rw [hev] at h; simp only [Option.some.injEq] at h
            subst h
            exact ⟨θ', _, rfl, .pan hv (hf.ext e3.ext) hg', e3⟩
      | panic x =>
        have hx : SV θ (fr.eval (subO x)) (fr'.eval x) := (hf.ops hg.glb) x hok.1
        simp only [XOp.sub] at h
        cases hxe : fr.eval (subO x) <;> simp only [hxe, reduceCtorEq, Option.some.injEq] at h
        rename_i t v
        rw [hxe] at hx
        generalize hxe' : fr'.eval x = w at hx
        cases hx with
        | iface hv =>
          rw [oprs_panic hxe']
          subst h
          exact ⟨θ, _, rfl, .pan (.iface hv) hf hg, .refl _ _ _⟩
      | defer f args =>
        have hok1 := hok.1
        simp only [okOper, okXop, Bool.and_eq_true] at hok1
        simp only [XOp.sub, List.map_map, Function.comp_def] at h
        have hfv : SV θ (fr.eval (subO f)) (fr'.eval f) := (hf.ops hg.glb) f hok1.1
        have hav : SVs θ (args.map fun x => fr.eval (subO x)) (args.map fr'.eval) := OpsS.list (hf.ops hg.glb) hok1.2
        cases hfe : fr.eval (subO f) <;> simp only [hfe, reduceCtorEq] at h
        rename_i gg x y
        rw [hfe] at hfv
        obtain ⟨x', y', hfe', hx, hy⟩ := hfv.func_inv
        rw [oprs_defer hfe']
        exact ih _ _ _ h hok.2 θ _ _ (FrS.put (fr := ⟨fr.tmps, _ :: fr.defers⟩) (fr' := ⟨fr'.tmps, _ :: fr'.defers⟩) ⟨hf.tmp, .cons ((hx.append hav).append hy) hf.dfr⟩ .undef d) hg

structure SnapS (θ : Tie) (m : Mem) (s s' : Nat × Mem) : Prop where
  i : s'.1 = s.1
  blk : MemB θ s.2 s'.2
  le : s.2.next ≤ m.next
  sta : s.2.next = m.next → ∀ c B, θ.sta c = some B → s'.2.get c = B
inductive SnapsS (θ : Tie) (m : Mem) : List (Nat × Mem) → List (Nat × Mem) → Prop
  | nil : SnapsS θ m [] []
  | cons {s s' : Nat × Mem} {l l' : List (Nat × Mem)} (h : SnapS θ m s s') (hs : SnapsS θ m l l') : SnapsS θ m (s :: l) (s' :: l')
def SeenS (θ : Tie) (se : List Seen) (s' : Seen) : Prop :=
  (∃ s, s ∈ se ∧ s'.i = s.i ∧ s'.agg = s.agg ∧ isF s.a = false ∧ SV θ s.a s'.a ∧ SV θ s.v s'.v) ∨ (Told s'.v = true ∧ ∀ q : Mem, (∀ c B, θ.sta c = some B → q.get c = B) → q.load s'.agg s'.a = some s'.v)
theorem SeenS.ext {θ θ' : Tie} {se : List Seen} {s' : Seen} (h : SeenS θ se s') (e : Tie.Ext θ θ') : SeenS θ' se s' := by
  rcases h with ⟨s, h1, h2, h3, h4, h5, h6⟩ | ⟨h1, h2⟩
  · exact .inl ⟨s, h1, h2, h3, h4, h5.ext e, h6.ext e⟩
  · exact .inr ⟨h1, fun q hq => h2 q fun c B hc => hq c B (e.sta c B hc)⟩
theorem SnapsS.step {θ θ' : Tie} {m m1 m' m1' : Mem} (hst : StepS θ m m' θ' m1 m1') (hd : ∀ b c, θ.ren b = none → θ'.ren b = some c → ∀ s : Nat × Mem, s.2.next ≤ m.next → True) : ∀ {l l' : List (Nat × Mem)}, SnapsS θ m l l' → SnapsS θ' m1 l l'
  | _, _, .nil => .nil
  | _, _, .cons h hs => .cons ⟨h.i, h.blk.ext hst.ext fun b c hb _ => h.blk.cl b hb, Nat.le_trans h.le hst.n1, fun e c B hc => by
      have h1 := h.le; have h2 := hst.n1
      rcases hst.sta c B hc with q | ⟨_, q⟩
      · exact h.sta (by omega) c B q
      · omega⟩ (SnapsS.step hst hd hs)
theorem SnapsS.same {θ θ1 : Tie} {m m1 : Mem} (he : Tie.Ext θ θ1) (hs : θ1.sta = θ.sta) (hn : m1.next = m.next) : ∀ {l l' : List (Nat × Mem)}, SnapsS θ m l l' → SnapsS θ1 m1 l l'
  | _, _, .nil => .nil
  | _, _, .cons h hss => .cons ⟨h.i, h.blk.ext he fun b c hb _ => h.blk.cl b hb, by rw [hn]; exact h.le, fun e c B hc => by rw [hs] at hc; exact h.sta (e.trans hn) c B hc⟩ (SnapsS.same he hs hn hss)
theorem stands_told {m : Mem} {g : Option Nat} {a v : EV} (h : m.load g a = some v) (ht : Told v = true) : m.stands g a v = true := by
  unfold Mem.stands; rw [h]; exact same_refl v ht
theorem snap_sim {θ : Tie} {m : Mem} {chk : List (Nat × Nat)} {i : Nat} {g : Option Nat} {a a' v v' : EV} (ha : SV θ a a') (hv : SV θ v v') (hf : isF a = false) : ∀ {l l' : List (Nat × Mem)}, SnapsS θ m l l' → checkSnap chk i g a v l = true → checkSnap chk i g a' v' l' = true
  | _, _, .nil, _ => rfl
  | _, _, .cons (s := (j, mj)) (s' := (j', mj')) h hs, hc => by
    obtain rfl : j' = j := h.i
    simp only [checkSnap] at hc ⊢
    cases hp : hasPair i j' chk <;> simp only [hp, cond_true, cond_false] at hc ⊢
    · exact snap_sim ha hv hf hs hc
    · cases hst : mj.stands g a v <;> simp only [hst, cond_true, cond_false, Bool.false_eq_true] at hc
      have hst' : mj'.stands g a' v' = true := by
        unfold Mem.stands at hst ⊢
        cases hl : mj.load g a with
        | none => simp [hl] at hst
        | some x =>
          obtain ⟨x', hl', hx⟩ := load_b h.blk ha hf hl
          simp only [hl] at hst
          rw [hl']; exact hx.same hv hst
      simp only [hst', cond_true]
      exact snap_sim ha hv hf hs hc
theorem old_sim {θ : Tie} {m : Mem} {chk : List (Nat × Nat)} {i : Nat} {g : Option Nat} {a' v' : EV} (ht : Told v' = true) (hl : ∀ q : Mem, (∀ c B, θ.sta c = some B → q.get c = B) → q.load g a' = some v') : ∀ {l l' : List (Nat × Mem)}, SnapsS θ m l l' → checkOld chk i m.next l = true → checkSnap chk i g a' v' l' = true
  | _, _, .nil, _ => rfl
  | _, _, .cons (s := (j, mj)) (s' := (j', mj')) h hs, hc => by
    obtain rfl : j' = j := h.i
    simp only [checkSnap, checkOld] at hc ⊢
    cases hp : hasPair i j' chk <;> simp only [hp, cond_true, cond_false] at hc ⊢
    · exact old_sim ht hl hs hc
    · cases hn : mj.next.beq m.next <;> simp only [hn, cond_true, cond_false, Bool.false_eq_true] at hc
      have := stands_told (hl mj' (h.sta (of_beq hn))) ht
      simp only [this, cond_true]
      exact old_sim ht hl hs hc
theorem seen_sim {θ : Tie} {m1 m1' : Mem} {chk : List (Nat × Nat)} {j : Nat} (hm : MemS θ m1 m1') {se : List Seen} (hc : checkSeen chk j m1 se = true) : ∀ {se' : List Seen}, (∀ s', s' ∈ se' → SeenS θ se s') → checkSeen chk j m1' se' = true
  | [], _ => rfl
  | s' :: se', h => by
    have ih := seen_sim hm hc (se' := se') fun x hx => h x (by simp [hx])
    simp only [checkSeen, ih]
    cases hp : hasPair s'.i j chk <;> simp only [cond_true, cond_false]
    have : m1'.stands s'.agg s'.a s'.v = true := by
      rcases h s' (by simp) with ⟨s, h1, h2, h3, h4, h5, h6⟩ | ⟨h1, h2⟩
      · rw [h2] at hp
        have hst := checkSeen_of hc s h1 hp
        unfold Mem.stands at hst ⊢
        cases hl : m1.load s.agg s.a with
        | none => simp [hl] at hst
        | some x =>
          obtain ⟨x', hl', hx⟩ := load_b hm.toMemB h5 h4 hl
          simp only [hl] at hst
          rw [h3, hl']; exact hx.same h6 hst
      · exact stands_told (h2 m1' hm.sta) h1
    simp only [this, cond_true]
theorem MemS.nexts {θ : Tie} {m m' : Mem} (h : MemS θ m m') (n n' : Nat) : MemS θ ⟨n, m.tbl⟩ ⟨n', m'.tbl⟩ := ⟨⟨h.blk, h.cl⟩, h.sta⟩
def Kept (θ : Tie) (B0 B0' i n : Nat) : Prop := ∀ j, i ≤ j → j < n → Fresh θ (B0 + j) (B0' + j)
theorem Kept.step {θ θ' : Tie} {m m' m1 m1' : Mem} (hst : StepS θ m m' θ' m1 m1') {B0 B0' i n : Nat} (h : Kept θ B0 B0' i n) (h1 : B0 + n ≤ m.next) (h2 : B0' + n ≤ m'.next) : Kept θ' B0 B0' i n := by
  intro j hj hn
  have f := h j hj hn
  refine ⟨?_, fun a ha => ?_, ?_⟩
  · cases e : θ'.ren (B0 + j) with
    | none => rfl
    | some c =>
      rcases hst.ren _ _ e with q | ⟨q, _⟩
      · rw [f.l] at q; cases q
      · omega
  · rcases hst.ren _ _ ha with q | ⟨_, q⟩
    · exact f.r a q
    · omega
  · cases e : θ'.sta (B0' + j) with
    | none => rfl
    | some c =>
      rcases hst.sta _ _ e with q | ⟨q, _⟩
      · rw [f.s] at q; cases q
      · omega
theorem draw_sim (hcall : CallS T call) {chk : List (Nat × Nat)} {B0 B0' n : Nat} {θ0 : Tie} {m0 m0' : Mem} (e0 : m0.next = B0) (e0' : m0'.next = B0') : ∀ (l : List IOper) (i : Nat) (fr : Fr) (m : Mem) (sn : List (Nat × Mem)) (se : List Seen) (out : Out), i + l.length = n →
    evDraw call chk B0 (l.map IOper.sub) i fr m sn se = some out → l.all okOper = true → ∀ (θ : Tie) (fr' : Fr) (m' : Mem) (sn' : List (Nat × Mem)) (se' : List Seen), FrS θ fr fr' → GoodS θ m m' → B0 + n ≤ m.next → B0' + n ≤ m'.next → Kept θ B0 B0' i n → SnapsS θ m sn sn' → (∀ s', s' ∈ se' → SeenS θ se s') →
    StepS θ0 m0 m0' θ m m' → OutOk θ0 m0 m0' out (drw T chk B0' l i fr' m' sn' se')
  | [], i, fr, m, sn, se, out, hn, h, _, θ, fr', m', sn', se', hf, hg, _, _, _, _, _, hst => by
    simp only [List.map_nil, evDraw, Option.some.injEq] at h; subst h
    exact ⟨θ, _, drw_nil, .norm hf hg, hst⟩
  | o :: l, i, fr, m, sn, se, out, hn, h, hok, θ, fr', m', sn', se', hf, hg, hb, hb', hk, hsn, hse, hst => by
    have ih := draw_sim hcall e0 e0' (chk := chk) (B0 := B0) (B0' := B0') (n := n) (θ0 := θ0) (m0 := m0) (m0' := m0') l (i + 1)
    have hn1 : i + 1 + l.length = n := by rw [List.length_cons] at hn; omega
    have hin : i < n := by rw [List.length_cons] at hn; omega
    have hk1 : Kept θ B0 B0' (i + 1) n := fun j hj => hk j (by omega)
    simp only [List.all_cons, Bool.and_eq_true] at hok
    obtain ⟨d, op, g⟩ := o
    simp only [List.map_cons, IOper.sub, evDraw] at h
    cases hw : wantedE fr g with
    | none => simp [hw] at h
    | some b =>
    rw [drw_wanted (wanted_sim hf hw)]
    cases b with
    | false =>
      simp only [hw] at h
      exact ih _ _ _ _ _ hn1 h hok.2 θ _ _ _ _ (hf.put .undef d) hg hb hb' hk1 hsn hse hst
    | true =>
      simp only [hw] at h
      simp only [cond_true]
      cases op with
      | panic x => simp [XOp.sub] at h
      | defer f args => simp [XOp.sub] at h
      | call f args =>
        have hok1 := hok.1
        simp only [okOper, okXop, Bool.and_eq_true] at hok1
        simp only [XOp.sub, List.map_map, Function.comp_def] at h
        have hfv : SV θ (fr.eval (subO f)) (fr'.eval f) := (hf.ops hg.glb) f hok1.1
        have hav : SVs θ (args.map fun x => fr.eval (subO x)) (args.map fr'.eval) := OpsS.list (hf.ops hg.glb) hok1.2
        cases hev : evCall call (fr.eval (subO f)) (args.map fun x => fr.eval (subO x)) m with
        | none => rw [hev] at h; cases h
        | some fin =>
          obtain ⟨gg, x, y, hfe, hc⟩ := call_inv hev
          rw [hfe] at hfv
          obtain ⟨x', y', hfe', hx, hy⟩ := hfv.func_inv
          rw [drw_call, hfe', runV_func]
          obtain ⟨θ', fin', e1, e2, e3⟩ := hcall _ _ _ _ hc θ m' _ hg ((hx.append hav).append hy)
          rw [e1]
          cases e2 with
          | pan hv hg' => rw [hev] at h; cases h
          | @ret v v' m1 m1' hv hg' =>
            rw [hev] at h; simp only at h
            cases hcs : checkSeen chk i m1 se <;> simp only [hcs, cond_true, cond_false, reduceCtorEq] at h
            have hse1 : ∀ s', s' ∈ se' → SeenS θ' se s' := fun s' hs' => (hse s' hs').ext e3.ext
            have a1 := e3.n1; have a2 := e3.n2
            simp only [Fin.mem] at a1 a2
            simp only [thenD, seen_sim hg'.toMemS hcs hse1, ifB_true]
            refine ih _ _ _ _ _ hn1 h hok.2 θ' _ _ _ _ ((hf.ext e3.ext).put hv d) hg' (by omega) (by omega) (hk1.step e3 hb hb') (.cons ?_ (hsn.step e3 fun _ _ _ _ _ _ => trivial)) hse1 (hst.trans e3)
            refine ⟨rfl, hg.toMemB.ext e3.ext fun b c hb _ => hg.cl b hb, a1, fun e c B hc => ?_⟩
            rcases e3.sta c B hc with q | ⟨_, q⟩
            · exact hg.sta c B q
            · simp only [Fin.mem] at q e; omega
      | val op =>
        simp only [XOp.sub, srt_mapO, evOp_mapO] at h
        have hok1 : okOp op = true := hok.1
        have h3 := srt_le op
        by_cases hs0 : srt op = 0
        · simp only [hs0] at h
          rw [drw_v0 hs0]
          cases he : evOp (fun x => fr.eval (subO x)) op m with
          | none => simp [he] at h
          | some q =>
            obtain ⟨v, m1⟩ := q
            simp only [he] at h
            obtain ⟨rfl, _⟩ := pure_any hs0 he
            obtain ⟨v', m1', hev, hcs, _⟩ := op_sim (hf.ops hg.glb) hg.toMemS hg.ok (hg.ok.fresh (Nat.le_refl _) (Nat.le_refl _)) hok1 he
            rw [hev]
            rcases hcs with ⟨hvv, _, _, _⟩ | ⟨_, _, q, _⟩
            · exact ih _ _ _ _ _ hn1 h hok.2 θ _ _ _ _ (hf.put hvv d) hg hb hb' hk1 hsn hse hst
            · omega
        · by_cases hs1 : srt op = 1
          · simp only [hs1] at h
            rw [drw_v1 hs1]
            cases he : evOp (fun x => fr.eval (subO x)) op ⟨B0 + i, m.tbl⟩ with
            | none => simp [he] at h
            | some q =>
              obtain ⟨v, m1⟩ := q
              simp only [he] at h
              have f := hk i (Nat.le_refl _) hin
              obtain ⟨v', m1', e1, hcs, hkeep⟩ := op_sim (hf.ops hg.glb) (hg.toMemS.nexts (B0 + i) (B0' + i)) hg.ok f hok1 he
              obtain ⟨B, mk, _, hB, _⟩ := make_any hs1 he
              rw [e1]
              rcases hcs with ⟨c1, c2, c3, c4⟩ | ⟨c1, c2, c3, c4⟩
              · rw [hB] at c3
                have c3' : B0 + i + 1 = B0 + i := c3
                omega
              · have hok2 : TieOk (θ.more (B0 + i) (B0' + i)) m.next m'.next := hg.ok.more f (by omega) (by omega) (Nat.le_refl _) (Nat.le_refl _)
                have hren : ∀ b c, (θ.more (B0 + i) (B0' + i)).ren b = some c → θ.ren b = some c ∨ (b = B0 + i ∧ c = B0' + i) := by
                  intro b c hbc
                  have hbc' : (if b = B0 + i then some (B0' + i) else θ.ren b) = some c := hbc
                  by_cases hx : b = B0 + i
                  · rw [if_pos hx] at hbc'; cases hbc'; exact .inr ⟨hx, rfl⟩
                  · rw [if_neg hx] at hbc'; exact .inl hbc'
                refine ih _ _ _ _ _ hn1 h hok.2 (θ.more (B0 + i) (B0' + i)) _ _ _ _ ((hf.ext f.ext).put c1 d) ⟨c2.nexts _ _, hok2, hg.glb.ext f.ext⟩ hb hb' ?_ (SnapsS.same (m := m) (m1 := ⟨m.next, m1.tbl⟩) f.ext rfl rfl hsn) (fun s' hs' => (hse s' hs').ext f.ext) ⟨hst.ext.trans f.ext, ?_, hst.sta, hst.n1, hst.n2, ?_⟩
                · intro j hj hjn
                  have fj := hk j (by omega) hjn
                  refine ⟨?_, fun a ha => ?_, fj.s⟩
                  · cases e : (θ.more (B0 + i) (B0' + i)).ren (B0 + j) with
                    | none => rfl
                    | some c =>
                      rcases hren _ _ e with q | ⟨q, _⟩
                      · rw [fj.l] at q; cases q
                      · omega
                  · rcases hren _ _ ha with q | ⟨_, q⟩
                    · exact fj.r a q
                    · omega
                · intro b c hbc
                  rcases hren b c hbc with q | ⟨rfl, rfl⟩
                  · exact hst.ren b c q
                  · exact .inr ⟨by omega, by omega⟩
                · intro c hc hr
                  have h1 : m1'.get c = m'.get c := by
                    refine hkeep c (show c ≠ B0' + i by omega) fun b hbc => ?_
                    rcases hst.ren b c hbc with q | ⟨_, q⟩
                    · exact hr b q
                    · omega
                  exact h1.trans (hst.keep c hc hr)
          · by_cases hs2 : srt op = 2
            · cases op <;> simp only [srt, reduceCtorEq, Nat.reduceEqDiff] at hs2
              case conv c x => cases c <;> simp at hs2
              rename_i agg a
              simp only [srt, IOp.mapO] at h
              have ha : SV θ (fr.eval (subO a)) (fr'.eval a) := (hf.ops hg.glb) a (by simpa only [okOp, opds, okZero, List.all_cons, List.all_nil, Bool.and_true] using hok1)
              rw [drw_load]
              have hnf := ha.notF
              simp only [ifF, hnf, cond_false]
              cases hl : m.load agg (fr.eval (subO a)) with
              | none => simp [hl] at h
              | some v =>
                simp only [hl] at h
                cases hF : isF (fr.eval (subO a)) <;> simp only [hF, cond_true, cond_false] at h
                · cases hcs : checkSnap chk i agg (fr.eval (subO a)) v sn <;> simp only [hcs, cond_true, cond_false, reduceCtorEq] at h
                  obtain ⟨v', hl', hv⟩ := load_b hg.toMemB ha hF hl
                  simp only [hl', thenL, snap_sim ha hv hF hsn hcs, ifB_true]
                  refine ih _ _ _ _ _ hn1 h hok.2 θ _ _ _ _ (hf.put hv d) hg hb hb' hk1 hsn (fun s' hs' => ?_) hst
                  rcases List.mem_cons.1 hs' with rfl | hs'
                  · exact .inl ⟨⟨i, agg, fr.eval (subO a), v⟩, by simp, rfl, rfl, hF, ha, hv⟩
                  · rcases hse s' hs' with ⟨s, q1, q2⟩ | q
                    · exact .inl ⟨s, by simp [q1], q2⟩
                    · exact .inr q
                · cases hcs : checkOld chk i m.next sn <;> simp only [hcs, cond_true, cond_false, reduceCtorEq] at h
                  generalize hfe : fr.eval (subO a) = y at ha hF hl
                  cases y <;> simp only [isF, Bool.false_eq_true] at hF
                  obtain ⟨v', hv, hall⟩ := load_f ha hl
                  simp only [hall m' hg.sta, thenL, old_sim hv.told hall hsn hcs, ifB_true]
                  refine ih _ _ _ _ _ hn1 h hok.2 θ _ _ _ _ (hf.put hv d) hg hb hb' hk1 hsn (fun s' hs' => ?_) hst
                  rcases List.mem_cons.1 hs' with rfl | hs'
                  · exact .inr ⟨hv.told, hall⟩
                  · exact hse s' hs'
            · have hs3 : srt op = 3 := by omega
              simp only [hs3] at h
              rw [drw_v3 hs3]
              cases he : evOp (fun x => fr.eval (subO x)) op m with
              | none => simp [he] at h
              | some q =>
                obtain ⟨v, m1⟩ := q
                simp only [he] at h
                cases hcs : checkSeen chk i m1 se <;> simp only [hcs, cond_true, cond_false, reduceCtorEq] at h
                obtain ⟨θ', v', m1', e1, e2, e3, e4⟩ := OpS.good hg (op_sim (hf.ops hg.glb) hg.toMemS hg.ok (hg.ok.fresh (Nat.le_refl _) (Nat.le_refl _)) hok1 he)
                rw [e1]
                have hse1 : ∀ s', s' ∈ se' → SeenS θ' se s' := fun s' hs' => (hse s' hs').ext e4.ext
                have a1 := e4.n1; have a2 := e4.n2
                simp only [thenV, seen_sim e3.toMemS hcs hse1, ifB_true]
                refine ih _ _ _ _ _ hn1 h hok.2 θ' _ _ _ _ ((hf.ext e4.ext).put e2 d) e3 (by omega) (by omega) (hk1.step e4 hb hb') (.cons ?_ (hsn.step e4 fun _ _ _ _ _ _ => trivial)) hse1 (hst.trans e4)
                refine ⟨rfl, hg.toMemB.ext e4.ext fun b c hb _ => hg.cl b hb, a1, fun e c B hc => ?_⟩
                rcases e4.sta c B hc with q | ⟨_, q⟩
                · exact hg.sta c B q
                · simp only at e; omega

theorem OutS.thenE {θ : Tie} {m m' : Mem} {out out2 : Out} {X : Option Out} {K : Fr → Mem → Option Out} {k : Fr → Mem → Option Out} (hX : OutOk θ m m' out X)
    (h : (match out with | .norm fr m1 => k fr m1 | o => some o) = some out2)
    (hk : ∀ θ1 fr m1 fr' m1', FrS θ1 fr fr' → GoodS θ1 m1 m1' → k fr m1 = some out2 → OutOk θ1 m1 m1' out2 (K fr' m1')) : OutOk θ m m' out2 (Ev.thenE X K) := by
  obtain ⟨θ1, out', rfl, hs, hst⟩ := hX
  cases hs with
  | norm hf hg => exact OutOk.after hst (hk _ _ _ _ _ hf hg h)
  | exit hf hg => simp only [Option.some.injEq] at h; subst h; exact ⟨θ1, _, rfl, .exit hf hg, hst⟩
  | ret hf hg => simp only [Option.some.injEq] at h; subst h; exact ⟨θ1, _, rfl, .ret hf hg, hst⟩
  | pan hv hf hg => simp only [Option.some.injEq] at h; subst h; exact ⟨θ1, _, rfl, .pan hv hf hg, hst⟩
theorem bump_good {θ : Tie} {m m' : Mem} (hg : GoodS θ m m') (k : Nat) : GoodS θ ⟨m.next + k, m.tbl⟩ ⟨m'.next + k, m'.tbl⟩ :=
  ⟨hg.toMemS.nexts _ _, ⟨fun b c h => by have := hg.ok.ren b c h; exact ⟨Nat.lt_of_lt_of_le this.1 (Nat.le_add_right _ _), Nat.lt_of_lt_of_le this.2 (Nat.le_add_right _ _)⟩, hg.ok.inj, hg.ok.off, fun b B h => Nat.lt_of_lt_of_le (hg.ok.sta b B h) (Nat.le_add_right _ _)⟩, hg.glb⟩
theorem code_sim (hcall : CallS T call) (n : Nat) : ∀ (c : ICode) (fr : Fr) (m : Mem) (out : Out), evCode call n c.sub fr m = some out → okCode c = true → ∀ (θ : Tie) (fr' : Fr) (m' : Mem), FrS θ fr fr' → GoodS θ m m' → OutOk θ m m' out (exec T c fr' m')
  | .skip, fr, m, out, h, _, θ, fr', m', hf, hg => by
    simp only [ICode.sub, evCode, Option.some.injEq] at h; subst h
    exact ⟨θ, _, exec_skip, .norm hf hg, .refl _ _ _⟩
  | .ret, fr, m, out, h, _, θ, fr', m', hf, hg => by
    simp only [ICode.sub, evCode, Option.some.injEq] at h; subst h
    exact ⟨θ, _, exec_ret, .ret hf hg, .refl _ _ _⟩
  | .exit id, fr, m, out, h, _, θ, fr', m', hf, hg => by
    simp only [ICode.sub, evCode, Option.some.injEq] at h; subst h
    exact ⟨θ, _, exec_exit, .exit hf hg, .refl _ _ _⟩
  | .region ops, fr, m, out, h, hok, θ, fr', m', hf, hg => by
    simp only [ICode.sub, evCode] at h
    rw [exec_region]
    exact ops_sim hcall ops fr m out h (by simpa only [okCode] using hok) θ fr' m' hf hg
  | .draw ops chk, fr, m, out, h, hok, θ, fr', m', hf, hg => by
    simp only [ICode.sub, evCode] at h
    rw [exec_draw]
    rw [List.length_map] at h
    have hg2 := bump_good hg ops.length
    refine draw_sim hcall (n := ops.length) (θ0 := θ) (m0 := m) (m0' := m') rfl rfl ops 0 fr _ [] [] out (Nat.zero_add _) h (by simpa only [okCode] using hok) θ fr' _ [] [] hf hg2 (Nat.le_refl _) (Nat.le_refl _) (fun j _ hj => hg.ok.fresh (Nat.le_add_right _ _) (Nat.le_add_right _ _)) .nil (fun s' hs' => by simp at hs')
      ⟨.refl θ, fun _ _ h => .inl h, fun _ _ h => .inl h, Nat.le_add_right _ _, Nat.le_add_right _ _, fun _ _ _ => rfl⟩
  | .seq a b, fr, m, out, h, hok, θ, fr', m', hf, hg => by
    simp only [okCode, Bool.and_eq_true] at hok
    simp only [ICode.sub, evCode] at h
    rw [exec_seq]
    cases ha : evCode call n a.sub fr m with
    | none => simp [ha] at h
    | some o =>
      refine OutS.thenE (k := evCode call n b.sub) (code_sim hcall n a fr m o ha hok.1 θ fr' m' hf hg) (by rw [ha] at h; cases o <;> exact h) fun θ1 fr1 m1 fr1' m1' hf1 hg1 h1 => code_sim hcall n b _ _ _ h1 hok.2 θ1 _ _ hf1 hg1
  | .cond c a b, fr, m, out, h, hok, θ, fr', m', hf, hg => by
    simp only [okCode, Bool.and_eq_true] at hok
    simp only [ICode.sub, evCode] at h
    have hc : SV θ (fr.eval (subO c)) (fr'.eval c) := (hf.ops hg.glb) c hok.1.1
    cases hce : fr.eval (subO c) <;> simp only [hce, reduceCtorEq] at h
    rename_i t
    simp only [hce] at hc
    rw [exec_cond (bool_of hc)]
    cases t
    · exact code_sim hcall n b _ _ _ h hok.2 θ _ _ hf hg
    · exact code_sim hcall n a _ _ _ h hok.1.2 θ _ _ hf hg
  | .block id a, fr, m, out, h, hok, θ, fr', m', hf, hg => by
    simp only [ICode.sub, evCode] at h
    rw [exec_block]
    cases ha : evCode call n a.sub fr m with
    | none => simp [ha] at h
    | some o =>
      obtain ⟨θ1, out', e, hs, hst⟩ := code_sim hcall n a fr m o ha (by simpa only [okCode] using hok) θ fr' m' hf hg
      rw [e]
      rw [ha] at h
      cases hs with
      | norm hf hg => simp only [Option.some.injEq] at h; subst h; exact ⟨θ1, _, rfl, .norm hf hg, hst⟩
      | ret hf hg => simp only [Option.some.injEq] at h; subst h; exact ⟨θ1, _, rfl, .ret hf hg, hst⟩
      | pan hv hf hg => simp only [Option.some.injEq] at h; subst h; exact ⟨θ1, _, rfl, .pan hv hf hg, hst⟩
      | @exit j fr1 fr1' m1 m1' hf hg =>
        simp only [leaveE]
        simp only at h
        cases hb : j.beq id <;> simp only [hb, cond_true, cond_false, Option.some.injEq] at h ⊢ <;> subst h
        · exact ⟨θ1, _, rfl, .exit hf hg, hst⟩
        · exact ⟨θ1, _, rfl, .norm hf hg, hst⟩
  | .loop a, fr, m, out, h, hok, θ, fr', m', hf, hg => by
    simp only [ICode.sub, evCode] at h
    have hok' : okCode a = true := by simpa only [okCode] using hok
    have ha := code_sim hcall n a
    have go : ∀ (k : Nat) (fr : Fr) (m : Mem) (out : Out), iter (evCode call n a.sub) k fr m = some out → ∀ (θ : Tie) (fr' : Fr) (m' : Mem), FrS θ fr fr' → GoodS θ m m' → OutOk θ m m' out (exec T (.loop a) fr' m') := by
      intro k
      induction k with
      | zero => intro fr m out h; simp [iter] at h
      | succ k ih =>
        intro fr m out h θ fr' m' hf hg
        simp only [iter] at h
        rw [exec_loop]
        cases hb : evCode call n a.sub fr m with
        | none => simp [hb] at h
        | some o =>
          refine OutS.thenE (k := iter (evCode call n a.sub) k) (ha fr m o hb hok' θ fr' m' hf hg) (by rw [hb] at h; cases o <;> exact h) fun θ1 fr1 m1 fr1' m1' hf1 hg1 h1 => ih _ _ _ h1 θ1 _ _ hf1 hg1
    exact go n fr m out h θ fr' m' hf hg
theorem args_sim {θ : Tie} : ∀ {x x' : List EV} (i : Nat) {t t' : Tr EV}, SVs θ x x' → (∀ k, SV θ (((⟨t, []⟩ : Fr)).get k) (((⟨t', []⟩ : Fr)).get k)) → ∀ k, SV θ (((⟨args0 x i t, []⟩ : Fr)).get k) (((⟨args0 x' i t', []⟩ : Fr)).get k)
  | _, _, i, t, t', .nil, h => h
  | _, _, i, t, t', .cons (v := v) (v' := v') hv hs, h => by
    refine args_sim (i + 1) hs fun k => ?_
    show SV θ ((Fr.set ⟨t, []⟩ i v).get k) ((Fr.set ⟨t', []⟩ i v').get k)
    rw [Fr.get_set, Fr.get_set]
    split
    · exact hv
    · exact h k
theorem results_sim {θ : Tie} {m m' : Mem} (hm : MemS θ m m') {fr fr' : Fr} (hf : FrS θ fr fr') : ∀ (rs : List IRes) (vs : List EV), evResults fr m rs = some vs → ∃ vs', evResults fr' m' rs = some vs' ∧ SVs θ vs vs'
  | [], vs, h => by simp only [evResults, Option.some.injEq] at h; subst h; exact ⟨[], rfl, .nil⟩
  | r :: rs, vs, h => by
    simp only [evResults] at h ⊢
    cases hr : evRes fr m r with
    | none => simp [hr] at h
    | some v =>
      have hv : ∃ v', evRes fr' m' r = some v' ∧ SV θ v v' := by
        cases r with
        | tmp t => simp only [evRes, Option.some.injEq] at hr ⊢; subst hr; exact ⟨_, rfl, hf.tmp t⟩
        | cell t agg => simp only [evRes] at hr ⊢; exact load_sim hm (hf.tmp t) hr
      obtain ⟨v', hr', hvv⟩ := hv
      simp only [hr, hr'] at h ⊢
      obtain ⟨ws, hw, rfl⟩ := Option.map_eq_some_iff.1 h
      obtain ⟨ws', hw', hs⟩ := results_sim hm hf rs ws hw
      exact ⟨v' :: ws', by rw [hw']; rfl, .cons hvv hs⟩
theorem one_sim {θ : Tie} {x x' : List EV} (h : SVs θ x x') : SV θ (one x) (one x') := by
  cases h with
  | nil => exact .tuple .nil
  | cons hv hs =>
    cases hs with
    | nil => exact hv
    | cons hv2 hs2 => exact .tuple (.cons hv (.cons hv2 hs2))
def okFun (F : IFun) : Bool := okCode F.body && noGlC F.body
def okFunG (F : IFun) : Bool := okCode F.body
theorem okFun_sub {F : IFun} (h : okFun F = true) : F.sub = F := by
  simp only [okFun, Bool.and_eq_true] at h
  unfold IFun.sub; rw [noGlC_sub h.2]
theorem okFun_G {F : IFun} (h : okFun F = true) : okFunG F = true := by simp only [okFun, Bool.and_eq_true] at h; exact h.1
theorem body_sim (hcall : CallS T call) (n : Nat) {f : Nat} {F : IFun} (hT : T f = some (.go F)) (hok : okFunG F = true) {args : List EV} {m : Mem} {fin : Fin} (h : evBody call n F.sub args m = some fin) {θ : Tie} {m' : Mem} {args' : List EV} (hg : GoodS θ m m') (ha : SVs θ args args') : FinOk θ m m' fin (run T f args' m') := by
  unfold evBody at h
  simp only [IFun.sub] at h
  cases hb : args.length.ble F.ntmps <;> simp only [hb, cond_true, cond_false, reduceCtorEq] at h
  have hlen : args'.length ≤ F.ntmps := by rw [← ha.length]; exact Nat.le_of_ble_eq_true hb
  rw [run_go hT hlen]
  cases hc : evCode call n F.body.sub ⟨args0 args 0 .leaf, []⟩ m with
  | none => simp [hc] at h
  | some out =>
    have hf : FrS θ ⟨args0 args 0 .leaf, []⟩ ⟨args0 args' 0 .leaf, []⟩ := ⟨args_sim 0 ha fun k => by rw [show (⟨.leaf, []⟩ : Fr) = fr00 from rfl, fr00_get]; exact .undef, .nil⟩
    obtain ⟨θ1, out', e, hs, hst⟩ := code_sim hcall n F.body _ _ _ hc hok θ _ m' hf hg
    rw [e]
    simp only [hc] at h
    cases hs with
    | exit hf hg => simp at h
    | @norm fr fr' m1 m1' hf1 hg1 =>
      cases hd : fr.defers with
      | cons d ds => simp [hd] at h
      | nil =>
        simp only [hd] at h
        have hd' : fr'.defers = [] := hf1.dfr.none hd
        simp only [resE, hd']
        obtain ⟨vs, hv, rfl⟩ := Option.map_eq_some_iff.1 h
        obtain ⟨vs', hv', hvs⟩ := results_sim hg1.toMemS hf1 F.results vs hv
        rw [hv']
        exact ⟨θ1, _, rfl, .ret (one_sim hvs) hg1, hst⟩
    | @ret fr fr' m1 m1' hf1 hg1 =>
      cases hd : fr.defers with
      | cons d ds => simp [hd] at h
      | nil =>
        simp only [hd] at h
        have hd' : fr'.defers = [] := hf1.dfr.none hd
        simp only [resE, hd']
        obtain ⟨vs, hv, rfl⟩ := Option.map_eq_some_iff.1 h
        obtain ⟨vs', hv', hvs⟩ := results_sim hg1.toMemS hf1 F.results vs hv
        rw [hv']
        exact ⟨θ1, _, rfl, .ret (one_sim hvs) hg1, hst⟩
    | @pan v v' fr fr' m1 m1' hvv hf1 hg1 =>
      cases hd : fr.defers with
      | cons d ds => simp [hd] at h
      | nil =>
        simp only [hd, Option.some.injEq] at h
        have hd' : fr'.defers = [] := hf1.dfr.none hd
        simp only [resE, hd']
        subst h
        exact ⟨θ1, _, rfl, .pan hvv hg1, hst⟩
def subD (D : List (Nat × Option Nat × IFun)) : List (Nat × Option Nat × IFun) := D.map fun p => (p.1, p.2.1, p.2.2.sub)
theorem dfind_sub {g : Nat} {b : Option Nat} {FD : IFun} : ∀ {D : List (Nat × Option Nat × IFun)}, dfind g (subD D) = some (b, FD) → ∃ F0, dfind g D = some (b, F0) ∧ FD = F0.sub
  | [], h => by simp [subD, dfind] at h
  | (g', b', F') :: D, h => by
    simp only [subD, List.map_cons, dfind] at h ⊢
    cases hb : g'.beq g <;> simp only [hb, cond_true, cond_false] at h ⊢
    · exact dfind_sub (D := D) h
    · simp only [Option.some.injEq, Prod.mk.injEq] at h
      obtain ⟨rfl, rfl⟩ := h
      exact ⟨F', rfl, rfl⟩
def okD (D : List (Nat × Option Nat × IFun)) : Bool := D.all fun p => okFunG p.2.2
theorem okD_find {g : Nat} {b : Option Nat} {F : IFun} : ∀ {D : List (Nat × Option Nat × IFun)}, okD D = true → dfind g D = some (b, F) → okFunG F = true
  | [], _, h => by simp [dfind] at h
  | (g', b', F') :: D, ho, h => by
    simp only [okD, List.all_cons, Bool.and_eq_true] at ho
    simp only [dfind] at h
    cases hb : g'.beq g <;> simp only [hb, cond_true, cond_false] at h
    · exact okD_find (D := D) ho.2 h
    · cases h; exact ho.1
theorem bodyL_sim (hcall : CallS T call) (n : Nat) {F : IFun} (hok : okFunG F = true) {args : List EV} {m : Mem} {fin : Fin} (h : evBody call n F.sub args m = some fin) {θ : Tie} {m' : Mem} {args' : List EV} (hg : GoodS θ m m') (ha : SVs θ args args') : FinOk θ m m' fin (bodyL T F args' m') := by
  unfold evBody at h
  simp only [IFun.sub] at h
  cases hb : args.length.ble F.ntmps <;> simp only [hb, cond_true, cond_false, reduceCtorEq] at h
  have hlen : args'.length ≤ F.ntmps := by rw [← ha.length]; exact Nat.le_of_ble_eq_true hb
  rw [bodyL_eq hlen]
  cases hc : evCode call n F.body.sub ⟨args0 args 0 .leaf, []⟩ m with
  | none => simp [hc] at h
  | some out =>
    have hf : FrS θ ⟨args0 args 0 .leaf, []⟩ ⟨args0 args' 0 .leaf, []⟩ := ⟨args_sim 0 ha fun k => by rw [show (⟨.leaf, []⟩ : Fr) = fr00 from rfl, fr00_get]; exact .undef, .nil⟩
    obtain ⟨θ1, out', e, hs, hst⟩ := code_sim hcall n F.body _ _ _ hc hok θ _ m' hf hg
    rw [e]
    simp only [hc] at h
    cases hs with
    | exit hf hg => simp at h
    | @norm fr fr' m1 m1' hf1 hg1 =>
      cases hd : fr.defers with
      | cons d ds => simp [hd] at h
      | nil =>
        simp only [hd] at h
        have hd' : fr'.defers = [] := hf1.dfr.none hd
        simp only [resE, hd']
        obtain ⟨vs, hv, rfl⟩ := Option.map_eq_some_iff.1 h
        obtain ⟨vs', hv', hvs⟩ := results_sim hg1.toMemS hf1 F.results vs hv
        rw [hv']
        exact ⟨θ1, _, rfl, .ret (one_sim hvs) hg1, hst⟩
    | @ret fr fr' m1 m1' hf1 hg1 =>
      cases hd : fr.defers with
      | cons d ds => simp [hd] at h
      | nil =>
        simp only [hd] at h
        have hd' : fr'.defers = [] := hf1.dfr.none hd
        simp only [resE, hd']
        obtain ⟨vs, hv, rfl⟩ := Option.map_eq_some_iff.1 h
        obtain ⟨vs', hv', hvs⟩ := results_sim hg1.toMemS hf1 F.results vs hv
        rw [hv']
        exact ⟨θ1, _, rfl, .ret (one_sim hvs) hg1, hst⟩
    | @pan v v' fr fr' m1 m1' hvv hf1 hg1 =>
      cases hd : fr.defers with
      | cons d ds => simp [hd] at h
      | nil =>
        simp only [hd, Option.some.injEq] at h
        have hd' : fr'.defers = [] := hf1.dfr.none hd
        simp only [resE, hd']
        subst h
        exact ⟨θ1, _, rfl, .pan hvv hg1, hst⟩
def OptS (θ : Tie) (u u' : Option EV) : Prop := match u with
  | none => u' = none
  | some v => ∃ v', u' = some v' ∧ SV θ v v'
theorem OptS.ext {θ θ' : Tie} (e : Tie.Ext θ θ') {u u' : Option EV} (h : OptS θ u u') : OptS θ' u u' := by
  cases u with
  | none => exact h
  | some v => obtain ⟨v', h1, h2⟩ := h; exact ⟨v', h1, h2.ext e⟩
theorem OptS.get {θ : Tie} {u u' : Option EV} (h : OptS θ u u') : SV θ (u.getD .niliface) (u'.getD .niliface) := by
  cases u with
  | none => cases h; exact .niliface
  | some v => obtain ⟨v', rfl, h2⟩ := h; exact h2
theorem bodyRL_sim (hcall : CallS T call) (n : Nat) {d : Nat} {F : IFun} (hok : okFunG F = true) {args : List EV} {u u' : Option EV} {m m1 : Mem} (h : evBodyR call n d F.sub args u m = some m1) {θ : Tie} {m' : Mem} {args' : List EV} (hg : GoodS θ m m') (ha : SVs θ args args') (hu : OptS θ u u') :
    ∃ θ1 m1', bodyRL T d F args' u' m' = some m1' ∧ GoodS θ1 m1 m1' ∧ StepS θ m m' θ1 m1 m1' := by
  unfold evBodyR at h
  simp only [IFun.sub] at h
  cases hb : args.length.ble F.ntmps <;> simp only [hb, cond_true, cond_false, reduceCtorEq] at h
  have hlen : args'.length ≤ F.ntmps := by rw [← ha.length]; exact Nat.le_of_ble_eq_true hb
  rw [bodyRL_eq hlen]
  cases hc : evCode call n F.body.sub (Fr.set ⟨args0 args 0 .leaf, []⟩ d (u.getD .niliface)) m with
  | none => simp [hc] at h
  | some out =>
    have hf : FrS θ ⟨args0 args 0 .leaf, []⟩ ⟨args0 args' 0 .leaf, []⟩ := ⟨args_sim 0 ha fun k => by rw [show (⟨.leaf, []⟩ : Fr) = fr00 from rfl, fr00_get]; exact .undef, .nil⟩
    obtain ⟨θ1, out', e, hs, hst⟩ := code_sim hcall n F.body _ _ _ hc hok θ _ m' (hf.put hu.get (some d)) hg
    have e' : exec T F.body (Fr.set ⟨args0 args' 0 .leaf, []⟩ d (u'.getD .niliface)) m' = some out' := e
    rw [e']
    simp only [hc] at h
    cases hs with
    | exit hf hg => simp at h
    | @norm fr fr' m2 m2' hf1 hg1 =>
      cases hd : fr.defers with
      | cons d ds => simp [hd] at h
      | nil =>
        simp only [hd] at h
        have hd' : fr'.defers = [] := hf1.dfr.none hd
        simp only [resM, hd']
        obtain ⟨vs, hv, rfl⟩ := Option.map_eq_some_iff.1 h
        obtain ⟨vs', hv', hvs⟩ := results_sim hg1.toMemS hf1 F.results vs hv
        rw [hv']
        exact ⟨θ1, _, rfl, hg1, hst⟩
    | @ret fr fr' m2 m2' hf1 hg1 =>
      cases hd : fr.defers with
      | cons d ds => simp [hd] at h
      | nil =>
        simp only [hd] at h
        have hd' : fr'.defers = [] := hf1.dfr.none hd
        simp only [resM, hd']
        obtain ⟨vs, hv, rfl⟩ := Option.map_eq_some_iff.1 h
        obtain ⟨vs', hv', hvs⟩ := results_sim hg1.toMemS hf1 F.results vs hv
        rw [hv']
        exact ⟨θ1, _, rfl, hg1, hst⟩
    | @pan v v' fr fr' m2 m2' hvv hf1 hg1 => simp at h
theorem FinOk.after {θ θ1 : Tie} {m m' m1 m1' : Mem} {fin : Fin} {o : Option Fin} (hs : StepS θ m m' θ1 m1 m1') (h : FinOk θ1 m1 m1' fin o) : FinOk θ m m' fin o := by
  obtain ⟨θ2, fin', e, h1, h2⟩ := h
  cases h1 with
  | ret hv hg => exact ⟨θ2, _, e, .ret hv hg, hs.trans h2⟩
  | pan hv hg => exact ⟨θ2, _, e, .pan hv hg, hs.trans h2⟩
theorem leave_sim (hcall : CallS T call) (n : Nat) {rs : List IRes} {D : List (Nat × Option Nat × IFun)} (hD : okD D = true) {fr fr' : Fr} : ∀ (ds ds' : List (Nat × List EV)) (u u' : Option EV) (θ : Tie) (m m' : Mem) (fin : Fin), DefS θ ds ds' → OptS θ u u' → GoodS θ m m' → FrS θ fr fr' → evLeave call n rs (subD D) fr ds u m = some fin → FinOk θ m m' fin (leaveL T rs D fr' ds' u' m')
  | [], ds', u, u', θ, m, m', fin, hds, hu, hg, hf, h => by
    cases hds
    cases u with
    | none =>
      cases hu
      simp only [evLeave] at h
      obtain ⟨vs, hv, rfl⟩ := Option.map_eq_some_iff.1 h
      obtain ⟨vs', hv', hvs⟩ := results_sim hg.toMemS hf rs vs hv
      rw [leaveL_nil, hv']
      exact ⟨θ, _, rfl, .ret (one_sim hvs) hg, .refl _ _ _⟩
    | some v =>
      obtain ⟨v', rfl, hv⟩ := hu
      simp only [evLeave, Option.some.injEq] at h
      subst h
      rw [leaveL_pan]
      exact ⟨θ, _, rfl, .pan hv hg, .refl _ _ _⟩
  | (g, args) :: ds, ds', u, u', θ, m, m', fin, hds, hu, hg, hf, h => by
    cases hds with
    | @cons _ _ args' _ dds hx hds =>
    simp only [evLeave] at h
    cases hdf : dfind g (subD D) with
    | none => simp [hdf] at h
    | some q =>
    obtain ⟨b, FD⟩ := q
    obtain ⟨F0, hF0, rfl⟩ := dfind_sub hdf
    have hok := okD_find hD hF0
    cases b with
    | some d =>
      simp only [hdf] at h
      cases hb : evBodyR call n d F0.sub args u m with
      | none => simp [hb] at h
      | some m1 =>
        simp only [hb] at h
        obtain ⟨θ1, m1', e1, hg1, hs1⟩ := bodyRL_sim hcall n hok hb hg hx hu
        rw [leaveL_rec hF0, e1]
        exact (leave_sim hcall n hD ds dds none none θ1 m1 m1' fin (hds.ext hs1.ext) rfl hg1 (hf.ext hs1.ext) h).after hs1
    | none =>
      simp only [hdf] at h
      cases hb : evBody call n F0.sub args m with
      | none => simp [hb] at h
      | some fin1 =>
        simp only [hb] at h
        obtain ⟨θ1, fin1', e1, hf1, hs1⟩ := bodyL_sim hcall n hok hb hg hx
        rw [leaveL_call hF0, e1]
        cases hf1 with
        | ret hv hg1 => exact (leave_sim hcall n hD ds dds u u' θ1 _ _ fin (hds.ext hs1.ext) (hu.ext hs1.ext) hg1 (hf.ext hs1.ext) h).after hs1
        | @pan v v' _ _ hv hg1 =>
          cases u with
          | some x => cases h
          | none =>
            cases hu
            exact (leave_sim hcall n hD ds dds (some v) (some v') θ1 _ _ fin (hds.ext hs1.ext) ⟨v', rfl, hv⟩ hg1 (hf.ext hs1.ext) h).after hs1
theorem bodyD_sim (hcall : CallS T call) (n : Nat) {f : Nat} {F : IFun} {D : List (Nat × Option Nat × IFun)} (hT : T f = some (.dgo F D)) (hok : okFunG F = true) (hD : okD D = true) {args : List EV} {m : Mem} {fin : Fin} (h : evBodyD call n F.sub (subD D) args m = some fin) {θ : Tie} {m' : Mem} {args' : List EV} (hg : GoodS θ m m') (ha : SVs θ args args') : FinOk θ m m' fin (run T f args' m') := by
  unfold evBodyD at h
  simp only [IFun.sub] at h
  cases hb : args.length.ble F.ntmps <;> simp only [hb, cond_true, cond_false, reduceCtorEq] at h
  have hlen : args'.length ≤ F.ntmps := by rw [← ha.length]; exact Nat.le_of_ble_eq_true hb
  rw [run_dgo hT hlen]
  cases hc : evCode call n F.body.sub ⟨args0 args 0 .leaf, []⟩ m with
  | none => simp [hc] at h
  | some out =>
    have hf : FrS θ ⟨args0 args 0 .leaf, []⟩ ⟨args0 args' 0 .leaf, []⟩ := ⟨args_sim 0 ha fun k => by rw [show (⟨.leaf, []⟩ : Fr) = fr00 from rfl, fr00_get]; exact .undef, .nil⟩
    obtain ⟨θ1, out', e, hs, hst⟩ := code_sim hcall n F.body _ _ _ hc hok θ _ m' hf hg
    rw [e]
    simp only [hc] at h
    cases hs with
    | exit hf hg => simp at h
    | norm hf1 hg1 => exact (leave_sim hcall n hD _ _ none none θ1 _ _ fin hf1.dfr rfl hg1 hf1 h).after hst
    | ret hf1 hg1 => exact (leave_sim hcall n hD _ _ none none θ1 _ _ fin hf1.dfr rfl hg1 hf1 h).after hst
    | @pan v v' _ _ _ _ hvv hf1 hg1 => exact (leave_sim hcall n hD _ _ (some v) (some v') θ1 _ _ fin hf1.dfr ⟨v', rfl, hvv⟩ hg1 hf1 h).after hst
def EntS (T : Nat → Option Ent) (f : Nat) : Ent → Prop
  | .go F1 => ∃ F, T f = some (.go F) ∧ okFunG F = true ∧ F1 = F.sub
  | .ext g => ∀ θ m m' args args' v, GoodS θ m m' → SVs θ args args' → g args = some v → FinOk θ m m' (.ret v m) (run T f args' m')
  | .pure g => ∀ θ m m' args args' v, GoodS θ m m' → SVs θ args args' → g args = some v → FinOk θ m m' (.ret v m) (run T f args' m')
  | .spec g => ∀ θ m m' args args' fin, GoodS θ m m' → SVs θ args args' → g args m = some fin → FinOk θ m m' fin (run T f args' m')
  | .dgo F1 D1 => ∃ F D, T f = some (.dgo F D) ∧ okFunG F = true ∧ okD D = true ∧ F1 = F.sub ∧ D1 = subD D
theorem fun_sim {T1 : Nat → Option Ent} (h1 : ∀ f e, T1 f = some e → EntS T f e) : ∀ k, CallS T (evFun T1 k)
  | 0 => fun f args m fin h => by simp [evFun] at h
  | k + 1 => fun f args m fin h θ m' args' hg ha => by
    simp only [evFun] at h
    cases he : T1 f with
    | none => simp [he] at h
    | some e =>
      have hE := h1 f e he
      simp only [he] at h
      cases e with
      | go F =>
        obtain ⟨F0, hT, hok, rfl⟩ := hE
        exact body_sim (fun_sim h1 k) k hT hok h hg ha
      | ext g =>
        obtain ⟨v, hv, rfl⟩ := Option.map_eq_some_iff.1 h
        exact hE θ m m' args args' v hg ha hv
      | pure g =>
        obtain ⟨v, hv, rfl⟩ := Option.map_eq_some_iff.1 h
        exact hE θ m m' args args' v hg ha hv
      | spec g => exact hE θ m m' args args' fin hg ha h
      | dgo F D =>
        obtain ⟨F0, D0, hT, hok, hD, rfl, rfl⟩ := hE
        exact bodyD_sim (fun_sim h1 k) k hT hok hD h hg ha
end
end Go.Proofs.YtblcomejcahkdaaDoor.Ev
end
section
namespace Go.Proofs.YtblcomejcahkdaaDoor.Ev
open Go Go.RowKit
def strOf : List EV → Option (List (List UInt8))
  | [] => some []
  | .str s :: r => (strOf r).map (s :: ·)
  | _ => none
theorem strOf_eq : ∀ {cs : List EV} {l : List (List UInt8)}, strOf cs = some l → cs = l.map .str
  | [], l, h => by simp only [strOf, Option.some.injEq] at h; subst h; rfl
  | v :: r, l, h => by
    cases v <;> simp only [strOf, reduceCtorEq] at h
    obtain ⟨l', h1, rfl⟩ := Option.map_eq_some_iff.1 h
    rw [List.map_cons, strOf_eq h1]
theorem strOf_map (l : List (List UInt8)) : strOf (l.map .str) = some l := by
  induction l with
  | nil => rfl
  | cons s l ih => simp only [List.map_cons, strOf, ih, Option.map_some]
def joinV (l : List (List UInt8)) (sep : List UInt8) (m : Mem) : Option Fin := bif l.length.ble 1000000000 && (Go.Lib.join l sep).length.ble 4294967296 then some (.ret (.str (Go.Lib.join l sep)) m) else none
def isStr : EV → Bool
  | .str _ => true
  | _ => false
def joinE (args : List EV) (m : Mem) : Option Fin := match args with
  | [v, .str sep] => match m.source 1 v, isStr v with
    | some (_, cs), false => match strOf cs with
      | some l => joinV l sep m
      | none => none
    | _, _ => none
  | _ => none
theorem joinE_inv {args : List EV} {m : Mem} {fin : Fin} (h : joinE args m = some fin) : ∃ v sep n l, args = [v, .str sep] ∧ isStr v = false ∧ m.source 1 v = some (n, l.map .str) ∧ l.length ≤ 1000000000 ∧ (Go.Lib.join l sep).length ≤ 4294967296 ∧ fin = .ret (.str (Go.Lib.join l sep)) m := by
  unfold joinE at h
  split at h
  · rename_i v sep
    split at h
    · rename_i n cs hs hst
      split at h
      · rename_i l hl
        unfold joinV at h
        cases hc : (l.length.ble 1000000000 && (Go.Lib.join l sep).length.ble 4294967296) <;> simp only [hc, cond_true, cond_false, reduceCtorEq, Option.some.injEq] at h
        simp only [Bool.and_eq_true] at hc
        exact ⟨v, sep, n, l, rfl, hst, by rw [hs, strOf_eq hl], Nat.le_of_ble_eq_true hc.1, Nat.le_of_ble_eq_true hc.2, h.symm⟩
      · cases h
    · cases h
  · cases h
theorem strs_vr {ρ : Ren} : ∀ {l : List (List UInt8)} {vs : List Value}, VRs ρ (l.map .str) vs → ∃ xs : List ByteArray, vs = xs.map .string ∧ xs.map (·.data.toList) = l
  | [], vs, h => by cases h; exact ⟨[], rfl, rfl⟩
  | s :: l, vs, h => by
    rw [List.map_cons] at h
    generalize hx : EV.str s = x at h
    cases h with
    | cons h1 h2 =>
      obtain ⟨xs, rfl, e2⟩ := strs_vr h2
      cases h1 <;> cases hx
      rename_i b
      exact ⟨b :: xs, rfl, by rw [List.map_cons, e2]⟩
theorem R.drift {base : Nat} {ρ : Ren} {m : Mem} {w w' : World} (hR : R base ρ m w) (b : Below w.heap.size w w') : R base ρ m w' ∧ Step ρ m w ρ m w' := by
  refine ⟨⟨hR.lt, fun c L hb => ?_, hR.inj, Nat.le_trans hR.base b.size, hR.clean⟩, ⟨.refl ρ, fun _ h h' => absurd h h', Nat.le_refl _, fun _ _ _ => rfl, fun _ _ h => h, b.size, fun _ _ h => h, fun i hi _ => b.block i hi, b.os, b.tape, b.output⟩⟩
  have hB := hR.blk c L hb
  by_cases hd : m.get c = .dead
  · rw [hd]; trivial
  · exact hB.of_heap (.refl ρ) (b.block _ (hB.lt hd))
theorem vr_str_arr {ρ : Ren} (l : List UInt8) : VR ρ (.str l) (.string ⟨l.toArray⟩) := by
  have := VR.str (ρ := ρ) ⟨l.toArray⟩
  simpa using this
theorem join_ok {G : List Nat} {f : Nat} (hf : lays156_ren.f 156 = f) {fn : Func} (hfn : Tryd.prog.funcs[f]? = some fn) (hnm : (fn.name == "runtime.NumGoroutine") = false) (hb : fn.body.isSome = true) : EntOk Tryd.prog G f (.spec joinE) := by
  intro base ρ m w args args' fin hR hG hv h
  obtain ⟨v, sep, n, l, rfl, hst, hs, hl, hj, rfl⟩ := joinE_inv h
  obtain ⟨args'⟩ := args'
  refine ⟨?_, ?_⟩
  · obtain ⟨c, hc⟩ := Option.isSome_iff_exists.1 hb
    simp [callFunc, hfn, hc]
    simpa using hnm
  have hv' : VRs ρ [v, .str sep] args' := hv
  generalize hq : EV.str sep = q at hv'
  cases hv' with
  | cons h1 h2 =>
  cases h2 with
  | cons h2 h3 =>
  cases h3
  cases h2 <;> cases hq
  rename_i v' sb
  have fin : ∀ {a : Option Addr} {c : Nat} {e : Ending} {w' : World}, e = .returned (.string ⟨(Go.Lib.join l sb.data.toList).toArray⟩) → Below w.heap.size w w' → CallPost base ρ m w (.ret (.str (Go.Lib.join l sb.data.toList)) m) e w' := by
    intro a c e w' he hbel
    obtain ⟨r1, r2⟩ := hR.drift hbel
    exact ⟨ρ, _, he, vr_str_arr _, r1, r2⟩
  subst hf
  by_cases hl0 : l = []
  · subst hl0
    have hval : ∃ a c, v' = .slice a 0 c := by
      cases h1 <;> simp only [Mem.source, reduceCtorEq, Option.some.injEq, Prod.mk.injEq] at hs
      case nilslice => exact ⟨none, 0, rfl⟩
      case slice b off len c o L hL hc ho hr =>
        obtain ⟨cs, hcs, h2⟩ := Option.map_eq_some_iff.1 hs
        simp only [Prod.mk.injEq] at h2
        obtain ⟨rfl, rfl⟩ := h2
        have := row_le hcs
        simp at this
        subst this
        exact ⟨_, _, rfl⟩
      case sliceE => exact ⟨_, _, rfl⟩
      case sliceC b off len c o L hL hc ho =>
        obtain ⟨cs, hcs, h2⟩ := Option.map_eq_some_iff.1 hs
        simp only [Prod.mk.injEq] at h2
        obtain ⟨rfl, rfl⟩ := h2
        have := row_le hcs
        simp at this
        subst this
        exact ⟨_, _, rfl⟩
      case str s => simp [isStr] at hst
    obtain ⟨a, c, rfl⟩ := hval
    refine (Any.strings_Join_none lays156 extra156 a c sb w).mono fun e w' ⟨he, hw⟩ => ?_
    subst hw
    refine fin (a := none) (c := 0) ?_ (Below.refl _ _)
    rw [he]; rfl
  · have hpos : 0 < l.length := List.length_pos_iff.2 hl0
    have key : ∀ (b off c o : Nat) (L : Loc) (cap : Option Nat), ρ b = some L → m.source 1 (.slice b off n cap) = some (n, l.map .str) → n ≤ c → o = L.off + off → Calls Tryd.prog (lays156_ren.f 156) #[.slice (some ⟨L.blk, o, none⟩) n c, .string sb] w (CallPost base ρ m w (.ret (.str (Go.Lib.join l sb.data.toList)) m)) := by
      intro b off c o L cap hL hs hc ho
      simp only [Mem.source, Nat.mul_one] at hs
      obtain ⟨cs, hcs, h2⟩ := Option.map_eq_some_iff.1 hs
      simp only [Prod.mk.injEq, true_and] at h2
      subst h2
      have hn := row_le hcs
      rw [List.length_map] at hn
      rw [Mem.row_pos (by omega)] at hcs
      unfold Mem.row1 at hcs
      cases hm : m.get b with
      | dead => simp [hm] at hcs
      | map es => simp [hm] at hcs
      | cells cs esz el ro =>
        simp only [hm] at hcs
        cases hble : (off + n).ble cs.length <;> simp only [hble, cond_true, cond_false, reduceCtorEq, Option.some.injEq] at hcs
        obtain ⟨vs, q1, q2, q3, q4⟩ := hR.cells hL hm off n (Nat.le_of_ble_eq_true hble)
        rw [hcs] at q3
        obtain ⟨xs, rfl, hx⟩ := strs_vr q3
        rw [List.length_map] at q1
        subst q1
        subst ho
        refine (Any.strings_Join lays156 extra156 L.blk (L.off + off) c xs sb w (fun j x hj => ?_) ?_ (by omega) hc (by rw [hx]; omega)).mono fun e w' ⟨he, hw⟩ => fin (a := none) (c := 0) (by rw [he, hx]) hw
        · rw [q2 j (List.getElem?_eq_some_iff.1 hj).1, List.getElem?_map, hj]; rfl
        · have hB := hR.blk b L hL
          rw [hm] at hB
          obtain ⟨arr, e, fz, e1, _⟩ := hB
          exact (Array.getElem?_eq_some_iff.1 e1).1
    cases h1 <;> simp only [Mem.source, reduceCtorEq, Option.some.injEq, Prod.mk.injEq] at hs
    case nilslice => exact absurd (List.map_eq_nil_iff.1 hs.2.symm) hl0
    case slice b off len c o L hL hc ho hr =>
      have hln : n = len := by
        obtain ⟨cs, hcs, h2⟩ := Option.map_eq_some_iff.1 hs
        simp only [Prod.mk.injEq] at h2
        exact h2.1.symm
      subst hln
      have hn : l.length = n := by
        obtain ⟨cs, hcs, h2⟩ := Option.map_eq_some_iff.1 hs
        simp only [Prod.mk.injEq, true_and] at h2
        subst h2
        have := row_le hcs
        rw [List.length_map] at this; omega
      exact key b off c o L none hL (by simp only [Mem.source]; exact hs) hc (ho (by omega))
    case sliceE =>
      obtain ⟨cs, hcs, h2⟩ := Option.map_eq_some_iff.1 hs
      simp only [Prod.mk.injEq] at h2
      obtain ⟨rfl, rfl⟩ := h2
      have := row_le hcs
      rw [List.length_map] at this; omega
    case sliceC b off len c o L hL hc ho =>
      have hln : n = len := by
        obtain ⟨cs, hcs, h2⟩ := Option.map_eq_some_iff.1 hs
        simp only [Prod.mk.injEq] at h2
        exact h2.1.symm
      subst hln
      have hn : l.length = n := by
        obtain ⟨cs, hcs, h2⟩ := Option.map_eq_some_iff.1 hs
        simp only [Prod.mk.injEq, true_and] at h2
        subst h2
        have := row_le hcs
        rw [List.length_map] at this; omega
      exact key b off c o L (some c) hL (by simp only [Mem.source]; exact hs) hc (ho (by omega))
    case str s => simp [isStr] at hst
theorem join_ent {T : Nat → Option Ent} {f : Nat} (hT : T f = some (.spec joinE)) : EntS T f (.spec joinE) := by
  intro θ m m' args args' fin hg ha h
  obtain ⟨v, sep, n, l, rfl, hst, hs, hl, hj, rfl⟩ := joinE_inv h
  obtain ⟨v', r', rfl, hv, hr⟩ : ∃ v' r', args' = v' :: r' ∧ SV θ v v' ∧ SVs θ [.str sep] r' := by
    cases ha with | cons h hs => exact ⟨_, _, rfl, h, hs⟩
  have : r' = [.str sep] := hr.flat rfl
  subst this
  obtain ⟨cs', h1, h2⟩ := source_sim hg.toMemS hv hs
  have hfl : flats (l.map EV.str) = true := by
    clear hs h2 hl hj h
    induction l with
    | nil => rfl
    | cons s l ih => simp only [List.map_cons, flats, Flat, ih, Bool.true_and]
  have := h2.flat hfl
  subst this
  refine ⟨θ, .ret (.str (Go.Lib.join l sep)) m', ?_, .ret (.str _) hg, .refl _ _ _⟩
  rw [run_spec hT]
  have hst' : isStr v' = false := by cases hv <;> first | rfl | (simp [isStr] at hst)
  unfold joinE
  simp only [h1, hst', strOf_map, joinV, Nat.ble_eq_true_of_le hl, Nat.ble_eq_true_of_le hj, Bool.and_self, cond_true]
end Go.Proofs.YtblcomejcahkdaaDoor.Ev
end
section
namespace Go.Proofs.YtblcomejcahkdaaDoor.Ev
open Go Go.RowKit
def isTab : Blk → Bool
  | .cells cs _ _ _ => EV.sames cs (Go.Lib.pow10Tab.map (.int .u64))
  | _ => false
def inI64 (n : Int) : Bool := decide (-9223372036854775808 ≤ n) && decide (n ≤ 9223372036854775807)
def itoaE (args : List EV) (m : Mem) : Option Fin := match args with
  | [.int .i64 n] => bif isTab (m.get tabNo) && inI64 n then some (.ret (.str (Go.Lib.itoa n)) m) else none
  | _ => none
def xItoa : List EV → Option EV
  | [.int .i64 n] => bif inI64 n then some (.str (Go.Lib.itoa n)) else none
  | _ => none
theorem inI64_iff {n : Int} : inI64 n = true ↔ -9223372036854775808 ≤ n ∧ n ≤ 9223372036854775807 := by simp [inI64]
theorem itoaE_inv {args : List EV} {m : Mem} {fin : Fin} (h : itoaE args m = some fin) : ∃ n, args = [.int .i64 n] ∧ isTab (m.get tabNo) = true ∧ (-9223372036854775808 ≤ n ∧ n ≤ 9223372036854775807) ∧ fin = .ret (.str (Go.Lib.itoa n)) m := by
  unfold itoaE at h
  split at h
  · rename_i n
    cases hc : (isTab (m.get tabNo) && inI64 n) <;> simp only [hc, cond_true, cond_false, reduceCtorEq, Option.some.injEq] at h
    simp only [Bool.and_eq_true] at hc
    exact ⟨n, rfl, hc.1, inI64_iff.1 hc.2, h.symm⟩
  · cases h
theorem below_grow (w : World) (k : Nat) (os : Array Obj) : Below w.heap.size w (Go.Sort.grow (w.drewN k) os) := by
  refine ⟨rfl, rfl, rfl, ?_, fun i hi => ?_⟩
  · show w.heap.size ≤ (w.heap ++ os).size
    simp
  · show (w.heap ++ os)[i]? = w.heap[i]?
    rw [Array.getElem?_append_left hi]
theorem itoa_ok {G : List Nat} (hGc : G.contains tabNo = true) {f : Nat} (hf : lays171_ren.f 171 = f) {fn : Func} (hfn : Tryd.prog.funcs[f]? = some fn) (hnm : (fn.name == "runtime.NumGoroutine") = false) (hb : fn.body.isSome = true) : EntOk Tryd.prog G f (.spec itoaE) := by
  intro base ρ m w args args' fin hR hG hv h
  obtain ⟨n, rfl, ht, hn, rfl⟩ := itoaE_inv h
  obtain ⟨args'⟩ := args'
  refine ⟨?_, ?_⟩
  · obtain ⟨c, hc⟩ := Option.isSome_iff_exists.1 hb
    simp [callFunc, hfn, hc]
    simpa using hnm
  have hv' : VRs ρ [.int .i64 n] args' := hv
  cases hv' with
  | cons h1 h2 =>
  cases h2
  cases h1
  subst hf
  have htab : Go.Lib.TabIs Tryd.prog w "internal/strconv.uint64pow10" .u64 Go.Lib.pow10Tab := by
    obtain ⟨L, h1, h2, h3, h4⟩ := hG tabNo hGc
    have hB := hR.blk _ L h1
    have htot := h4 _ tab_told
    cases hm : m.get tabNo with
    | dead => rw [hm] at ht; cases ht
    | map es => rw [hm] at ht; cases ht
    | cells cs esz el ro =>
      rw [hm] at hB ht
      have hcs := sames_eq ht
      subst hcs
      obtain ⟨arr, e, fz, q1, q2, q3, q4, q5, q6, q7⟩ := hB
      rw [h2] at q1
      have harr : arr = (Go.Lib.pow10Tab.map fun z => Value.int .u64 z).toArray := by
        apply Array.ext'
        rw [List.toList_toArray]
        refine List.ext_getElem? fun i => ?_
        by_cases hi : i < Go.Lib.pow10Tab.length
        · obtain ⟨v', g1, g2, _⟩ := q6 i (.int .u64 Go.Lib.pow10Tab[i]) (by rw [List.getElem?_map, List.getElem?_eq_getElem hi]; rfl)
          rw [h3, Nat.zero_add] at g1
          cases g2
          rw [Array.getElem?_toList, g1, List.getElem?_map, List.getElem?_eq_getElem hi]; rfl
        · rw [List.getElem?_eq_none (by rw [Array.length_toList]; omega), List.getElem?_eq_none (by rw [List.length_map]; omega)]
      unfold Go.Lib.TabIs World.var?
      rw [tab_no]
      simp only [Option.bind_some, q1, harr]
  refine (Any.strconv_Itoa lays171 n hn.1 hn.2 w htab).mono fun e w' ⟨he, k, os, hw⟩ => ?_
  subst hw
  obtain ⟨r1, r2⟩ := hR.drift (below_grow w k os)
  exact ⟨ρ, _, he, vr_str_arr _, r1, r2⟩
theorem sames_ints (l : List Int) : EV.sames (l.map (.int .u64)) (l.map (.int .u64)) = true := by
  induction l with
  | nil => rfl
  | cons a l ih =>
    have : EV.same (.int .u64 a) (.int .u64 a) = true := same_refl _ rfl
    simp only [List.map_cons, EV.sames, this, cond_true, ih]
theorem itoa_ent {T : Nat → Option Ent} {f : Nat} (hT : T f = some (.spec itoaE)) : EntS T f (.pure xItoa) := by
  intro θ m m' args args' v hg ha h
  unfold xItoa at h
  split at h
  · rename_i n
    cases hc : inI64 n <;> simp only [hc, cond_true, cond_false, reduceCtorEq, Option.some.injEq] at h
    subst h
    have : args' = [.int .i64 n] := ha.flat rfl
    subst this
    have hm := hg.sta _ _ (hg.glb.2 _ _ tab_told)
    refine ⟨θ, .ret (.str (Go.Lib.itoa n)) m', ?_, .ret (.str _) hg, .refl _ _ _⟩
    rw [run_spec hT]
    have ht : isTab (m'.get tabNo) = true := by rw [hm]; exact sames_ints _
    simp only [itoaE, ht, hc, Bool.and_self, cond_true]
  · cases h
end Go.Proofs.YtblcomejcahkdaaDoor.Ev
end
section
namespace Go.Proofs.YtblcomejcahkdaaDoor.Ev
open Go
theorem mix : Tryd.prog.follows .mixedOrders = true := by kernel_rfl
theorem ltG : ∀ g, G.contains g = true → g < 6 := fun g h => by simp [G] at h; try omega
def tree : Bt :=
  (.node 38 (.go F_slices_Contains_bool) (.node 20 (.go F_r06_Signs) (.node 11 (.go F_tree_Text) (.node 7 (.go F_l06_few) (.node 5 (.go F_l06_TreeTells) (.node 4 (.go F_l06_TreeParts) (.node 3 (.go F_l06_TreeAlike) .leaf .leaf) .leaf) (.node 6 (.go F_l06_TreeWords) .leaf .leaf)) (.node 9 (.go F_tree_Alike) (.node 8 (.go F_l06_works) .leaf .leaf) (.node 10 (.go F_base_SameNodes) .leaf .leaf))) (.node 16 (.go F_r06_Tell) (.node 14 (.go F_r06_Part) (.node 13 (.go F_r06_Right) (.node 12 (.go F_tree_Right) .leaf .leaf) .leaf) (.node 15 (.go F_tree_Heights) .leaf .leaf)) (.node 18 (.go F_r06_Whole) (.node 17 (.go F_tree_Whole) .leaf .leaf) (.node 19 (.go F_r06_Height) .leaf .leaf)))) (.node 29 (.go F_tree_Text_1) (.node 25 (.go F_base_SameInts) (.node 23 (.go F_tree_Kind) (.node 22 (.go F_tree_Op) (.node 21 (.go F_tree_Sign) .leaf .leaf) .leaf) (.node 24 (.go F_r06_Kind) .leaf .leaf)) (.node 27 (.go F_tree_Alike_1) (.node 26 (.go F_slices_EqualFunc_api_Node) .leaf .leaf) (.node 28 (.go F_slices_Equal_int) .leaf .leaf))) (.node 34 (.go F_base_HasInt) (.node 32 (.go F_strconv_FormatBool) (.node 31 (.spec itoaE) (.node 30 (.go F_tree_rows) .leaf .leaf) .leaf) (.node 33 (.spec joinE) .leaf .leaf)) (.node 36 (.go F_r06_kids) (.node 35 (.go F_r06_own) .leaf .leaf) (.node 37 (.go F_tree_has) .leaf .leaf))))) (.node 58 (.go F_r05_Letter) (.node 48 (.go F_r05_Name) (.node 43 (.go F_internal_strconv_FormatBool) (.node 41 (.go F_slices_Index_string) (.node 40 (.go F_r06_word) (.node 39 (.go F_base_Itoa) .leaf .leaf) .leaf) (.node 42 (.go F_internal_strconv_Itoa) .leaf .leaf)) (.node 45 (.go F_strings_Builder_WriteString) (.node 44 (.go F_strings_Builder_Grow) .leaf .leaf) (.node 47 (.go F_r06_named) .leaf .leaf))) (.node 53 (.go F_tree_is) (.node 51 (.go F_r06_Stmt) (.node 50 (.go F_r06_all) (.node 49 (.go F_r06_exprs) .leaf .leaf) .leaf) (.node 52 (.go F_tree_name) .leaf .leaf)) (.node 55 (.go F_internal_strconv_FormatInt) (.node 54 (.go F_slices_Index_bool) .leaf .leaf) (.node 57 (.go F_strings_Builder_grow) .leaf .leaf)))) (.node 69 (.go F_r05_Words) (.node 63 (.go F_internal_strconv_small) (.node 61 (.go F_r06_Expr) (.node 60 (.go F_r05_Word) (.node 59 (.go F_r05_Digit) .leaf .leaf) .leaf) (.node 62 (.go F_slices_Contains_string) .leaf .leaf)) (.node 65 (.go F_internal_strconv_formatBase10) (.node 64 (.go F_internal_strconv_numDigits) .leaf .leaf) (.node 66 (.go F_internal_strconv_formatBits) .leaf .leaf))) (.node 73 (.go F_internal_strconv_isPowerOfTwo) (.node 71 (.go F_math_bits_Len64) (.node 70 (.go F_internal_strconv_log10Pow2) .leaf .leaf) (.node 72 (.go F_internal_strconv_bool2_int) .leaf .leaf)) (.node 75 (.go F_math_bits_TrailingZeros32) (.node 74 (.go F_math_bits_TrailingZeros) .leaf .leaf) (.node 76 (.go F_math_bits_TrailingZeros64) .leaf .leaf))))))
def T : Nat → Option Ent := tree.find
theorem okT : ∀ f e, T f = some e → EntOk Tryd.prog G f e := Bt.find_of (t := tree)
  ⟨⟨_, Tryd.func38, ok38⟩, ⟨⟨_, Tryd.func20, ok20⟩, ⟨⟨_, Tryd.func11, ok11⟩, ⟨⟨_, Tryd.func7, ok7⟩, ⟨⟨_, Tryd.func5, ok5⟩, ⟨⟨_, Tryd.func4, ok4⟩, ⟨⟨_, Tryd.func3, ok3⟩, trivial, trivial⟩, trivial⟩, ⟨⟨_, Tryd.func6, ok6⟩, trivial, trivial⟩⟩, ⟨⟨_, Tryd.func9, ok9⟩, ⟨⟨_, Tryd.func8, ok8⟩, trivial, trivial⟩, ⟨⟨_, Tryd.func10, ok10⟩, trivial, trivial⟩⟩⟩, ⟨⟨_, Tryd.func16, ok16⟩, ⟨⟨_, Tryd.func14, ok14⟩, ⟨⟨_, Tryd.func13, ok13⟩, ⟨⟨_, Tryd.func12, ok12⟩, trivial, trivial⟩, trivial⟩, ⟨⟨_, Tryd.func15, ok15⟩, trivial, trivial⟩⟩, ⟨⟨_, Tryd.func18, ok18⟩, ⟨⟨_, Tryd.func17, ok17⟩, trivial, trivial⟩, ⟨⟨_, Tryd.func19, ok19⟩, trivial, trivial⟩⟩⟩⟩, ⟨⟨_, Tryd.func29, ok29⟩, ⟨⟨_, Tryd.func25, ok25⟩, ⟨⟨_, Tryd.func23, ok23⟩, ⟨⟨_, Tryd.func22, ok22⟩, ⟨⟨_, Tryd.func21, ok21⟩, trivial, trivial⟩, trivial⟩, ⟨⟨_, Tryd.func24, ok24⟩, trivial, trivial⟩⟩, ⟨⟨_, Tryd.func27, ok27⟩, ⟨⟨_, Tryd.func26, ok26⟩, trivial, trivial⟩, ⟨⟨_, Tryd.func28, ok28⟩, trivial, trivial⟩⟩⟩, ⟨⟨_, Tryd.func34, ok34⟩, ⟨⟨_, Tryd.func32, ok32⟩, ⟨(itoa_ok (by kernel_rfl) itoaNo itoaFn (by kernel_rfl) (by kernel_rfl)), ⟨⟨_, Tryd.func30, ok30⟩, trivial, trivial⟩, trivial⟩, ⟨(join_ok joinNo joinFn (by kernel_rfl) (by kernel_rfl)), trivial, trivial⟩⟩, ⟨⟨_, Tryd.func36, ok36⟩, ⟨⟨_, Tryd.func35, ok35⟩, trivial, trivial⟩, ⟨⟨_, Tryd.func37, ok37⟩, trivial, trivial⟩⟩⟩⟩⟩, ⟨⟨_, Tryd.func58, ok58⟩, ⟨⟨_, Tryd.func48, ok48⟩, ⟨⟨_, Tryd.func43, ok43⟩, ⟨⟨_, Tryd.func41, ok41⟩, ⟨⟨_, Tryd.func40, ok40⟩, ⟨⟨_, Tryd.func39, ok39⟩, trivial, trivial⟩, trivial⟩, ⟨⟨_, Tryd.func42, ok42⟩, trivial, trivial⟩⟩, ⟨⟨_, Tryd.func45, ok45⟩, ⟨⟨_, Tryd.func44, ok44⟩, trivial, trivial⟩, ⟨⟨_, Tryd.func47, ok47⟩, trivial, trivial⟩⟩⟩, ⟨⟨_, Tryd.func53, ok53⟩, ⟨⟨_, Tryd.func51, ok51⟩, ⟨⟨_, Tryd.func50, ok50⟩, ⟨⟨_, Tryd.func49, ok49⟩, trivial, trivial⟩, trivial⟩, ⟨⟨_, Tryd.func52, ok52⟩, trivial, trivial⟩⟩, ⟨⟨_, Tryd.func55, ok55⟩, ⟨⟨_, Tryd.func54, ok54⟩, trivial, trivial⟩, ⟨⟨_, Tryd.func57, ok57⟩, trivial, trivial⟩⟩⟩⟩, ⟨⟨_, Tryd.func69, ok69⟩, ⟨⟨_, Tryd.func63, ok63⟩, ⟨⟨_, Tryd.func61, ok61⟩, ⟨⟨_, Tryd.func60, ok60⟩, ⟨⟨_, Tryd.func59, ok59⟩, trivial, trivial⟩, trivial⟩, ⟨⟨_, Tryd.func62, ok62⟩, trivial, trivial⟩⟩, ⟨⟨_, Tryd.func65, ok65⟩, ⟨⟨_, Tryd.func64, ok64⟩, trivial, trivial⟩, ⟨⟨_, Tryd.func66, ok66⟩, trivial, trivial⟩⟩⟩, ⟨⟨_, Tryd.func73, ok73⟩, ⟨⟨_, Tryd.func71, ok71⟩, ⟨⟨_, Tryd.func70, ok70⟩, trivial, trivial⟩, ⟨⟨_, Tryd.func72, ok72⟩, trivial, trivial⟩⟩, ⟨⟨_, Tryd.func75, ok75⟩, ⟨⟨_, Tryd.func74, ok74⟩, trivial, trivial⟩, ⟨⟨_, Tryd.func76, ok76⟩, trivial, trivial⟩⟩⟩⟩⟩⟩
theorem at3 : T 3 = some (.go F_l06_TreeAlike) := rfl
theorem at4 : T 4 = some (.go F_l06_TreeParts) := rfl
theorem at5 : T 5 = some (.go F_l06_TreeTells) := rfl
theorem at6 : T 6 = some (.go F_l06_TreeWords) := rfl
theorem at7 : T 7 = some (.go F_l06_few) := rfl
theorem at8 : T 8 = some (.go F_l06_works) := rfl
theorem at9 : T 9 = some (.go F_tree_Alike) := rfl
theorem at10 : T 10 = some (.go F_base_SameNodes) := rfl
theorem at11 : T 11 = some (.go F_tree_Text) := rfl
theorem at12 : T 12 = some (.go F_tree_Right) := rfl
theorem at13 : T 13 = some (.go F_r06_Right) := rfl
theorem at14 : T 14 = some (.go F_r06_Part) := rfl
theorem at15 : T 15 = some (.go F_tree_Heights) := rfl
theorem at16 : T 16 = some (.go F_r06_Tell) := rfl
theorem at17 : T 17 = some (.go F_tree_Whole) := rfl
theorem at18 : T 18 = some (.go F_r06_Whole) := rfl
theorem at19 : T 19 = some (.go F_r06_Height) := rfl
theorem at20 : T 20 = some (.go F_r06_Signs) := rfl
theorem at21 : T 21 = some (.go F_tree_Sign) := rfl
theorem at22 : T 22 = some (.go F_tree_Op) := rfl
theorem at23 : T 23 = some (.go F_tree_Kind) := rfl
theorem at24 : T 24 = some (.go F_r06_Kind) := rfl
theorem at25 : T 25 = some (.go F_base_SameInts) := rfl
theorem at26 : T 26 = some (.go F_slices_EqualFunc_api_Node) := rfl
theorem at27 : T 27 = some (.go F_tree_Alike_1) := rfl
theorem at28 : T 28 = some (.go F_slices_Equal_int) := rfl
theorem at29 : T 29 = some (.go F_tree_Text_1) := rfl
theorem at30 : T 30 = some (.go F_tree_rows) := rfl
theorem at31 : T 31 = some (.spec itoaE) := rfl
theorem at32 : T 32 = some (.go F_strconv_FormatBool) := rfl
theorem at33 : T 33 = some (.spec joinE) := rfl
theorem at34 : T 34 = some (.go F_base_HasInt) := rfl
theorem at35 : T 35 = some (.go F_r06_own) := rfl
theorem at36 : T 36 = some (.go F_r06_kids) := rfl
theorem at37 : T 37 = some (.go F_tree_has) := rfl
theorem at38 : T 38 = some (.go F_slices_Contains_bool) := rfl
theorem at39 : T 39 = some (.go F_base_Itoa) := rfl
theorem at40 : T 40 = some (.go F_r06_word) := rfl
theorem at41 : T 41 = some (.go F_slices_Index_string) := rfl
theorem at42 : T 42 = some (.go F_internal_strconv_Itoa) := rfl
theorem at43 : T 43 = some (.go F_internal_strconv_FormatBool) := rfl
theorem at47 : T 47 = some (.go F_r06_named) := rfl
theorem at48 : T 48 = some (.go F_r05_Name) := rfl
theorem at49 : T 49 = some (.go F_r06_exprs) := rfl
theorem at50 : T 50 = some (.go F_r06_all) := rfl
theorem at51 : T 51 = some (.go F_r06_Stmt) := rfl
theorem at52 : T 52 = some (.go F_tree_name) := rfl
theorem at53 : T 53 = some (.go F_tree_is) := rfl
theorem at54 : T 54 = some (.go F_slices_Index_bool) := rfl
theorem at55 : T 55 = some (.go F_internal_strconv_FormatInt) := rfl
theorem at58 : T 58 = some (.go F_r05_Letter) := rfl
theorem at59 : T 59 = some (.go F_r05_Digit) := rfl
theorem at60 : T 60 = some (.go F_r05_Word) := rfl
theorem at61 : T 61 = some (.go F_r06_Expr) := rfl
theorem at62 : T 62 = some (.go F_slices_Contains_string) := rfl
theorem at63 : T 63 = some (.go F_internal_strconv_small) := rfl
theorem at65 : T 65 = some (.go F_internal_strconv_formatBase10) := rfl
theorem at66 : T 66 = some (.go F_internal_strconv_formatBits) := rfl
theorem at69 : T 69 = some (.go F_r05_Words) := rfl
theorem at70 : T 70 = some (.go F_internal_strconv_log10Pow2) := rfl
theorem at71 : T 71 = some (.go F_math_bits_Len64) := rfl
theorem at72 : T 72 = some (.go F_internal_strconv_bool2_int) := rfl
theorem at73 : T 73 = some (.go F_internal_strconv_isPowerOfTwo) := rfl
theorem at74 : T 74 = some (.go F_math_bits_TrailingZeros) := rfl
end Go.Proofs.YtblcomejcahkdaaDoor.Ev
end
section
namespace Go.Proofs.YtblcomejcahkdaaDoor.Ev
open Go

def chunk (e : Nat) : Nat → List EV → List (List EV)
  | 0, _ => []
  | n + 1, l => l.take e :: chunk e n (l.drop e)
def capOk (cap : Option Nat) (n : Nat) : Bool := match cap with
  | none => true
  | some c => n.ble c
mutual
def frz (F : List EV → Option (List EV)) (m : Mem) : EV → Option EV
  | .slice b off n cap => match m.get b with
    | .cells cs e _ _ => bif capOk cap n then (bif (off + n * e).ble cs.length then (F ((cs.drop off).take (n * e))).map fun ys => .fz 0 e (chunk e n ys) else none) else none
    | _ => none
  | .agg xs => (frzs F m xs).map .agg
  | .tuple xs => (frzs F m xs).map .tuple
  | .iface t v => (frz F m v).map (.iface t)
  | .func f x y => match frzs F m x, frzs F m y with
    | some x, some y => some (.func f x y)
    | _, _ => none
  | .fz _ e els => some (.fz 0 e els)
  | .ptr _ _ | .map _ | .fptr _ _ _ _ => none
  | .undef => some .undef
  | .bool b => some (.bool b)
  | .int k n => some (.int k n)
  | .str s => some (.str s)
  | .nilptr => some .nilptr
  | .nilslice => some .nilslice
  | .nilmap => some .nilmap
  | .nilfunc => some .nilfunc
  | .niliface => some .niliface
def frzs (F : List EV → Option (List EV)) (m : Mem) : List EV → Option (List EV)
  | [] => some []
  | v :: l => match frz F m v, frzs F m l with
    | some v, some l => some (v :: l)
    | _, _ => none
end
def freezes : Nat → Mem → List EV → Option (List EV)
  | 0, _, _ => none
  | d + 1, m, l => frzs (freezes d m) m l
mutual
def closed : EV → Bool
  | .ptr _ _ | .slice _ _ _ _ | .map _ | .fptr _ _ _ _ => false
  | .func _ x y => closeds x && closeds y
  | .iface _ v => closed v
  | .agg x | .tuple x => closeds x
  | _ => true
def closeds : List EV → Bool
  | [] => true
  | v :: x => closed v && closeds x
end
theorem chunk_len {e : Nat} : ∀ (n : Nat) (l : List EV), (chunk e n l).length = n
  | 0, _ => rfl
  | n + 1, l => by simp [chunk, chunk_len n]
theorem chunk_els {e : Nat} : ∀ (n : Nat) (l : List EV), l.length = n * e → (∀ el ∈ chunk e n l, el.length = e) ∧ (chunk e n l).flatten = l
  | 0, l, h => by
    rw [Nat.zero_mul] at h
    have := List.eq_nil_of_length_eq_zero h
    subst this; simp [chunk]
  | n + 1, l, h => by
    rw [Nat.succ_mul] at h
    obtain ⟨h1, h2⟩ := chunk_els (e := e) n (l.drop e) (by rw [List.length_drop]; omega)
    refine ⟨fun el hel => ?_, ?_⟩
    · simp only [chunk, List.mem_cons] at hel
      rcases hel with rfl | hel
      · rw [List.length_take]; omega
      · exact h1 el hel
    · simp only [chunk, List.flatten_cons, h2, List.take_append_drop]
open Classical in
noncomputable def Tie.end_ (θ : Tie) (m' : Mem) : Tie := ⟨fun _ => none, fun _ => none, fun c => if ∃ b, θ.ren b = some c then some (m'.get c) else θ.sta c⟩
theorem end_ren {θ : Tie} {m' : Mem} {b c : Nat} (h : θ.ren b = some c) : (θ.end_ m').sta c = some (m'.get c) := by
  unfold Tie.end_; simp only; exact if_pos ⟨b, h⟩
theorem end_inv {θ : Tie} {m' : Mem} {c : Nat} {B : Blk} (h : (θ.end_ m').sta c = some B) : ((∃ b, θ.ren b = some c) ∧ B = m'.get c) ∨ θ.sta c = some B := by
  unfold Tie.end_ at h; simp only at h
  split at h
  · rename_i hx; cases h; exact .inl ⟨hx, rfl⟩
  · exact .inr h
theorem low_end {θ : Tie} {m' : Mem} {n n' : Nat} (k : TieOk θ n n') : Tie.Ext θ.low (θ.end_ m') := by
  refine ⟨fun _ _ h => (by simp [Tie.low] at h), fun _ _ h => (by simp [Tie.low] at h), fun c B h => ?_⟩
  have h' : θ.sta c = some B := h
  unfold Tie.end_; simp only
  rw [if_neg, h']
  rintro ⟨b, hb⟩
  rw [k.off b c hb] at h'; cases h'
theorem SR.low {θ : Tie} {e : Nat} {els : List (List EV)} {b off : Nat} (h : SR θ e els b off) : SR θ.low e els b off := by
  cases h with | mk hs hl hn hx => exact .mk hs hl hn hx
section
variable {θ : Tie} {m m' : Mem} {F : List EV → Option (List EV)}
theorem SVs.nil_inv {l' : List EV} (h : SVs θ [] l') : l' = [] := by cases h; rfl
theorem SVs.cons_inv {v : EV} {l l' : List EV} (h : SVs θ (v :: l) l') : ∃ v' r', l' = v' :: r' ∧ SV θ v v' ∧ SVs θ l r' := by
  cases h with | cons h hs => exact ⟨_, _, rfl, h, hs⟩
theorem frzs_cons {v : EV} {l r : List EV} (h : frzs F m (v :: l) = some r) : ∃ a b, frz F m v = some a ∧ frzs F m l = some b ∧ r = a :: b := by
  simp only [frzs] at h
  cases h1 : frz F m v with
  | none => simp [h1] at h
  | some a =>
    cases h2 : frzs F m l with
    | none => simp [h1, h2] at h
    | some b => simp only [h1, h2, Option.some.injEq] at h; exact ⟨a, b, rfl, rfl, h.symm⟩
mutual
theorem frz_sim (hg : GoodS θ m m') (hF : ∀ l r l', F l = some r → SVs θ l l' → SVs (θ.end_ m') r l') : ∀ {v r v' : EV}, frz F m v = some r → SV θ v v' → SV (θ.end_ m') r v'
  | .undef, r, v', h, hv => by cases hv; cases h; exact .undef
  | .bool b, r, v', h, hv => by cases hv; cases h; exact .bool b
  | .int k n, r, v', h, hv => by cases hv; cases h; exact .int k n
  | .str s, r, v', h, hv => by cases hv; cases h; exact .str s
  | .nilptr, r, v', h, hv => by cases hv; cases h; exact .nilptr
  | .nilslice, r, v', h, hv => by cases hv; cases h; exact .nilslice
  | .nilmap, r, v', h, hv => by cases hv; cases h; exact .nilmap
  | .nilfunc, r, v', h, hv => by cases hv; cases h; exact .nilfunc
  | .niliface, r, v', h, hv => by cases hv; cases h; exact .niliface
  | .ptr _ _, r, v', h, hv => by simp [frz] at h
  | .map _, r, v', h, hv => by simp [frz] at h
  | .fptr _ _ _ _, r, v', h, hv => by simp [frz] at h
  | .fz t e els, r, v', h, hv => by
    simp only [frz, Option.some.injEq] at h; subst h
    cases hv with
    | fz hr ht hc => exact .fz (hr.low.ext (low_end hg.ok)) (.inl rfl) hc
    | fz0 ht => exact .fz0 (.inl rfl)
  | .slice b off n cap, r, v', h, hv => by
    cases hv with
    | @slice _ _ c _ _ _ hb =>
    simp only [frz] at h
    have hB := hg.blk b c hb
    cases hgt : m.get b with
    | dead => simp [hgt] at h
    | map es => simp [hgt] at h
    | cells cs e k ro =>
      rw [hgt] at hB
      obtain ⟨cs', hg', hs⟩ := hB
      simp only [hgt] at h
      cases hcap : capOk cap n <;> simp only [hcap, cond_true, cond_false, reduceCtorEq] at h
      cases hl : (off + n * e).ble cs.length <;> simp only [hl, cond_true, cond_false, reduceCtorEq] at h
      have hle := Nat.le_of_ble_eq_true hl
      obtain ⟨ys, hy, rfl⟩ := Option.map_eq_some_iff.1 h
      have hseg := hF _ _ _ hy ((hs.drop off).take (n * e))
      have hyl : ys.length = n * e := by rw [hseg.length, List.length_take, List.length_drop, ← hs.length]; omega
      obtain ⟨q1, q2⟩ := chunk_els n ys hyl
      have hst := end_ren (m' := m') hb
      rw [hg'] at hst
      have hr : SR (θ.end_ m') e (chunk e n ys) c off := .mk hst q1 (by rw [chunk_len, ← hs.length]; exact hle) (by rw [q2, chunk_len]; exact hseg)
      have := SV.fz (t := 0) (cap := cap) hr (.inl rfl) (fun q hq => by subst hq; rw [chunk_len]; exact Nat.le_of_ble_eq_true hcap)
      rw [chunk_len] at this; exact this
  | .agg x, r, v', h, hv => by
    simp only [frz] at h
    obtain ⟨y, hy, rfl⟩ := Option.map_eq_some_iff.1 h
    cases hv with | agg hx => exact .agg (frzs_sim hg hF hy hx)
  | .tuple x, r, v', h, hv => by
    simp only [frz] at h
    obtain ⟨y, hy, rfl⟩ := Option.map_eq_some_iff.1 h
    cases hv with | tuple hx => exact .tuple (frzs_sim hg hF hy hx)
  | .iface t x, r, v', h, hv => by
    simp only [frz] at h
    obtain ⟨y, hy, rfl⟩ := Option.map_eq_some_iff.1 h
    cases hv with | iface hx => exact .iface (frz_sim hg hF hy hx)
  | .func f x y, r, v', h, hv => by
    simp only [frz] at h
    cases h1 : frzs F m x with
    | none => simp [h1] at h
    | some a =>
      cases h2 : frzs F m y with
      | none => simp [h1, h2] at h
      | some b =>
        simp only [h1, h2, Option.some.injEq] at h; subst h
        cases hv with | func hx hy => exact .func (frzs_sim hg hF h1 hx) (frzs_sim hg hF h2 hy)
theorem frzs_sim (hg : GoodS θ m m') (hF : ∀ l r l', F l = some r → SVs θ l l' → SVs (θ.end_ m') r l') : ∀ {l r l' : List EV}, frzs F m l = some r → SVs θ l l' → SVs (θ.end_ m') r l'
  | [], r, l', h, hv => by
    have := hv.nil_inv; subst this
    simp only [frzs, Option.some.injEq] at h; subst h; exact .nil
  | v :: l, r, l', h, hv => by
    obtain ⟨a, b, h1, h2, rfl⟩ := frzs_cons h
    obtain ⟨v', r', rfl, g1, g2⟩ := hv.cons_inv
    exact .cons (frz_sim hg hF h1 g1) (frzs_sim hg hF h2 g2)
end
theorem freezes_sim (hg : GoodS θ m m') : ∀ (d : Nat) (l r l' : List EV), freezes d m l = some r → SVs θ l l' → SVs (θ.end_ m') r l'
  | 0, l, r, l', h, _ => by simp [freezes] at h
  | d + 1, l, r, l', h, hv => frzs_sim hg (freezes_sim hg d) h hv
mutual
theorem frz_closed : ∀ {v r v' : EV}, frz F m v = some r → closed v = true → SV θ v v' → SV θ.low r v'
  | .undef, r, v', h, _, hv => by cases hv; cases h; exact .undef
  | .bool b, r, v', h, _, hv => by cases hv; cases h; exact .bool b
  | .int k n, r, v', h, _, hv => by cases hv; cases h; exact .int k n
  | .str s, r, v', h, _, hv => by cases hv; cases h; exact .str s
  | .nilptr, r, v', h, _, hv => by cases hv; cases h; exact .nilptr
  | .nilslice, r, v', h, _, hv => by cases hv; cases h; exact .nilslice
  | .nilmap, r, v', h, _, hv => by cases hv; cases h; exact .nilmap
  | .nilfunc, r, v', h, _, hv => by cases hv; cases h; exact .nilfunc
  | .niliface, r, v', h, _, hv => by cases hv; cases h; exact .niliface
  | .ptr _ _, r, v', h, _, hv => by simp [frz] at h
  | .map _, r, v', h, _, hv => by simp [frz] at h
  | .fptr _ _ _ _, r, v', h, _, hv => by simp [frz] at h
  | .slice _ _ _ _, r, v', h, hc, hv => by simp [closed] at hc
  | .fz t e els, r, v', h, _, hv => by
    simp only [frz, Option.some.injEq] at h; subst h
    cases hv with
    | fz hr ht hc => exact .fz hr.low (.inl rfl) hc
    | fz0 ht => exact .fz0 (.inl rfl)
  | .agg x, r, v', h, hc, hv => by
    simp only [frz] at h
    obtain ⟨y, hy, rfl⟩ := Option.map_eq_some_iff.1 h
    cases hv with | agg hx => exact .agg (frzs_closed hy (by simpa only [closed] using hc) hx)
  | .tuple x, r, v', h, hc, hv => by
    simp only [frz] at h
    obtain ⟨y, hy, rfl⟩ := Option.map_eq_some_iff.1 h
    cases hv with | tuple hx => exact .tuple (frzs_closed hy (by simpa only [closed] using hc) hx)
  | .iface t x, r, v', h, hc, hv => by
    simp only [frz] at h
    obtain ⟨y, hy, rfl⟩ := Option.map_eq_some_iff.1 h
    cases hv with | iface hx => exact .iface (frz_closed hy (by simpa only [closed] using hc) hx)
  | .func f x y, r, v', h, hc, hv => by
    simp only [frz] at h
    simp only [closed, Bool.and_eq_true] at hc
    cases h1 : frzs F m x with
    | none => simp [h1] at h
    | some a =>
      cases h2 : frzs F m y with
      | none => simp [h1, h2] at h
      | some b =>
        simp only [h1, h2, Option.some.injEq] at h; subst h
        cases hv with | func hx hy => exact .func (frzs_closed h1 hc.1 hx) (frzs_closed h2 hc.2 hy)
theorem frzs_closed : ∀ {l r l' : List EV}, frzs F m l = some r → closeds l = true → SVs θ l l' → SVs θ.low r l'
  | [], r, l', h, _, hv => by
    have := hv.nil_inv; subst this
    simp only [frzs, Option.some.injEq] at h; subst h; exact .nil
  | v :: l, r, l', h, hc, hv => by
    simp only [closeds, Bool.and_eq_true] at hc
    obtain ⟨a, b, h1, h2, rfl⟩ := frzs_cons h
    obtain ⟨v', r', rfl, g1, g2⟩ := hv.cons_inv
    exact .cons (frz_closed h1 hc.1 g1) (frzs_closed h2 hc.2 g2)
end

def tagArgs : Nat → List EV → List EV
  | _, [] => []
  | i, v :: r => (match v with | .fz _ e els => .fz i e els | v => v) :: tagArgs (i + 1) r
def tagOf (l : List EV) (t : Nat) : Option (Nat × Nat × Option Nat) := match l[t - 1]? with
  | some (.slice b off _ cap) => some (b, off, cap)
  | _ => none
theorem tag_sim {S : Nat → Option Blk} {tg : Nat → Option (Nat × Nat × Option Nat)} : ∀ (l l' : List EV) (i : Nat), (∀ j b off n cap, l'[j]? = some (.slice b off n cap) → tg (i + j) = some (b, off, cap)) → SVs ⟨fun _ => none, fun _ => none, S⟩ l l' → SVs ⟨fun _ => none, tg, S⟩ (tagArgs i l) l'
  | [], l', i, _, h => by have := h.nil_inv; subst this; exact .nil
  | v :: l, l', i, ht, h => by
    obtain ⟨v', r', rfl, g1, g2⟩ := h.cons_inv
    have e : Tie.Ext ⟨fun _ => none, fun _ => none, S⟩ ⟨fun _ => none, tg, S⟩ := ⟨fun _ _ h => by simp at h, fun _ _ h => by simp at h, fun _ _ h => h⟩
    refine .cons ?_ (tag_sim l r' (i + 1) (fun j b off n cap hj => by have := ht (j + 1) b off n cap (by simpa using hj); rw [show i + 1 + j = i + (j + 1) by omega]; exact this) g2)
    have keep : SV ⟨fun _ => none, tg, S⟩ v v' := g1.ext e
    cases v <;> try exact keep
    cases g1 with
    | fz hr _ hc => exact .fz (hr.ext e) (.inr (by have := ht 0 _ _ _ _ rfl; exact this)) hc
    | fz0 _ => exact .fz0 (.inr (by have := ht 0 _ _ _ _ rfl; exact this))
theorem tagOf_at (l : List EV) : ∀ j b off n cap, l[j]? = some (.slice b off n cap) → tagOf l (1 + j) = some (b, off, cap) := by
  intro j b off n cap h
  unfold tagOf
  rw [show 1 + j - 1 = j by omega, h]
end

def mem00 : Mem := ⟨0, .leaf⟩
theorem mem00_get (b : Nat) : mem00.get b = .dead := mem0_get 0 b
def deep : Nat := 8
def pureG0 (g : List EV → Option EV) (args : List EV) (m : Mem) : Option Fin := match freezes deep m args with
  | some asx => match g (tagArgs 1 asx) with
    | some V => bif Flat V then some (.ret V m) else none
    | none => none
  | none => none
def pureG1 (g : List EV → Option EV) (args : List EV) (m : Mem) : Option Fin := bif closeds args then match freezes deep m args with
  | some asx => match g (tagArgs 1 asx) with
    | some V => some (.ret V ⟨m.next + 1, m.tbl⟩)
    | none => none
  | none => none else none
noncomputable def bodyP (T : Nat → Option Ent) (F : IFun) (asx : List EV) : Option EV := bif asx.length.ble F.ntmps then
  match resE F (exec T F.body ⟨args0 asx 0 .leaf, []⟩ mem00) with
  | some (.ret v m) => match freezes deep m [v] with
    | some [V] => some V
    | _ => none
  | _ => none else none
section
variable {T T1 : Nat → Option Ent}
theorem body_ex {F : IFun} {asx : List EV} {fin : Fin} (hl : asx.length.ble F.ntmps = true) (h : resE F (exec T1 F.body ⟨args0 asx 0 .leaf, []⟩ mem00) = some fin) : ∃ n, evBody (evFun T1 n) n F asx mem00 = some fin := by
  cases hc : exec T1 F.body ⟨args0 asx 0 .leaf, []⟩ mem00 with
  | none => simp [hc, resE] at h
  | some o =>
    obtain ⟨n, hn⟩ := exec_iff.1 hc
    refine ⟨n, ?_⟩
    rw [hc] at h
    simp only [evBody, hl, cond_true, hn]
    cases o <;> exact h
theorem ex_body {F : IFun} {asx : List EV} {fin : Fin} {n : Nat} (h : evBody (evFun T1 n) n F asx mem00 = some fin) : asx.length.ble F.ntmps = true ∧ resE F (exec T1 F.body ⟨args0 asx 0 .leaf, []⟩ mem00) = some fin := by
  unfold evBody at h
  cases hl : asx.length.ble F.ntmps <;> simp only [hl, cond_true, cond_false, reduceCtorEq] at h
  refine ⟨rfl, ?_⟩
  cases hc : evCode (evFun T1 n) n F.body ⟨args0 asx 0 .leaf, []⟩ mem00 with
  | none => simp [hc] at h
  | some o =>
    rw [exec_iff.2 ⟨n, hc⟩]
    simp only [hc] at h
    cases o <;> exact h
theorem bodyP_inv {F : IFun} {asx : List EV} {V : EV} (h : bodyP T1 F asx = some V) : ∃ n v m, evBody (evFun T1 n) n F asx mem00 = some (.ret v m) ∧ freezes deep m [v] = some [V] := by
  unfold bodyP at h
  cases hl : asx.length.ble F.ntmps <;> simp only [hl, cond_true, cond_false, reduceCtorEq] at h
  cases hr : resE F (exec T1 F.body ⟨args0 asx 0 .leaf, []⟩ mem00) with
  | none => simp [hr] at h
  | some fin =>
    cases fin with
    | pan v m => simp [hr] at h
    | ret v m =>
      simp only [hr] at h
      obtain ⟨n, hn⟩ := body_ex hl hr
      refine ⟨n, v, m, hn, ?_⟩
      split at h
      · rename_i q; cases h; exact q
      · cases h
theorem bodyP_of {F : IFun} {asx : List EV} {V v : EV} {m : Mem} {n : Nat} (h : evBody (evFun T1 n) n F asx mem00 = some (.ret v m)) (hv : freezes deep m [v] = some [V]) : bodyP T1 F asx = some V := by
  obtain ⟨h1, h2⟩ := ex_body h
  unfold bodyP
  simp only [h1, cond_true, h2, hv]
theorem pure_run (h1 : ∀ f e, T1 f = some e → EntS T f e) {f : Nat} {F : IFun} (hT : T f = some (.go F)) (hok : okFunG F = true) {asx : List EV} {V : EV} (h : bodyP T1 F.sub asx = some V) {tg : Nat → Option (Nat × Nat × Option Nat)} {S : Nat → Option Blk} {m' : Mem} {args' : List EV}
    (hsta : ∀ b B, S b = some B → m'.get b = B ∧ b < m'.next) (ha : SVs ⟨fun _ => none, tg, S⟩ asx args') (hgl : GlobOk ⟨fun _ => none, tg, S⟩) :
    ∃ v' m1 m1' θ, run T f args' m' = some (.ret v' m1') ∧ StepS ⟨fun _ => none, tg, S⟩ mem00 m' θ m1 m1' ∧ GoodS θ m1 m1' ∧ SV (θ.end_ m1') V v' := by
  obtain ⟨n, v, m, hb, hf⟩ := bodyP_inv h
  have hg : GoodS ⟨fun _ => none, tg, S⟩ mem00 m' := ⟨⟨⟨fun b c hb => by simp at hb, fun b _ => mem00_get b⟩, fun b B hb => (hsta b B hb).1⟩, ⟨fun b c hb => by simp at hb, fun a b c hb => by simp at hb, fun b c hb => by simp at hb, fun b B hb => (hsta b B hb).2⟩, hgl⟩
  obtain ⟨θ, fin', e, hs, hst⟩ := body_sim (fun_sim h1 n) n hT hok hb hg ha
  cases hs with
  | @ret _ v' _ m1' hv hg1 =>
    have := freezes_sim hg1 deep [v] [V] [v'] hf (.cons hv .nil)
    obtain ⟨w, r, hw, q1, q2⟩ := this.cons_inv
    cases hw
    exact ⟨v', m, m1', θ, e, hst, hg1, q1⟩
theorem pure0_ent (h1 : ∀ f e, T1 f = some e → EntS T f e) {f : Nat} {F : IFun} (hT : T f = some (.go F)) (hok : okFunG F = true) {g : List EV → Option EV} (hg : ∀ asx V, g asx = some V → bodyP T1 F.sub asx = some V) : EntS T f (.spec (pureG0 g)) := by
  intro θ m m' args args' fin hgd ha h
  unfold pureG0 at h
  cases hfz : freezes deep m args with
  | none => simp [hfz] at h
  | some asx =>
    simp only [hfz] at h
    cases hv : g (tagArgs 1 asx) with
    | none => simp [hv] at h
    | some V =>
      simp only [hv] at h
      cases hfl : Flat V <;> simp only [hfl, cond_true, cond_false, reduceCtorEq, Option.some.injEq] at h
      subst h
      have hs := freezes_sim hgd deep args asx args' hfz ha
      obtain ⟨v', m1, m1', θ1, e, hst, hg1, hvv⟩ := pure_run h1 hT hok (hg _ _ hv) (m' := m') (S := (θ.end_ m').sta) (fun b B hb => by
        rcases end_inv hb with ⟨⟨x, hx⟩, rfl⟩ | hb
        · exact ⟨rfl, (hgd.ok.ren x b hx).2⟩
        · exact ⟨hgd.sta b B hb, hgd.ok.sta b B hb⟩) (tag_sim asx args' 1 (tagOf_at args') hs) (hgd.glb.down ⟨fun _ _ h => (by simp [Tie.low] at h), fun _ _ h => (by simp [Tie.low] at h), (low_end hgd.ok).sta⟩)
      have := hvv.flat hfl
      subst this
      have keep : ∀ c, c < m'.next → m1'.get c = m'.get c := fun c hc => hst.keep c hc fun b hb => by simp at hb
      refine ⟨θ, _, e, .ret (SV.of_flat hfl) ⟨⟨⟨fun b c hb => ?_, hgd.cl⟩, fun b B hb => ?_⟩, ⟨fun b c hb => ⟨(hgd.ok.ren b c hb).1, Nat.lt_of_lt_of_le (hgd.ok.ren b c hb).2 hst.n2⟩, hgd.ok.inj, hgd.ok.off, fun b B hb => Nat.lt_of_lt_of_le (hgd.ok.sta b B hb) hst.n2⟩, hgd.glb⟩,
        ⟨.refl θ, fun _ _ h => .inl h, fun _ _ h => .inl h, Nat.le_refl _, hst.n2, fun c hc _ => keep c hc⟩⟩
      · rw [keep c (hgd.ok.ren b c hb).2]; exact hgd.blk b c hb
      · rw [keep b (hgd.ok.sta b B hb)]; exact hgd.sta b B hb
theorem pure1_ent (h1 : ∀ f e, T1 f = some e → EntS T f e) {f : Nat} {F : IFun} (hT : T f = some (.go F)) (hok : okFunG F = true) {g : List EV → Option EV} (hg : ∀ asx V, g asx = some V → bodyP T1 F.sub asx = some V) : EntS T f (.spec (pureG1 g)) := by
  intro θ m m' args args' fin hgd ha h
  unfold pureG1 at h
  cases hcl : closeds args <;> simp only [hcl, cond_true, cond_false, reduceCtorEq] at h
  cases hfz : freezes deep m args with
  | none => simp [hfz] at h
  | some asx =>
    simp only [hfz] at h
    cases hv : g (tagArgs 1 asx) with
    | none => simp [hv] at h
    | some V =>
      simp only [hv, Option.some.injEq] at h
      subst h
      have hs : SVs θ.low asx args' := frzs_closed (F := freezes 7 m) (m := m) hfz hcl ha
      obtain ⟨v', m1, m1', θ1, e, hst, hg1, hvv⟩ := pure_run h1 hT hok (hg _ _ hv) (m' := m') (S := θ.sta) (fun b B hb => ⟨hgd.sta b B hb, hgd.ok.sta b B hb⟩) (tag_sim asx args' 1 (tagOf_at args') hs) (hgd.glb.down ⟨fun _ _ h => (by simp [Tie.low] at h), fun _ _ h => (by simp [Tie.low] at h), fun _ _ h => h⟩)
      have keep : ∀ c, c < m'.next → m1'.get c = m'.get c := fun c hc => hst.keep c hc fun b hb => by simp at hb
      let θ2 : Tie := ⟨θ.ren, θ.tag, fun c => if c < m'.next then θ.sta c else (θ1.end_ m1').sta c⟩
      have s1 : ∀ c, c < m'.next → θ2.sta c = θ.sta c := fun c hc => if_pos hc
      have s2 : ∀ c, ¬ c < m'.next → θ2.sta c = (θ1.end_ m1').sta c := fun c hc => if_neg hc
      have hbd : ∀ c B, (θ1.end_ m1').sta c = some B → m1'.get c = B ∧ c < m1'.next := by
        intro c B hb
        rcases end_inv hb with ⟨⟨x, hx⟩, rfl⟩ | hb
        · exact ⟨rfl, (hg1.ok.ren x c hx).2⟩
        · exact ⟨hg1.sta c B hb, hg1.ok.sta c B hb⟩
      have ext2 : Tie.Ext (θ1.end_ m1') θ2 := by
        refine ⟨fun _ _ h => (by simp [Tie.end_] at h), fun _ _ h => (by simp [Tie.end_] at h), fun c B hb => ?_⟩
        by_cases hc : c < m'.next
        · rw [s1 c hc]
          rcases end_inv hb with ⟨⟨x, hx⟩, rfl⟩ | hb
          · rcases hst.ren x c hx with q | ⟨_, q⟩
            · simp at q
            · omega
          · rcases hst.sta c B hb with q | ⟨q, _⟩
            · exact q
            · omega
        · rw [s2 c hc]; exact hb
      have ext : Tie.Ext θ θ2 := ⟨fun _ _ h => h, fun _ _ h => h, fun c B hb => by rw [s1 c (hgd.ok.sta c B hb)]; exact hb⟩
      refine ⟨θ2, _, e, .ret (hvv.ext ext2) ⟨⟨⟨fun b c hb => ?_, hgd.cl⟩, fun c B hb => ?_⟩, ⟨fun b c hb => ⟨Nat.lt_succ_of_lt (hgd.ok.ren b c hb).1, Nat.lt_of_lt_of_le (hgd.ok.ren b c hb).2 hst.n2⟩, hgd.ok.inj, fun b c hb => ?_, fun c B hb => ?_⟩, hgd.glb.ext ext⟩,
        ⟨ext, fun _ _ h => .inl h, fun c B hb => ?_, Nat.le_succ _, hst.n2, fun c hc _ => keep c hc⟩⟩
      · have := hgd.ok.ren b c hb
        rw [keep c this.2]; exact (hgd.blk b c hb).ext ext
      · by_cases hc : c < m'.next
        · rw [s1 c hc] at hb; rw [keep c hc]; exact hgd.sta c B hb
        · rw [s2 c hc] at hb; exact (hbd c B hb).1
      · rw [s1 c (hgd.ok.ren b c hb).2]; exact hgd.ok.off b c hb
      · by_cases hc : c < m'.next
        · exact Nat.lt_of_lt_of_le hc hst.n2
        · rw [s2 c hc] at hb; exact (hbd c B hb).2
      · by_cases hc : c < m'.next
        · rw [s1 c hc] at hb; exact .inl hb
        · exact .inr ⟨Nat.le_of_not_lt hc, Nat.lt_succ_self _⟩
end
end Go.Proofs.YtblcomejcahkdaaDoor.Ev
end
