/- How the evaluator's memory stands to the model's: values, blocks, worlds; what a step keeps. -/
import Derived.Test.YthlbifjgnhdonaaEvComp
import Derived.Calls
import Derived.Laws.Sem
import Derived.Laws.World
import Derived.Laws.Entries
namespace Go.Proofs.Ythlbifjgnhdonaa.Ev
open Go

structure Loc where
  blk : Nat
  off : Nat
  total : Nat
  esz : Nat
  ro : Bool
abbrev Ren := Nat → Option Loc

mutual
inductive VR (ρ : Ren) : EV → Value → Prop
  | undef : VR ρ .undef undef
  | bool (b : Bool) : VR ρ (.bool b) (.bool b)
  | int (k : IntKind) (n : Int) : VR ρ (.int k n) (.int k n)
  | str (s : ByteArray) : VR ρ (.str s.data.toList) (.string s)
  | nilptr : VR ρ .nilptr (.pointer none)
  | ptr {b off : Nat} {L : Loc} (h : ρ b = some L) : VR ρ (.ptr b off) (.pointer (some ⟨L.blk, L.off + off, none⟩))
  | nilslice : VR ρ .nilslice (.slice none 0 0)
  | slice {b off len c o : Nat} {L : Loc} (h : ρ b = some L) (hc : len ≤ c) (ho : 0 < len → o = L.off + off) (hr : L.ro = false → o + c * L.esz ≤ L.total) :
      VR ρ (.slice b off len none) (.slice (some ⟨L.blk, o, none⟩) len c)
  | sliceE {b off : Nat} {a : Addr} : VR ρ (.slice b off 0 (some 0)) (.slice (some a) 0 0)
  | sliceC {b off len c o : Nat} {L : Loc} (h : ρ b = some L) (hc : len ≤ c) (ho : 0 < c → o = L.off + off) : VR ρ (.slice b off len (some c)) (.slice (some ⟨L.blk, o, none⟩) len c)
  | nilmap : VR ρ .nilmap (.map none)
  | map {b : Nat} {L : Loc} (h : ρ b = some L) : VR ρ (.map b) (.map (some L.blk))
  | nilfunc : VR ρ .nilfunc .nilFunc
  | func {f : Nat} {x y : List EV} {x' y' : List Value} (hx : VRs ρ x x') (hy : VRs ρ y y') : VR ρ (.func f x y) (.func (.func f) ⟨x'⟩ ⟨y'⟩)
  | niliface : VR ρ .niliface .nilIface
  | iface {t : Nat} {v : EV} {v' : Value} (h : VR ρ v v') : VR ρ (.iface t v) (.iface t v')
  | agg {x : List EV} {x' : List Value} (h : VRs ρ x x') (hf : ∀ c ∈ x', c.oneCell' = true) : VR ρ (.agg x) (.agg ⟨x'⟩)
  | tuple {x : List EV} {x' : List Value} (h : VRs ρ x x') : VR ρ (.tuple x) (.tuple ⟨x'⟩)
inductive VRs (ρ : Ren) : List EV → List Value → Prop
  | nil : VRs ρ [] []
  | cons {v : EV} {v' : Value} {x : List EV} {x' : List Value} (h : VR ρ v v') (hs : VRs ρ x x') : VRs ρ (v :: x) (v' :: x')
end

def Ext (ρ ρ' : Ren) : Prop := ∀ b L, ρ b = some L → ρ' b = some L
theorem Ext.refl (ρ : Ren) : Ext ρ ρ := fun _ _ h => h
theorem Ext.trans {ρ ρ' ρ'' : Ren} (h : Ext ρ ρ') (h' : Ext ρ' ρ'') : Ext ρ ρ'' := fun b L e => h' b L (h b L e)

mutual
theorem VR.ext {ρ ρ' : Ren} (e : Ext ρ ρ') : ∀ {v : EV} {v' : Value}, VR ρ v v' → VR ρ' v v'
  | _, _, .undef => .undef
  | _, _, .bool b => .bool b
  | _, _, .int k n => .int k n
  | _, _, .str s => .str s
  | _, _, .nilptr => .nilptr
  | _, _, .ptr h => .ptr (e _ _ h)
  | _, _, .nilslice => .nilslice
  | _, _, .slice h hc ho hr => .slice (e _ _ h) hc ho hr
  | _, _, .sliceC h hc ho => .sliceC (e _ _ h) hc ho
  | _, _, .sliceE => .sliceE
  | _, _, .nilmap => .nilmap
  | _, _, .map h => .map (e _ _ h)
  | _, _, .nilfunc => .nilfunc
  | _, _, .func hx hy => .func (VRs.ext e hx) (VRs.ext e hy)
  | _, _, .niliface => .niliface
  | _, _, .iface h => .iface (VR.ext e h)
  | _, _, .agg h hf => .agg (VRs.ext e h) hf
  | _, _, .tuple h => .tuple (VRs.ext e h)
theorem VRs.ext {ρ ρ' : Ren} (e : Ext ρ ρ') : ∀ {x : List EV} {x' : List Value}, VRs ρ x x' → VRs ρ' x x'
  | _, _, .nil => .nil
  | _, _, .cons h hs => .cons (VR.ext e h) (VRs.ext e hs)
end

theorem VRs.length {ρ : Ren} : ∀ {x : List EV} {x' : List Value}, VRs ρ x x' → x.length = x'.length
  | _, _, .nil => rfl
  | _, _, .cons _ hs => by simp [VRs.length hs]
theorem VRs.get {ρ : Ren} : ∀ {x : List EV} {x' : List Value}, VRs ρ x x' → ∀ (i : Nat) (v : EV), x[i]? = some v → ∃ v', x'[i]? = some v' ∧ VR ρ v v'
  | _, _, .nil, i, v, h => by simp at h
  | _, _, .cons (v := a) (v' := a') h0 hs, i, v, h => by
    cases i with
    | zero => simp at h; subst h; exact ⟨a', rfl, h0⟩
    | succ i => simp at h; obtain ⟨v', hv, hr⟩ := hs.get i v h; exact ⟨v', by simpa using hv, hr⟩
theorem VRs.of_get {ρ : Ren} : ∀ {x : List EV} {x' : List Value}, x.length = x'.length → (∀ (i : Nat) (v : EV) (v' : Value), x[i]? = some v → x'[i]? = some v' → VR ρ v v') → VRs ρ x x'
  | [], [], _, _ => .nil
  | [], _ :: _, h, _ => by simp at h
  | _ :: _, [], h, _ => by simp at h
  | a :: x, a' :: x', h, hg => .cons (hg 0 a a' rfl rfl) (VRs.of_get (by simpa using h) fun i v v' hv hv' => hg (i + 1) v v' (by simpa using hv) (by simpa using hv'))
theorem VRs.append {ρ : Ren} : ∀ {x y : List EV} {x' y' : List Value}, VRs ρ x x' → VRs ρ y y' → VRs ρ (x ++ y) (x' ++ y')
  | _, _, _, _, .nil, h => h
  | _, _, _, _, .cons h hs, k => .cons h (hs.append k)
theorem VRs.take {ρ : Ren} {x : List EV} {x' : List Value} (h : VRs ρ x x') (n : Nat) : VRs ρ (x.take n) (x'.take n) := by
  refine VRs.of_get (by simp [h.length]) fun i v v' hv hv' => ?_
  rw [List.getElem?_take] at hv hv'
  split at hv
  · obtain ⟨u, hu, hr⟩ := h.get i v hv
    rename_i hlt
    rw [if_pos hlt] at hv'
    rw [hu] at hv'; cases hv'; exact hr
  · cases hv
theorem VRs.drop {ρ : Ren} {x : List EV} {x' : List Value} (h : VRs ρ x x') (n : Nat) : VRs ρ (x.drop n) (x'.drop n) := by
  refine VRs.of_get (by simp [h.length]) fun i v v' hv hv' => ?_
  rw [List.getElem?_drop] at hv hv'
  obtain ⟨u, hu, hr⟩ := h.get _ v hv
  rw [hu] at hv'; cases hv'; exact hr
theorem VRs.map_of {ρ : Ren} {α β : Type} (f : α → EV) (g : β → Value) {R : α → β → Prop} (hfg : ∀ a b, R a b → VR ρ (f a) (g b)) : ∀ {l : List α} {l' : List β}, l.length = l'.length → (∀ (i : Nat) (a : α) (b : β), l[i]? = some a → l'[i]? = some b → R a b) → VRs ρ (l.map f) (l'.map g)
  | [], [], _, _ => .nil
  | [], _ :: _, h, _ => by simp at h
  | _ :: _, [], h, _ => by simp at h
  | a :: x, a' :: x', h, hg => .cons (hfg _ _ (hg 0 a a' rfl rfl)) (VRs.map_of f g hfg (by simpa using h) fun i v v' hv hv' => hg (i + 1) v v' (by simpa using hv) (by simpa using hv'))

def Live (m : Mem) (b : Nat) : Prop := m.get b ≠ .dead
/-- Not one of so many cells is frozen. -/
def Free (fz : Nat × Nat) (n : Nat) : Prop := ∀ i, i < n → ¬ (fz.1 ≤ i ∧ i < fz.2)
def EntR (ρ : Ren) (e : EV × EV) (d : MapEntry) : Prop := VR ρ e.1 d.key ∧ VR ρ e.2 d.val
def BlkR (base : Nat) (ρ : Ren) (B : Blk) (L : Loc) (w : World) : Prop :=
  match B with
  | .dead => True
  | .cells cs esz _ ro => ∃ arr e fz, w.heap[L.blk]? = some (.cells arr e fz) ∧ arr.size = L.total ∧ L.esz = esz ∧ L.ro = ro ∧ L.off + cs.length ≤ L.total ∧
      (∀ (i : Nat) (v : EV), cs[i]? = some v → ∃ v', arr[L.off + i]? = some v' ∧ VR ρ v v' ∧ v'.oneCell' = true) ∧
      (ro = false → base ≤ L.blk ∧ Free fz arr.size) ∧ (ro = true → L.blk < base)
  | .map es => ∃ ds c, w.heap[L.blk]? = some (.map ds c) ∧ es.length = ds.size ∧ (∀ (i : Nat) (e : EV × EV) (d : MapEntry), es[i]? = some e → ds[i]? = some d → EntR ρ e d) ∧ base ≤ L.blk ∧ L.ro = false

structure R (base : Nat) (ρ : Ren) (m : Mem) (w : World) : Prop where
  lt : ∀ b L, ρ b = some L → b < m.next
  blk : ∀ b L, ρ b = some L → BlkR base ρ (m.get b) L w
  inj : ∀ b c L L', ρ b = some L → ρ c = some L' → Live m b → Live m c → L.ro = false → L.blk = L'.blk → b = c
  base : base ≤ w.heap.size
  clean : ∀ b, m.next ≤ b → m.get b = .dead

/-- Blocks of the world that may be written. -/
def rng (ρ : Ren) (m : Mem) (i : Nat) : Prop := ∃ b L, ρ b = some L ∧ Live m b ∧ L.ro = false ∧ L.blk = i

structure Step (ρ : Ren) (m : Mem) (w : World) (ρ' : Ren) (m' : Mem) (w' : World) : Prop where
  ext : Ext ρ ρ'
  new : ∀ b, ρ b = none → ρ' b ≠ none → m.next ≤ b
  next : m.next ≤ m'.next
  same : ∀ b, b < m.next → ρ b = none → m'.get b = m.get b
  dead : ∀ b, b < m.next → m.get b = .dead → m'.get b = .dead
  size : w.heap.size ≤ w'.heap.size
  rng : ∀ i, i < w.heap.size → rng ρ' m' i → rng ρ m i
  kept : ∀ i, i < w.heap.size → ¬ Ev.rng ρ m i → w'.heap[i]? = w.heap[i]?
  os : w'.os = w.os
  tape : w'.tape = w.tape
  output : w'.output = w.output

theorem Step.refl (ρ : Ren) (m : Mem) (w : World) : Step ρ m w ρ m w :=
  ⟨.refl ρ, fun _ h h' => absurd h h', Nat.le_refl _, fun _ _ _ => rfl, fun _ _ h => h, Nat.le_refl _, fun _ _ h => h, fun _ _ _ => rfl, rfl, rfl, rfl⟩
theorem Step.trans {ρ ρ1 ρ2 : Ren} {m m1 m2 : Mem} {w w1 w2 : World} (h : Step ρ m w ρ1 m1 w1) (k : Step ρ1 m1 w1 ρ2 m2 w2) : Step ρ m w ρ2 m2 w2 := by
  refine ⟨h.ext.trans k.ext, ?_, Nat.le_trans h.next k.next, ?_, fun b hb hd => k.dead b (Nat.lt_of_lt_of_le hb h.next) (h.dead b hb hd), Nat.le_trans h.size k.size, ?_, ?_, k.os.trans h.os, k.tape.trans h.tape, k.output.trans h.output⟩
  · intro b hb hb2
    cases e : ρ1 b with
    | none => exact Nat.le_trans h.next (k.new b e hb2)
    | some L => exact h.new b hb (by rw [e]; simp)
  · intro b hb hn
    have h1 : ρ1 b = none := by
      cases e : ρ1 b with
      | none => rfl
      | some L => have := h.new b hn (by rw [e]; simp); omega
    rw [k.same b (Nat.lt_of_lt_of_le hb h.next) h1, h.same b hb hn]
  · intro i hi hr
    exact h.rng i hi (k.rng i (Nat.lt_of_lt_of_le hi h.size) hr)
  · intro i hi hr
    rw [k.kept i (Nat.lt_of_lt_of_le hi h.size) (fun hr1 => hr (h.rng i hi hr1)), h.kept i hi hr]

/-! ### Memory's own laws -/
theorem Mem.get_set (m : Mem) (b c : Nat) (x : Blk) : (m.set b x).get c = if c = b then x else m.get c := by
  unfold Mem.get Mem.set
  simp only [Tr.get_set]
  split <;> rfl
theorem Mem.get_new (m : Mem) (c : Nat) (x : Blk) : (m.new x).get c = if c = m.next then x else m.get c := by
  unfold Mem.get Mem.new
  simp only [Tr.get_set]
  split <;> rfl
theorem Mem.next_new (m : Mem) (x : Blk) : (m.new x).next = m.next + 1 := rfl
theorem Mem.next_set (m : Mem) (b : Nat) (x : Blk) : (m.set b x).next = m.next := rfl

/-! ### A world in which nothing but the draws' count has turned -/
structure Quiet (w w' : World) : Prop where
  heap : w'.heap = w.heap
  os : w'.os = w.os
  tape : w'.tape = w.tape
  output : w'.output = w.output
theorem Quiet.refl (w : World) : Quiet w w := ⟨rfl, rfl, rfl, rfl⟩
theorem BlkR.of_heap {base : Nat} {ρ ρ' : Ren} (e : Ext ρ ρ') {B : Blk} {L : Loc} {w w' : World} (hh : w'.heap[L.blk]? = w.heap[L.blk]?) (h : BlkR base ρ B L w) : BlkR base ρ' B L w' := by
  unfold BlkR at *
  cases B with
  | dead => trivial
  | cells cs esz el ro =>
    obtain ⟨arr, e', fz, h1, h2, h3, h4, h5, h6, h7⟩ := h
    refine ⟨arr, e', fz, by rw [hh]; exact h1, h2, h3, h4, h5, fun i v hv => ?_, h7⟩
    obtain ⟨v', g1, g2, g3⟩ := h6 i v hv
    exact ⟨v', g1, g2.ext e, g3⟩
  | map es =>
    obtain ⟨ds, c, h1, h2, h3, h4⟩ := h
    exact ⟨ds, c, by rw [hh]; exact h1, h2, fun i a d ha hd => ⟨(h3 i a d ha hd).1.ext e, (h3 i a d ha hd).2.ext e⟩, h4⟩
theorem R.quiet {base : Nat} {ρ : Ren} {m : Mem} {w w' : World} (q : Quiet w w') (h : R base ρ m w) : R base ρ m w' :=
  ⟨h.lt, fun b L hb => (h.blk b L hb).of_heap (.refl ρ) (by rw [q.heap]), h.inj, by rw [q.heap]; exact h.base, h.clean⟩
theorem Step.quiet {ρ : Ren} {m : Mem} {w w' : World} (q : Quiet w w') : Step ρ m w ρ m w' :=
  ⟨.refl ρ, fun _ h h' => absurd h h', Nat.le_refl _, fun _ _ _ => rfl, fun _ _ h => h, by rw [q.heap]; exact Nat.le_refl _, fun _ _ h => h, fun _ _ _ => by rw [q.heap], q.os, q.tape, q.output⟩

/-- A world with one more block. -/
structure Grew (w : World) (o : Obj) (w' : World) : Prop where
  heap : w'.heap = w.heap.push o
  os : w'.os = w.os
  tape : w'.tape = w.tape
  output : w'.output = w.output
theorem Grew.old {w w' : World} {o : Obj} (g : Grew w o w') (i : Nat) (h : i < w.heap.size) : w'.heap[i]? = w.heap[i]? := by
  rw [g.heap, Array.getElem?_push]; simp; omega
theorem Grew.new {w w' : World} {o : Obj} (g : Grew w o w') : w'.heap[w.heap.size]? = some o := by rw [g.heap]; simp
theorem BlkR.lt {base : Nat} {ρ : Ren} {B : Blk} {L : Loc} {w : World} (h : BlkR base ρ B L w) (hl : B ≠ .dead) : L.blk < w.heap.size := by
  cases B with
  | dead => exact absurd rfl hl
  | cells cs esz el ro => obtain ⟨arr, e', fz, h1, _⟩ := h; exact (Array.getElem?_eq_some_iff.1 h1).1
  | map es => obtain ⟨ds, c, h1, _⟩ := h; exact (Array.getElem?_eq_some_iff.1 h1).1

/-- A name for a new block. -/
def Ren.put (ρ : Ren) (b : Nat) (L : Loc) : Ren := fun c => if c = b then some L else ρ c
theorem Ren.ext_put {ρ : Ren} {b : Nat} (L : Loc) (h : ρ b = none) : Ext ρ (ρ.put b L) := by
  intro c M hc
  unfold Ren.put
  by_cases e : c = b
  · subst e; rw [h] at hc; cases hc
  · rw [if_neg e]; exact hc
theorem R.nnone {base : Nat} {ρ : Ren} {m : Mem} {w : World} (h : R base ρ m w) : ρ m.next = none := by
  cases e : ρ m.next with
  | none => rfl
  | some L => have := h.lt _ _ e; omega

/-- The same, but for what is above the next name; that one is free. -/
structure RN (base : Nat) (ρ : Ren) (m : Mem) (w : World) : Prop where
  free : ρ m.next = none
  blk : ∀ b L, ρ b = some L → BlkR base ρ (m.get b) L w
  inj : ∀ b c L L', ρ b = some L → ρ c = some L' → Live m b → Live m c → L.ro = false → L.blk = L'.blk → b = c
  base : base ≤ w.heap.size
theorem R.n {base : Nat} {ρ : Ren} {m : Mem} {w : World} (h : R base ρ m w) : RN base ρ m w := ⟨h.nnone, h.blk, h.inj, h.base⟩
/-- A new block under the next name: all but what is above it. -/
structure Made (base : Nat) (ρ : Ren) (m : Mem) (w : World) (ρ' : Ren) (B : Blk) (w' : World) : Prop where
  blk : ∀ b L, ρ' b = some L → BlkR base ρ' ((m.new B).get b) L w'
  inj : ∀ b c L L', ρ' b = some L → ρ' c = some L' → Live (m.new B) b → Live (m.new B) c → L.ro = false → L.blk = L'.blk → b = c
  base : base ≤ w'.heap.size
  ext : Ext ρ ρ'
  dom : ∀ b, b ≠ m.next → ρ' b = ρ b
  loc : ∃ L, ρ' m.next = some L ∧ L.blk = w.heap.size
  size : w'.heap.size = w.heap.size + 1
  old : ∀ i, i < w.heap.size → w'.heap[i]? = w.heap[i]?
  os : w'.os = w.os
  tape : w'.tape = w.tape
  output : w'.output = w.output
theorem new_made {base : Nat} {ρ : Ren} {m : Mem} {w w' : World} (h : RN base ρ m w) (B : Blk) (o : Obj) (g : Grew w o w') (L : Loc) (hb : L.blk = w.heap.size)
    (hB : BlkR base (ρ.put m.next L) B L w') : Made base ρ m w (ρ.put m.next L) B w' := by
  have hn := h.free
  have he := Ren.ext_put L hn
  have hsz : w'.heap.size = w.heap.size + 1 := by rw [g.heap]; simp
  have live_lt : ∀ b M, ρ b = some M → Live m b → M.blk < w.heap.size := fun b M hM hl => (h.blk b M hM).lt hl
  have get_old : ∀ b, b ≠ m.next → (m.new B).get b = m.get b := fun b hne => by rw [Mem.get_new, if_neg hne]
  refine ⟨?_, ?_, ?_, he, fun b hne => if_neg hne, ⟨L, if_pos rfl, hb⟩, hsz, fun i hi => g.old i hi, g.os, g.tape, g.output⟩
  · intro b M hM
    unfold Ren.put at hM
    by_cases e : b = m.next
    · rw [if_pos e] at hM; cases hM
      rw [Mem.get_new, if_pos e]; exact hB
    · rw [if_neg e] at hM
      rw [get_old b e]
      by_cases hl : m.get b = .dead
      · rw [hl]; trivial
      · exact (h.blk b M hM).of_heap he (g.old _ (live_lt b M hM hl))
  · intro b c M M' hM hM' hl hl' hro heq
    unfold Ren.put at hM hM'
    by_cases e : b = m.next <;> by_cases e' : c = m.next
    · rw [e, e']
    · rw [if_pos e] at hM; cases hM
      rw [if_neg e'] at hM'
      have := live_lt c M' hM' (by unfold Live at hl' ⊢; rwa [get_old c e'] at hl')
      omega
    · rw [if_pos e'] at hM'; cases hM'
      rw [if_neg e] at hM
      have := live_lt b M hM (by unfold Live at hl ⊢; rwa [get_old b e] at hl)
      omega
    · rw [if_neg e] at hM; rw [if_neg e'] at hM'
      exact h.inj b c M M' hM hM' (by unfold Live at hl ⊢; rwa [get_old b e] at hl) (by unfold Live at hl' ⊢; rwa [get_old c e'] at hl') hro heq
  · have := h.base; omega
theorem Made.whole {base : Nat} {ρ ρ' : Ren} {m : Mem} {w w' : World} {B : Blk} (h : R base ρ m w) (k : Made base ρ m w ρ' B w') : R base ρ' (m.new B) w' ∧ Step ρ m w ρ' (m.new B) w' := by
  have get_old : ∀ b, b ≠ m.next → (m.new B).get b = m.get b := fun b hne => by rw [Mem.get_new, if_neg hne]
  refine ⟨⟨?_, k.blk, k.inj, k.base, fun b hb => by rw [Mem.next_new] at hb; rw [get_old b (by omega)]; exact h.clean b (by omega)⟩, ⟨k.ext, ?_, ?_, ?_, fun b hb hd => by rw [get_old b (by omega)]; exact hd, by have := k.size; omega, ?_, fun i hi _ => k.old i hi, k.os, k.tape, k.output⟩⟩
  · intro b M hM
    rw [Mem.next_new]
    by_cases e : b = m.next
    · omega
    · rw [k.dom b e] at hM; have := h.lt b M hM; omega
  · intro b hb1 hb2
    by_cases e : b = m.next
    · omega
    · rw [k.dom b e] at hb2; exact absurd hb1 hb2
  · rw [Mem.next_new]; omega
  · intro b hlt _
    exact get_old b (by omega)
  · rintro i hi ⟨b, M, hM, hl, hro, heq⟩
    by_cases e : b = m.next
    · subst e
      obtain ⟨L, h1, h2⟩ := k.loc
      rw [h1] at hM; cases hM; omega
    · rw [k.dom b e] at hM
      exact ⟨b, M, hM, by unfold Live at hl ⊢; rwa [get_old b e] at hl, hro, heq⟩
/-- A new block, in both memories. -/
theorem new_block {base : Nat} {ρ : Ren} {m : Mem} {w w' : World} (h : R base ρ m w) (B : Blk) (o : Obj) (g : Grew w o w') (L : Loc) (hb : L.blk = w.heap.size)
    (hB : BlkR base (ρ.put m.next L) B L w') : R base (ρ.put m.next L) (m.new B) w' ∧ Step ρ m w (ρ.put m.next L) (m.new B) w' :=
  (new_made h.n B o g L hb hB).whole h

end Go.Proofs.Ythlbifjgnhdonaa.Ev
