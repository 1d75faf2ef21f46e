/- HeapApart: heap and rows side by side. -/
import Derived.Test.YthlbifjgnhdonaaApart1
namespace Go.Proofs.Ythlbifjgnhdonaa.Ev
open Go
set_option linter.unusedSimpArgs false
set_option linter.unusedSectionVars false
set_option maxRecDepth 10000
set_option maxHeartbeats 4000000
section
variable {m m' : Mem} {hb : Nat} {most : Int} {A : List Arr} {cv av : EV} {ib : Nat → Prop}
theorem HeapRep.keep (h : HeapRep m hb most A cv av ib) (hn : m.next ≤ m'.next) (hk : ∀ c, c < m.next → (c = hb ∨ ib c ∨ ¬ Off av c) → m'.get c = m.get c) : HeapRep m' hb most A cv av ib := by
  refine ⟨by rw [hk hb h.lt (.inl rfl)]; exact h.get, by have := h.lt; omega, fun c hc => ?_, h.own.keep hn fun c hc ho => hk c hc (.inr (.inr ho)), h.offh, ?_, h.dis, ?_⟩
  · obtain ⟨q1, q2⟩ := h.ibok c hc
    exact ⟨by omega, q2⟩
  · intro i a hx
    rcases h.arr i a hx with q | ⟨q0, ⟨cs, t, q1, q2⟩, q4⟩
    · exact .inl q
    · exact .inr ⟨q0, ⟨cs, t, by rw [hk _ (h.ibok _ q4).1 (.inr (.inl q4))]; exact q1, q2⟩, q4⟩
  · rcases h.cur with q | ⟨cb, cn, cs, t, c1, c2, c3, c4⟩
    · exact .inl q
    · exact .inr ⟨cb, cn, cs, t, c1, c2, by rw [hk _ (h.ibok _ c2).1 (.inr (.inl c2))]; exact c3, c4⟩
theorem HeapRep.av_lt (h : HeapRep m hb most A cv av ib) {c : Nat} (hc : ¬ Off av c) : c < m.next := by
  rcases h.own.is with ⟨e, _⟩ | ⟨b, cap, t, e, q1, q2, _⟩
  · exact absurd (e ▸ Off.nil) hc
  · by_cases hcb : c = b
    · omega
    · exact absurd (e ▸ Off.of hcb) hc
end
/-- Not a block of the heap's. -/
def NotOf (hb : Nat) (av : EV) (ib : Nat → Prop) (v : EV) : Prop := ∀ b, ¬ Off v b → b ≠ hb ∧ Off av b ∧ ¬ ib b
structure WasRep (m : Mem) (wv : EV) (W : List (EV × List EV)) : Prop where
  own : Own m wv (W.map (·.1)) W.length 1 0
  row : ∀ (i : Nat) (x : EV × List EV), W[i]? = some x → Own m x.1 x.2 x.2.length 1 0
  offw : ∀ (i : Nat) (x : EV × List EV), W[i]? = some x → ∀ b, ¬ Off wv b → Off x.1 b
  dis : ∀ (i j : Nat) (x y : EV × List EV), i ≠ j → W[i]? = some x → W[j]? = some y → ∀ b, ¬ Off x.1 b → Off y.1 b
theorem Own.lt {m : Mem} {v : EV} {cs : List EV} {n esz lo c : Nat} (h : Own m v cs n esz lo) (hc : ¬ Off v c) : lo ≤ c ∧ c < m.next := by
  rcases h.is with ⟨e, _⟩ | ⟨b, cap, t, e, q1, q2, _⟩
  · exact absurd (e ▸ Off.nil) hc
  · by_cases hcb : c = b
    · omega
    · exact absurd (e ▸ Off.of hcb) hc
theorem Own.lower {m : Mem} {v : EV} {cs : List EV} {n esz lo lo' : Nat} (h : Own m v cs n esz lo) (hl : lo' ≤ lo) : Own m v cs n esz lo' := by
  refine ⟨?_, h.len⟩
  rcases h.is with h | ⟨b, cap, t, e, q1, q⟩
  · exact .inl h
  · exact .inr ⟨b, cap, t, e, by omega, q⟩
theorem WasRep.keep {m m' : Mem} {wv : EV} {W : List (EV × List EV)} (h : WasRep m wv W) (hn : m.next ≤ m'.next) (hk : ∀ c, c < m.next → (¬ Off wv c ∨ ∃ (i : Nat) (x : EV × List EV), W[i]? = some x ∧ ¬ Off x.1 c) → m'.get c = m.get c) : WasRep m' wv W :=
  ⟨h.own.keep hn fun c hc ho => hk c hc (.inl ho), fun i x hx => (h.row i x hx).keep hn fun c hc ho => hk c hc (.inr ⟨i, x, hx, ho⟩), h.offw, h.dis⟩
theorem pair_snoc {W : List (EV × List EV)} {a x : EV × List EV} {i : Nat} (h : (W ++ [a])[i]? = some x) : (i = W.length ∧ x = a) ∨ (i < W.length ∧ W[i]? = some x) := by
  by_cases hi : i < W.length
  · rw [List.getElem?_append_left hi] at h; exact .inr ⟨hi, h⟩
  · rw [List.getElem?_append_right (by omega)] at h
    by_cases h0 : i - W.length = 0
    · rw [h0] at h; simp at h; exact .inl ⟨by omega, h.symm⟩
    · rw [List.getElem?_eq_none (by simp; omega)] at h; cases h
/-- A row more. -/
theorem was_add {m : Mem} {wv r : EV} {l : List EV} {W : List (EV × List EV)} (h : WasRep m wv W) (hr : Own m r l l.length 1 0) (hrw : ∀ b, ¬ Off wv b → Off r b) (hrr : ∀ (i : Nat) (x : EV × List EV), W[i]? = some x → ∀ b, ¬ Off x.1 b → Off r b) (hl : W.length < 1000000) :
    ∃ v' m', evAppend (ext m [.cells [r] 1 27 false]) 27 1 wv (.slice (nb m.next 0) 0 1 (some 1)) = some (v', m') ∧ WasRep m' v' (W ++ [(r, l)]) ∧ m.next ≤ m'.next ∧ (∀ c, c < m.next → Off wv c → m'.get c = m.get c) ∧ (∀ c, c < m.next → Off v' c) := by
  have hown := h.own.ext [.cells [r] 1 27 false]
  obtain ⟨v', m', ha, hown', hkeep, hnext, vcap, hv'⟩ := append_own (e := 27) hown (Nat.zero_le _) (source_new (m := m) (vs := [r]) (e := 27) (esz := 1) rfl) rfl (by decide) (by unfold room; omega)
  have hnx : m'.next = m.next + 2 := by rw [hnext, next_ext]; rfl
  have hkk : ∀ c, c < m.next → Off wv c → m'.get c = m.get c := fun c hc ho => by rw [hkeep c (by rw [next_ext]; unfold nb; omega) ho, get_ext_old hc]
  have hoff : ∀ c, c < m.next → Off v' c := by rw [hv', next_ext]; exact fun c hc => Off.of (by unfold nb; omega)
  refine ⟨v', m', ha, ⟨?_, ?_, ?_, ?_⟩, by omega, hkk, hoff⟩
  · rw [List.map_append, List.length_append]; exact hown'
  · intro i x hx
    rcases pair_snoc hx with ⟨_, rfl⟩ | ⟨_, hx⟩
    · exact hr.keep (by omega) fun c hc ho => hkk c hc (Classical.byContradiction fun q => ho (hrw c q))
    · exact (h.row i x hx).keep (by omega) fun c hc ho => hkk c hc (Classical.byContradiction fun q => ho (h.offw i x hx c q))
  · intro i x hx b hb
    rcases pair_snoc hx with ⟨_, rfl⟩ | ⟨_, hx⟩
    · exact Classical.byContradiction fun q => hb (hoff b (hr.lt q).2)
    · exact Classical.byContradiction fun q => hb (hoff b ((h.row i x hx).lt q).2)
  · intro i j x y hij hx hy b hb
    rcases pair_snoc hx with ⟨e1, e2⟩ | ⟨_, hx'⟩ <;> rcases pair_snoc hy with ⟨e3, e4⟩ | ⟨_, hy'⟩
    · omega
    · subst e2
      exact Classical.byContradiction fun q => hb (hrr j y hy' b q)
    · subst e4
      exact hrr i x hx' b hb
    · exact h.dis i j x y hij hx' hy' b hb
end Go.Proofs.Ythlbifjgnhdonaa.Ev
