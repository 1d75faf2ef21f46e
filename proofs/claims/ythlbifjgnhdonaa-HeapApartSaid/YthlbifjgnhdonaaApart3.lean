/- HeapApart: the heap is filled. -/
import Derived.Test.YthlbifjgnhdonaaApart2
namespace Go.Proofs.Ythlbifjgnhdonaa.Ev
open Go
set_option linter.unusedSimpArgs false
set_option linter.unusedSectionVars false
set_option maxRecDepth 10000
set_option maxHeartbeats 4000000
theorem Own.source_keep {m m' : Mem} {v : EV} {cs : List EV} {n lo : Nat} (h : Own m v cs n 1 lo) (hk : ∀ c, ¬ Off v c → m'.get c = m.get c) : m'.source 1 v = some (n, cs) := by
  rcases h.is with ⟨rfl, rfl, rfl⟩ | ⟨b, cap, t, rfl, h1, h2, h3, h4⟩
  · rfl
  · show (m'.row b 0 (n * 1)).map (fun cs => (n, cs)) = _
    rw [row_all ((hk b fun ho => ho b 0 n cap rfl rfl).trans h3) h.len]; rfl
def Nf (zf : Nat → Int) (k : Nat) : Nat := ((zf k).tmod 20).toNat
def rowsOf (zf : Nat → Int) (k : Nat) : List (List EV) := (List.range k).map fun i => ints (rowOf i (Nf zf i))
theorem rowsOf_succ (zf : Nat → Int) (k : Nat) : rowsOf zf (k + 1) = rowsOf zf k ++ [ints (rowOf k (Nf zf k))] := by simp [rowsOf, List.range_succ]
/-- The heap and the rows, apart. -/
structure Both (m : Mem) (hb : Nat) (A : List Arr) (cv av : EV) (ib : Nat → Prop) (wv : EV) (W : List (EV × List EV)) (b0 : Nat) : Prop where
  heap : HeapRep m hb 10000 A cv av ib
  was : WasRep m wv W
  wfree : NotOf hb av ib wv
  rfree : ∀ (i : Nat) (x : EV × List EV), W[i]? = some x → NotOf hb av ib x.1
  b0s : b0 < m.next ∧ b0 ≠ hb ∧ ¬ ib b0 ∧ Off av b0 ∧ Off wv b0 ∧ ∀ (i : Nat) (x : EV × List EV), W[i]? = some x → Off x.1 b0
theorem Both.keep {m m' : Mem} {hb : Nat} {A : List Arr} {cv av : EV} {ib : Nat → Prop} {wv : EV} {W : List (EV × List EV)} {b0 : Nat} (h : Both m hb A cv av ib wv W b0) (hn : m.next ≤ m'.next) (hk : ∀ c, c < m.next → m'.get c = m.get c) : Both m' hb A cv av ib wv W b0 :=
  ⟨h.heap.keep hn fun c hc _ => hk c hc, h.was.keep hn fun c hc _ => hk c hc, h.wfree, h.rfree, by have := h.b0s; exact ⟨by omega, this.2⟩⟩
/-- An array more, and a row more. -/
theorem Both.step {m : Mem} {hb : Nat} {A : List Arr} {cv av : EV} {ib : Nat → Prop} {wv : EV} {W : List (EV × List EV)} {b0 lo : Nat} (h : Both m hb A cv av ib wv W b0) {r : EV} {l : List EV} (hr : Own m r l l.length 1 lo) (hlo : ∀ c, ¬ Off r c → c ≠ hb ∧ ¬ ib c ∧ Off av c ∧ Off wv c ∧ c ≠ b0 ∧ ∀ (i : Nat) (x : EV × List EV), W[i]? = some x → Off x.1 c)
    (hl : (l.length : Int) < 10000 - usedOf A) (hW : W.length < 1000000) :
    ∃ m3 a cv' av' ib' m4 wv', run T 8 [.ptr hb 0, r] m = some (.ret (.tuple [.int .i64 ((A.length + 1 : Nat) : Int), .bool true]) m3) ∧ evAppend (ext m3 [.cells [r] 1 27 false]) 27 1 wv (.slice (nb m3.next 0) 0 1 (some 1)) = some (wv', m4) ∧
      Both m4 hb (A ++ [a]) cv' av' ib' wv' (W ++ [(r, l)]) b0 ∧ a.l = l ∧ m4.get b0 = m.get b0 ∧ m.next ≤ m4.next := by
  have hrlt : ∀ c, ¬ Off r c → c < m.next := fun c hc => (hr.lt hc).2
  obtain ⟨m3, cv', av', ib', a, e1, h3, e2, e3, e4, e5, e6⟩ := put_ok (v := r) (n := l.length) (vs := l) h.heap (by decide) hl (by
    rcases hr.is with ⟨q1, q2, _⟩ | ⟨b, cap, t, q, _⟩
    · exact .inl ⟨q1, q2⟩
    · exact .inr ⟨b, 0, cap, q⟩) rfl (fun m' hk => hr.source_keep fun c hc => hk c (hrlt c hc) (hlo c hc).1 (hlo c hc).2.2.1)
  have hfree : ∀ v, (∀ c, ¬ Off v c → c < m.next) → NotOf hb av ib v → NotOf hb av' ib' v := by
    intro v hv hf c hc
    obtain ⟨q1, q2, q3⟩ := hf c hc
    exact ⟨q1, e6 c (hv c hc), fun q => (e5 c q).elim q3 (fun q => by have := hv c hc; omega)⟩
  have hwlt : ∀ c, ¬ Off wv c → c < m.next := fun c hc => (h.was.own.lt hc).2
  have hxlt : ∀ (i : Nat) (x : EV × List EV), W[i]? = some x → ∀ c, ¬ Off x.1 c → c < m.next := fun i x hx c hc => ((h.was.row i x hx).lt hc).2
  have hrf : NotOf hb av ib r := fun c hc => ⟨(hlo c hc).1, (hlo c hc).2.2.1, (hlo c hc).2.1⟩
  have hwas3 : WasRep m3 wv W := h.was.keep e3 fun c hc ho => by
    have hf : c ≠ hb ∧ Off av c ∧ ¬ ib c := by
      rcases ho with ho | ⟨i, x, hx, ho⟩
      · exact h.wfree c ho
      · exact h.rfree i x hx c ho
    exact e4 c hc hf.1 hf.2.1 hf.2.2
  have hr3 : Own m3 r l l.length 1 0 := (hr.lower (Nat.zero_le _)).keep e3 fun c hc ho => e4 c hc (hrf c ho).1 (hrf c ho).2.1 (hrf c ho).2.2
  obtain ⟨wv', m4, f1, f2, f3, f4, f5⟩ := was_add hwas3 hr3 (fun b hb' => Classical.byContradiction fun q => absurd hb' (fun hb' => hb' ((hlo b q).2.2.2.1)))
    (fun i x hx b hb' => Classical.byContradiction fun q => hb' ((hlo b q).2.2.2.2.2 i x hx)) hW
  obtain ⟨g1, g2, g3, g4, g5, g6⟩ := h.b0s
  have hwv' : ∀ c, ¬ Off wv' c → m3.next ≤ c := fun c hc => Classical.byContradiction fun q => hc (f5 c (by omega))
  refine ⟨m3, a, cv', av', ib', m4, wv', e1, f1, ⟨?_, f2, ?_, ?_, ?_⟩, e2, ?_, by omega⟩
  · refine h3.keep f3 fun c hc ho => f4 c hc (Classical.byContradiction fun q => ?_)
    obtain ⟨q1, q2, q3⟩ := hfree wv hwlt h.wfree c q
    rcases ho with ho | ho | ho
    · exact q1 ho
    · exact q3 ho
    · exact ho q2
  · intro c hc
    have := hwv' c hc
    refine ⟨fun e => ?_, Classical.byContradiction fun q => ?_, fun q => ?_⟩
    · have := h3.lt; omega
    · have := h3.av_lt q; omega
    · have := (h3.ibok c q).1; omega
  · intro i x hx
    rcases pair_snoc hx with ⟨_, rfl⟩ | ⟨_, hx⟩
    · exact hfree r hrlt hrf
    · exact hfree x.1 (hxlt i x hx) (h.rfree i x hx)
  · refine ⟨by omega, g2, fun q => (e5 b0 q).elim g3 (fun q => by omega), e6 b0 g1, f5 b0 (by omega), ?_⟩
    intro i x hx
    rcases pair_snoc hx with ⟨_, rfl⟩ | ⟨_, hx⟩
    · exact Classical.byContradiction fun q => (hlo b0 q).2.2.2.2.1 rfl
    · exact g6 i x hx
  · rw [f4 b0 (by omega) g5, e4 b0 g1 g2 g4 g3]
end Go.Proofs.Ythlbifjgnhdonaa.Ev
