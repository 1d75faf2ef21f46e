/- What came in: blocks that are only read. -/
import Derived.Test.YthlbifjgnhdonaaEvLim
import Derived.WideShapes
namespace Go.Proofs.Ythlbifjgnhdonaa.Ev
open Go

structure InB where
  blk : Nat
  off : Nat
  total : Nat
  esz : Nat
  cs : List EV
def inRen (n0 : Nat) (bs : List InB) : Ren := fun b => if b < n0 then some ⟨b, 0, 0, 1, true⟩ else (bs[b - n0]?).map fun B => ⟨B.blk, B.off, B.total, B.esz, true⟩
def tblOf : List InB → Nat → Tr Blk → Tr Blk
  | [], _, t => t
  | B :: r, i, t => tblOf r (i + 1) (t.set i (.cells B.cs B.esz 0 true))
def inMem (n0 : Nat) (bs : List InB) : Mem := ⟨n0 + bs.length, tblOf bs n0 .leaf⟩
theorem tblOf_get : ∀ (bs : List InB) (i : Nat) (t : Tr Blk) (b : Nat), (tblOf bs i t).get b = if i ≤ b ∧ b < i + bs.length then (bs[b - i]?).map (fun B => .cells B.cs B.esz 0 true) else t.get b
  | [], i, t, b => by rw [if_neg (fun h => by have := h.2; simp at this; omega)]; rfl
  | B :: bs, i, t, b => by
    simp only [tblOf]
    rw [tblOf_get bs (i + 1) _ b, Tr.get_set]
    by_cases h : b = i
    · subst h
      rw [if_neg (by omega), if_pos rfl, if_pos (by simp)]
      simp
    · by_cases h2 : i + 1 ≤ b ∧ b < i + 1 + bs.length
      · rw [if_pos h2, if_pos (by simp; omega), show b - i = (b - (i + 1)) + 1 by omega]
        simp
      · rw [if_neg h2, if_neg h, if_neg (by simp; omega)]
theorem inMem_at {n0 : Nat} {bs : List InB} {i : Nat} {B : InB} (h : bs[i]? = some B) : (inMem n0 bs).get (n0 + i) = .cells B.cs B.esz 0 true := by
  have hlt := (List.getElem?_eq_some_iff.1 h).1
  unfold Mem.get inMem
  simp only
  rw [tblOf_get, if_pos (by omega), show n0 + i - n0 = i by omega, h]
  rfl
theorem inMem_dead {n0 : Nat} {bs : List InB} {b : Nat} (h : b < n0 ∨ n0 + bs.length ≤ b) : (inMem n0 bs).get b = .dead := by
  unfold Mem.get inMem
  simp only
  rw [tblOf_get, if_neg (by omega), Tr.get_leaf]
  rfl
theorem inRen_at {n0 : Nat} {bs : List InB} {i : Nat} {B : InB} (h : bs[i]? = some B) : inRen n0 bs (n0 + i) = some ⟨B.blk, B.off, B.total, B.esz, true⟩ := by
  unfold inRen
  rw [if_neg (by omega), show n0 + i - n0 = i by omega, h]
  rfl
theorem inRen_ro {n0 : Nat} {bs : List InB} : ∀ b L, inRen n0 bs b = some L → L.ro = true := by
  intro b L h
  unfold inRen at h
  split at h
  · cases h; rfl
  · obtain ⟨B, _, rfl⟩ := Option.map_eq_some_iff.1 h; rfl
/-- They stand in the world. -/
def InOk (w : World) (n0 : Nat) (bs : List InB) : Prop := ∀ (i : Nat) (B : InB), bs[i]? = some B → ∃ (arr : Array Value) (e : TypeId) (fz : Nat × Nat), w.heap[B.blk]? = some (.cells arr e fz) ∧ arr.size = B.total ∧ B.off + B.cs.length ≤ B.total ∧
  ∀ (j : Nat) (v : EV), B.cs[j]? = some v → ∃ v', arr[B.off + j]? = some v' ∧ VR (inRen n0 bs) v v' ∧ v'.oneCell' = true
theorem in_R {w : World} {n0 : Nat} {bs : List InB} (h : InOk w n0 bs) : R w.heap.size (inRen n0 bs) (inMem n0 bs) w := by
  have cases_ : ∀ b L, inRen n0 bs b = some L → b < n0 ∨ ∃ i B, b = n0 + i ∧ bs[i]? = some B := by
    intro b L hb
    unfold inRen at hb
    split at hb
    · exact .inl ‹_›
    · obtain ⟨B, hB, rfl⟩ := Option.map_eq_some_iff.1 hb
      exact .inr ⟨b - n0, B, by omega, hB⟩
  refine ⟨fun b L hb => ?_, fun b L hb => ?_, fun b c L L' h1 _ _ _ h5 => ?_, Nat.le_refl _, fun b hb => inMem_dead (.inr hb)⟩
  · rcases cases_ b L hb with hlt | ⟨i, B, rfl, hB⟩
    · show b < n0 + bs.length; omega
    · have := (List.getElem?_eq_some_iff.1 hB).1; show n0 + i < n0 + bs.length; omega
  · rcases cases_ b L hb with hlt | ⟨i, B, rfl, hB⟩
    · rw [inMem_dead (.inl hlt)]; trivial
    · rw [inMem_at hB]
      rw [inRen_at hB] at hb
      cases hb
      obtain ⟨arr, e, fz, h1, h2, h3, h4⟩ := h i B hB
      exact ⟨arr, e, fz, h1, h2, rfl, rfl, h3, h4, (fun e => by cases e), fun _ => (Array.getElem?_eq_some_iff.1 h1).1⟩
  · rw [inRen_ro b L h1] at h5; cases h5
theorem in_G {n0 : Nat} {bs : List InB} {G : List Nat} (h : ∀ g, G.contains g = true → g < n0) : Globs G (inRen n0 bs) := fun g hg => ⟨⟨g, 0, 0, 1, true⟩, by unfold inRen; rw [if_pos (h g hg)], rfl, rfl⟩
/-- A slice of what came in. -/
theorem in_slice {n0 : Nat} {bs : List InB} {i : Nat} {B : InB} (h : bs[i]? = some B) {a : Addr} (hb : a.block = B.blk) (hs : a.spot = none) {len cap : Nat} (hl : len ≤ cap) (ho : 0 < len → a.off = B.off) : VR (inRen n0 bs) (.slice (n0 + i) 0 len none) (.slice (some a) len cap) := by
  obtain ⟨blk, off, spot⟩ := a
  cases hs; cases hb
  exact .slice (inRen_at h) hl (fun hh => by have := ho hh; simpa using this) (fun e => by cases e)
/-- A law that tells true: the machine's call returns true, and what was there stands as it stood. -/
theorem law_walk {P : Program} {G : List Nat} (hmix : P.follows .mixedOrders = true) {T : Nat → Option Ent} (hT : ∀ f e, T f = some e → EntOk P G f e) {f : Nat} {F : IFun} (hf : T f = some (.go F)) {n0 : Nat} (hG : ∀ g, G.contains g = true → g < n0)
    {w : World} {bs : List InB} (hb : InOk w n0 bs) {args : List EV} {args' : Array Value} (hv : VRs (inRen n0 bs) args args'.toList) {b : Bool} {m' : Mem} (h : run T f args (inMem n0 bs) = some (.ret (.bool b) m')) :
    Calls P f args' w fun e w' => e = .returned (.bool b) ∧ Go.RowKit.Below w.heap.size w w' := by
  obtain ⟨k, hk⟩ := run_iff.1 h
  exact law_calls hmix hT hf hk (in_R hb) (in_G hG) (fun b L h _ => inRen_ro b L h) hv
theorem wide_slice {P : Program} {w : World} {r : Go.Reach} {base : Nat} {t e : TypeId} {v : Value} (ht : P.underlying t = some (.slice e)) (h : Value.okWide P w r base t v) :
    v = .slice none 0 0 ∨ ∃ a len cap, v = .slice (some a) len cap ∧ len ≤ cap ∧ a.spot = none ∧ ∃ arr e fz, w.heap[a.block]? = some (.cells arr e fz) := by
  simp only [Value.okWide, ht, Cell.okWide] at h
  cases v <;> simp only [Cell.ok, ht] at h
  rename_i a len cap
  cases a with
  | none =>
    cases len <;> cases cap <;> simp at h
    exact .inl rfl
  | some a =>
    obtain ⟨h1, _, _, h3, row, cells, h4, _⟩ := h
    refine .inr ⟨a, len, cap, rfl, h1, h3, ?_⟩
    unfold World.shape? at h4
    split at h4
    · exact ⟨_, _, _, ‹_›⟩
    · cases h4
end Go.Proofs.Ythlbifjgnhdonaa.Ev
