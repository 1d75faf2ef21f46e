/- Operations whose order Go leaves open: whatever the order, the machine does what the evaluator does. -/
import Derived.Test.YthlbifjgnhdonaaEvMake
namespace Go.Proofs.Ythlbifjgnhdonaa.Ev
open Go

/-! ### The same values -/
theorem sameOpt_eq {a b : Option Nat} (h : sameOpt a b = true) : a = b := by
  cases a <;> cases b <;> simp [sameOpt] at h
  · rfl
  · exact congrArg some h
mutual
theorem same_eq : ∀ {a b : EV}, EV.same a b = true → a = b
  | a, b, h => by
    cases a <;> cases b <;> simp only [EV.same, Bool.false_eq_true] at h
    case undef.undef => rfl
    case nilptr.nilptr => rfl
    case nilslice.nilslice => rfl
    case nilmap.nilmap => rfl
    case nilfunc.nilfunc => rfl
    case niliface.niliface => rfl
    case bool.bool x y => rw [beq_iff_eq.1 h]
    case int.int k x l y =>
      cases hk : (kindNo k).beq (kindNo l) <;> simp only [hk, cond_true, cond_false, Bool.false_eq_true] at h
      rw [kindNo_inj hk, sameInt_eq] at *
      rw [of_decide_eq_true h]
    case str.str x y =>
      rw [sameBytes_eq] at h
      rw [of_decide_eq_true h]
    case ptr.ptr x i y j =>
      cases hk : x.beq y <;> simp only [hk, cond_true, cond_false, Bool.false_eq_true] at h
      rw [of_beq hk, of_beq h]
    case slice.slice x i k c y j l d =>
      cases h1 : x.beq y <;> simp only [h1, cond_true, cond_false, Bool.false_eq_true] at h
      cases h2 : i.beq j <;> simp only [h2, cond_true, cond_false, Bool.false_eq_true] at h
      cases h3 : k.beq l <;> simp only [h3, cond_true, cond_false, Bool.false_eq_true] at h
      rw [of_beq h1, of_beq h2, of_beq h3, sameOpt_eq h]
    case map.map x y => rw [of_beq h]
    case func.func f x y g z u =>
      cases h1 : f.beq g <;> simp only [h1, cond_true, cond_false, Bool.false_eq_true] at h
      cases h2 : EV.sames x z <;> simp only [h2, cond_true, cond_false, Bool.false_eq_true] at h
      rw [of_beq h1, sames_eq h2, sames_eq h]
    case iface.iface t v u z =>
      cases h1 : t.beq u <;> simp only [h1, cond_true, cond_false, Bool.false_eq_true] at h
      rw [of_beq h1, same_eq h]
    case agg.agg x y => rw [sames_eq h]
    case tuple.tuple x y => rw [sames_eq h]
theorem sames_eq : ∀ {a b : List EV}, EV.sames a b = true → a = b
  | [], [], _ => rfl
  | [], _ :: _, h => by simp [EV.sames] at h
  | _ :: _, [], h => by simp [EV.sames] at h
  | x :: a, y :: b, h => by
    simp only [EV.sames] at h
    cases h1 : EV.same x y <;> simp only [h1, cond_true, cond_false, Bool.false_eq_true] at h
    rw [same_eq h1, sames_eq h]
end
theorem stands_of {m : Mem} {agg : Option Nat} {a v : EV} (h : m.stands agg a v = true) : m.load agg a = some v := by
  unfold Mem.stands at h
  cases hl : m.load agg a with
  | none => simp [hl] at h
  | some x => simp only [hl] at h; rw [same_eq h]
theorem load_get {m m' : Mem} {agg : Option Nat} {b off : Nat} (h : m.get b = m'.get b) : m.load agg (.ptr b off) = m'.load agg (.ptr b off) := by
  simp only [Mem.load, h]

/-! ### Memories that tell the same -/
theorem R.congr {base : Nat} {ρ : Ren} {m m' : Mem} {w : World} (h : R base ρ m w) (hn : m'.next = m.next) (hg : ∀ b, m'.get b = m.get b) : R base ρ m' w :=
  ⟨fun b L hb => by rw [hn]; exact h.lt b L hb, fun b L hb => by rw [hg]; exact h.blk b L hb, fun b c L L' h1 h2 h3 h4 => h.inj b c L L' h1 h2 (by unfold Live at *; rwa [hg] at h3) (by unfold Live at *; rwa [hg] at h4), h.base,
    fun b hb => by rw [hg]; exact h.clean b (by rw [← hn]; exact hb)⟩
theorem Step.congr {ρ ρ' : Ren} {m m1 m1' : Mem} {w w' : World} (h : Step ρ m w ρ' m1 w') (hn : m1'.next = m1.next) (hg : ∀ b, m1'.get b = m1.get b) : Step ρ m w ρ' m1' w' :=
  ⟨h.ext, h.new, by rw [hn]; exact h.next, fun b hb hr => by rw [hg]; exact h.same b hb hr, fun b hb hd => by rw [hg]; exact h.dead b hb hd, h.size,
    fun i hi ⟨b, L, h1, h2, h3, h4⟩ => h.rng i hi ⟨b, L, h1, by unfold Live at *; rwa [hg] at h2, h3, h4⟩, h.kept, h.os, h.tape, h.output⟩
theorem R.weaken {base : Nat} {ρ : Ren} {m m' : Mem} {w : World} (h : R base ρ m w) (hn : ∀ b L, ρ b = some L → b < m'.next) (hg : ∀ b L, ρ b = some L → m'.get b = m.get b ∨ m'.get b = .dead) (hc : ∀ b, m'.next ≤ b → m'.get b = .dead) : R base ρ m' w := by
  have lv : ∀ b L, ρ b = some L → Live m' b → Live m b := fun b L hb hl => by
    rcases hg b L hb with e | e
    · unfold Live at *; rwa [e] at hl
    · exact absurd e hl
  refine ⟨hn, fun b L hb => ?_, fun b c L L' h1 h2 h3 h4 => h.inj b c L L' h1 h2 (lv b L h1 h3) (lv c L' h2 h4), h.base, hc⟩
  rcases hg b L hb with e | e
  · rw [e]; exact h.blk b L hb
  · rw [e]; trivial
theorem side {base : Nat} {ρ : Ren} {B : Blk} {L : Loc} {w : World} (h : BlkR base ρ B L w) (hl : B ≠ .dead) : (L.ro = false → base ≤ L.blk) ∧ (L.ro = true → L.blk < base) := by
  cases B with
  | dead => exact absurd rfl hl
  | cells cs esz el ro =>
    obtain ⟨_, _, _, _, _, _, h4, _, _, h7, h8⟩ := h
    exact ⟨fun e => (h7 (by rw [← h4]; exact e)).1, fun e => h8 (by rw [← h4]; exact e)⟩
  | map es =>
    obtain ⟨_, _, _, _, _, h4, h5⟩ := h
    exact ⟨fun _ => h4, fun e => by rw [h5] at e; cases e⟩
/-- A memory with some blocks laid over another's. -/
theorem over (m : Mem) (f : Nat → Blk) : ∀ l : List Nat, ∃ m' : Mem, m'.next = m.next ∧ ∀ b, m'.get b = if b ∈ l then f b else m.get b
  | [] => ⟨m, rfl, fun b => by simp⟩
  | x :: l => by
    obtain ⟨m', h1, h2⟩ := over m f l
    refine ⟨m'.set x (f x), h1, fun b => ?_⟩
    rw [Mem.get_set, h2 b]
    by_cases e : b = x
    · subst e; simp
    · simp [e]

/-! ### What an action may do beside blocks that it doesn't know -/
theorem act_over {base : Nat} {ρ0 ρ ρ' : Ren} {m0 Mm mi me M2 : Mem} {w0 w w' : World} (l : List Nat) (hR : R base ρ Mm w) (hst : Step ρ0 m0 w0 ρ Mm w) (hR' : R base ρ' me w') (hs : Step ρ mi w ρ' me w')
    (hl : ∀ b, b ∈ l → m0.next ≤ b ∧ b < mi.next ∧ mi.get b = .dead) (hmi : ∀ b L, ρ b = some L → b ∉ l → mi.get b = Mm.get b ∨ mi.get b = .dead) (hlow : ∀ b, b < m0.next → mi.get b = Mm.get b) (hnx : m0.next ≤ mi.next)
    (h2n : M2.next = me.next) (h2g : ∀ b, M2.get b = if b ∈ l then Mm.get b else me.get b) : R base ρ' M2 w' ∧ Step ρ0 m0 w0 ρ' M2 w' := by
  have old : ∀ b L, b ∈ l → ρ' b = some L → ρ b = some L := by
    intro b L hb hL
    cases e : ρ b with
    | some L' => rw [hs.ext b L' e] at hL; exact hL
    | none => have := hs.new b e (by rw [hL]; simp); have := (hl b hb).2.1; omega
  have hin : ∀ b, b ∈ l → M2.get b = Mm.get b := fun b hb => by rw [h2g, if_pos hb]
  have hout : ∀ b, b ∉ l → M2.get b = me.get b := fun b hb => by rw [h2g, if_neg hb]
  -- a block that waits is not in the action's reach
  have apart : ∀ b L, b ∈ l → ρ b = some L → Live Mm b → L.ro = false → L.blk < w.heap.size ∧ ¬ rng ρ mi L.blk := by
    intro b L hb hL hlv hro
    refine ⟨(hR.blk b L hL).lt hlv, ?_⟩
    rintro ⟨c, Mc, hc, hlc, hroc, heq⟩
    have hcl : c ∉ l := fun h => hlc (hl c h).2.2
    have hlc' : Live Mm c := by
      rcases hmi c Mc hc hcl with e | e
      · unfold Live at *; rwa [e] at hlc
      · exact absurd e hlc
    have := hR.inj c b Mc L hc hL hlc' hlv hroc heq
    exact hcl (this ▸ hb)
  have mix : ∀ b c L L', b ∈ l → c ∉ l → ρ' b = some L → ρ' c = some L' → Live M2 b → Live M2 c → L.blk = L'.blk → (L.ro = false ∨ L'.ro = false) → False := by
    intro b c L L' hb hc h1 h2 h3 h4 heq hro
    have h1' := old b L hb h1
    have h3' : Live Mm b := by unfold Live at *; rwa [hin b hb] at h3
    have h4' : Live me c := by unfold Live at *; rwa [hout c hc] at h4
    have s1 := side (hR.blk b L h1') h3'
    have s2 := side (hR'.blk c L' h2) h4'
    have both : L.ro = false ∧ L'.ro = false := by
      cases e1 : L.ro <;> cases e2 : L'.ro
      · exact ⟨rfl, rfl⟩
      · have a1 := s1.1 e1; have a2 := s2.2 e2; omega
      · have a1 := s1.2 e1; have a2 := s2.1 e2; omega
      · rcases hro with h | h
        · rw [e1] at h; cases h
        · rw [e2] at h; cases h
    obtain ⟨a1, a2⟩ := apart b L hb h1' h3' both.1
    exact a2 (hs.rng L.blk a1 ⟨c, L', h2, h4', both.2, heq.symm⟩)
  refine ⟨⟨fun b L hb => by rw [h2n]; exact hR'.lt b L hb, ?_, ?_, hR'.base, ?_⟩, ⟨hst.ext.trans hs.ext, ?_, ?_, ?_, ?_, Nat.le_trans hst.size hs.size, ?_, ?_, hs.os.trans hst.os, hs.tape.trans hst.tape, hs.output.trans hst.output⟩⟩
  · intro b L hb
    by_cases hbl : b ∈ l
    · rw [hin b hbl]
      have hL := old b L hbl hb
      by_cases hd : Mm.get b = .dead
      · rw [hd]; trivial
      · have hB := hR.blk b L hL
        refine hB.of_heap hs.ext ?_
        cases hro : L.ro with
        | false => obtain ⟨a1, a2⟩ := apart b L hbl hL hd hro; exact hs.kept L.blk a1 a2
        | true =>
          refine hs.kept L.blk (hB.lt hd) ?_
          rintro ⟨c, Mc, hc, hlc, hroc, heq⟩
          have hcl : c ∉ l := fun h => hlc (hl c h).2.2
          have hlc' : Live Mm c := by
            rcases hmi c Mc hc hcl with e | e
            · unfold Live at *; rwa [e] at hlc
            · exact absurd e hlc
          have s1 := (side hB hd).2 hro
          have s2 := (side (hR.blk c Mc hc) hlc').1 hroc
          omega
    · rw [hout b hbl]; exact hR'.blk b L hb
  · intro b c L L' h1 h2 h3 h4 hro heq
    by_cases hb : b ∈ l <;> by_cases hc : c ∈ l
    · exact hR.inj b c L L' (old b L hb h1) (old c L' hc h2) (by unfold Live at *; rwa [hin b hb] at h3) (by unfold Live at *; rwa [hin c hc] at h4) hro heq
    · exact (mix b c L L' hb hc h1 h2 h3 h4 heq (.inl hro)).elim
    · exact (mix c b L' L hc hb h2 h1 h4 h3 heq.symm (.inr hro)).elim
    · exact hR'.inj b c L L' h1 h2 (by unfold Live at *; rwa [hout b hb] at h3) (by unfold Live at *; rwa [hout c hc] at h4) hro heq
  · intro b hb
    rw [h2n] at hb
    have hbl : b ∉ l := fun h => by have := (hl b h).2.1; have := hs.next; omega
    rw [hout b hbl]; exact hR'.clean b hb
  · intro b h0 h1
    cases e : ρ b with
    | some L => exact hst.new b h0 (by rw [e]; simp)
    | none => exact Nat.le_trans hnx (hs.new b e h1)
  · rw [h2n]; exact Nat.le_trans hnx hs.next
  · intro b hb h0
    have hbl : b ∉ l := fun h => by have := (hl b h).1; omega
    have hρ : ρ b = none := by
      cases e : ρ b with
      | none => rfl
      | some L => have := hst.new b h0 (by rw [e]; simp); omega
    rw [hout b hbl, hs.same b (Nat.lt_of_lt_of_le hb hnx) hρ, hlow b hb, hst.same b hb h0]
  · intro b hb hd
    have hbl : b ∉ l := fun h => by have := (hl b h).1; omega
    rw [hout b hbl]
    exact hs.dead b (Nat.lt_of_lt_of_le hb hnx) (by rw [hlow b hb]; exact hst.dead b hb hd)
  · rintro i hi ⟨b, L, h1, h2, h3, h4⟩
    by_cases hb : b ∈ l
    · exact hst.rng i hi ⟨b, L, old b L hb h1, by unfold Live at *; rwa [hin b hb] at h2, h3, h4⟩
    · obtain ⟨c, Lc, c1, c2, c3, c4⟩ := hs.rng i (Nat.lt_of_lt_of_le hi hst.size) ⟨b, L, h1, by unfold Live at *; rwa [hout b hb] at h2, h3, h4⟩
      have hcl : c ∉ l := fun h => c2 (hl c h).2.2
      refine hst.rng i hi ⟨c, Lc, c1, ?_, c3, c4⟩
      rcases hmi c Lc c1 hcl with e | e
      · unfold Live at *; rwa [e] at c2
      · exact absurd e c2
  · intro i hi hr
    rw [hs.kept i (Nat.lt_of_lt_of_le hi hst.size), hst.kept i hi hr]
    rintro ⟨c, Lc, c1, c2, c3, c4⟩
    have hcl : c ∉ l := fun h => c2 (hl c h).2.2
    refine hr (hst.rng i hi ⟨c, Lc, c1, ?_, c3, c4⟩)
    rcases hmi c Lc c1 hcl with e | e
    · unfold Live at *; rwa [e] at c2
    · exact absurd e c2
/-- A block made under a name that was kept for it. -/
theorem make_over {base : Nat} {ρ0 ρ ρ' : Ren} {m0 Mm : Mem} {w0 w w' : World} {k : Nat} {B : Blk} (hR : R base ρ Mm w) (hst : Step ρ0 m0 w0 ρ Mm w) (hk0 : m0.next ≤ k) (hk : k < Mm.next) (hm : Made base ρ ⟨k, Mm.tbl⟩ w ρ' B w') :
    R base ρ' ⟨Mm.next, Mm.tbl.set k B⟩ w' ∧ Step ρ0 m0 w0 ρ' ⟨Mm.next, Mm.tbl.set k B⟩ w' := by
  have hg : ∀ b, (⟨Mm.next, Mm.tbl.set k B⟩ : Mem).get b = if b = k then B else Mm.get b := fun b => by
    unfold Mem.get; simp only [Tr.get_set]; split <;> rfl
  have hg' : ∀ b, ((⟨k, Mm.tbl⟩ : Mem).new B).get b = if b = k then B else Mm.get b := fun b => by rw [Mem.get_new]; rfl
  have hdom : ∀ b, b ≠ k → ρ' b = ρ b := fun b hb => hm.dom b hb
  refine ⟨⟨?_, ?_, ?_, hm.base, ?_⟩, ⟨hst.ext.trans hm.ext, ?_, hst.next, ?_, ?_, by have := hst.size; have := hm.size; omega, ?_, ?_, hm.os.trans hst.os, hm.tape.trans hst.tape, hm.output.trans hst.output⟩⟩
  · intro b L hb
    by_cases e : b = k
    · rw [e]; exact hk
    · rw [hdom b e] at hb; exact hR.lt b L hb
  · intro b L hb
    rw [hg, ← hg']; exact hm.blk b L hb
  · intro b c L L' h1 h2 h3 h4
    exact hm.inj b c L L' h1 h2 (by unfold Live at *; rw [hg'] ; rwa [hg] at h3) (by unfold Live at *; rw [hg']; rwa [hg] at h4)
  · intro b hb
    have hb : Mm.next ≤ b := hb
    rw [hg, if_neg (by omega)]; exact hR.clean b hb
  · intro b h0 h1
    by_cases e : b = k
    · rw [e]; exact hk0
    · rw [hdom b e] at h1; exact hst.new b h0 h1
  · intro b hb h0
    rw [hg, if_neg (by omega)]; exact hst.same b hb h0
  · intro b hb hd
    rw [hg, if_neg (by omega)]; exact hst.dead b hb hd
  · rintro i hi ⟨b, L, h1, h2, h3, h4⟩
    by_cases e : b = k
    · subst e
      obtain ⟨L0, q1, q2⟩ := hm.loc
      have : ρ' b = some L0 := q1
      rw [this] at h1; cases h1
      have := hst.size
      omega
    · rw [hdom b e] at h1
      exact hst.rng i hi ⟨b, L, h1, by unfold Live at *; rwa [hg, if_neg e] at h2, h3, h4⟩
  · intro i hi hr
    rw [hm.old i (Nat.lt_of_lt_of_le hi hst.size), hst.kept i hi hr]
end Go.Proofs.Ythlbifjgnhdonaa.Ev
