/- Loads, stores and new blocks: what the evaluator does to its memory, the model does to the world. -/
import Derived.Test.YthlbifjgnhdonaaEvRel
namespace Go.Proofs.Ythlbifjgnhdonaa.Ev
open Go

theorem run_typeInfo {P : Program} {t : TypeId} {i : TypeInfo} (h : P.info? t = some i) (w : World) : (typeInfo t).run P w = .ok i w := by
  simp [typeInfo, h]
theorem run_sizeOf' {P : Program} {t : TypeId} {n : Nat} (h : cSize P t = some n) (w : World) : (sizeOf t).run P w = .ok n w := by
  unfold cSize at h
  obtain ⟨i, hi, rfl⟩ := Option.map_eq_some_iff.1 h
  simp [sizeOf, run_typeInfo hi]
theorem isAgg_run {P : Program} {t : TypeId} {g : Option Nat} (h : cAgg P t = some g) (w : World) :
    (isAgg t).run P w = .ok g.isSome w ∧ ∀ n, g = some n → (sizeOf t).run P w = .ok n w := by
  unfold cAgg at h
  cases hu : P.underlying t with
  | none => rw [hu] at h; simp at h
  | some d =>
    cases hi : P.info? t with
    | none => rw [hu, hi] at h; cases d <;> simp at h
    | some i =>
      rw [hu, hi] at h
      have hs : (sizeOf t).run P w = .ok i.size w := by simp [sizeOf, run_typeInfo hi]
      cases d <;> simp at h <;> subst h <;> simp [isAgg, run_underlying hu] <;> exact hs

theorem cell_at {w : World} {b o : Nat} {arr : Array Value} {e : TypeId} {fz : Nat × Nat} (h : w.heap[b]? = some (.cells arr e fz)) : w.cell? ⟨b, o, none⟩ = arr[o]? := by
  simp [World.cell?, h]
theorem frozen_at {w : World} {b o : Nat} {arr : Array Value} {e : TypeId} {fz : Nat × Nat} (h : w.heap[b]? = some (.cells arr e fz)) (hf : Free fz arr.size) (ho : o < arr.size) : w.frozen? ⟨b, o, none⟩ = false := by
  have := hf o ho
  simp [World.frozen?, h]
  omega

section
variable {base : Nat} {ρ : Ren} {m : Mem} {w : World}
theorem R.cell (h : R base ρ m w) {b : Nat} {L : Loc} (hb : ρ b = some L) {cs : List EV} {esz el : Nat} {ro : Bool} (hg : m.get b = .cells cs esz el ro) (i : Nat) (v : EV) (hi : cs[i]? = some v) :
    ∃ v', w.cell? ⟨L.blk, L.off + i, none⟩ = some v' ∧ VR ρ v v' ∧ v'.oneCell' = true := by
  have := h.blk b L hb
  rw [hg] at this
  obtain ⟨arr, e, fz, h1, _, _, _, _, h6, _⟩ := this
  obtain ⟨v', g1, g2, g3⟩ := h6 i v hi
  exact ⟨v', by rw [cell_at h1]; exact g1, g2, g3⟩
/-- A row of cells, read one by one. -/
theorem R.cells (h : R base ρ m w) {b : Nat} {L : Loc} (hb : ρ b = some L) {cs : List EV} {esz el : Nat} {ro : Bool} (hg : m.get b = .cells cs esz el ro) (off n : Nat) (hl : off + n ≤ cs.length) :
    ∃ vs : List Value, vs.length = n ∧ (∀ j, j < n → w.cell? ⟨L.blk, L.off + off + j, none⟩ = vs[j]?) ∧ VRs ρ ((cs.drop off).take n) vs ∧ ∀ c ∈ vs, c.oneCell' = true := by
  induction n generalizing off with
  | zero => exact ⟨[], rfl, fun j hj => absurd hj (by omega), by simpa using VRs.nil, by simp⟩
  | succ n ih =>
    obtain ⟨vs, h1, h2, h3, h4⟩ := ih (off + 1) (by omega)
    have hlt : off < cs.length := by omega
    obtain ⟨v', g1, g2, g3⟩ := h.cell hb hg off cs[off] (List.getElem?_eq_getElem hlt)
    refine ⟨v' :: vs, by simp [h1], ?_, ?_, ?_⟩
    · intro j hj
      cases j with
      | zero => simpa using g1
      | succ j => have := h2 j (by omega); rw [show L.off + off + (j + 1) = L.off + (off + 1) + j by omega]; simpa using this
    · rw [List.drop_eq_getElem_cons hlt, List.take_succ_cons]
      exact .cons g2 h3
    · intro c hc
      rcases List.mem_cons.1 hc with rfl | hc
      · exact g3
      · exact h4 c hc
end

theorem loadCellsFrom_run {P : Program} {w : World} {b o : Nat} : ∀ (vs : List Value) (i : Nat) (acc : Array Value), (∀ j, j < vs.length → w.cell? ⟨b, o + i + j, none⟩ = vs[j]?) →
    (loadCellsFrom ⟨b, o, none⟩ i vs.length acc).run P w = .ok (acc ++ (⟨vs⟩ : Array Value)) w
  | [], i, acc, _ => by simp [loadCellsFrom]
  | v :: vs, i, acc, h => by
    have h0 := h 0 (by simp)
    simp at h0
    have ih := loadCellsFrom_run (P := P) (w := w) (b := b) (o := o) vs (i + 1) (acc.push v) (fun j hj => by
      have := h (j + 1) (by simpa using hj)
      rw [show o + (i + 1) + j = o + i + (j + 1) by omega]; simpa using this)
    simp only [List.length_cons, loadCellsFrom, Sem.run_bind, run_load, Addr.add_lit, h0, Result.andThen_ok, ih]
    congr 1
    simp
theorem loadCells_run {P : Program} {w : World} {b o : Nat} (vs : List Value) (n : Nat) (hn : vs.length = n) (h : ∀ j, j < n → w.cell? ⟨b, o + j, none⟩ = vs[j]?) :
    (loadCells ⟨b, o, none⟩ n).run P w = .ok ⟨vs⟩ w := by
  subst hn
  have := loadCellsFrom_run (P := P) (w := w) (b := b) (o := o) vs 0 #[] (fun j hj => by simpa using h j hj)
  simpa [loadCells] using this

section
variable {base : Nat} {ρ : Ren} {m : Mem} {w : World} {P : Program}
theorem loadVar_sound (hR : R base ρ m w) {t : TypeId} {g : Option Nat} (hg : cAgg P t = some g) {e v : EV} {a' : Value} (ha : VR ρ e a') (h : m.load g e = some v) :
    ∃ a v', a' = .pointer (some a) ∧ (loadVar t a).run P w = .ok v' w ∧ VR ρ v v' := by
  cases e <;> simp [Mem.load] at h
  rename_i b off
  cases ha with
  | @ptr _ _ L hb =>
  refine ⟨⟨L.blk, L.off + off, none⟩, ?_⟩
  cases hm : m.get b with
  | dead => simp [hm] at h
  | map es => simp [hm] at h
  | cells cs esz el ro =>
    simp [hm] at h
    obtain ⟨hag, hsz⟩ := isAgg_run hg w
    cases g with
    | none =>
      simp [partOf] at h
      obtain ⟨v', h1, h2, _⟩ := hR.cell hb hm off v (by simpa using h)
      exact ⟨v', rfl, by simp [loadVar, hag, h1], h2⟩
    | some n =>
      simp only [partOf] at h
      cases hl : (off + n).ble cs.length <;> simp [hl] at h
      subst h
      obtain ⟨vs, h1, h2, h3, h4⟩ := hR.cells hb hm off n (Nat.le_of_ble_eq_true hl)
      refine ⟨.agg ⟨vs⟩, rfl, ?_, .agg h3 h4⟩
      simp [loadVar, hag, hsz n rfl, loadCells_run vs n h1 h2]
/-- So many cells of a slice. -/
theorem row_sound (hR : R base ρ m w) {b off n : Nat} {L : Loc} (hb : ρ b = some L) {xs : List EV} (h : m.row b off n = some xs) :
    ∃ vs : List Value, vs.length = n ∧ xs.length = n ∧ (loadCells ⟨L.blk, L.off + off, none⟩ n).run P w = .ok ⟨vs⟩ w ∧ VRs ρ xs vs ∧ ∀ c ∈ vs, c.oneCell' = true := by
  by_cases hn : n = 0
  · subst hn
    rw [Mem.row_none] at h; cases h
    exact ⟨[], rfl, rfl, rfl, .nil, by simp⟩
  rw [Mem.row_pos hn] at h
  unfold Mem.row1 at h
  cases hm : m.get b with
  | dead => simp [hm] at h
  | map es => simp [hm] at h
  | cells cs esz el ro =>
    simp only [hm] at h
    cases hl : (off + n).ble cs.length <;> simp [hl] at h
    have hl' := Nat.le_of_ble_eq_true hl
    obtain ⟨vs, h1, h2, h3, h4⟩ := hR.cells hb hm off n hl'
    refine ⟨vs, h1, ?_, loadCells_run vs n h1 h2, h ▸ h3, h4⟩
    subst h; simp; omega

/-- Memories that tell the same. -/
theorem R.same_get {m1 : Mem} (hR : R base ρ m w) (hn : m1.next = m.next) (hg : ∀ b, m1.get b = m.get b) : R base ρ m1 w ∧ Step ρ m w ρ m1 w := by
  have hl : ∀ b, Live m1 b ↔ Live m b := fun b => by unfold Live; rw [hg]
  refine ⟨⟨fun b L h => by rw [hn]; exact hR.lt b L h, fun b L h => by rw [hg]; exact hR.blk b L h, fun b c L L' h1 h2 h3 h4 => hR.inj b c L L' h1 h2 ((hl b).1 h3) ((hl c).1 h4), hR.base, fun b h => by rw [hg]; exact hR.clean b (by rw [← hn]; exact h)⟩,
    ⟨.refl ρ, fun _ h h' => absurd h h', by rw [hn]; exact Nat.le_refl _, fun b _ _ => hg b, fun b _ h => by rw [hg]; exact h, Nat.le_refl _, fun i _ h => ?_, fun _ _ _ => rfl, rfl, rfl, rfl⟩⟩
  obtain ⟨b, L, h1, h2, h3, h4⟩ := h
  exact ⟨b, L, h1, (hl b).1 h2, h3, h4⟩
theorem write_nil {m m1 : Mem} {b off : Nat} (h : m.write b off [] = some m1) : m1.next = m.next ∧ ∀ c, m1.get c = m.get c := by
  unfold Mem.write at h
  cases hm : m.get b with
  | dead => simp [hm] at h
  | map es => simp [hm] at h
  | cells cs e t ro =>
    simp only [hm] at h
    cases ro <;> simp only [cond_true, cond_false, reduceCtorEq] at h
    obtain ⟨cs1, h1, rfl⟩ := Option.map_eq_some_iff.1 h
    unfold splice at h1
    cases hl : (off + ([] : List EV).length).ble cs.length <;> simp only [hl, cond_true, cond_false, reduceCtorEq, Option.some.injEq] at h1
    have : cs1 = cs := by rw [← h1]; simp
    subst this
    refine ⟨rfl, fun c => ?_⟩
    rw [Mem.get_set]
    split
    · rename_i e; subst e; exact hm.symm
    · rfl
theorem storeCells_run {b o : Nat} {e : TypeId} {fz : Nat × Nat} : ∀ (vs : List Value) (i : Nat) (w : World) (arr : Array Value), w.heap[b]? = some (.cells arr e fz) → o + i + vs.length ≤ arr.size → Free fz arr.size →
    (∀ c ∈ vs, c.oneCell' = true) → ∃ w' arr', (storeCells ⟨b, o, none⟩ vs i).run P w = .ok () w' ∧ w'.heap[b]? = some (.cells arr' e fz) ∧ arr'.size = arr.size ∧
      (∀ j, arr'[j]? = if o + i ≤ j ∧ j < o + i + vs.length then vs[j - (o + i)]? else arr[j]?) ∧ (∀ k, k ≠ b → w'.heap[k]? = w.heap[k]?) ∧ w'.heap.size = w.heap.size ∧ w'.os = w.os ∧ w'.tape = w.tape ∧ w'.output = w.output
  | [], i, w, arr, h, _, _, _ => ⟨w, arr, rfl, h, rfl, fun j => by rw [if_neg (fun h => by have h2 := h.2; simp at h2; omega)], fun _ _ => rfl, rfl, rfl, rfl, rfl⟩
  | v :: vs, i, w, arr, h, hl, hf, hv => by
    simp at hl
    have hlt : o + i < arr.size := by omega
    have hc : w.cell? ⟨b, o + i, none⟩ = some arr[o + i] := by rw [cell_at h, Array.getElem?_eq_getElem hlt]
    have hfr := frozen_at h hf hlt
    have hv0 := hv v (by simp)
    have hbw : b < w.heap.size := (Array.getElem?_eq_some_iff.1 h).1
    have hheap : (w.setCell ⟨b, o + i, none⟩ v).heap[b]? = some (.cells (arr.setIfInBounds (o + i) v) e fz) := by
      simp [World.setCell, Array.getElem?_modify, h]
    have hother : ∀ k, k ≠ b → (w.setCell ⟨b, o + i, none⟩ v).heap[k]? = w.heap[k]? := by
      intro k hk
      simp [World.setCell, Array.getElem?_modify, Ne.symm hk]
    obtain ⟨w', arr', r1, r2, r3, r4, r5, r6, r7, r8, r9⟩ := storeCells_run (b := b) (o := o) vs (i + 1) (w.setCell ⟨b, o + i, none⟩ v) (arr.setIfInBounds (o + i) v) hheap (by simp; omega) (by simpa using hf) (fun c hc => hv c (by simp [hc]))
    refine ⟨w', arr', ?_, r2, by simpa using r3, ?_, fun k hk => (r5 k hk).trans (hother k hk), by simpa using r6, r7, r8, r9⟩
    · simp only [storeCells, Sem.run_bind, Addr.add_lit, run_store P w _ v _ hv0, hc, hfr, if_false, Result.andThen_ok, Bool.false_eq_true]
      exact r1
    · intro j
      rw [r4 j]
      by_cases hj : j = o + i
      · subst hj
        rw [if_neg (by omega), if_pos (by simp)]
        simp [hlt]
      · by_cases hj2 : o + (i + 1) ≤ j ∧ j < o + (i + 1) + vs.length
        · rw [if_pos hj2, if_pos (by simp; omega)]
          rw [show j - (o + i) = (j - (o + (i + 1))) + 1 by omega]
          simp
        · rw [if_neg hj2, if_neg (by simp; omega)]
          rw [Array.getElem?_setIfInBounds_ne (by omega)]
end

theorem splice_get {cs vs ds : List EV} {off : Nat} (h : splice cs off vs = some ds) : ds.length = cs.length ∧ off + vs.length ≤ cs.length ∧
    ∀ j, ds[j]? = if off ≤ j ∧ j < off + vs.length then vs[j - off]? else cs[j]? := by
  unfold splice at h
  cases hl : (off + vs.length).ble cs.length <;> simp [hl] at h
  have hl' := Nat.le_of_ble_eq_true hl
  subst h
  refine ⟨by simp; omega, hl', fun j => ?_⟩
  by_cases h1 : j < off
  · rw [if_neg (by omega), List.getElem?_append_left (by simp; omega), List.getElem?_take, if_pos h1]
  · rw [List.getElem?_append_right (by simp; omega)]
    have hm : min off cs.length = off := by omega
    simp only [List.length_take, hm]
    by_cases h2 : j < off + vs.length
    · rw [if_pos ⟨by omega, h2⟩, List.getElem?_append_left (by omega)]
    · rw [if_neg (by omega), List.getElem?_append_right (by omega), List.getElem?_drop]
      congr 1
      omega

section
variable {base : Nat} {ρ : Ren} {m m' : Mem} {w : World} {P : Program}
/-- A write into a block. -/
theorem write_sound (hR : R base ρ m w) {b off : Nat} {L : Loc} (hb : ρ b = some L) {vs : List EV} {vs' : List Value} (hv : VRs ρ vs vs') (hf : ∀ c ∈ vs', c.oneCell' = true) (h : m.write b off vs = some m') :
    ∃ w', (storeCells ⟨L.blk, L.off + off, none⟩ vs').run P w = .ok () w' ∧ R base ρ m' w' ∧ Step ρ m w ρ m' w' := by
  unfold Mem.write at h
  cases hm : m.get b with
  | dead => simp [hm] at h
  | map es => simp [hm] at h
  | cells cs esz el ro =>
    simp only [hm] at h
    cases ro with
    | true => simp at h
    | false =>
    simp only [cond_false] at h
    obtain ⟨ds, hs, rfl⟩ := Option.map_eq_some_iff.1 h
    obtain ⟨s1, s2, s3⟩ := splice_get hs
    have hB := hR.blk b L hb
    rw [hm] at hB
    obtain ⟨arr, e, fz, h1, h2, h3, h4, h5, h6, h7, h8⟩ := hB
    obtain ⟨hbase, hfree⟩ := h7 rfl
    have hlen := hv.length
    obtain ⟨w', arr', r1, r2, r3, r4, r5, r6, r7, r8, r9⟩ := storeCells_run (P := P) (o := L.off + off) vs' 0 w arr h1 (by omega) hfree hf
    have hlv : Live m b := by unfold Live; rw [hm]; simp
    have hget : ∀ c, c ≠ b → (m.set b (.cells ds esz el false)).get c = m.get c := fun c hc => by rw [Mem.get_set, if_neg hc]
    have hlive : ∀ c, Live (m.set b (.cells ds esz el false)) c → Live m c := by
      intro c hc
      by_cases e : c = b
      · subst e; exact hlv
      · unfold Live at hc ⊢; rwa [hget c e] at hc
    have hbw : L.blk < w.heap.size := (Array.getElem?_eq_some_iff.1 h1).1
    refine ⟨w', r1, ⟨hR.lt, ?_, ?_, by rw [r6]; exact hR.base, fun c hc => by rw [hget c (fun e => by subst e; have := hR.lt _ _ hb; rw [Mem.next_set] at hc; omega)]; exact hR.clean c hc⟩, ⟨.refl ρ, fun _ h h' => absurd h h', Nat.le_refl _, ?_, fun c hc hd => by rw [hget c (fun e => by subst e; rw [hm] at hd; cases hd)]; exact hd, by omega, ?_, ?_, r7, r8, r9⟩⟩
    · intro c M hM
      by_cases e : c = b
      · subst e
        rw [hb] at hM; cases hM
        rw [Mem.get_set, if_pos rfl]
        refine ⟨arr', _, fz, r2, by omega, h3, h4, by omega, ?_, fun _ => ⟨hbase, by rw [r3]; exact hfree⟩, h8⟩
        intro i v hi
        rw [s3 i] at hi
        rw [r4]
        by_cases hin : off ≤ i ∧ i < off + vs.length
        · rw [if_pos hin] at hi
          rw [if_pos (by omega)]
          obtain ⟨v', g1, g2⟩ := hv.get _ v hi
          rw [show L.off + i - (L.off + off + 0) = i - off by omega]
          exact ⟨v', g1, g2, hf v' (List.mem_of_getElem? g1)⟩
        · rw [if_neg hin] at hi
          rw [if_neg (by omega)]
          exact h6 i v hi
      · rw [hget c e]
        by_cases hl : m.get c = .dead
        · rw [hl]; trivial
        · have hne : M.blk ≠ L.blk := fun heq => e (hR.inj b c L M hb hM hlv hl (by rw [h4]) heq.symm).symm
          exact (hR.blk c M hM).of_heap (.refl ρ) (r5 _ hne)
    · intro c d M M' hM hM' hl hl' hro heq
      exact hR.inj c d M M' hM hM' (hlive c hl) (hlive d hl') hro heq
    · intro c hc hn
      exact hget c (fun e => by subst e; rw [hb] at hn; cases hn)
    · rintro i hi ⟨c, M, hM, hl, hro, heq⟩
      exact ⟨c, M, hM, hlive c hl, hro, heq⟩
    · intro i hi hr
      exact r5 i (fun e => hr ⟨b, L, hb, hlv, by rw [h4], e.symm⟩)
/-- A new row of cells. -/
theorem newRow_made (hR : RN base ρ m w) {cs : List EV} {vs : List Value} (hv : VRs ρ cs vs) (hf : ∀ c ∈ vs, c.oneCell' = true) (esz el : Nat) (t : TypeId) (extra : List Value) (fz : Nat × Nat) (hfree : Free fz (vs.length + extra.length)) (w' : World)
    (g : Grew w (.cells ⟨vs ++ extra⟩ t fz) w') : ∃ L, ρ.put m.next L m.next = some L ∧ L.blk = w.heap.size ∧ L.off = 0 ∧ L.total = vs.length + extra.length ∧ L.esz = esz ∧ L.ro = false ∧
      Made base ρ m w (ρ.put m.next L) (.cells cs esz el false) w' := by
  let L : Loc := ⟨w.heap.size, 0, vs.length + extra.length, esz, false⟩
  have he := Ren.ext_put L hR.free
  have hlen := hv.length
  have a := new_made hR (.cells cs esz el false) _ g L rfl (by
    refine ⟨⟨vs ++ extra⟩, t, fz, g.new, by simp [L], rfl, rfl, by simp [L]; omega, ?_, fun _ => ⟨hR.base, by simpa using hfree⟩, by simp⟩
    intro i v hi
    obtain ⟨v', g1, g2⟩ := hv.get i v hi
    refine ⟨v', ?_, g2.ext he, hf v' (List.mem_of_getElem? g1)⟩
    have hlt : i < vs.length := (List.getElem?_eq_some_iff.1 g1).1
    simp [L, List.getElem?_append_left hlt, g1])
  exact ⟨L, by simp [Ren.put], rfl, rfl, rfl, rfl, rfl, a⟩
theorem newRow_sound (hR : R base ρ m w) {cs : List EV} {vs : List Value} (hv : VRs ρ cs vs) (hf : ∀ c ∈ vs, c.oneCell' = true) (esz el : Nat) (t : TypeId) (extra : List Value) (fz : Nat × Nat) (hfree : Free fz (vs.length + extra.length)) (w' : World)
    (g : Grew w (.cells ⟨vs ++ extra⟩ t fz) w') : ∃ L, ρ.put m.next L m.next = some L ∧ L.blk = w.heap.size ∧ L.off = 0 ∧ L.total = vs.length + extra.length ∧ L.esz = esz ∧ L.ro = false ∧
      R base (ρ.put m.next L) (m.new (.cells cs esz el false)) w' ∧ Step ρ m w (ρ.put m.next L) (m.new (.cells cs esz el false)) w' := by
  obtain ⟨L, h1, h2, h3, h4, h5, h6, h7⟩ := newRow_made hR.n hv hf esz el t extra fz hfree w' g
  exact ⟨L, h1, h2, h3, h4, h5, h6, h7.whole hR⟩
end

theorem free_zero (n : Nat) : Free (0, 0) n := fun i _ => by simp
theorem VR.cells {ρ : Ren} {v : EV} {v' : Value} (h : VR ρ v v') {cs : List EV} (hc : v.cells = some cs) : VRs ρ cs v'.cells.toList ∧ ∀ c ∈ v'.cells.toList, c.oneCell' = true := by
  cases h <;> simp only [EV.cells, Option.some.injEq, reduceCtorEq] at hc <;> subst hc
  case agg h hf => exact ⟨h, hf⟩
  case ptr h => exact ⟨.cons (.ptr h) .nil, by simp [Value.cells, Value.oneCell']⟩
  case slice h1 h2 h3 h4 => exact ⟨.cons (.slice h1 h2 h3 h4) .nil, by simp [Value.cells, Value.oneCell']⟩
  case sliceC h1 h2 h3 => exact ⟨.cons (.sliceC h1 h2 h3) .nil, by simp [Value.cells, Value.oneCell']⟩
  case map h => exact ⟨.cons (.map h) .nil, by simp [Value.cells, Value.oneCell']⟩
  case func h1 h2 => exact ⟨.cons (.func h1 h2) .nil, by simp [Value.cells, Value.oneCell']⟩
  case iface h => exact ⟨.cons (.iface h) .nil, by simp [Value.cells, Value.oneCell']⟩
  all_goals exact ⟨.cons (by constructor) .nil, by simp [Value.cells, Value.oneCell']⟩

end Go.Proofs.Ythlbifjgnhdonaa.Ev
