/- Operations that make or change memory: what the evaluator does, the model does. -/
import Derived.Test.YthlbifjgnhdonaaEvOpD
namespace Go.Proofs.Ythlbifjgnhdonaa.Ev
open Go
section
variable {base : Nat} {ρ : Ren} {m : Mem} {w : World} {P : Program}

/-- A run that tells a value. -/
def Runs (P : Program) (s : Sem Value) (base : Nat) (ρ : Ren) (m : Mem) (w : World) (v : EV) (m' : Mem) : Prop :=
  ∃ ρ' w' v', s.run P w = .ok v' w' ∧ VR ρ' v v' ∧ R base ρ' m' w' ∧ Step ρ m w ρ' m' w'
theorem Runs.good {s : Sem Value} {v : EV} {m' : Mem} (h : Runs P s base ρ m w v m') : Good base ρ m w v m' ((do pure (Next.value (← s)) : Sem Next).run P w) := by
  obtain ⟨ρ', w', v', h1, h2, h3, h4⟩ := h
  exact ⟨ρ', w', v', .inl (by simp [h1]), h2, h3, h4⟩
/-- A run that makes one block and tells a value. -/
def RunsM (P : Program) (s : Sem Value) (base : Nat) (ρ : Ren) (m : Mem) (w : World) (v : EV) (B : Blk) : Prop :=
  ∃ ρ' w' v', s.run P w = .ok v' w' ∧ VR ρ' v v' ∧ Made base ρ m w ρ' B w'
theorem RunsM.runs {s : Sem Value} {v : EV} {B : Blk} (hR : R base ρ m w) (h : RunsM P s base ρ m w v B) : Runs P s base ρ m w v (m.new B) := by
  obtain ⟨ρ', w', v', h1, h2, h3⟩ := h
  obtain ⟨a, b⟩ := h3.whole hR
  exact ⟨ρ', w', v', h1, h2, a, b⟩
theorem grew_alloc (w : World) (o : Obj) : Grew w o { w with heap := w.heap.push o } := ⟨rfl, rfl, rfl, rfl⟩

theorem newVar_made (hR : RN base ρ m w) {cs : List EV} {x : Value} (hv : VRs ρ cs x.cells.toList) (hf : ∀ c ∈ x.cells.toList, c.oneCell' = true) (el : Nat) (t : TypeId) :
    RunsM P (do pure (.pointer (some (← newVar t x)))) base ρ m w (.ptr m.next 0) (.cells cs cs.length el false) := by
  obtain ⟨L, h1, h2, h3, _, _, _, h4⟩ := newRow_made hR hv hf cs.length el t [] (0, 0) (free_zero _) { w with heap := w.heap.push (.cells x.cells t) } (by
    have := grew_alloc w (.cells x.cells t)
    simpa using this)
  refine ⟨_, _, _, ?_, .ptr h1, h4⟩
  simp only [newVar, newRow, Sem.run_bind, run_newObj, Result.andThen_ok, Sem.run_pure]
  rw [h2, h3]
theorem alloc_made (hR : RN base ρ m w) {t : TypeId} {z : List EV} (hz : cZeros P t = some z) :
    RunsM P (Instr.alloc t true (.tuple #[])) base ρ m w (.ptr m.next 0) (.cells z z.length t false) := by
  obtain ⟨v, h1, h2, h3⟩ := zeros_sound (ρ := ρ) hz
  have := newVar_made (P := P) hR h2 h3 t t
  obtain ⟨ρ', w', v', e1, e2⟩ := this
  exact ⟨ρ', w', v', by
    rw [← e1]
    simp only [Instr.alloc, Sem.run_bind, h1, Result.andThen_ok], e2⟩
theorem box_made (hR : RN base ρ m w) {t : TypeId} {x : EV} {x' : Value} (hx : VR ρ x x') {cs : List EV} (hc : x.cells = some cs) :
    RunsM P (Instr.box t x') base ρ m w (.ptr m.next 0) (.cells cs cs.length t false) :=
  newVar_made hR (hx.cells hc).1 (hx.cells hc).2 t t
/-- A row made of cells that are at hand. -/
theorem row_new (hR : RN base ρ m w) {cs : List EV} {vs : Array Value} (hv : VRs ρ cs vs.toList) (hf : ∀ c ∈ vs.toList, c.oneCell' = true) (esz el : Nat) (t : TypeId) {n c : Nat} (hn : n ≤ c) (hc : c * esz = vs.size) (known : Bool) :
    RunsM P (do pure (.slice (some (← newRow t vs)) n c)) base ρ m w (.slice m.next 0 n (if known then some c else none)) (.cells cs esz el false) := by
  obtain ⟨L, h1, h2, h3, h4, h5, h6, h7⟩ := newRow_made hR hv hf esz el t [] (0, 0) (free_zero _) { w with heap := w.heap.push (.cells vs t) } (by
    have := grew_alloc w (.cells vs t)
    simpa using this)
  refine ⟨_, _, .slice (some ⟨w.heap.size, 0, none⟩) n c, ?_, ?_, h7⟩
  · simp only [newRow, Sem.run_bind, run_newObj, Result.andThen_ok, Sem.run_pure]
  · rw [← h2]
    cases known with
    | true => exact .sliceC h1 hn (fun _ => by rw [h3])
    | false =>
      refine .slice h1 hn (fun _ => by rw [h3]) (fun _ => ?_)
      rw [h5, h4, hc]; simp
theorem bslice_made (hR : RN base ρ m w) {t e : TypeId} {s len : Nat} {z : List EV} (hu : P.underlying t = some (.slice e)) (hs : cSize P e = some s) (hz : cZeros P e = some z) (hzs : z.length = s) (hl : len * s ≤ 2 ^ 24)
    {ps : List (Nat × Nat × EV)} {qs : List (Nat × Value)} (hlen : ps.length = qs.length)
    (hp : ∀ (i : Nat) (p : Nat × Nat × EV) (q : Nat × Value), ps[i]? = some p → qs[i]? = some q → (p.1 = q.1 * s ∧ p.2.1 = s) ∧ VR ρ p.2.2 q.2) {cs : List EV} (h : fillIn (copies len z) ps = some cs) :
    RunsM P (Instr.buildSlice t len ⟨qs⟩) base ρ m w (.slice m.next 0 len (some len)) (.cells cs s e false) := by
  obtain ⟨zv, z1, z2, z3⟩ := zeros_sound (ρ := ρ) hz
  have hzsz : zv.cells.size = s := by have := z2.length; simp at this; omega
  obtain ⟨c1, c2⟩ := copies_sound z2 z3 len
  rw [hzs] at c1 c2
  have harr : ∀ zc : Array Value, len * s = 0 → ((Array.range (len * s)).map fun i => zc[i % zc.size]!) = (Array.range (len * s)).map fun i => zv.cells[i % zv.cells.size]! := by
    intro zc h0
    rw [h0]; simp only [Array.range_zero', List.map_toArray, List.map_nil]
  obtain ⟨ds', f1, f2, f3, f4⟩ := fill_sound (ρ := ρ) (place := fun i => some (i * s, s)) ps qs _ _ c1 c2 hlen (fun i p q hp' hq' => by
    obtain ⟨⟨e1, e2⟩, e3⟩ := hp i p q hp' hq'
    exact ⟨by rw [e1, e2], e3⟩) cs h
  obtain ⟨ρ', w', v', r1, r2⟩ := row_new (P := P) hR f2 f3 s e e (Nat.le_refl len) (by rw [f4]; simp) true
  refine ⟨ρ', w', v', ?_, r2⟩
  rw [← r1]
  unfold Instr.buildSlice
  simp only [Sem.run_bind, run_underlying hu, Result.andThen_ok, run_sizeOf' hs]
  rw [if_neg (by omega)]
  by_cases h0 : len * s = 0
  · simp only [if_pos h0, Sem.run_bind, Sem.run_pure, Result.andThen_ok, harr _ h0, f1]
  · simp only [if_neg h0, Sem.run_bind, Sem.run_pure, Result.andThen_ok, z1, f1]
theorem mkslice_made (hR : RN base ρ m w) {t e : TypeId} {i : TypeInfo} {z : List EV} (hu : P.underlying t = some (.slice e)) (hi : P.info? e = some i) (hz : cZeros P e = some z) (hzs : z.length = i.size) (hb : i.bytes ≤ 65536) {l c : Nat} (hlc : l ≤ c) (hc : c ≤ room) :
    RunsM P (Instr.makeSlice t (.int .i64 (l : Int)) (.int .i64 (c : Int))) base ρ m w (.slice m.next 0 l (some c)) (.cells (copies c z) i.size e false) := by
  obtain ⟨zv, z1, z2, z3⟩ := zeros_sound (ρ := ρ) hz
  obtain ⟨c1, c2⟩ := copies_sound z2 z3 c
  rw [hzs] at c1 c2
  have hs : cSize P e = some i.size := by simp [cSize, hi]
  have harr : ∀ zc : Array Value, c * i.size = 0 → ((Array.range (c * i.size)).map fun i => zc[i % zc.size]!) = (Array.range (c * i.size)).map fun i => zv.cells[i % zv.cells.size]! := by
    intro zc h0
    rw [h0]; simp only [Array.range_zero', List.map_toArray, List.map_nil]
  obtain ⟨ρ', w', v', r1, r2⟩ := row_new (P := P) hR c1 c2 i.size e e hlc (by simp) true
  refine ⟨ρ', w', v', ?_, r2⟩
  rw [← r1]
  unfold room at hc
  have wl : IntKind.i64.wrap (l : Int) = l := by unfold IntKind.wrap; simp [IntKind.bits, IntKind.signed]; omega
  have wc : IntKind.i64.wrap (c : Int) = c := by unfold IntKind.wrap; simp [IntKind.bits, IntKind.signed]; omega
  have hbc : (i.bytes : Int) * (c : Int) ≤ 2 ^ 48 := by
    have : i.bytes * c ≤ 65536 * 1073741824 := Nat.mul_le_mul hb hc
    have h2 : ((i.bytes * c : Nat) : Int) ≤ ((65536 * 1073741824 : Nat) : Int) := Int.ofNat_le.2 this
    simp at h2
    omega
  unfold Instr.makeSlice
  simp only [Sem.run_bind, run_underlying hu, Result.andThen_ok, asInt, asIntOf, Sem.run_pure, run_typeInfo hi, wl, wc]
  have t1 : (decide ((c : Int) < 0) || decide ((i.bytes : Int) * (c : Int) > 2 ^ 48)) = false := by
    simp only [Bool.or_eq_false_iff, decide_eq_false_iff_not]
    exact ⟨by omega, by omega⟩
  rw [if_neg (by
    simp only [t1, Bool.false_or, Bool.or_eq_true, decide_eq_true_eq, not_or]
    exact ⟨by omega, by omega⟩)]
  simp only [Sem.run_bind, run_askRoom, Result.andThen_ok, run_sizeOf' hs, Int.toNat_natCast]
  by_cases h0 : c * i.size = 0
  · simp only [if_pos h0, Sem.run_bind, Sem.run_pure, Result.andThen_ok, harr _ h0]
  · simp only [if_neg h0, Sem.run_bind, Sem.run_pure, Result.andThen_ok, z1]
theorem mkmap_made (hR : RN base ρ m w) : RunsM P (do pure (.map (some (← newObj (.map #[] 0))))) base ρ m w (.map m.next) (.map []) := by
  have g := grew_alloc w (.map #[] 0)
  let L : Loc := ⟨w.heap.size, 0, 0, 0, false⟩
  have a := new_made hR (.map []) _ g L rfl ⟨#[], 0, g.new, rfl, fun i e d he => by simp at he, hR.base, rfl⟩
  refine ⟨_, _, .map (some w.heap.size), ?_, VR.map (L := L) (by simp [Ren.put]), a⟩
  simp only [Sem.run_bind, run_newObj, Result.andThen_ok, Sem.run_pure]

/-! ### From text to bytes and back -/
theorem row_le {b off n : Nat} {xs : List EV} (h : m.row b off n = some xs) : xs.length = n := by
  by_cases hn : n = 0
  · subst hn
    rw [Mem.row_none] at h; cases h; rfl
  rw [Mem.row_pos hn] at h
  unfold Mem.row1 at h
  split at h
  · rename_i cs _ _ _ _
    cases hl : (off + n).ble cs.length <;> simp only [hl, cond_true, cond_false, reduceCtorEq, Option.some.injEq] at h
    subst h
    have := Nat.le_of_ble_eq_true hl
    simp; omega
  · cases h
theorem row_zero {b off : Nat} {xs : List EV} (h : m.row b off 0 = some xs) : xs = [] := List.eq_nil_of_length_eq_zero (row_le h)
/-- A slice's first cells. -/
theorem slice_cells (hR : R base ρ m w) {b off len n : Nat} {cap : Option Nat} {x' : Value} (hx : VR ρ (.slice b off len cap) x') (size : Nat) (hn : n ≤ len) {xs : List EV} (h : m.row b off (n * size) = some xs) :
    ∃ (a : Addr) (c : Nat) (vs : List Value), x' = .slice (some a) len c ∧ (loadCells a (n * size)).run P w = .ok ⟨vs⟩ w ∧ VRs ρ xs vs ∧ (∀ c ∈ vs, c.oneCell' = true) ∧ vs.length = n * size := by
  rcases Nat.eq_zero_or_pos (n * size) with h0 | h0
  · rw [h0] at h ⊢
    obtain rfl := row_zero h
    cases hx with
    | slice => exact ⟨_, _, [], rfl, rfl, .nil, by simp, rfl⟩
    | sliceC => exact ⟨_, _, [], rfl, rfl, .nil, by simp, rfl⟩
    | sliceE => exact ⟨_, _, [], rfl, rfl, .nil, by simp, rfl⟩
  · have hp : 0 < n := Nat.pos_of_mul_pos_right h0
    cases hx with
    | @slice _ _ _ c o L hL hc ho hr =>
      obtain ⟨vs, h1, h2, h3, h4, h5⟩ := row_sound (P := P) hR hL h
      rw [← ho (by omega)] at h3
      exact ⟨_, _, vs, rfl, h3, h4, h5, h1⟩
    | sliceE => omega
    | @sliceC _ _ _ c o L hL hc ho =>
      obtain ⟨vs, h1, h2, h3, h4, h5⟩ := row_sound (P := P) hR hL h
      rw [← ho (by omega)] at h3
      exact ⟨_, _, vs, rfl, h3, h4, h5, h1⟩
theorem text_sound (hR : R base ρ m w) {s d e : TypeId} (hs : P.underlying s = some (.slice e)) (he : P.underlying e = some (.int .u8)) (hd : P.underlying d = some .string) {x : EV} {x' : Value} (hx : VR ρ x x') {v : EV} {m' : Mem} (h : evConv .text m x = some (v, m')) :
    Runs P (convert s d x') base ρ m w v m' := by
  cases x <;> simp only [evConv, reduceCtorEq, Option.some.injEq, Prod.mk.injEq] at h
  case nilslice =>
    obtain ⟨rfl, rfl⟩ := h
    cases hx
    exact ⟨ρ, w, .string .empty, by simp [convert, run_underlying hs, run_underlying he, run_underlying hd, Conv.bytesToString], .str .empty, hR, .refl _ _ _⟩
  case slice b off n cap =>
    cases hr : m.row b off n with
    | none => simp [hr] at h
    | some cs =>
      simp only [hr] at h
      obtain ⟨t, ht, h2⟩ := Option.map_eq_some_iff.1 h
      cases h2
      obtain ⟨a, c, vs, rfl, h3, h4, h5, h6⟩ := slice_cells (P := P) (n := n) hR hx 1 (Nat.le_refl n) (by rw [Nat.mul_one]; exact hr)
      rw [Nat.mul_one] at h3
      have hl := bytes_loop (P := P) (w := w) vs cs t .empty h4 ht
      refine ⟨ρ, w, .string ⟨⟨t⟩⟩, ?_, .str ⟨⟨t⟩⟩, hR, .refl _ _ _⟩
      simp only [convert, Sem.run_bind, run_underlying hs, run_underlying hd, run_underlying he, Result.andThen_ok, Conv.bytesToString, h3]
      rw [← Array.forIn_toList]
      have e0 : (ByteArray.empty.data.toList ++ t) = t := rfl
      rw [e0] at hl
      have hl2 := congrArg (fun r : Result ByteArray => r.andThen fun a w' => (pure (Value.string a) : Sem Value).run P w') hl
      exact hl2
theorem markStringish_new (h : Array Obj) (arr : Array Value) (e : TypeId) (tape : Nat → Question → Nat) (d : Nat) (os : Os) (out : Array (Nat × ByteArray)) :
    (markStringish ⟨h.size, 0, none⟩).run P ⟨h.push (.cells arr e), tape, d, os, out⟩ = .ok () ⟨h.push (.cells arr e (arr.size, arr.size + 1)), tape, d, os, out⟩ := by
  have hsh : World.shape? ⟨h.push (.cells arr e), tape, d, os, out⟩ h.size = some (e, arr.size) := by simp [World.shape?]
  simp only [markStringish, Sem.run_bind, run_shape, Result.andThen_ok, hsh, run_freeze]
  simp only [World.freeze, if_neg (show ¬ (1 = 0) by decide)]
  congr 2
  apply Array.ext_getElem?
  intro i
  rw [Array.getElem?_modify, Array.getElem?_push, Array.getElem?_push]
  by_cases hi : i = h.size
  · subst hi; simp
  · rw [if_neg (fun e => hi e.symm)]
    simp [hi]
theorem bytes_made (hR : RN base ρ m w) {s d e : TypeId} (hs : P.underlying s = some .string) (hd : P.underlying d = some (.slice e)) (he : P.underlying e = some (.int .u8)) {x : EV} {x' : Value} (hx : VR ρ x x') {v : EV} {m' : Mem} (h : evConv (.bytes e) m x = some (v, m')) :
    ∃ B, m' = m.new B ∧ RunsM P (convert s d x') base ρ m w v B := by
  cases hx <;> simp only [evConv, reduceCtorEq, Option.some.injEq, Prod.mk.injEq] at h
  rename_i s'
  obtain ⟨rfl, rfl⟩ := h
  let q : Question := .appendCap s'.size 0 e
  have hq : q.forced = false := rfl
  let cap := q.cut (w.tape w.drawn q)
  have hcap : s'.size ≤ cap := Nat.le_add_right _ _
  let elems : Array Value := s'.data.map fun b => .int .u8 (b.toNat : Int)
  let o : Obj := .cells (elems ++ Array.replicate (cap - s'.size) (.int .u8 0)) e (elems.size + (cap - s'.size), elems.size + (cap - s'.size) + 1)
  let w' : World := { w with drawn := w.drawn + 1, heap := w.heap.push o }
  have hlen : s'.data.toList.length = s'.size := rfl
  have hv : VRs ρ (s'.data.toList.map fun b => EV.int .u8 (b.toNat : Int)) elems.toList := by
    rw [show elems.toList = s'.data.toList.map fun b => Value.int .u8 (b.toNat : Int) by simp [elems]]
    exact VRs.map_of _ _ (R := fun a b => a = b) (fun a b e => by subst e; exact .int _ _) rfl fun i a b h1 h2 => by rw [h1] at h2; cases h2; rfl
  have hf : ∀ c ∈ elems.toList, c.oneCell' = true := by
    intro c hc
    simp [elems] at hc
    obtain ⟨b, _, rfl⟩ := hc
    rfl
  have hes : elems.size = s'.size := by simp [elems]
  obtain ⟨L, h1, h2, h3, h4, h5, h6, h7⟩ := newRow_made hR hv hf 1 e e (List.replicate (cap - s'.size) (.int .u8 0)) (elems.size + (cap - s'.size), elems.size + (cap - s'.size) + 1) (fun i hi => by simp at hi; simp; omega) w' (by
    have e1 : (⟨elems.toList ++ List.replicate (cap - s'.size) (.int .u8 0)⟩ : Array Value) = elems ++ Array.replicate (cap - s'.size) (.int .u8 0) := by
      apply Array.ext'; simp
    rw [e1]
    exact ⟨rfl, rfl, rfl, rfl⟩)
  refine ⟨_, rfl, _, w', .slice (some ⟨w.heap.size, 0, none⟩) s'.size cap, ?_, ?_, h7⟩
  · simp only [convert, Sem.run_bind, run_underlying hs, run_underlying hd, run_underlying he, Result.andThen_ok, Conv.stringToBytes, run_choose]
    rw [show (Question.appendCap s'.size 0 e).forced = false from rfl]
    simp only [Bool.false_eq_true, if_false, Result.andThen_ok, newRow, Sem.run_bind, run_newObj, Sem.run_pure, markStringish_new]
    simp only [Array.size_append, Array.size_replicate, Array.size_map, w', o, elems, cap, q]
  · have : VR (ρ.put m.next L) (.slice m.next 0 s'.data.toList.length none) (.slice (some ⟨L.blk, 0, none⟩) s'.size cap) := by
      rw [hlen]
      refine .slice h1 hcap (fun _ => by rw [h3]) (fun _ => ?_)
      rw [h5, h4]; simp [hes]; omega
    rw [← h2]; exact this
end
end Go.Proofs.Ythlbifjgnhdonaa.Ev
