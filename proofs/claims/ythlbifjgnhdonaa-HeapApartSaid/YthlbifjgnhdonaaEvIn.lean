/- What came in, of any shape: whole numbers, truths, texts, slices and structs of such: as blocks that are only read. -/
import Derived.Test.YthlbifjgnhdonaaEvArgs
import Derived.Deep.Slices
namespace Go.Proofs.Ythlbifjgnhdonaa.Ev
open Go Go.Deep
set_option linter.unusedSimpArgs false

/-- Shapes of what comes in; what it tells. -/
inductive Sh where
  | int (k : IntKind)
  | bool
  | str
  | slice (e : TypeId) (esz : Nat) (s : Sh)
  | struct (l : List Sh)
inductive Dt where
  | int (n : Int)
  | bool (b : Bool)
  | str (s : List UInt8)
  | list (l : List Dt)
  | tup (l : List Dt)
mutual
/-- A shape's cells, in a memory, and what they tell. -/
inductive Rep (m : Mem) : Sh → List EV → Dt → Prop
  | int {k : IntKind} {n : Int} (h : (Lit.int k n).wf = true) : Rep m (.int k) [.int k n] (.int n)
  | bool (b : Bool) : Rep m .bool [.bool b] (.bool b)
  | str {s : List UInt8} (h : s.length ≤ maxLen) : Rep m .str [.str s] (.str s)
  | nil {e esz : Nat} {s : Sh} : Rep m (.slice e esz s) [.nilslice] (.list [])
  | empty {e esz b off : Nat} {s : Sh} : Rep m (.slice e esz s) [.slice b off 0 (some 0)] (.list [])
  | slice {e esz b : Nat} {s : Sh} {ess : List (List EV)} {ds : List Dt} (hl : ds.length ≤ maxLen) (hm : m.get b = .cells ess.flatten esz 0 true) (h : Reps m (List.replicate ds.length s) ess ds) : Rep m (.slice e esz s) [.slice b 0 ds.length none] (.list ds)
  | struct {shs : List Sh} {ess : List (List EV)} {ds : List Dt} (h : Reps m shs ess ds) : Rep m (.struct shs) ess.flatten (.tup ds)
inductive Reps (m : Mem) : List Sh → List (List EV) → List Dt → Prop
  | nil : Reps m [] [] []
  | cons {s : Sh} {es : List EV} {d : Dt} {shs : List Sh} {ess : List (List EV)} {ds : List Dt} (h : Rep m s es d) (hs : Reps m shs ess ds) : Reps m (s :: shs) (es :: ess) (d :: ds)
end

section
variable {P : Program} {w : World} {H : Type} {enc : TypeId × Value → H} {base : Nat} {held : Bool} {n0 : Nat}
def BOk (w : World) (ρ : Ren) (B : InB) : Prop := ∃ (arr : Array Value) (e : TypeId) (fz : Nat × Nat), w.heap[B.blk]? = some (.cells arr e fz) ∧ arr.size = B.total ∧ B.off + B.cs.length ≤ B.total ∧
  ∀ (j : Nat) (v : EV), B.cs[j]? = some v → ∃ v', arr[B.off + j]? = some v' ∧ VR ρ v v' ∧ v'.oneCell' = true
/-- So many blocks, wherever they are put. -/
def Put (all : List InB) (s : Nat) (bs : List InB) : Prop := ∀ i, i < bs.length → all[s + i]? = bs[i]?
def Dec (w : World) (n0 : Nat) (sh : Sh) (cs : List Value) : Prop :=
  ∃ (k : Nat) (d : Dt), ∀ s, ∃ (es : List EV) (bs : List InB), bs.length = k ∧ es.length = cs.length ∧ ∀ all, Put all s bs →
    VRs (inRen n0 all) es cs ∧ (∀ c ∈ cs, c.oneCell' = true) ∧ (∀ (i : Nat) (B : InB), bs[i]? = some B → BOk w (inRen n0 all) B) ∧ Rep (inMem n0 all) sh es d
def Decs (w : World) (n0 : Nat) (shs : List Sh) (css : List (List Value)) : Prop :=
  ∃ (k : Nat) (ds : List Dt), ds.length = shs.length ∧ ∀ s, ∃ (ess : List (List EV)) (bs : List InB), bs.length = k ∧ ess.flatten.length = css.flatten.length ∧ ∀ all, Put all s bs →
    VRs (inRen n0 all) ess.flatten css.flatten ∧ (∀ c ∈ css.flatten, c.oneCell' = true) ∧ (∀ (i : Nat) (B : InB), bs[i]? = some B → BOk w (inRen n0 all) B) ∧ Reps (inMem n0 all) shs ess ds
theorem Put.left {all bs cs : List InB} {s : Nat} (h : Put all s (bs ++ cs)) : Put all s bs := fun i hi => by
  rw [h i (by simp; omega), List.getElem?_append_left hi]
theorem Put.right {all bs cs : List InB} {s : Nat} (h : Put all s (bs ++ cs)) : Put all (s + bs.length) cs := fun i hi => by
  have := h (bs.length + i) (by simp; omega)
  rw [Nat.add_assoc, this, List.getElem?_append_right (by omega)]; congr 1; omega
theorem Decs.nil : Decs w n0 [] [] := ⟨0, [], rfl, fun s => ⟨[], [], rfl, rfl, fun all _ => ⟨.nil, by simp, by simp, .nil⟩⟩⟩
theorem Decs.cons {sh : Sh} {cs : List Value} {shs : List Sh} {css : List (List Value)} (h : Dec w n0 sh cs) (hs : Decs w n0 shs css) : Decs w n0 (sh :: shs) (cs :: css) := by
  obtain ⟨k, d, h⟩ := h
  obtain ⟨k2, ds, hl, hs⟩ := hs
  refine ⟨k + k2, d :: ds, by simp [hl], fun s => ?_⟩
  obtain ⟨es, bs, h1, h2, h3⟩ := h s
  obtain ⟨ess, bs2, g1, g2, g3⟩ := hs (s + k)
  refine ⟨es :: ess, bs ++ bs2, by simp [h1, g1], by simp [h2, g2], fun all hp => ?_⟩
  obtain ⟨a1, a2, a3, a4⟩ := h3 all hp.left
  obtain ⟨b1, b2, b3, b4⟩ := g3 all (by rw [← h1]; exact hp.right)
  refine ⟨?_, ?_, ?_, .cons a4 b4⟩
  · rw [List.flatten_cons, List.flatten_cons]; exact a1.append b1
  · intro c hc
    rw [List.flatten_cons, List.mem_append] at hc
    rcases hc with hc | hc
    · exact a2 c hc
    · exact b2 c hc
  · intro i B hB
    by_cases hi : i < bs.length
    · rw [List.getElem?_append_left hi] at hB; exact a3 i B hB
    · rw [List.getElem?_append_right (by omega)] at hB; exact b3 _ B hB

/-! ### Shapes of types -/
def fieldsOk (ok : Sh → TypeId → Bool) (size : TypeId → Nat) : List Sh → List Field → Nat → Nat → Bool
  | [], [], off, total => off.beq total
  | s :: shs, g :: gs, off, total => g.offset.beq off && (ok s g.type && fieldsOk ok size shs gs (off + size g.type) total)
  | _, _, _, _ => false
def shOk (P : Program) : Nat → Sh → TypeId → Bool
  | 0, _, _ => false
  | n + 1, sh, t => match sh, P.underlying t with
    | .int k, some (.int k') => (kindNo k).beq (kindNo k')
    | .bool, some .bool => true
    | .str, some .string => true
    | .slice e esz s, some (.slice e') => e.beq e' && ((P.cellsOf e).beq esz && (Nat.ble 1 esz && shOk P n s e))
    | .struct l, some (.struct gs) => fieldsOk (shOk P n) P.cellsOf l gs.toList 0 (P.cellsOf t)
    | _, _ => false
theorem fields_flat {ok : Sh → TypeId → Bool} {size : TypeId → Nat} {cs : List Value} : ∀ (shs : List Sh) (gs : List Field) (off : Nat), fieldsOk ok size shs gs off cs.length = true → off ≤ cs.length →
    cs.drop off = (gs.map fun g => (cs.drop g.offset).take (size g.type)).flatten
  | [], [], off, h, hl => by
    have := of_beq h
    subst this; simp
  | s :: shs, g :: gs, off, h, hl => by
    simp only [fieldsOk, Bool.and_eq_true] at h
    obtain ⟨h1, h2, h3⟩ := h
    have e := of_beq h1
    have hle : off + size g.type ≤ cs.length := by
      revert h3
      generalize off + size g.type = o
      clear h1 h2 e hl
      induction gs generalizing shs o with
      | nil => intro h3; cases shs <;> simp only [fieldsOk] at h3; exact Nat.le_of_eq (of_beq h3); cases h3
      | cons g' gs ih =>
        intro h3
        cases shs with
        | nil => simp [fieldsOk] at h3
        | cons s' shs =>
          simp only [fieldsOk, Bool.and_eq_true] at h3
          have := ih shs _ h3.2.2
          omega
    have ih := fields_flat shs gs (off + size g.type) h3 hle
    rw [List.map_cons, List.flatten_cons, ← ih, e]
    rw [← List.drop_drop, List.take_append_drop]
  | [], _ :: _, _, h, _ => by simp [fieldsOk] at h
  | _ :: _, [], _, h, _ => by simp [fieldsOk] at h
theorem decs_fields {cs : List Value} {size : TypeId → Nat} {ok : Sh → TypeId → Bool} : ∀ (shs : List Sh) (gs : List Field) (off total : Nat), fieldsOk ok size shs gs off total = true →
    (∀ (s : Sh) (g : Field), g ∈ gs → ok s g.type = true → Dec w n0 s ((cs.drop g.offset).take (size g.type))) → Decs w n0 shs (gs.map fun g => (cs.drop g.offset).take (size g.type))
  | [], [], _, _, _, _ => .nil
  | s :: shs, g :: gs, off, total, h, hd => by
    simp only [fieldsOk, Bool.and_eq_true] at h
    rw [List.map_cons]
    exact .cons (hd s g (by simp) h.2.1) (decs_fields shs gs _ total h.2.2 fun s' g' hg => hd s' g' (by simp [hg]))
  | [], _ :: _, _, _, h, _ => by simp [fieldsOk] at h
  | _ :: _, [], _, _, h, _ => by simp [fieldsOk] at h
theorem flat_len {α : Type} {sz : Nat} : ∀ {css : List (List α)}, (∀ c ∈ css, c.length = sz) → css.flatten.length = css.length * sz
  | [], _ => by simp
  | c :: css, h => by
    rw [List.flatten_cons, List.length_append, flat_len fun c hc => h c (by simp [hc]), h c (by simp), List.length_cons, Nat.add_mul]; omega
theorem flat_get {α : Type} {sz : Nat} : ∀ {css : List (List α)}, (∀ c ∈ css, c.length = sz) → ∀ (q p : Nat), p < sz → css.flatten[q * sz + p]? = (css[q]?).bind fun c => c[p]?
  | [], _, q, p, _ => by simp
  | c :: css, h, q, p, hp => by
    have hc := h c (by simp)
    rw [List.flatten_cons]
    cases q with
    | zero => rw [Nat.zero_mul, Nat.zero_add, List.getElem?_append_left (by omega)]; simp
    | succ q =>
      have ih := flat_get (css := css) (fun c hc => h c (by simp [hc])) q p hp
      rw [List.getElem?_append_right (by rw [hc, Nat.add_mul]; omega), show (q + 1) * sz + p - c.length = q * sz + p by rw [hc, Nat.add_mul]; omega, ih]
      simp
theorem lit_add (b o n : Nat) : (⟨b, o, none⟩ : Addr).add n = ⟨b, o + n, none⟩ := Addr.add_lit b o n
/-- A row's elements. -/
theorem decs_row {a : Addr} {sz len : Nat} {s : Sh} (hd : ∀ i, i < len → ∃ cs', w.cells? base (a.add (i * sz)) sz = some cs' ∧ Dec w n0 s cs') : ∀ (r i : Nat), i + r = len →
    ∃ css : List (List Value), css.length = r ∧ (∀ q, q < r → ∃ cs', css[q]? = some cs' ∧ w.cells? base (a.add ((i + q) * sz)) sz = some cs') ∧ Decs w n0 (List.replicate r s) css
  | 0, i, _ => ⟨[], rfl, fun q hq => by omega, .nil⟩
  | r + 1, i, h => by
    obtain ⟨cs', h1, h2⟩ := hd i (by omega)
    obtain ⟨css, g1, g2, g3⟩ := decs_row hd r (i + 1) (by omega)
    refine ⟨cs' :: css, by simp [g1], fun q hq => ?_, .cons h2 g3⟩
    cases q with
    | zero => exact ⟨cs', rfl, h1⟩
    | succ q =>
      obtain ⟨c, c1, c2⟩ := g2 q (by omega)
      exact ⟨c, by simpa using c1, by rw [show i + (q + 1) = i + 1 + q by omega]; exact c2⟩
theorem dec_slice {a : Addr} {e sz len cap : Nat} {s : Sh} (hsz : 1 ≤ sz) (hlc : len ≤ cap) (hcm : cap ≤ maxLen) (hc0 : cap ≠ 0) (hd : ∀ i, i < cap → ∃ cs', w.cells? base (a.add (i * sz)) sz = some cs' ∧ Dec w n0 s cs') :
    Dec w n0 (.slice e sz s) [.slice (some a) len cap] := by
  have hcell : ∀ i, i < cap → ∀ p, p < sz → ∃ v, w.cell? ((a.add (i * sz)).add p) = some v := by
    intro i hi p hp
    obtain ⟨cs', h1, _⟩ := hd i hi
    obtain ⟨_, h2, h3⟩ := World.cells?_some h1
    exact ⟨cs'[p]'(by omega), by rw [h3 p hp, List.getElem?_eq_getElem]⟩
  obtain ⟨blk, off, arr, ty, fz, rfl, harr⟩ : ∃ blk off arr ty fz, a = ⟨blk, off, none⟩ ∧ w.heap[blk]? = some (.cells arr ty fz) := by
    obtain ⟨v, hv⟩ := hcell 0 (by omega) 0 (by omega)
    rw [Nat.zero_mul] at hv
    have hv : w.cell? a = some v := hv
    obtain ⟨blk, off, spot⟩ := a
    unfold World.cell? at hv
    split at hv
    · rename_i c t z hh
      cases spot with
      | none => exact ⟨blk, off, c, t, z, rfl, hh⟩
      | some x => simp at hv
    · cases hv
  have hat : ∀ n, w.cell? ⟨blk, off + n, none⟩ = arr[off + n]? := fun n => by unfold World.cell?; simp [harr]
  obtain ⟨css, g1, g2, kin, ds, hds, g3⟩ := decs_row (w := w) (n0 := n0) (base := base) (fun i hi => hd i (Nat.lt_of_lt_of_le hi hlc)) len 0 (by omega)
  have hcl : ∀ c ∈ css, c.length = sz := by
    intro c hc
    obtain ⟨q, hq⟩ := List.getElem?_of_mem hc
    have hql : q < len := by have := (List.getElem?_eq_some_iff.1 hq).1; omega
    obtain ⟨cs', h1, h2⟩ := g2 q hql
    rw [hq] at h1; cases h1
    exact (World.cells?_some h2).2.1
  have hfl : css.flatten.length = len * sz := by rw [flat_len hcl, g1]
  have hget : ∀ j v, css.flatten[j]? = some v → arr[off + j]? = some v := by
    intro j v hj
    have hjl : j < len * sz := by have := (List.getElem?_eq_some_iff.1 hj).1; omega
    have hp : j % sz < sz := Nat.mod_lt _ (by omega)
    have hq : j / sz < len := Nat.div_lt_of_lt_mul (by rw [Nat.mul_comm]; exact hjl)
    have hj' : j / sz * sz + j % sz = j := Nat.div_add_mod' j sz
    rw [← hj', flat_get hcl _ _ hp] at hj
    obtain ⟨cs', h1, h2⟩ := g2 _ hq
    rw [h1] at hj
    obtain ⟨_, _, h3⟩ := World.cells?_some h2
    have h4 := h3 _ hp
    rw [Nat.zero_add, lit_add, lit_add, Nat.add_assoc, hj', hat] at h4
    rw [h4]; exact hj
  have hle : off + len * sz ≤ arr.size := by
    rcases Nat.eq_zero_or_pos (len * sz) with h0 | h0
    · obtain ⟨v, hv⟩ := hcell 0 (by omega) 0 (by omega)
      have h00 := hat 0
      rw [Nat.add_zero] at h00
      simp only [lit_add, Nat.zero_mul, Nat.add_zero] at hv
      rw [h00] at hv
      have := (Array.getElem?_eq_some_iff.1 hv).1
      omega
    · obtain ⟨v, hv⟩ : ∃ v, css.flatten[len * sz - 1]? = some v := ⟨_, List.getElem?_eq_getElem (by omega)⟩
      have := (Array.getElem?_eq_some_iff.1 (hget _ _ hv)).1
      omega
  rw [List.length_replicate] at hds
  refine ⟨kin + 1, .list ds, fun st => ?_⟩
  obtain ⟨ess, bs, b1, b2, b3⟩ := g3 (st + 1)
  let B : InB := ⟨blk, off, arr.size, sz, ess.flatten⟩
  refine ⟨[.slice (n0 + st) 0 len none], B :: bs, by simp [b1], rfl, fun all hp => ?_⟩
  have hB : all[st]? = some B := by have := hp 0 (by simp); simpa using this
  obtain ⟨c1, c2, c3, c4⟩ := b3 all (by have := Put.right (bs := [B]) hp; simpa using this)
  refine ⟨.cons (in_slice hB rfl rfl hlc fun _ => rfl) .nil, by simp [Value.oneCell'], fun i C hC => ?_, ?_⟩
  · cases i with
    | succ i => exact c3 i C (by simpa using hC)
    | zero =>
      simp at hC; subst hC
      refine ⟨arr, ty, fz, harr, rfl, by show off + ess.flatten.length ≤ arr.size; omega, fun j v hj => ?_⟩
      obtain ⟨v', h1, h2⟩ := c1.get j v hj
      exact ⟨v', hget j v' h1, h2, c2 v' (List.mem_of_getElem? h1)⟩
  · have h1 := inMem_at (n0 := n0) hB
    have h2 := Rep.slice (m := inMem n0 all) (e := e) (b := n0 + st) (s := s) (ds := ds) (Nat.le_trans (Nat.le_of_eq hds) (Nat.le_trans hlc hcm)) h1 (by rw [hds]; exact c4)
    rw [hds] at h2
    exact h2
theorem dec_all (n0 : Nat) : ∀ (K : Nat) (sh : Sh) (t : TypeId) (fuel : Nat) (cs : List Value) (x : DataW H × List MemPlace), shOk P K sh t = true → DataW.trod enc P w base (fun _ => true) held fuel t cs = some x → Dec w n0 sh cs
  | 0, _, _, _, _, _, h, _ => by simp [shOk] at h
  | K + 1, sh, t, fuel, cs, x, h, hx => by
    simp only [shOk] at h
    split at h
    · rename_i k k' hu
      obtain rfl := kindNo_inj h
      obtain ⟨n, rfl, _, hw⟩ := DataW.trod_int hu hx
      exact ⟨0, .int n, fun s => ⟨[.int k n], [], rfl, rfl, fun all _ => ⟨.cons (.int _ _) .nil, by simp [Value.oneCell'], by simp, .int hw⟩⟩⟩
    · rename_i hu
      obtain ⟨b, rfl, _⟩ := DataW.trod_bool hu hx
      exact ⟨0, .bool b, fun s => ⟨[.bool b], [], rfl, rfl, fun all _ => ⟨.cons (.bool _) .nil, by simp [Value.oneCell'], by simp, .bool b⟩⟩⟩
    · rename_i hu
      obtain ⟨b, rfl, _, hm⟩ := DataW.trod_string hu hx
      exact ⟨0, .str b.data.toList, fun s => ⟨[.str b.data.toList], [], rfl, rfl, fun all _ => ⟨.cons (.str _) .nil, by simp [Value.oneCell'], by simp, .str (by simpa using hm)⟩⟩⟩
    · rename_i e esz s e' hu
      simp only [Bool.and_eq_true] at h
      obtain ⟨h1, h2, h3, h4⟩ := h
      have := of_beq h1; subst this
      have := of_beq h2; subst this
      have hpos : 1 ≤ P.cellsOf e := Nat.le_of_ble_eq_true h3
      rcases open_slice hu hx with ⟨rfl, _⟩ | ⟨a, len, cap, m, n, D, Pl, rfl, hb, hlc, hcm, hm, _, hel⟩
      · exact ⟨0, .list [], fun s => ⟨[.nilslice], [], rfl, rfl, fun all _ => ⟨.cons .nilslice .nil, by simp [Value.oneCell'], by simp, .nil⟩⟩⟩
      · simp only [if_true] at hm
        subst hm
        by_cases hc0 : m = 0
        · subst hc0
          obtain rfl : len = 0 := by omega
          exact ⟨0, .list [], fun s => ⟨[.slice 0 0 0 (some 0)], [], rfl, rfl, fun all _ => ⟨.cons .sliceE .nil, by simp [Value.oneCell'], by simp, .empty⟩⟩⟩
        · exact dec_slice hpos hlc hcm hc0 fun i hi => by
            obtain ⟨cs', h5, h6⟩ := hel i hi
            exact ⟨cs', h5, dec_all n0 K s e n cs' _ h4 h6⟩
    · rename_i l gs hu
      obtain ⟨xs, n, _, _, hlen, hxl, hf⟩ := DataW.trod_struct hu hx
      rw [← hlen] at h
      have hD := decs_fields (w := w) (n0 := n0) (cs := cs) l gs.toList 0 cs.length h fun s g hg hok => by
        obtain ⟨i, hi⟩ := List.getElem?_of_mem hg
        have hi' : gs[i]? = some g := by simpa using hi
        have hlt : i < xs.length := by have := (Array.getElem?_eq_some_iff.1 hi').1; omega
        have h1 := hf i g hi'
        rw [List.getElem?_eq_getElem hlt] at h1
        exact dec_all n0 K s g.type n _ _ hok h1
      have hfl := fields_flat l gs.toList 0 h (Nat.zero_le _)
      rw [List.drop_zero] at hfl
      obtain ⟨k, ds, _, hs⟩ := hD
      refine ⟨k, .tup ds, fun s => ?_⟩
      obtain ⟨ess, bs, h1, h2, h3⟩ := hs s
      rw [← hfl] at h2 h3
      refine ⟨ess.flatten, bs, h1, h2, fun all hp => ?_⟩
      obtain ⟨c1, c2, c3, c4⟩ := h3 all hp
      exact ⟨c1, c2, c3, .struct c4⟩
    · cases h

/-! ### Arguments -/
/-- An argument: a struct's cells together. -/
def RepV (m : Mem) (sh : Sh) (e : EV) (d : Dt) : Prop := match sh with
  | .struct l => ∃ cs, e = .agg cs ∧ Rep m (.struct l) cs d
  | sh => Rep m sh [e] d
inductive RepVs (m : Mem) : List Sh → List EV → List Dt → Prop
  | nil : RepVs m [] [] []
  | cons {s : Sh} {e : EV} {d : Dt} {shs : List Sh} {es : List EV} {ds : List Dt} (h : RepV m s e d) (hs : RepVs m shs es ds) : RepVs m (s :: shs) (e :: es) (d :: ds)
def DecV (w : World) (n0 : Nat) (sh : Sh) (v : Value) : Prop :=
  ∃ (k : Nat) (d : Dt), ∀ s, ∃ (e : EV) (bs : List InB), bs.length = k ∧ ∀ all, Put all s bs →
    VR (inRen n0 all) e v ∧ (∀ (i : Nat) (B : InB), bs[i]? = some B → BOk w (inRen n0 all) B) ∧ RepV (inMem n0 all) sh e d
def DecVs (w : World) (n0 : Nat) (shs : List Sh) (vs : List Value) : Prop :=
  ∃ (k : Nat) (ds : List Dt), ∀ s, ∃ (es : List EV) (bs : List InB), bs.length = k ∧ ∀ all, Put all s bs →
    VRs (inRen n0 all) es vs ∧ (∀ (i : Nat) (B : InB), bs[i]? = some B → BOk w (inRen n0 all) B) ∧ RepVs (inMem n0 all) shs es ds
theorem DecVs.nil : DecVs w n0 [] [] := ⟨0, [], fun s => ⟨[], [], rfl, fun all _ => ⟨.nil, by simp, .nil⟩⟩⟩
theorem DecVs.cons {sh : Sh} {v : Value} {shs : List Sh} {vs : List Value} (h : DecV w n0 sh v) (hs : DecVs w n0 shs vs) : DecVs w n0 (sh :: shs) (v :: vs) := by
  obtain ⟨k, d, h⟩ := h
  obtain ⟨k2, ds, hs⟩ := hs
  refine ⟨k + k2, d :: ds, fun s => ?_⟩
  obtain ⟨e, bs, h1, h3⟩ := h s
  obtain ⟨es, bs2, g1, g3⟩ := hs (s + k)
  refine ⟨e :: es, bs ++ bs2, by simp [h1, g1], fun all hp => ?_⟩
  obtain ⟨a1, a3, a4⟩ := h3 all hp.left
  obtain ⟨b1, b3, b4⟩ := g3 all (by rw [← h1]; exact hp.right)
  refine ⟨.cons a1 b1, ?_, .cons a4 b4⟩
  intro i B hB
  by_cases hi : i < bs.length
  · rw [List.getElem?_append_left hi] at hB; exact a3 i B hB
  · rw [List.getElem?_append_right (by omega)] at hB; exact b3 _ B hB
theorem Dec.one {sh : Sh} {v : Value} (hn : ∀ l, sh ≠ .struct l) (h : Dec w n0 sh [v]) : DecV w n0 sh v := by
  obtain ⟨k, d, h⟩ := h
  refine ⟨k, d, fun s => ?_⟩
  obtain ⟨es, bs, h1, h2, h3⟩ := h s
  obtain ⟨e, rfl⟩ : ∃ e, es = [e] := by
    match es, h2 with
    | [e], _ => exact ⟨e, rfl⟩
  refine ⟨e, bs, h1, fun all hp => ?_⟩
  obtain ⟨c1, c2, c3, c4⟩ := h3 all hp
  cases c1 with
  | cons hv _ =>
  refine ⟨hv, c3, ?_⟩
  unfold RepV
  cases sh with
  | struct l => exact absurd rfl (hn l)
  | _ => exact c4
theorem Dec.agg {l : List Sh} {cs : Array Value} (h : Dec w n0 (.struct l) cs.toList) : DecV w n0 (.struct l) (.agg cs) := by
  obtain ⟨k, d, h⟩ := h
  refine ⟨k, d, fun s => ?_⟩
  obtain ⟨es, bs, h1, h2, h3⟩ := h s
  refine ⟨.agg es, bs, h1, fun all hp => ?_⟩
  obtain ⟨c1, c2, c3, c4⟩ := h3 all hp
  exact ⟨.agg c1 c2, c3, es, rfl, c4⟩
theorem dec_val {K : Nat} {sh : Sh} {t : TypeId} {v : Value} {r : Go.Reach} {b0 : Nat} {d : DataW H} {p : List MemPlace} (h : shOk P K sh t = true) (hval : Value.okWide P w r b0 t v) (hx : DataW.Trod enc P w base (fun _ => true) held t v d p) : DecV w n0 sh v := by
  obtain ⟨fuel, hf⟩ := hx
  have hD := dec_all (w := w) n0 K sh t fuel _ _ h hf
  cases K with
  | zero => simp [shOk] at h
  | succ K =>
  simp only [shOk] at h
  split at h
  · rename_i k k' hu
    refine Dec.one (by intro l e; cases e) ?_
    simp only [Value.okWide, hu, Cell.okWide] at hval
    cases v <;> simp only [Cell.ok, hu] at hval
    exact hD
  · rename_i hu
    refine Dec.one (by intro l e; cases e) ?_
    simp only [Value.okWide, hu, Cell.okWide] at hval
    cases v <;> simp only [Cell.ok, hu] at hval
    exact hD
  · rename_i hu
    refine Dec.one (by intro l e; cases e) ?_
    simp only [Value.okWide, hu, Cell.okWide] at hval
    cases v <;> simp only [Cell.ok, hu] at hval
    exact hD
  · rename_i e esz s e' hu
    refine Dec.one (by intro l e; cases e) ?_
    simp only [Value.okWide, hu, Cell.okWide] at hval
    cases v <;> simp only [Cell.ok, hu] at hval
    exact hD
  · rename_i l gs hu
    simp only [Value.okWide, hu] at hval
    obtain ⟨cs, rfl, _, _⟩ := hval
    exact Dec.agg hD
  · cases h
/-- All arguments, in a memory that is only read. -/
theorem args_in {shs : List Sh} {vs : List Value} (h : DecVs w n0 shs vs) : ∃ (bs : List InB) (es : List EV) (ds : List Dt), InOk w n0 bs ∧ VRs (inRen n0 bs) es vs ∧ RepVs (inMem n0 bs) shs es ds := by
  obtain ⟨k, ds, h⟩ := h
  obtain ⟨es, bs, h1, h2⟩ := h 0
  obtain ⟨c1, c2, c3⟩ := h2 bs (fun i _ => by rw [Nat.zero_add])
  exact ⟨bs, es, ds, c2, c1, c3⟩
theorem wf_i64 {n : Int} (h : (Lit.int .i64 n).wf = true) : -9223372036854775808 ≤ n ∧ n < 9223372036854775808 := by
  simp [Lit.wf, IntKind.min, IntKind.max, IntKind.signed, IntKind.bits] at h; omega
theorem wf_u8 {n : Int} (h : (Lit.int .u8 n).wf = true) : 0 ≤ n ∧ n < 256 := by
  simp [Lit.wf, IntKind.min, IntKind.max, IntKind.signed, IntKind.bits] at h; omega
theorem wf_u16 {n : Int} (h : (Lit.int .u16 n).wf = true) : 0 ≤ n ∧ n < 65536 := by
  simp [Lit.wf, IntKind.min, IntKind.max, IntKind.signed, IntKind.bits] at h; omega
theorem in_int {m : Mem} {k : IntKind} {e : EV} {d : Dt} (h : RepV m (.int k) e d) : ∃ n, e = .int k n ∧ d = .int n ∧ (Lit.int k n).wf = true := by
  unfold RepV at h; cases h with | int hw => exact ⟨_, rfl, rfl, hw⟩
theorem in_bool {m : Mem} {e : EV} {d : Dt} (h : RepV m .bool e d) : ∃ b, e = .bool b ∧ d = .bool b := by
  unfold RepV at h; cases h with | bool b => exact ⟨b, rfl, rfl⟩
theorem in_str {m : Mem} {e : EV} {d : Dt} (h : RepV m .str e d) : ∃ s, e = .str s ∧ d = .str s ∧ s.length ≤ maxLen := by
  unfold RepV at h; cases h with | str hl => exact ⟨_, rfl, rfl, hl⟩
theorem RepVs.one {m : Mem} {s : Sh} {shs : List Sh} {es : List EV} {ds : List Dt} (h : RepVs m (s :: shs) es ds) : ∃ e d es' ds', es = e :: es' ∧ ds = d :: ds' ∧ RepV m s e d ∧ RepVs m shs es' ds' := by
  cases h with | cons h hs => exact ⟨_, _, _, _, rfl, rfl, h, hs⟩
theorem RepVs.none {m : Mem} {es : List EV} {ds : List Dt} (h : RepVs m [] es ds) : es = [] ∧ ds = [] := by
  cases h; exact ⟨rfl, rfl⟩
end
end Go.Proofs.Ythlbifjgnhdonaa.Ev
