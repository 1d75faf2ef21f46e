/- Append and copy: what the evaluator does, the model does. -/
import Derived.Test.YthlbifjgnhdonaaEvOpE
namespace Go.Proofs.Ythlbifjgnhdonaa.Ev
open Go
section
variable {base : Nat} {ρ : Ren} {m : Mem} {w : World} {P : Program}

theorem growBy_le (need : Nat) : ∀ r c, c < need → Builtin.growBy need r c ≤ 2 * need + 768
  | 0, c, h => by simp [Builtin.growBy]; omega
  | r + 1, c, h => by
    simp only [Builtin.growBy]
    rw [if_neg (by omega)]
    by_cases h2 : c + (c + 768) / 4 < need
    · exact growBy_le need r _ h2
    · cases r with
      | zero => simp [Builtin.growBy]; omega
      | succ r => simp only [Builtin.growBy]; rw [if_pos (by omega)]; omega
theorem nextcap_le {need old : Nat} (h : old < need) : Builtin.nextslicecap need old ≤ 2 * need + 768 := by
  unfold Builtin.nextslicecap
  split
  · omega
  · split
    · omega
    · exact growBy_le need 4 old h

/-- What is appended or copied. -/
theorem source_sound (hR : R base ρ m w) {x : EV} {x' : Value} (hx : VR ρ x x') (size : Nat) {n : Nat} {xs : List EV} (h : m.source size x = some (n, xs)) :
    (Builtin.lenOf x').run P w = .ok n w ∧ xs.length = n * size ∧ ∀ k, k ≤ n → ∃ vs : List Value, (Builtin.firstCells size k x').run P w = .ok ⟨vs⟩ w ∧ VRs ρ (xs.take (k * size)) vs ∧ (∀ c ∈ vs, c.oneCell' = true) := by
  cases x <;> simp only [Mem.source, reduceCtorEq, Option.some.injEq, Prod.mk.injEq] at h
  case nilslice =>
    obtain ⟨rfl, rfl⟩ := h
    cases hx
    refine ⟨rfl, by simp, fun k hk => ⟨[], ?_, by simpa using VRs.nil, by simp⟩⟩
    rfl
  case str s =>
    cases hsz : size.beq 1 <;> simp only [hsz, cond_true, cond_false, reduceCtorEq, Option.some.injEq, Prod.mk.injEq] at h
    obtain ⟨rfl, rfl⟩ := h
    obtain rfl := of_beq hsz
    cases hx with
    | str s' =>
    refine ⟨rfl, by simp, fun k hk => ⟨(s'.data.toList.take k).map fun b => .int .u8 (b.toNat : Int), ?_, ?_, ?_⟩⟩
    · simp only [Builtin.firstCells, Sem.run_pure]
      congr 1
      apply Array.ext'
      simp
    · rw [Nat.mul_one, ← List.map_take]
      exact VRs.map_of _ _ (R := fun a b => a = b) (fun a b e => by subst e; exact .int _ _) rfl fun i a b h1 h2 => by rw [h1] at h2; cases h2; rfl
    · intro c hc
      obtain ⟨b, _, rfl⟩ := List.mem_map.1 hc
      rfl
  case slice b off len cap =>
    obtain ⟨cs, hcs, h2⟩ := Option.map_eq_some_iff.1 h
    cases h2
    refine ⟨by cases hx <;> rfl, row_le hcs, fun k hk => ?_⟩
    have hk' : k * size ≤ n * size := Nat.mul_le_mul_right _ hk
    have hrow : m.row b off (k * size) = some (xs.take (k * size)) := by
      by_cases hk0 : k * size = 0
      · rw [hk0, Mem.row_none]; simp
      rw [Mem.row_pos hk0]
      rw [Mem.row_pos (by omega)] at hcs
      unfold Mem.row1 at hcs ⊢
      split at hcs
      · rename_i ds _ _ _ hg
        cases hl : (off + n * size).ble ds.length <;> simp only [hl, cond_true, cond_false, reduceCtorEq, Option.some.injEq] at hcs
        have := Nat.le_of_ble_eq_true hl
        have h3 : (off + k * size).ble ds.length = true := Nat.ble_eq_true_of_le (by omega)
        simp only [h3, cond_true]
        subst hcs
        rw [List.take_take, Nat.min_eq_left hk']
      · cases hcs
    obtain ⟨a, c, vs, rfl, h3, h4, h5, h6⟩ := slice_cells (P := P) hR hx size hk hrow
    exact ⟨vs, by simpa [Builtin.firstCells] using h3, h4, h5⟩

/-- A block that is given up. -/
theorem kill (hR : R base ρ m w) {b : Nat} {L : Loc} (hb : ρ b = some L) : R base ρ (m.set b .dead) w ∧ Step ρ m w ρ (m.set b .dead) w := by
  have hl : ∀ c, Live (m.set b .dead) c → c ≠ b ∧ Live m c := by
    intro c hc
    unfold Live at hc ⊢
    rw [Mem.get_set] at hc
    by_cases e : c = b
    · rw [if_pos e] at hc; exact absurd rfl hc
    · rw [if_neg e] at hc; exact ⟨e, hc⟩
  refine ⟨⟨hR.lt, fun c M hM => ?_, fun c d M M' hM hM' h1 h2 h3 h4 => hR.inj c d M M' hM hM' (hl c h1).2 (hl d h2).2 h3 h4, hR.base, fun c hc => by rw [Mem.get_set]; split <;> first | rfl | exact hR.clean c hc⟩, ⟨.refl ρ, fun _ h h' => absurd h h', Nat.le_refl _, fun c hc hn => ?_, fun c _ hd => by rw [Mem.get_set]; split <;> first | rfl | exact hd, Nat.le_refl _, fun i hi => ?_, fun _ _ _ => rfl, rfl, rfl, rfl⟩⟩
  · rw [Mem.get_set]
    by_cases e : c = b
    · rw [if_pos e]; trivial
    · rw [if_neg e]; exact hR.blk c M hM
  · rw [Mem.get_set, if_neg (fun e => by subst e; rw [hb] at hn; cases hn)]
  · rintro ⟨c, M, hM, h1, h2, h3⟩
    exact ⟨c, M, hM, (hl c h1).2, h2, h3⟩

/-- The grown slice lies where the old one lay: the old name is given up. -/
theorem append_here (hR : R base ρ m w) {b : Nat} {L : Loc} (hb : ρ b = some L) {cs0 : List EV} {el0 : Nat} (hm : m.get b = .cells cs0 L.esz el0 false) {o len n c : Nat} {old xs : List EV} {xs' : List Value} (elem : Nat)
    (hold : ∀ (i : Nat) (v : EV), old[i]? = some v → cs0[o - L.off + i]? = some v ∧ L.off ≤ o) (hol : old.length = len * L.esz) (hxl : xs.length = n * L.esz) (hcap : len + n ≤ c) (hr : o + c * L.esz ≤ L.total)
    (hx : VRs ρ xs xs') (hf : ∀ c ∈ xs', c.oneCell' = true) :
    ∃ (w' : World) (L' : Loc), (storeCells ⟨L.blk, o + len * L.esz, none⟩ xs').run P w = .ok () w' ∧ L'.blk = L.blk ∧ L'.off = o ∧ L'.total = L.total ∧ L'.esz = L.esz ∧ L'.ro = false ∧
      R base (ρ.put m.next L') ((m.new (.cells (old ++ xs) L.esz elem false)).set b .dead) w' ∧ Step ρ m w (ρ.put m.next L') ((m.new (.cells (old ++ xs) L.esz elem false)).set b .dead) w' := by
  have hB := hR.blk b L hb
  rw [hm] at hB
  obtain ⟨arr, e, fz, h1, h2, h3, h4, h5, h6, h7, h8⟩ := hB
  obtain ⟨hbase, hfree⟩ := h7 rfl
  have hxl' := hx.length
  have hcm : len * L.esz + n * L.esz ≤ c * L.esz := by rw [← Nat.add_mul]; exact Nat.mul_le_mul_right _ hcap
  obtain ⟨w', arr', r1, r2, r3, r4, r5, r6, r7, r8, r9⟩ := storeCells_run (P := P) (o := o + len * L.esz) xs' 0 w arr h1 (by omega) hfree hf
  let L' : Loc := ⟨L.blk, o, L.total, L.esz, false⟩
  have hLo : L'.off = o := rfl
  have hn := hR.nnone
  have he := Ren.ext_put L' hn
  have hlv : Live m b := by unfold Live; rw [hm]; simp
  have hbn : b ≠ m.next := by have := hR.lt b L hb; omega
  let m' := (m.new (.cells (old ++ xs) L.esz elem false)).set b .dead
  have get_new : m'.get m.next = .cells (old ++ xs) L.esz elem false := by
    show Mem.get (Mem.set _ _ _) _ = _
    rw [Mem.get_set, if_neg (Ne.symm hbn), Mem.get_new, if_pos rfl]
  have get_b : m'.get b = .dead := by
    show Mem.get (Mem.set _ _ _) _ = _
    rw [Mem.get_set, if_pos rfl]
  have get_old : ∀ d, d ≠ m.next → d ≠ b → m'.get d = m.get d := fun d hd hd' => by
    show Mem.get (Mem.set _ _ _) _ = _
    rw [Mem.get_set, if_neg hd', Mem.get_new, if_neg hd]
  have live_old : ∀ d, d ≠ m.next → Live m' d → d ≠ b ∧ Live m d := by
    intro d hd hl
    have hdb : d ≠ b := fun e => by subst e; exact hl get_b
    exact ⟨hdb, by unfold Live at hl ⊢; rwa [get_old d hd hdb] at hl⟩
  refine ⟨w', L', r1, rfl, rfl, rfl, rfl, rfl, ⟨?_, ?_, ?_, ?_, fun d hd => by have hd : m.next + 1 ≤ d := hd; have := hR.lt b L hb; rw [get_old d (by omega) (by omega)]; exact hR.clean d (by omega)⟩, ⟨he, ?_, ?_, ?_, fun d hd hdd => (Classical.em (d = b)).elim (fun e => by rw [e]; exact get_b) (fun e => by have hdn : d ≠ m.next := Nat.ne_of_lt hd; exact (get_old d hdn e).trans hdd), by omega, ?_, ?_, r7, r8, r9⟩⟩
  · intro d M hM
    show d < m.next + 1
    unfold Ren.put at hM
    by_cases e : d = m.next
    · omega
    · rw [if_neg e] at hM; have := hR.lt d M hM; omega
  · intro d M hM
    unfold Ren.put at hM
    by_cases e : d = m.next
    · rw [if_pos e] at hM; cases hM
      subst e
      show BlkR base _ (m'.get m.next) _ _
      rw [get_new]
      refine ⟨arr', _, fz, r2, r3.trans h2, rfl, rfl, by rw [hLo, List.length_append]; show _ ≤ L.total; omega, ?_, fun _ => ⟨hbase, by rw [r3]; exact hfree⟩, by simp⟩
      intro i v hi
      rw [r4]
      by_cases hlt : i < old.length
      · rw [List.getElem?_append_left hlt] at hi
        obtain ⟨g0, g1⟩ := hold i v hi
        obtain ⟨v', k1, k2, k3⟩ := h6 _ v g0
        rw [if_neg (by rw [hLo]; omega)]
        refine ⟨v', ?_, k2.ext he, k3⟩
        rw [show L'.off + i = L.off + (o - L.off + i) by rw [hLo]; omega]
        exact k1
      · rw [List.getElem?_append_right (by omega)] at hi
        obtain ⟨v', k1, k2⟩ := hx.get _ v hi
        have hlt2 : i - old.length < xs'.length := (List.getElem?_eq_some_iff.1 k1).1
        rw [if_pos (by rw [hLo]; omega)]
        refine ⟨v', ?_, k2.ext he, hf v' (List.mem_of_getElem? k1)⟩
        rw [← k1]; congr 1; rw [hLo]; omega
    · rw [if_neg e] at hM
      show BlkR base _ (m'.get d) _ _
      by_cases hd : d = b
      · subst hd; rw [get_b]; trivial
      · rw [get_old d e hd]
        by_cases hl : m.get d = .dead
        · rw [hl]; trivial
        · have hne : M.blk ≠ L.blk := fun heq => hd (hR.inj b d L M hb hM hlv hl (by rw [h4]) heq.symm).symm
          exact (hR.blk d M hM).of_heap he (r5 _ hne)
  · intro d f M M' hM hM' hl hl' hro heq
    unfold Ren.put at hM hM'
    by_cases e : d = m.next <;> by_cases e' : f = m.next
    · rw [e, e']
    · rw [if_pos e] at hM; cases hM
      rw [if_neg e'] at hM'
      obtain ⟨q1, q2⟩ := live_old f e' hl'
      exact absurd (hR.inj b f L M' hb hM' hlv q2 (by rw [h4]) heq).symm q1
    · rw [if_pos e'] at hM'; cases hM'
      rw [if_neg e] at hM
      obtain ⟨q1, q2⟩ := live_old d e hl
      exact absurd (hR.inj d b M L hM hb q2 hlv hro heq) q1
    · rw [if_neg e] at hM; rw [if_neg e'] at hM'
      exact hR.inj d f M M' hM hM' (live_old d e hl).2 (live_old f e' hl').2 hro heq
  · rw [r6]; exact hR.base
  · intro d hd1 hd2
    unfold Ren.put at hd2
    by_cases e : d = m.next
    · omega
    · rw [if_neg e] at hd2; exact absurd hd1 hd2
  · show m.next ≤ m.next + 1; omega
  · intro d hd hnone
    exact get_old d (by omega) (fun e => by subst e; rw [hb] at hnone; cases hnone)
  · rintro i hi ⟨d, M, hM, hl, hro, heq⟩
    unfold Ren.put at hM
    by_cases e : d = m.next
    · rw [if_pos e] at hM; cases hM
      exact ⟨b, L, hb, hlv, by rw [h4], heq⟩
    · rw [if_neg e] at hM
      exact ⟨d, M, hM, (live_old d e hl).2, hro, heq⟩
  · intro i hi hr
    exact r5 i (fun e => hr ⟨b, L, hb, hlv, by rw [h4], e.symm⟩)

theorem zeroCells_size (z : Array Value) (n : Nat) : (Builtin.zeroCells z n).size = n * z.size := by simp [Builtin.zeroCells]
/-- A new row that takes old and new cells. -/
theorem grow_run {t u e : TypeId} {du : TypeDesc} {i : TypeInfo} (ht : P.underlying t = some (.slice e)) (hu : P.underlying u = some du) (hdu : (∃ v, du = .slice v) ∨ du = .string) (hi : P.info? e = some i) {zv : Value} (hz : ∀ w, (zeroValue e).run P w = .ok zv w)
    (hzs : zv.cells.size = i.size) (hb : i.bytes ≤ 65536) {a : Option Addr} {len cap n : Nat} {x' : Value} {old xs : List Value} (hn : (Builtin.lenOf x').run P w = .ok n w) (hgrow : cap < len + n) (hroom : len + n ≤ room)
    (hold : (Builtin.firstCells i.size len (.slice a len cap)).run P { w with drawn := w.drawn + 1 } = .ok ⟨old⟩ { w with drawn := w.drawn + 1 }) (hnew : (Builtin.firstCells i.size n x').run P { w with drawn := w.drawn + 1 } = .ok ⟨xs⟩ { w with drawn := w.drawn + 1 }) :
    ∃ (w' : World) (c : Nat) (extra : List Value), (Builtin.append_ #[t, u] t #[.slice a len cap, x']).run P w = .ok (.slice (some ⟨w.heap.size, 0, none⟩) (len + n) c) w' ∧ len + n ≤ c ∧ extra.length = (c - (len + n)) * i.size ∧
      Grew w (.cells ⟨(old ++ xs) ++ extra⟩ e (0, 0)) w' := by
  have hs : cSize P e = some i.size := by simp [cSize, hi]
  let q : Question := .appendCap (len + n) cap e
  let c := q.cut (w.tape w.drawn q)
  have hc : len + n ≤ c := Nat.le_add_right _ _
  refine ⟨{ w with drawn := w.drawn + 1, heap := w.heap.push (.cells (⟨old⟩ ++ ⟨xs⟩ ++ Builtin.zeroCells zv.cells (c - (len + n))) e) }, c, (Builtin.zeroCells zv.cells (c - (len + n))).toList, ?_, hc, by simp [zeroCells_size, hzs], ⟨by simp [← Array.toList_inj], rfl, rfl, rfl⟩⟩
  have hnc := nextcap_le hgrow
  unfold room at hroom
  have hbig : ¬ Builtin.nextslicecap (len + n) cap * i.bytes > 2 ^ 48 := by
    have h1 : Builtin.nextslicecap (len + n) cap * i.bytes ≤ (2 * 1073741824 + 768) * 65536 := Nat.mul_le_mul (by omega) hb
    omega
  rcases hdu with ⟨v, rfl⟩ | rfl
  all_goals
    unfold Builtin.append_
    simp only [List.getElem?_toArray, List.getElem?_cons_zero, List.getElem?_cons_succ, Sem.run_bind, run_underlying ht, Result.andThen_ok, run_sizeOf' hs, run_underlying hu, Sem.run_pure, Bool.false_eq_true, if_false, Bool.not_false, if_true, hn]
    rw [if_neg (by omega)]
    simp only [Sem.run_bind, run_typeInfo hi, Result.andThen_ok]
    rw [if_neg (by simp only [IntKind.max_i64]; omega)]
    simp only [Sem.run_bind, run_typeInfo hi, Result.andThen_ok]
    rw [if_neg hbig]
    simp only [Sem.run_bind, run_choose]
    rw [show (Question.appendCap (len + n) cap e).forced = false from rfl]
    simp only [Bool.false_eq_true, if_false, Result.andThen_ok, run_askRoom, run_typeInfo hi]
    rw [hold]
    simp only [Result.andThen_ok]
    rw [hnew]
    simp only [Result.andThen_ok, hz, Sem.run_pure, newRow, Sem.run_bind, run_newObj]
    rfl
/-- What is appended fits, or is nothing. -/
theorem fits_run {t u e : TypeId} {du : TypeDesc} {size : Nat} (ht : P.underlying t = some (.slice e)) (hu : P.underlying u = some du) (hdu : (∃ v, du = .slice v) ∨ du = .string) (hs : cSize P e = some size)
    {a : Option Addr} {len cap n : Nat} {x' : Value} {xs : List Value} (hn : (Builtin.lenOf x').run P w = .ok n w) (hfit : len + n ≤ cap) (hnew : (Builtin.firstCells size n x').run P w = .ok ⟨xs⟩ w) :
    (Builtin.append_ #[t, u] t #[.slice a len cap, x']).run P w = (match a with | some b => (storeCells (b.add (len * size)) xs).run P w | none => .ok () w : Result Unit).andThen fun _ w' => .ok (.slice a (len + n) cap) w' := by
  rcases hdu with ⟨v, rfl⟩ | rfl
  all_goals
    unfold Builtin.append_
    simp only [List.getElem?_toArray, List.getElem?_cons_zero, List.getElem?_cons_succ, Sem.run_bind, run_underlying ht, Result.andThen_ok, run_sizeOf' hs, run_underlying hu, Sem.run_pure, Bool.false_eq_true, if_false, Bool.not_false, if_true, hn]
    rw [if_pos hfit]
    simp only [Sem.run_bind, hnew, Result.andThen_ok]
    cases a <;> simp
theorem quiet_drawn (w : World) : Quiet w { w with drawn := w.drawn + 1 } := ⟨rfl, rfl, rfl, rfl⟩
theorem rowsource_len {x : EV} {n : Nat} {xs : List EV} {esz : Nat} (h : m.source esz x = some (n, xs)) : xs.length = n * esz := by
  cases x <;> simp only [Mem.source, reduceCtorEq, Option.some.injEq, Prod.mk.injEq] at h
  case nilslice => obtain ⟨rfl, rfl⟩ := h; simp
  case str s =>
    cases hsz : esz.beq 1 <;> simp only [hsz, cond_true, cond_false, reduceCtorEq, Option.some.injEq, Prod.mk.injEq] at h
    obtain ⟨rfl, rfl⟩ := h
    obtain rfl := of_beq hsz
    simp
  case slice b off len cap =>
    obtain ⟨cs, hcs, h2⟩ := Option.map_eq_some_iff.1 h
    cases h2
    exact row_le hcs
/-- The row that is made behind a growing append. -/
theorem grow_sound (hR : R base ρ m w) {t u e : TypeId} {du : TypeDesc} {i : TypeInfo} {z : List EV} (ht : P.underlying t = some (.slice e)) (hu : P.underlying u = some du) (hdu : (∃ v, du = .slice v) ∨ du = .string) (hi : P.info? e = some i)
    (hz : cZeros P e = some z) (hzs : z.length = i.size) (hb : i.bytes ≤ 65536) {a : Option Addr} {len cap n : Nat} {x : EV} {x' : Value} (hx : VR ρ x x') {xs : List EV} (hsrc : m.source i.size x = some (n, xs)) (hgrow : cap < len + n) (hroom : len + n ≤ room)
    {old : List EV} {old' : List Value} (hov : VRs ρ old old') (hof : ∀ c ∈ old', c.oneCell' = true) (hol : old.length = len * i.size)
    (hold : (Builtin.firstCells i.size len (.slice a len cap)).run P { w with drawn := w.drawn + 1 } = .ok ⟨old'⟩ { w with drawn := w.drawn + 1 }) :
    Runs P (Builtin.append_ #[t, u] t #[.slice a len cap, x']) base ρ m w (.slice m.next 0 (len + n) none) (m.new (.cells (old ++ xs) i.size e false)) := by
  obtain ⟨zv, z1, z2, _⟩ := zeros_sound (ρ := ρ) hz
  have hzsz : zv.cells.size = i.size := by have := z2.length; simp at this; omega
  obtain ⟨s1, s2, _⟩ := source_sound (P := P) hR hx i.size hsrc
  obtain ⟨_, _, s3⟩ := source_sound (P := P) (hR.quiet (quiet_drawn w)) hx i.size hsrc
  obtain ⟨vs, f1, f2, f3⟩ := s3 n (Nat.le_refl n)
  rw [List.take_of_length_le (by omega)] at f2
  obtain ⟨w', c, extra, g1, g2, g3, g4⟩ := grow_run (P := P) (w := w) ht hu hdu hi z1 hzsz hb s1 hgrow hroom hold f1
  have hcells := hov.append f2
  obtain ⟨L, h1, h2, h3, h4, h5, h6, h7, h8⟩ := newRow_sound hR hcells (fun c hc => by
    rcases List.mem_append.1 hc with hc | hc
    · exact hof c hc
    · exact f3 c hc) i.size e e extra (0, 0) (free_zero _) w' g4
  refine ⟨_, w', _, g1, ?_, h7, h8⟩
  rw [← h2]
  refine .slice h1 g2 (fun _ => by rw [h3]) (fun _ => ?_)
  have hl1 := hov.length
  have hl2 := f2.length
  rw [h5, h4, g3, List.length_append, ← hl1, ← hl2, hol, s2, ← Nat.add_mul, ← Nat.add_mul]
  rw [show len + n + (c - (len + n)) = c by omega]
  simp
theorem append_sound (hR : R base ρ m w) {t u e : TypeId} {du : TypeDesc} {i : TypeInfo} {z : List EV} (ht : P.underlying t = some (.slice e)) (hu : P.underlying u = some du) (hdu : (∃ v, du = .slice v) ∨ du = .string) (hi : P.info? e = some i)
    (hz : cZeros P e = some z) (hzs : z.length = i.size) (hb : i.bytes ≤ 65536) {s x : EV} {s' x' : Value} (hs : VR ρ s s') (hx : VR ρ x x') {v : EV} {m' : Mem} (h : evAppend m e i.size s x = some (v, m')) :
    Runs P (Builtin.append_ #[t, u] t #[s', x']) base ρ m w v m' := by
  have hsz : cSize P e = some i.size := by simp [cSize, hi]
  unfold evAppend at h
  cases hsrc : m.source i.size x with
  | none => simp [hsrc] at h
  | some nx =>
  obtain ⟨n, xs⟩ := nx
  simp only [hsrc] at h
  have hxl := rowsource_len hsrc
  obtain ⟨s1, s2, s3⟩ := source_sound (P := P) hR hx i.size hsrc
  obtain ⟨vs, f1, f2, f3⟩ := s3 n (Nat.le_refl n)
  rw [List.take_of_length_le (by omega)] at f2
  cases hn : n.beq 0 with
  | true =>
    obtain rfl := of_beq hn
    simp only [hn, cond_true] at h
    have hvs : vs = [] := by
      have := f2.length
      rw [hxl] at this
      simp at this
      exact List.eq_nil_of_length_eq_zero this.symm
    subst hvs
    cases hs <;> simp only [reduceCtorEq, Option.some.injEq, Prod.mk.injEq] at h
    case nilslice =>
      obtain ⟨rfl, rfl⟩ := h
      exact ⟨ρ, w, _, by rw [fits_run ht hu hdu hsz s1 (Nat.le_refl _) f1]; rfl, .nilslice, hR, .refl _ _ _⟩
    case slice b off len c o L hL hc ho hr =>
      obtain ⟨rfl, rfl⟩ := h
      exact ⟨ρ, w, _, by rw [fits_run ht hu hdu hsz s1 (by omega) f1]; rfl, .slice hL hc ho hr, hR, .refl _ _ _⟩
    case sliceE b off a =>
      obtain ⟨rfl, rfl⟩ := h
      exact ⟨ρ, w, _, by rw [fits_run ht hu hdu hsz s1 (by omega) f1]; rfl, .sliceE, hR, .refl _ _ _⟩
    case sliceC b off len c o L hL hc ho =>
      obtain ⟨rfl, rfl⟩ := h
      exact ⟨ρ, w, _, by rw [fits_run ht hu hdu hsz s1 (by omega) f1]; rfl, .sliceC hL hc ho, hR, .refl _ _ _⟩
  | false =>
    have hn0 := of_beq_ff hn
    simp only [hn, cond_false] at h
    cases hs <;> simp only [reduceCtorEq] at h
    case nilslice =>
      cases hrm : n.ble room <;> simp only [hrm, cond_true, cond_false, reduceCtorEq, Option.some.injEq, Prod.mk.injEq] at h
      obtain ⟨rfl, rfl⟩ := h
      have hle := Nat.le_of_ble_eq_true hrm
      have := grow_sound (P := P) (a := none) (len := 0) (cap := 0) hR ht hu hdu hi hz hzs hb hx hsrc (by omega) (by omega) (old := []) (old' := []) .nil (by simp) (by simp) rfl
      simpa using this
    case slice b off len c o L hL hc ho hr =>
      cases hrm : (len + n).ble room <;> simp only [hrm, cond_true, cond_false, reduceCtorEq] at h
      have hroom := Nat.le_of_ble_eq_true hrm
      cases hold : m.row b off (len * i.size) with
      | none => simp [hold] at h
      | some old =>
      simp only [hold] at h
      cases hm : m.get b with
      | dead => simp [hm] at h
      | map es => simp [hm] at h
      | cells cs0 esz0 el0 ro0 =>
      simp only [hm] at h
      cases ro0 with
      | true => simp at h
      | false =>
      simp only [] at h
      cases he : esz0.beq i.size <;> simp only [he, cond_true, cond_false, reduceCtorEq, Option.some.injEq, Prod.mk.injEq] at h
      obtain rfl := of_beq he
      obtain ⟨rfl, rfl⟩ := h
      have hes := esz_of hR hL hm
      have hB := hR.blk b L hL
      rw [hm] at hB
      obtain ⟨_, _, _, _, _, _, hro, _⟩ := hB
      by_cases hfit : len + n ≤ c
      · have hrow : ∀ (j : Nat) (v : EV), old[j]? = some v → cs0[o - L.off + j]? = some v ∧ L.off ≤ o := by
          intro j v hj
          have hlt : j < old.length := (List.getElem?_eq_some_iff.1 hj).1
          have hol := row_le hold
          have hlp : 0 < len := by
            rcases Nat.eq_zero_or_pos len with h0 | h0
            · subst h0; simp at hol; subst hol; simp at hlt
            · exact h0
          have ho' := ho hlp
          have hne : len * i.size ≠ 0 := by intro h0; rw [h0] at hol; omega
          rw [Mem.row_pos hne] at hold
          unfold Mem.row1 at hold
          simp only [hm] at hold
          cases hl : (off + len * i.size).ble cs0.length <;> simp only [hl, cond_true, cond_false, reduceCtorEq, Option.some.injEq] at hold
          subst hold
          rw [List.getElem?_take] at hj
          split at hj
          · rw [List.getElem?_drop] at hj
            exact ⟨by rw [show o - L.off + j = off + j by omega]; exact hj, by omega⟩
          · cases hj
        obtain ⟨w', L', a1, a2, a3, a4, a5, a6, a7, a8⟩ := append_here (P := P) hR hL (by rw [hes]; exact hm) e hrow (by rw [hes]; exact row_le hold) (by rw [hes]; exact hxl) hfit (hr hro) f2 f3
        rw [hes] at a1 a7 a8
        refine ⟨_, w', .slice (some ⟨L.blk, o, none⟩) (len + n) c, ?_, ?_, a7, a8⟩
        · rw [fits_run ht hu hdu hsz s1 hfit f1]
          simp only [add_eq, a1, Result.andThen_ok]
        · have hp : (ρ.put m.next L') m.next = some L' := by simp [Ren.put]
          rw [← a2]
          refine .slice hp hfit (fun _ => by rw [a3]; rfl) (fun _ => ?_)
          rw [a5, a4]; exact hr hro
      · obtain ⟨a, c', vs0, e1, e2, e3, e4, e5⟩ := slice_cells (P := P) (hR.quiet (quiet_drawn w)) (.slice hL hc ho hr) i.size (Nat.le_refl len) hold
        cases e1
        obtain ⟨ρ', w', v', g1, g2, g3, g4⟩ := grow_sound (P := P) hR ht hu hdu hi hz hzs hb hx hsrc (a := some ⟨L.blk, o, none⟩) (len := len) (cap := c) (by omega) hroom e3 e4 (row_le hold) (by simpa [Builtin.firstCells] using e2)
        obtain ⟨k1, k2⟩ := kill g3 (g4.ext _ _ hL)
        exact ⟨ρ', w', v', g1, g2, k1, g4.trans k2⟩
    case sliceE b off a =>
      cases hrm : (0 + n).ble room <;> simp only [hrm, cond_true, cond_false, reduceCtorEq] at h
      have hroom := Nat.le_of_ble_eq_true hrm
      cases hold : m.row b off (0 * i.size) with
      | none => rw [hold] at h; cases h
      | some old =>
      rw [hold] at h; simp only at h
      cases hft : (0 + n).ble 0 <;> simp only [hft, cond_true, cond_false, Option.some.injEq, Prod.mk.injEq] at h
      · obtain ⟨rfl, rfl⟩ := h
        have hnf : 0 < 0 + n := by
          rcases Nat.lt_or_ge 0 (0 + n) with h1 | h1
          · exact h1
          · rw [Nat.ble_eq_true_of_le h1] at hft; cases hft
        obtain ⟨a', c', vs0, e1, e2, e3, e4, e5⟩ := slice_cells (P := P) (hR.quiet (quiet_drawn w)) (.sliceE (b := b) (off := off) (a := a)) i.size (Nat.le_refl 0) hold
        cases e1
        exact grow_sound (P := P) hR ht hu hdu hi hz hzs hb hx hsrc (a := some a) (len := 0) (cap := 0) hnf hroom e3 e4 (row_le hold) (by simpa [Builtin.firstCells] using e2)
      · exfalso
        have := Nat.le_of_ble_eq_true hft
        have hn0 : n = 0 := by omega
        simp [hn0] at hn
    case sliceC b off len c o L hL hc ho =>
      cases hrm : (len + n).ble room <;> simp only [hrm, cond_true, cond_false, reduceCtorEq] at h
      have hroom := Nat.le_of_ble_eq_true hrm
      cases hold : m.row b off (len * i.size) with
      | none => simp [hold] at h
      | some old =>
      simp only [hold] at h
      cases hft : (len + n).ble c <;> simp only [hft, cond_true, cond_false, Option.some.injEq, Prod.mk.injEq] at h
      · obtain ⟨rfl, rfl⟩ := h
        have hnf : c < len + n := by
          rcases Nat.lt_or_ge c (len + n) with h1 | h1
          · exact h1
          · rw [Nat.ble_eq_true_of_le h1] at hft; cases hft
        obtain ⟨a, c', vs0, e1, e2, e3, e4, e5⟩ := slice_cells (P := P) (hR.quiet (quiet_drawn w)) (.sliceC hL hc ho) i.size (Nat.le_refl len) hold
        cases e1
        exact grow_sound (P := P) hR ht hu hdu hi hz hzs hb hx hsrc (a := some ⟨L.blk, o, none⟩) (len := len) (cap := c) hnf hroom e3 e4 (row_le hold) (by simpa [Builtin.firstCells] using e2)
      · have hfit := Nat.le_of_ble_eq_true hft
        obtain ⟨m1, hm1, h2⟩ := Option.map_eq_some_iff.1 h
        cases h2
        obtain ⟨w', r1, r2, r3⟩ := write_sound (P := P) hR hL f2 f3 hm1
        refine ⟨ρ, w', .slice (some ⟨L.blk, o, none⟩) (len + n) c, ?_, .sliceC hL hfit ho, r2, r3⟩
        rw [fits_run ht hu hdu hsz s1 hfit f1]
        have : o = L.off + off := ho (by omega)
        subst this
        simp only [add_eq, ← Nat.add_assoc] at r1 ⊢
        simp only [r1, Result.andThen_ok]
end
end Go.Proofs.Ythlbifjgnhdonaa.Ev
