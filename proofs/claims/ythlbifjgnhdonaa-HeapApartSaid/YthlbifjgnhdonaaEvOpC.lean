/- Slices' and strings' parts, places of fields and elements: what the evaluator tells, the model tells. -/
import Derived.Test.YthlbifjgnhdonaaEvOpB
namespace Go.Proofs.Ythlbifjgnhdonaa.Ev
open Go
section
variable {base : Nat} {ρ : Ren} {m : Mem} {w : World} {P : Program}

theorem bound_mono {x : Option EV} {d k k' r : Nat} (hk : k ≤ k') (h : bound x d k = some r) : bound x d k' = some r := by
  unfold bound at *
  split at h
  · exact h
  · rename_i i
    cases hl : i.ble k <;> simp only [hl, cond_true, cond_false, reduceCtorEq, Option.some.injEq] at h
    subst h
    have : i.ble k' = true := Nat.ble_eq_true_of_le (Nat.le_trans (Nat.le_of_ble_eq_true hl) hk)
    simp [this]
  · cases h
/-- The model's part of a slice. -/
def cutV (a : Option Addr) (size l h t : Nat) : Value := .slice (if t = l then a else a.map (·.add (l * size))) (h - l) (t - l)
theorem add_eq (b o n : Nat) : (⟨b, o, none⟩ : Addr).add n = ⟨b, o + n, none⟩ := Addr.add_lit b o n

theorem slice_known {esz b off len c : Nat} {lo hi mx : Option EV} {lo' hi' mx' : Option Value} (hlo : OptR ρ lo lo') (hhi : OptR ρ hi hi') (hmx : OptR ρ mx mx') (hmh : mx'.isSome = true → hi'.isSome = true)
    {L : Loc} (hL : ρ b = some L) (hlen : len ≤ c) {o : Nat} (ho : 0 < c → o = L.off + off) (s : Bool) {v : EV} (h : evSlice esz b off len (some c) lo hi mx = some v) :
    ∃ l hh t, (Instr.sliceBounds s len c lo' hi' mx').run P w = .ok (l, hh, t) w ∧ VR ρ v (cutV (some ⟨L.blk, o, none⟩) esz l hh t) := by
  unfold evSlice at h
  cases h1 : bound mx c c with
  | none => simp [h1] at h
  | some t =>
  cases h2 : bound hi len t with
  | none => simp [h1, h2] at h
  | some hh =>
  cases h3 : bound lo 0 hh with
  | none => simp [h1, h2, h3] at h
  | some l =>
    simp only [h1, h2, h3, Option.some.injEq] at h
    subst h
    obtain ⟨r, hle, hle2, hle3⟩ := bounds_sound (P := P) (w := w) hlo hhi hmx hmh s (n := len) rfl (t := t) (h := hh) (l := l) (c := c) (by
      cases mx with
      | none => simp [bound] at h1; exact .inl ⟨rfl, h1.symm⟩
      | some x => exact .inr ⟨c, h1, by simp⟩) h2 h3
    refine ⟨l, hh, t, r, ?_⟩
    have ht : hh ≤ t := by
      cases hi with
      | some x => exact hle2 (by simp)
      | none =>
        simp [bound] at h2
        cases mx with
        | none => simp [bound] at h1; omega
        | some x => cases hmx; cases hhi; simp at hmh
    have htc : t ≤ c := by
      cases mx with
      | none => simp [bound] at h1; omega
      | some x => exact hle3 (by simp)
    unfold cutV
    by_cases e : t = l
    · subst e
      rw [if_pos rfl, beq_self, cond_true]
      exact .sliceC hL (by omega) (fun hp => by omega)
    · rw [if_neg e, beq_ff e, cond_false]
      simp only [Option.map_some, add_eq]
      exact .sliceC hL (by omega) (fun hp => by rw [ho (by omega)]; omega)
theorem slice_empty {esz b off : Nat} {a : Addr} {lo hi mx : Option EV} {lo' hi' mx' : Option Value} (hlo : OptR ρ lo lo') (hhi : OptR ρ hi hi') (hmx : OptR ρ mx mx') (hmh : mx'.isSome = true → hi'.isSome = true)
    (s : Bool) {v : EV} (h : evSlice esz b off 0 (some 0) lo hi mx = some v) :
    ∃ l hh t, (Instr.sliceBounds s 0 0 lo' hi' mx').run P w = .ok (l, hh, t) w ∧ VR ρ v (cutV (some a) esz l hh t) := by
  unfold evSlice at h
  cases h1 : bound mx 0 0 with
  | none => simp [h1] at h
  | some t =>
  cases h2 : bound hi 0 t with
  | none => simp [h1, h2] at h
  | some hh =>
  cases h3 : bound lo 0 hh with
  | none => simp [h1, h2, h3] at h
  | some l =>
    simp only [h1, h2, h3, Option.some.injEq] at h
    subst h
    obtain ⟨r, hle, hle2, hle3⟩ := bounds_sound (P := P) (w := w) hlo hhi hmx hmh s (n := 0) rfl (t := t) (h := hh) (l := l) (c := 0) (by
      cases mx with
      | none => simp [bound] at h1; exact .inl ⟨rfl, h1.symm⟩
      | some x => exact .inr ⟨0, h1, by simp⟩) h2 h3
    refine ⟨l, hh, t, r, ?_⟩
    have ht : hh ≤ t := by
      cases hi with
      | some x => exact hle2 (by simp)
      | none =>
        simp [bound] at h2
        cases mx with
        | none => simp [bound] at h1; omega
        | some x => cases hmx; cases hhi; simp at hmh
    have htc : t ≤ 0 := by
      cases mx with
      | none => simp [bound] at h1; omega
      | some x => exact hle3 (by simp)
    have e1 : t = 0 := by omega
    have e2 : hh = 0 := by omega
    have e3 : l = 0 := by omega
    subst e1 e2 e3
    unfold cutV
    exact .sliceE
theorem slice_open {esz b off len c : Nat} {lo hi mx : Option EV} {lo' hi' mx' : Option Value} (hlo : OptR ρ lo lo') (hhi : OptR ρ hi hi') (hmx : OptR ρ mx mx') (hmh : mx'.isSome = true → hi'.isSome = true)
    {L : Loc} (hL : ρ b = some L) (hlen : len ≤ c) {o : Nat} (ho : 0 < len → o = L.off + off) (hr : L.ro = false → o + c * L.esz ≤ L.total) (he : L.esz = esz) (s : Bool) {v : EV} (h : evSlice esz b off len none lo hi mx = some v) :
    ∃ l hh t, (Instr.sliceBounds s len c lo' hi' mx').run P w = .ok (l, hh, t) w ∧ VR ρ v (cutV (some ⟨L.blk, o, none⟩) esz l hh t) := by
  unfold evSlice at h
  cases mx with
  | some x =>
    simp only [] at h
    cases h1 : bound (some x) len len with
    | none => simp [h1] at h
    | some t =>
    cases h2 : bound hi len t with
    | none => simp [h1, h2] at h
    | some hh =>
    cases h3 : bound lo 0 hh with
    | none => simp [h1, h2, h3] at h
    | some l =>
      simp only [h1, h2, h3, Option.some.injEq] at h
      subst h
      obtain ⟨r, hle, hle2, _⟩ := bounds_sound (P := P) (w := w) hlo hhi hmx hmh s (n := len) rfl (t := t) (h := hh) (l := l) (c := c) (.inr ⟨len, bound_mono hlen h1, by simp⟩) h2 h3
      refine ⟨l, hh, t, r, ?_⟩
      have ht : hh ≤ t := by
        cases hi with
        | some x => exact hle2 (by simp)
        | none => cases hmx; cases hhi; simp at hmh
      have htl : t ≤ len := by
        rcases bound_sound (P := P) (w := w) hmx h1 with ⟨e, _⟩ | ⟨_, _, h, _⟩
        · cases hmx; cases e
        · exact h
      unfold cutV
      by_cases e : t = l
      · subst e
        rw [if_pos rfl, beq_self, cond_true]
        exact .sliceC hL (by omega) (fun hp => by omega)
      · rw [if_neg e, beq_ff e, cond_false]
        simp only [Option.map_some, add_eq]
        exact .sliceC hL (by omega) (fun hp => by rw [ho (by omega)]; omega)
  | none =>
    simp only [] at h
    cases h2 : bound hi len len with
    | none => simp [h2] at h
    | some hh =>
    cases h3 : bound lo 0 hh with
    | none => simp [h2, h3] at h
    | some l =>
      simp only [h2, h3, Option.some.injEq] at h
      subst h
      obtain ⟨r, hle, hle2, _⟩ := bounds_sound (P := P) (w := w) hlo hhi hmx hmh s (n := len) rfl (t := c) (h := hh) (l := l) (c := c) (.inl ⟨rfl, rfl⟩) (bound_mono hlen h2) h3
      refine ⟨l, hh, c, r, ?_⟩
      have ht : hh ≤ len := by
        rcases bound_sound (P := P) (w := w) hhi h2 with ⟨_, e⟩ | ⟨_, _, h, _⟩ <;> omega
      unfold cutV
      by_cases e : c = l
      · rw [if_pos e]
        refine .slice hL (by omega) (fun hp => by omega) (fun hro => ?_)
        have := hr hro
        subst e
        rw [Nat.sub_self, Nat.zero_mul]
        omega
      · rw [if_neg e]
        simp only [Option.map_some, add_eq]
        refine .slice hL (by omega) (fun hp => by rw [ho (by omega)]; omega) (fun hro => ?_)
        have := hr hro
        subst he
        have : l * L.esz + (c - l) * L.esz = c * L.esz := by rw [← Nat.add_mul]; congr 1; omega
        omega
theorem esz_of (hR : R base ρ m w) {b : Nat} {L : Loc} (hL : ρ b = some L) {cs : List EV} {e el : Nat} {ro : Bool} (hm : m.get b = .cells cs e el ro) : L.esz = e := by
  have := hR.blk b L hL
  rw [hm] at this
  obtain ⟨_, _, _, _, _, h, _⟩ := this
  exact h
/-- An index that is in its bounds. -/
theorem idx_sound {n i : Nat} {x : EV} {x' : Value} (hx : VR ρ x x') (h : idx n x = some i) : ∃ k, x' = .int k (i : Int) ∧ i < n := by
  cases hx <;> simp only [idx, reduceCtorEq] at h
  rename_i k z
  cases z with
  | negSucc z => simp at h
  | ofNat z =>
    simp only [] at h
    cases hl : (z + 1).ble n <;> simp only [hl, cond_true, cond_false, reduceCtorEq, Option.some.injEq] at h
    subst h
    exact ⟨k, rfl, Nat.le_of_ble_eq_true hl⟩
theorem iaddr_sound {t e : TypeId} {s : Nat} (hu : P.underlying t = some (.slice e)) (hs : cSize P e = some s) {b off len : Nat} {cap : Option Nat} {x' y' : Value} {y : EV} (hx : VR ρ (.slice b off len cap) x') (hy : VR ρ y y') {i : Nat} (h : idx len y = some i) :
    ∃ v', VR ρ (.ptr b (off + i * s)) v' ∧ (Instr.indexAt t x' y').run P w = .ok v' w := by
  obtain ⟨k, rfl, hlt⟩ := idx_sound hy h
  cases hx with
  | @slice _ _ _ c o L hL hc ho hr =>
    refine ⟨_, .ptr hL, ?_⟩
    simp only [Instr.indexAt, asIntOf, Sem.run_bind, Sem.run_pure, Result.andThen_ok, run_underlying hu]
    rw [if_pos ⟨Int.natCast_nonneg _, Int.ofNat_lt.2 hlt⟩]
    simp [run_sizeOf' hs, add_eq, ho (by omega), Nat.add_assoc]
  | sliceE => omega
  | @sliceC _ _ _ c o L hL hc ho =>
    refine ⟨_, .ptr hL, ?_⟩
    simp only [Instr.indexAt, asIntOf, Sem.run_bind, Sem.run_pure, Result.andThen_ok, run_underlying hu]
    rw [if_pos ⟨Int.natCast_nonneg _, Int.ofNat_lt.2 hlt⟩]
    simp [run_sizeOf' hs, add_eq, ho (by omega), Nat.add_assoc]
theorem iaddrArr_sound {t e : TypeId} {n s : Nat} (hu : P.underlying t = some (.array n e)) (hs : cSize P e = some s) {b off : Nat} {x' y' : Value} {y : EV} (hx : VR ρ (.ptr b off) x') (hy : VR ρ y y') {i : Nat} (h : idx n y = some i) :
    ∃ v', VR ρ (.ptr b (off + i * s)) v' ∧ (Instr.indexAt t x' y').run P w = .ok v' w := by
  obtain ⟨k, rfl, hlt⟩ := idx_sound hy h
  cases hx with
  | @ptr _ _ L hL =>
    refine ⟨_, .ptr hL, ?_⟩
    simp only [Instr.indexAt, asIntOf, Sem.run_bind, Sem.run_pure, Result.andThen_ok, run_underlying hu, Instr.sureAddr]
    rw [if_pos ⟨Int.natCast_nonneg _, Int.ofNat_lt.2 hlt⟩]
    simp [run_sizeOf' hs, add_eq, Nat.add_assoc]
theorem faddr_sound {t : TypeId} {fs : Array Field} {k : Nat} {f : Field} {s : Nat} (hu : P.underlying t = some (.struct fs)) (hf : fs[k]? = some f) (hs : cSize P f.type = some (s + 1)) {b off : Nat} {x' : Value} (hx : VR ρ (.ptr b off) x') :
    ∃ v', VR ρ (.ptr b (off + f.offset)) v' ∧ (Instr.fieldAt t x' k).run P w = .ok v' w := by
  cases hx with
  | @ptr _ _ L hL =>
    refine ⟨_, .ptr hL, ?_⟩
    simp only [Instr.fieldAt, Sem.run_bind, run_underlying hu, Result.andThen_ok, hf, Instr.sureAddr, Sem.run_pure, fieldPlace, run_sizeOf' hs]
    rw [if_neg (by omega)]
    simp [add_eq, Nat.add_assoc]
theorem field_sound {t : TypeId} {fs : Array Field} {k : Nat} {f : Field} {g : Option Nat} (hu : P.underlying t = some (.struct fs)) (hf : fs[k]? = some f) (hg : cAgg P f.type = some g) {cs : List EV} {x' : Value} (hx : VR ρ (.agg cs) x') {v : EV} (h : partOf g cs f.offset = some v) :
    ∃ v', VR ρ v v' ∧ (Instr.field t x' k).run P w = .ok v' w := by
  cases hx with
  | agg hv hfl =>
    obtain ⟨v', h1, h2⟩ := part_sound (P := P) (w := w) hg hv hfl h
    exact ⟨v', h1, by simp only [Instr.field, Sem.run_bind, run_underlying hu, Result.andThen_ok, hf, asAgg, Sem.run_pure, h2]⟩
theorem idxagg_sound {t e : TypeId} {n s : Nat} {g : Option Nat} (hu : P.underlying t = some (.array n e)) (hs : cSize P e = some s) (hg : cAgg P e = some g) {cs : List EV} {x' y' : Value} {y : EV} (hx : VR ρ (.agg cs) x') (hy : VR ρ y y') {i : Nat} (hi : idx n y = some i) {v : EV} (h : partOf g cs (i * s) = some v) :
    ∃ v', VR ρ v v' ∧ (Instr.index t x' y').run P w = .ok v' w := by
  obtain ⟨k, rfl, hlt⟩ := idx_sound hy hi
  cases hx with
  | agg hv hfl =>
    obtain ⟨v', h1, h2⟩ := part_sound (P := P) (w := w) hg hv hfl h
    refine ⟨v', h1, ?_⟩
    simp only [Instr.index, asIntOf, Sem.run_bind, Sem.run_pure, Result.andThen_ok, run_underlying hu]
    rw [if_pos ⟨Int.natCast_nonneg _, Int.ofNat_lt.2 hlt⟩]
    simp only [Sem.run_bind, run_sizeOf' hs, Result.andThen_ok, Int.toNat_natCast, h2]
theorem idxstr_sound {t : TypeId} (hu : P.underlying t = some .string) {s : ByteArray} {y : EV} {y' : Value} (hy : VR ρ y y') {i : Nat} (hi : idx s.data.toList.length y = some i) {c : UInt8} (h : s.data.toList[i]? = some c) :
    (Instr.index t (.string s) y').run P w = .ok (.int .u8 (c.toNat : Int)) w := by
  obtain ⟨k, rfl, hlt⟩ := idx_sound hy hi
  simp only [Instr.index, asIntOf, Sem.run_bind, Sem.run_pure, Result.andThen_ok, run_underlying hu]
  have : s[i]? = some c := by
    have hl : i < s.size := hlt
    rw [getElem?_pos s i hl]
    rw [List.getElem?_eq_getElem hlt] at h
    injection h with h
    show some (s.data[i]'hl) = some c
    rw [← h]
    simp
  simp [this]
theorem slstr_sound {t : TypeId} (hu : P.underlying t = some .string) {s : ByteArray} {lo hi : Option EV} {lo' hi' : Option Value} (hlo : OptR ρ lo lo') (hhi : OptR ρ hi hi') {l h : Nat} (h2 : bound hi s.data.toList.length s.data.toList.length = some h) (h3 : bound lo 0 h = some l) :
    ∃ v', VR ρ (.str ((s.data.toList.take h).drop l)) v' ∧ (Instr.sliceAt t (.string s) lo' hi' none).run P w = .ok v' w := by
  obtain ⟨r, hle, _⟩ := bounds_sound (P := P) (w := w) hlo hhi .none (by simp) false (n := s.size) (len := s.data.toList.length) rfl (t := s.size) (h := h) (l := l) (c := s.size) (.inl ⟨rfl, rfl⟩) h2 h3
  refine ⟨.string (s.extract l h), ?_, ?_⟩
  · have := VR.str (ρ := ρ) (s.extract l h)
    rw [show (s.extract l h).data.toList = (s.data.toList.take h).drop l by
      rw [ByteArray.data_extract, Array.toList_extract, List.extract_eq_take_drop, List.drop_take]] at this
    exact this
  · simp only [Instr.sliceAt, Instr.slice, Sem.run_bind, run_underlying hu, Result.andThen_ok, Option.isSome_none, Bool.false_eq_true, if_false, r, Sem.run_pure]
end
end Go.Proofs.Ythlbifjgnhdonaa.Ev
