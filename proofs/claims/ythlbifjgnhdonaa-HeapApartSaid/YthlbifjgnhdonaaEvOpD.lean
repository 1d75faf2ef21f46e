/- Zero values, values that are built, conversions: what the evaluator tells, the model tells. -/
import Derived.Test.YthlbifjgnhdonaaEvOpC
namespace Go.Proofs.Ythlbifjgnhdonaa.Ev
open Go
section
variable {base : Nat} {ρ : Ren} {m : Mem} {w : World} {P : Program}

theorem zero_sound {t : TypeId} {e : EV} (h : cZero P t = some e) : ∃ v, (∀ w, (zeroValue t).run P w = .ok v w) ∧ VR ρ e v := by
  unfold cZero at h
  cases hi : P.info? t with
  | none => simp [hi] at h
  | some i =>
    cases hz : i.zero with
    | none => simp [hi, hz] at h
    | some v =>
      simp [hi, hz] at h
      exact ⟨v, fun w => by simp [zeroValue, run_typeInfo hi, hz], cV_sound _ _ _ h⟩
theorem zeros_sound {t : TypeId} {z : List EV} (h : cZeros P t = some z) : ∃ v, (∀ w, (zeroValue t).run P w = .ok v w) ∧ VRs ρ z v.cells.toList ∧ ∀ c ∈ v.cells.toList, c.oneCell' = true := by
  unfold cZeros at h
  cases he : cZero P t with
  | none => simp [he] at h
  | some e =>
    simp [he] at h
    obtain ⟨v, h1, h2⟩ := zero_sound (ρ := ρ) he
    exact ⟨v, h1, h2.cells h⟩

/-! ### Parts laid into a row -/
theorem foldl_set (vs : List Value) : ∀ (k : Nat) (cs : Array Value) (off : Nat), off + k + vs.length ≤ cs.size →
    ∃ ds : Array Value, (vs.zipIdx k).foldl (fun (cs : Array Value) (x : Value × Nat) => cs.setIfInBounds (off + x.2) x.1) cs = ds ∧ ds.size = cs.size ∧
      ∀ j : Nat, ds[j]? = if off + k ≤ j ∧ j < off + k + vs.length then vs[j - (off + k)]? else cs[j]? := by
  induction vs with
  | nil => intro k cs off _; exact ⟨cs, rfl, rfl, fun j => by rw [if_neg (fun h => by have := h.2; simp at this; omega)]⟩
  | cons v vs ih =>
    intro k cs off h
    simp at h
    obtain ⟨ds, h1, h2, h3⟩ := ih (k + 1) (cs.setIfInBounds (off + k) v) off (by simp; omega)
    refine ⟨ds, by simpa [List.zipIdx_cons] using h1, by simpa using h2, fun j => ?_⟩
    rw [h3 j]
    by_cases hj : j = off + k
    · subst hj
      rw [if_neg (by omega), if_pos (by simp)]
      simp [show off + k < cs.size by omega]
    · by_cases hj2 : off + (k + 1) ≤ j ∧ j < off + (k + 1) + vs.length
      · rw [if_pos hj2, if_pos (by simp; omega), show j - (off + k) = (j - (off + (k + 1))) + 1 by omega]
        simp
      · rw [if_neg hj2, if_neg (by simp; omega), Array.getElem?_setIfInBounds_ne (by omega)]
theorem fill_sound {place : Nat → Option (Nat × Nat)} : ∀ (ps : List (Nat × Nat × EV)) (qs : List (Nat × Value)) (cs : List EV) (cs' : Array Value), VRs ρ cs cs'.toList → (∀ c ∈ cs'.toList, c.oneCell' = true) → ps.length = qs.length →
    (∀ (i : Nat) (p : Nat × Nat × EV) (q : Nat × Value), ps[i]? = some p → qs[i]? = some q → place q.1 = some (p.1, p.2.1) ∧ VR ρ p.2.2 q.2) → ∀ ds, fillIn cs ps = some ds →
    ∃ ds', Instr.fill place cs' qs = some ds' ∧ VRs ρ ds ds'.toList ∧ (∀ c ∈ ds'.toList, c.oneCell' = true) ∧ ds'.size = cs'.size := by
  intro ps
  induction ps with
  | nil =>
    intro qs cs cs' hv hf hl hp ds h
    cases qs with
    | nil => simp [fillIn] at h; subst h; exact ⟨cs', rfl, hv, hf, rfl⟩
    | cons q qs => simp at hl
  | cons p ps ih =>
    intro qs cs cs' hv hf hl hp ds h
    cases qs with
    | nil => simp at hl
    | cons q qs =>
      obtain ⟨off, size, x⟩ := p
      obtain ⟨i, x'⟩ := q
      obtain ⟨hplace, hx⟩ := hp 0 _ _ rfl rfl
      simp only at hplace hx
      simp only [fillIn] at h
      cases hc : x.cells with
      | none => simp [hc] at h
      | some vs =>
        simp only [hc] at h
        cases hb : vs.length.beq size <;> simp only [hb, cond_true, cond_false, reduceCtorEq] at h
        have hb' := of_beq hb
        cases hs : splice cs off vs with
        | none => simp [hs] at h
        | some es =>
          simp only [hs] at h
          obtain ⟨hvs, hfs⟩ := hx.cells hc
          have hlen := hvs.length
          have hlcs := hv.length
          obtain ⟨s1, s2, s3⟩ := splice_get hs
          obtain ⟨es', e1, e2, e3⟩ := foldl_set x'.cells.toList 0 cs' off (by rw [← hlen]; simp at hlcs; omega)
          have hvs2 : VRs ρ es es'.toList := by
            refine VRs.of_get (by simp at hlcs ⊢; omega) fun j v v' hj hj' => ?_
            rw [s3 j] at hj
            rw [Array.getElem?_toList, e3 j] at hj'
            by_cases hin : off ≤ j ∧ j < off + vs.length
            · rw [if_pos hin] at hj
              rw [if_pos (by omega)] at hj'
              obtain ⟨u, g1, g2⟩ := hvs.get _ _ hj
              rw [show j - (off + 0) = j - off by omega, g1] at hj'
              cases hj'; exact g2
            · rw [if_neg hin] at hj
              rw [if_neg (by omega)] at hj'
              obtain ⟨u, g1, g2⟩ := hv.get _ _ hj
              rw [Array.getElem?_toList, hj'] at g1
              cases g1; exact g2
          have hf2 : ∀ c ∈ es'.toList, c.oneCell' = true := by
            intro c hc
            obtain ⟨j, hj⟩ := List.mem_iff_getElem?.1 hc
            rw [Array.getElem?_toList, e3 j] at hj
            by_cases hin : off + 0 ≤ j ∧ j < off + 0 + x'.cells.toList.length
            · rw [if_pos hin] at hj; exact hfs c (List.mem_of_getElem? hj)
            · rw [if_neg hin] at hj; exact hf c (by rw [← Array.getElem?_toList] at hj; exact List.mem_of_getElem? hj)
          obtain ⟨ds', f1, f2, f3, f4⟩ := ih qs es es' hvs2 hf2 (by simpa using hl) (fun i p q hp' hq' => hp (i + 1) p q (by simpa using hp') (by simpa using hq')) ds h
          refine ⟨ds', ?_, f2, f3, by rw [f4, e2]⟩
          unfold Instr.fill
          simp only [hplace]
          have hsz : x'.cells.size = size := by rw [← hb', hlen]; simp
          rw [if_neg]
          · have he : Array.foldl (fun (cs : Array Value) (x : Value × Nat) => cs.setIfInBounds (off + x.2) x.1) cs' x'.cells.zipIdx = es' := by
              rw [← e1, ← Array.foldl_toList, Array.toList_zipIdx]
            exact he ▸ f1
          · simp [hsz]
            simp at hlcs
            omega
theorem parts_sound {G : List Nat} (hG : Globs G ρ) {n : Nat} {fr : Fr} {a : Act} (hF : FR ρ n fr a) {places : Nat → Option (Nat × Nat)} {parts : List (Nat × Operand)} {ps : List (Nat × Nat × Opd)} (h : cParts G places parts = some ps) :
    (ps.map fun p => (p.1, p.2.1, fr.eval p.2.2)).length = (parts.map fun p => (p.1, a.eval p.2)).length ∧
    ∀ (i : Nat) (p : Nat × Nat × EV) (q : Nat × Value), (ps.map fun p => (p.1, p.2.1, fr.eval p.2.2))[i]? = some p → (parts.map fun p => (p.1, a.eval p.2))[i]? = some q → places q.1 = some (p.1, p.2.1) ∧ VR ρ p.2.2 q.2 := by
  obtain ⟨h1, h2⟩ := mapM_some _ h
  refine ⟨by simp [h1], fun i p q hp hq => ?_⟩
  rw [List.getElem?_map] at hp hq
  obtain ⟨p0, hp0, rfl⟩ := Option.map_eq_some_iff.1 hp
  obtain ⟨q0, hq0, rfl⟩ := Option.map_eq_some_iff.1 hq
  have := h2 i q0 p0 hq0 hp0
  cases hpl : places q0.1 with
  | none => simp [hpl] at this
  | some os =>
    obtain ⟨o, s⟩ := os
    cases hx : cOpd G q0.2 with
    | none => simp [hpl, hx] at this
    | some x =>
      simp [hpl, hx] at this
      subst this
      exact ⟨rfl, cOpd_sound hG hF hx⟩

/-- A zero value's cells, so many times. -/
theorem copies_get (z : List EV) : ∀ (n i : Nat), i < n * z.length → (copies n z)[i]? = z[i % z.length]?
  | 0, i, h => by simp at h
  | n + 1, i, h => by
    unfold copies at *
    rw [List.replicate_succ, List.flatten_cons]
    by_cases hi : i < z.length
    · rw [List.getElem?_append_left hi, Nat.mod_eq_of_lt hi]
    · rw [List.getElem?_append_right (by omega)]
      have := copies_get z n (i - z.length) (by rw [Nat.add_mul] at h; omega)
      unfold copies at this
      rw [this, Nat.mod_eq_sub_mod (by omega : i ≥ z.length)]
theorem copies_length (n : Nat) (z : List EV) : (copies n z).length = n * z.length := by
  simp [copies]
theorem copies_sound {z : List EV} {z' : Array Value} (hz : VRs ρ z z'.toList) (hf : ∀ c ∈ z'.toList, c.oneCell' = true) (n : Nat) :
    VRs ρ (copies n z) ((Array.range (n * z.length)).map (fun i => z'[i % z'.size]!)).toList ∧ (∀ c ∈ ((Array.range (n * z.length)).map (fun i => z'[i % z'.size]!)).toList, c.oneCell' = true) := by
  have hl := hz.length
  have key : ∀ i v', ((Array.range (n * z.length)).map (fun i => z'[i % z'.size]!)).toList[i]? = some v' → i < n * z.length ∧ z'[i % z'.size]? = some v' := by
    intro i v' h
    rw [Array.getElem?_toList, Array.getElem?_map] at h
    obtain ⟨j, hj, rfl⟩ := Option.map_eq_some_iff.1 h
    rw [Array.getElem?_range] at hj
    split at hj
    · rename_i hlt
      cases hj
      refine ⟨hlt, ?_⟩
      have hpos : 0 < z'.size := by
        rcases Nat.eq_zero_or_pos z'.size with h0 | h0
        · simp at hl; rw [hl, h0] at hlt; simp at hlt
        · exact h0
      have hm : i % z'.size < z'.size := Nat.mod_lt _ hpos
      rw [getElem!_pos z' _ hm, Array.getElem?_eq_getElem hm]
    · cases hj
  refine ⟨VRs.of_get (by simp [copies_length]) fun i v v' hv hv' => ?_, fun c hc => ?_⟩
  · obtain ⟨hlt, h2⟩ := key i v' hv'
    rw [copies_get z n i hlt] at hv
    obtain ⟨u, g1, g2⟩ := hz.get _ _ hv
    rw [Array.getElem?_toList, show z.length = z'.size by simpa using hl, h2] at g1
    cases g1; exact g2
  · obtain ⟨i, hi⟩ := List.mem_iff_getElem?.1 hc
    obtain ⟨_, h2⟩ := key i c hi
    rw [← Array.getElem?_toList] at h2
    exact hf c (List.mem_of_getElem? h2)

/-! ### Conversions -/
theorem conv_int {s d : TypeId} {ds : TypeDesc} {k : IntKind} (hs : P.underlying s = some ds) (hd : P.underlying d = some (.int k)) (l : IntKind) (n : Int) : (convert s d (.int l n)).run P w = .ok (.int k (k.wrap n)) w := by
  simp [convert, run_underlying hs, run_underlying hd, Conv.intToInt]
theorem conv_same {s d : TypeId} {ds : TypeDesc} (hs : P.underlying s = some ds) (hd : P.underlying d = some .string) (x : ByteArray) : (convert s d (.string x)).run P w = .ok (.string x) w := by
  simp [convert, run_underlying hs, run_underlying hd]
theorem bytes_loop : ∀ (vs : List Value) (xs : List EV) (s : List UInt8) (acc : ByteArray), VRs ρ xs vs → bytesOf xs = some s →
    (forIn vs acc fun c (s : ByteArray) => (match c with
      | .int .u8 n => pure (ForInStep.yield (s.push (UInt8.ofNat n.toNat)))
      | _ => do
        stuck "bytesToString: byte expected"
        pure (ForInStep.yield s) : Sem (ForInStep ByteArray))).run P w = .ok ⟨⟨acc.data.toList ++ s⟩⟩ w := by
  intro vs
  induction vs with
  | nil =>
    intro xs s acc hv h
    cases hv
    simp [bytesOf] at h
    subst h
    simp
  | cons v vs ih =>
    intro xs s acc hv h
    cases hv with
    | @cons x _ xs _ hx hxs =>
      cases hx with
      | int k n =>
        cases k <;> (try (simp [bytesOf] at h; done))
        simp only [bytesOf] at h
        obtain ⟨s', hs', rfl⟩ := Option.map_eq_some_iff.1 h
        have := ih xs s' (acc.push (UInt8.ofNat n.toNat)) hxs hs'
        simp only [List.forIn_cons, Sem.run_bind, Sem.run_pure, Result.andThen_ok, this]
        simp
      | _ => simp [bytesOf] at h
end
end Go.Proofs.Ythlbifjgnhdonaa.Ev
