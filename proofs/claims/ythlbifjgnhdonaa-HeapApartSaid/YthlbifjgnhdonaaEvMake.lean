/- What makes a block, what looks at no memory, what reads: one by one, under whatever name is next. -/
import Derived.Test.YthlbifjgnhdonaaEvSched
namespace Go.Proofs.Ythlbifjgnhdonaa.Ev
open Go
section
variable {G : List Nat} {base : Nat} {ρ : Ren} {m : Mem} {w : World} {P : Program} {n : Nat} {fr : Fr} {a : Act}

theorem make_sound {o : Oper} {io : IOp} (hc : cOp P G o = some io) (hs : srt io = 1) (hG : Globs G ρ) (hR : RN base ρ m w) (hF : FR ρ n fr a) {v : EV} {m1 : Mem} (h : evOp fr.eval io m = some (.val v m1)) :
    ∃ B, m1 = m.new B ∧ ∃ ρ' w' v', (execOp a.eval o).run P w = .ok (.value v') w' ∧ VR ρ' v v' ∧ Made base ρ m w ρ' B w' := by
  have E : ∀ {x : Operand} {y : Opd}, cOpd G x = some y → VR ρ (fr.eval y) (a.eval x) := fun h => cOpd_sound hG hF h
  have fin : ∀ {s : Sem Value} {B : Blk}, execOp a.eval o = (do pure (Next.value (← s)) : Sem Next) → RunsM P s base ρ m w v B → ∃ ρ' w' v', (execOp a.eval o).run P w = .ok (.value v') w' ∧ VR ρ' v v' ∧ Made base ρ m w ρ' B w' := by
    rintro s B he ⟨ρ', w', v', h1, h2, h3⟩
    exact ⟨ρ', w', v', by rw [he]; simp [h1], h2, h3⟩
  unfold cOp at hc
  split at hc
  case h_1 => obtain ⟨_, _, rfl⟩ := map_some' hc; simp [srt] at hs
  case h_2 => obtain ⟨_, _, rfl⟩ := map_some' hc; simp [srt] at hs
  case h_3 => obtain ⟨_, _, hc⟩ := bind_of hc; obtain ⟨_, _, hc⟩ := bind_of hc; obtain ⟨_, _, rfl⟩ := map_some' hc; simp [srt] at hs
  case h_4 e ho =>
    obtain ⟨z, hz, rfl⟩ := map_some' hc
    simp only [evOp, Option.some.injEq, R1.val.injEq] at h
    obtain ⟨rfl, rfl⟩ := h
    exact ⟨_, rfl, fin (by simp only [execOp, ho]) (alloc_made hR hz)⟩
  case h_5 e x ho =>
    obtain ⟨y, hy, rfl⟩ := map_some' hc
    simp only [evOp] at h
    cases hcs : (fr.eval y).cells with
    | none => simp [hcs] at h
    | some cs =>
      simp only [hcs, Option.some.injEq, R1.val.injEq] at h
      obtain ⟨rfl, rfl⟩ := h
      exact ⟨_, rfl, fin (by simp only [execOp, ho]) (box_made hR (E hy) hcs)⟩
  case h_6 =>
    obtain ⟨_, _, hc⟩ := bind_of hc
    rcases or1_of hc with hc | hc
    · obtain ⟨_, _, hc⟩ := bind_of hc; obtain ⟨_, _, hc⟩ := bind_of hc; obtain ⟨_, _, rfl⟩ := map_some' hc; simp [srt] at hs
    · obtain ⟨_, _, hc⟩ := bind_of hc; obtain ⟨_, _, hc⟩ := bind_of hc; obtain ⟨_, _, rfl⟩ := map_some' hc; simp [srt] at hs
  case h_7 t len parts ho =>
    obtain ⟨e, hu, hc⟩ := bind_of hc
    obtain ⟨s, hsz, hc⟩ := bind_of hc
    obtain ⟨z, hz, hc⟩ := bind_of hc
    obtain ⟨ps, hp, hc⟩ := bind_of hc
    obtain ⟨_, hzs, hc⟩ := bind_of hc
    obtain ⟨_, hl, rfl⟩ := map_some' hc
    have hu := uSlice_of hu
    simp only [evOp] at h
    cases hcs : fillIn (copies len z) (ps.map fun p => (p.1 * s, s, fr.eval p.2)) with
    | none => simp [hcs] at h
    | some cs =>
      simp only [hcs, Option.some.injEq, R1.val.injEq] at h
      obtain ⟨rfl, rfl⟩ := h
      obtain ⟨p1, p2⟩ := mapM_some _ hp
      have hb := bslice_made (P := P) hR hu hsz hz (of_beq (must_of hzs)) (Nat.le_of_ble_eq_true (must_of hl)) (qs := parts.toList.map fun p => (p.1, a.eval p.2)) (by simpa using p1.symm) (fun i p q hp' hq' => by
        rw [List.getElem?_map] at hp' hq'
        obtain ⟨p0, hp0, rfl⟩ := Option.map_eq_some_iff.1 hp'
        obtain ⟨q0, hq0, rfl⟩ := Option.map_eq_some_iff.1 hq'
        obtain ⟨x, hx, hxp⟩ := map_some' (p2 i q0 p0 hq0 hp0)
        subst hxp
        exact ⟨⟨rfl, rfl⟩, E hx⟩) hcs
      have : (parts.map fun (i, x) => (i, a.eval x)) = (⟨parts.toList.map fun p => (p.1, a.eval p.2)⟩ : Array (Nat × Value)) := by apply Array.ext'; simp
      exact ⟨_, rfl, fin (by simp only [execOp, ho]; rw [this]) hb⟩
  case h_8 => obtain ⟨_, _, hc⟩ := bind_of hc; obtain ⟨_, _, rfl⟩ := map_some' hc; simp [srt] at hs
  case h_9 => obtain ⟨_, _, hc⟩ := bind_of hc; obtain ⟨_, _, hc⟩ := bind_of hc; obtain ⟨_, _, rfl⟩ := map_some' hc; simp [srt] at hs
  case h_10 => obtain ⟨_, _, rfl⟩ := map_some' hc; simp [srt] at hs
  case h_11 op t x y yt ho =>
    obtain ⟨_, _, hc⟩ := bind_of hc; obtain ⟨_, _, hc⟩ := bind_of hc
    split at hc
    · unfold cEq at hc
      simp only [Bool.cond_eq_ite] at hc
      split at hc <;> (obtain ⟨_, _, rfl⟩ := map_some' hc; simp [srt] at hs)
    · unfold cEq at hc
      simp only [Bool.cond_eq_ite] at hc
      split at hc <;> (obtain ⟨_, _, rfl⟩ := map_some' hc; simp [srt] at hs)
    · cases hc; simp [srt] at hs
  case h_12 => obtain ⟨_, _, rfl⟩ := map_some' hc; simp [srt] at hs
  case h_13 s d x ho =>
    obtain ⟨y, hy, hc⟩ := bind_of hc
    rcases or1_of hc with hc | hc
    · obtain ⟨_, _, hc⟩ := bind_of hc; obtain ⟨_, _, rfl⟩ := map_some' hc; simp [srt] at hs
    rcases or1_of hc with hc | hc
    · obtain ⟨_, _, hc⟩ := bind_of hc; obtain ⟨_, _, rfl⟩ := map_some' hc; simp [srt] at hs
    rcases or1_of hc with hc | hc
    · obtain ⟨_, hsu, hc⟩ := bind_of hc
      obtain ⟨e, hd, hc⟩ := bind_of hc
      obtain ⟨k, he, hc⟩ := bind_of hc
      obtain ⟨_, hk, rfl⟩ := map_some' hc
      have hk : k = .u8 := by have := of_beq (must_of hk); cases k <;> simp [kindNo] at this; rfl
      subst hk
      simp only [evOp] at h
      obtain ⟨B, rfl, hB⟩ := bytes_made (P := P) hR (uString_of hsu) (uSlice_of hd) (uInt_of he) (E hy) (ofEM_val h)
      exact ⟨B, rfl, fin (by simp only [execOp, ho]) hB⟩
    · obtain ⟨_, _, hc⟩ := bind_of hc; obtain ⟨_, _, hc⟩ := bind_of hc; obtain ⟨_, _, hc⟩ := bind_of hc; obtain ⟨_, _, rfl⟩ := map_some' hc; simp [srt] at hs
  case h_14 => obtain ⟨_, _, hc⟩ := bind_of hc; obtain ⟨_, _, rfl⟩ := map_some' hc; simp [srt] at hs
  case h_15 => obtain ⟨_, _, hc⟩ := bind_of hc; obtain ⟨_, _, rfl⟩ := map_some' hc; simp [srt] at hs
  case h_16 t ho =>
    obtain ⟨_, _, rfl⟩ := map_some' hc
    simp only [evOp, Option.some.injEq, R1.val.injEq] at h
    obtain ⟨rfl, rfl⟩ := h
    refine ⟨_, rfl, fin (by simp only [execOp, ho]) (s := Instr.makeMap t (none.map a.eval)) ?_⟩
    have := mkmap_made (P := P) hR
    simpa [Instr.makeMap] using this
  case h_17 t k z ho =>
    obtain ⟨q, hu, rfl⟩ := map_some' hc
    have hu := uMap_of hu
    simp only [evOp, Option.some.injEq, R1.val.injEq] at h
    obtain ⟨rfl, rfl⟩ := h
    refine ⟨_, rfl, fin (by simp only [execOp, ho]) (s := Instr.makeMap t ((some (.const (.int k z))).map a.eval)) ?_⟩
    obtain ⟨ρ', w', v', h1, h2⟩ := mkmap_made (P := P) hR
    exact ⟨ρ', w', v', by simpa [Instr.makeMap, run_underlying hu, Act.eval, asInt, asIntOf] using h1, h2⟩
  case h_18 t l c ho =>
    obtain ⟨e, hu, hc⟩ := bind_of hc
    obtain ⟨i, hi, hc⟩ := bind_of hc
    obtain ⟨z, hz, hc⟩ := bind_of hc
    obtain ⟨l', hl, hc⟩ := bind_of hc
    obtain ⟨c', hcc, hc⟩ := bind_of hc
    obtain ⟨_, hzs, hc⟩ := bind_of hc
    obtain ⟨_, hb, rfl⟩ := map_some' hc
    have hlv := E hl
    have hcv := E hcc
    simp only [evOp] at h
    have hex : execOp a.eval o = (do pure (Next.value (← Instr.makeSlice t (a.eval l) (a.eval c))) : Sem Next) := by simp only [execOp, ho]
    generalize fr.eval l' = el at hlv h
    generalize fr.eval c' = ec at hcv h
    generalize a.eval l = al at hlv hex
    generalize a.eval c = ac at hcv hex
    cases hlv <;> (try simp only [reduceCtorEq] at h)
    rename_i k1 n1
    cases k1 <;> (try simp only [reduceCtorEq] at h)
    cases n1 <;> (try simp only [reduceCtorEq] at h)
    rename_i ln
    cases hcv <;> (try simp only [reduceCtorEq] at h)
    rename_i k2 n2
    cases k2 <;> (try simp only [reduceCtorEq] at h)
    cases n2 <;> (try simp only [reduceCtorEq] at h)
    rename_i cn
    cases h1 : ln.ble cn <;> simp only [h1, cond_true, cond_false, reduceCtorEq] at h
    cases h2 : cn.ble room <;> simp only [h2, cond_true, cond_false, reduceCtorEq, Option.some.injEq, R1.val.injEq] at h
    obtain ⟨rfl, rfl⟩ := h
    exact ⟨_, rfl, fin hex (mkslice_made hR (uSlice_of hu) hi hz (of_beq (must_of hzs)) (Nat.le_of_ble_eq_true (must_of hb)) (Nat.le_of_ble_eq_true h1) (Nat.le_of_ble_eq_true h2))⟩
  case h_19 =>
    obtain ⟨_, _, hc⟩ := bind_of hc; obtain ⟨_, _, hc⟩ := bind_of hc; obtain ⟨_, _, hc⟩ := bind_of hc; obtain ⟨_, _, hc⟩ := bind_of hc; obtain ⟨_, _, hc⟩ := bind_of hc
    rcases or1_of hc with hc | hc
    · obtain ⟨_, _, hc⟩ := bind_of hc; obtain ⟨_, _, rfl⟩ := map_some' hc; simp [srt] at hs
    rcases or1_of hc with hc | hc
    · obtain ⟨_, _, hc⟩ := bind_of hc; obtain ⟨_, _, rfl⟩ := map_some' hc; simp [srt] at hs
    · obtain ⟨_, _, hc⟩ := bind_of hc; obtain ⟨_, _, rfl⟩ := map_some' hc; simp [srt] at hs
  case h_20 => obtain ⟨_, _, hc⟩ := bind_of hc; obtain ⟨_, _, hc⟩ := bind_of hc; obtain ⟨_, _, hc⟩ := bind_of hc; obtain ⟨_, _, hc⟩ := bind_of hc; obtain ⟨_, _, rfl⟩ := map_some' hc; simp [srt] at hs
  case h_21 => obtain ⟨_, _, hc⟩ := bind_of hc; obtain ⟨_, _, hc⟩ := bind_of hc; obtain ⟨_, _, hc⟩ := bind_of hc; obtain ⟨_, _, rfl⟩ := map_some' hc; simp [srt] at hs
  case h_22 =>
    obtain ⟨_, _, hc⟩ := bind_of hc; obtain ⟨_, _, hc⟩ := bind_of hc
    rcases or1_of hc with hc | hc
    · obtain ⟨_, _, hc⟩ := bind_of hc; obtain ⟨_, _, rfl⟩ := map_some' hc; simp [srt] at hs
    · obtain ⟨_, _, hc⟩ := bind_of hc; obtain ⟨_, _, rfl⟩ := map_some' hc; simp [srt] at hs
  case h_23 =>
    obtain ⟨_, _, hc⟩ := bind_of hc; obtain ⟨_, _, hc⟩ := bind_of hc
    rcases or1_of hc with hc | hc
    · obtain ⟨_, _, rfl⟩ := map_some' hc; simp [srt] at hs
    · obtain ⟨_, _, hc⟩ := bind_of hc; obtain ⟨_, _, hc⟩ := bind_of hc; obtain ⟨_, _, rfl⟩ := map_some' hc; simp [srt] at hs
  case h_24 => obtain ⟨_, _, hc⟩ := bind_of hc; obtain ⟨_, _, hc⟩ := bind_of hc; obtain ⟨_, _, hc⟩ := bind_of hc; obtain ⟨_, _, hc⟩ := bind_of hc; obtain ⟨_, _, rfl⟩ := map_some' hc; simp [srt] at hs
  case h_25 => obtain ⟨_, _, hc⟩ := bind_of hc; obtain ⟨_, _, hc⟩ := bind_of hc; obtain ⟨_, _, hc⟩ := bind_of hc; obtain ⟨_, _, hc⟩ := bind_of hc; obtain ⟨_, _, rfl⟩ := map_some' hc; simp [srt] at hs
  case h_26 => obtain ⟨_, _, hc⟩ := bind_of hc; obtain ⟨_, _, hc⟩ := bind_of hc; obtain ⟨_, _, hc⟩ := bind_of hc; obtain ⟨_, _, hc⟩ := bind_of hc; obtain ⟨_, _, rfl⟩ := map_some' hc; simp [srt] at hs
  case h_27 => obtain ⟨_, _, hc⟩ := bind_of hc; obtain ⟨_, _, rfl⟩ := map_some' hc; simp [srt] at hs
  case h_28 => obtain ⟨_, _, rfl⟩ := map_some' hc; simp [srt] at hs
  case h_29 c ho =>
    obtain ⟨ys, hys, hc⟩ := bind_of hc
    split at hc
    · exfalso
      unfold cBuiltin at hc
      simp only [Bool.cond_eq_ite] at hc
      split at hc
      · split at hc <;> first | (cases hc; simp [srt] at hs; done) | cases hc
      · split at hc <;> first | (cases hc; simp [srt] at hs; done) | cases hc
      · cases hc; simp [srt] at hs
      · cases hc; simp [srt] at hs
      · obtain ⟨_, _, hc⟩ := bind_of hc
        obtain ⟨_, _, hc⟩ := bind_of hc
        obtain ⟨_, _, hc⟩ := bind_of hc
        obtain ⟨_, _, hc⟩ := bind_of hc
        obtain ⟨_, _, hc⟩ := bind_of hc
        split at hc <;> first | (cases hc; simp [srt] at hs; done) | cases hc
      · split at hc
        · split at hc <;> first | (cases hc; simp [srt] at hs; done) | cases hc
        · cases hc
      · split at hc
        · obtain ⟨_, _, rfl⟩ := map_some' hc; simp [srt] at hs
        · cases hc
      · cases hc
    · cases hc
  case h_30 => cases hc

/-- The operands alone count. -/
theorem map_congr' {l : List Opd} {f g : Opd → EV} (h : ∀ x, x ∈ l → f x = g x) : l.map f = l.map g := List.map_congr_left h
theorem optl_congr {l : Option Opd} {f g : Opd → EV} (h : ∀ x, x ∈ optl l → f x = g x) : l.map f = l.map g := by
  cases l with
  | none => rfl
  | some x => simp [h x (by simp [optl])]
theorem evOp_congr {f g : Opd → EV} {op : IOp} (h : ∀ x, x ∈ opds op → f x = g x) (m : Mem) : evOp f op m = evOp g op m := by
  cases op
  case build z ps =>
    simp only [evOp]
    rw [List.map_congr_left (g := fun p => (p.1, p.2.1, g p.2.2))]
    intro p hp
    rw [h p.2.2 (by simp only [opds, List.mem_map]; exact ⟨p, hp, rfl⟩)]
  case bslice e s l z ps =>
    simp only [evOp]
    rw [List.map_congr_left (g := fun p => (p.1 * s, s, g p.2))]
    intro p hp
    rw [h p.2 (by simp only [opds, List.mem_map]; exact ⟨p, hp, rfl⟩)]
  case mkfn k x y =>
    simp only [evOp]
    rw [map_congr' (l := x) (fun z hz => h z (by simp [opds, hz])), map_congr' (l := y) (fun z hz => h z (by simp [opds, hz]))]
  case max xs => simp only [evOp]; rw [map_congr' (l := xs) h]
  case min xs => simp only [evOp]; rw [map_congr' (l := xs) h]
  case slstr x l hh =>
    simp only [evOp]
    rw [h x (by simp [opds]), optl_congr (l := l) (fun z hz => h z (by simp [opds, hz])), optl_congr (l := hh) (fun z hz => h z (by simp [opds, hz]))]
  case slsl e x l hh mm =>
    simp only [evOp]
    rw [h x (by simp [opds]), optl_congr (l := l) (fun z hz => h z (by simp [opds, hz])), optl_congr (l := hh) (fun z hz => h z (by simp [opds, hz])), optl_congr (l := mm) (fun z hz => h z (by simp [opds, hz]))]
  case slarr e k x l hh mm =>
    simp only [evOp]
    rw [h x (by simp [opds]), optl_congr (l := l) (fun z hz => h z (by simp [opds, hz])), optl_congr (l := hh) (fun z hz => h z (by simp [opds, hz])), optl_congr (l := mm) (fun z hz => h z (by simp [opds, hz]))]
  all_goals
    simp only [opds, List.mem_cons, List.not_mem_nil, or_false, forall_eq_or_imp, forall_eq] at h
    simp only [evOp, h]
/-- What looks at no memory tells the same in all. -/
theorem pure_any {f : Opd → EV} {op : IOp} (hs : srt op = 0) {m m1 : Mem} {v : EV} (h : evOp f op m = some (.val v m1)) : m1 = m ∧ ∀ m', evOp f op m' = some (.val v m') := by
  have e1 : ∀ {x : Option EV}, ofEV m x = some (.val v m1) → m1 = m ∧ ∀ m', ofEV m' x = some (.val v m') := by
    intro x hx
    obtain ⟨h1, h2⟩ := ofEV_val hx
    exact ⟨h2, fun m' => by rw [h1]; rfl⟩
  cases op <;> simp only [srt] at hs <;> (try (simp at hs; done))
  case conv c x =>
    cases c <;> simp at hs
    all_goals
      simp only [evOp] at h ⊢
      have h1 := ofEM_val h
      generalize f x = e at h1 ⊢
      cases e <;> simp only [evConv, reduceCtorEq, Option.some.injEq, Prod.mk.injEq] at h1
      obtain ⟨rfl, rfl⟩ := h1
      exact ⟨rfl, fun m' => rfl⟩
  all_goals
    simp only [evOp, Bool.cond_eq_ite] at h ⊢
    first
      | exact e1 h
      | (simp only [Option.some.injEq, R1.val.injEq] at h; obtain ⟨rfl, rfl⟩ := h; exact ⟨rfl, fun m' => rfl⟩)
      | (revert h; (repeat' split) <;> intro h <;> first
          | (cases h; done)
          | exact e1 h
          | (simp only [Option.some.injEq, R1.val.injEq] at h; obtain ⟨rfl, rfl⟩ := h; exact ⟨rfl, fun m' => rfl⟩)
          | (simp_all; done))
end
end Go.Proofs.Ythlbifjgnhdonaa.Ev
