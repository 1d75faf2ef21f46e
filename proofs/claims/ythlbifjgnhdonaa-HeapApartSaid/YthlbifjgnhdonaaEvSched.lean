/- Every order that Go leaves open keeps to the edges, and lists each operation once. -/
import Derived.Test.YthlbifjgnhdonaaEvDraw
namespace Go.Proofs.Ythlbifjgnhdonaa.Ev
open Go

/-- Each operation once, and none ahead of what binds it. -/
structure Listed (ops : Array Oper) (l : List Nat) : Prop where
  nodup : l.Nodup
  all : ∀ i, i ∈ l ↔ i < ops.size
  edges : ∀ (k i : Nat) (o : Oper) (e : Edge), l[k]? = some i → ops[i]? = some o → e ∈ o.after → plainEdge e = true → e.on ∈ l.take k

theorem plain_binds {e : Edge} (h : plainEdge e = true) : Region.binds .any e = true := by
  unfold plainEdge at h
  unfold Region.binds
  cases hg : e.ground <;> simp_all

theorem goDown_of : ∀ (l : List Oper) (i : Nat), goDown l i = true → ∀ (k : Nat) (o : Oper) (e : Edge), l[k]? = some o → e ∈ o.after → plainEdge e = true → e.on < i + k
  | [], i, _, k, o, e, h, _, _ => by simp at h
  | x :: l, i, hd, k, o, e, h, he, hp => by
    simp only [goDown, Bool.and_eq_true] at hd
    cases k with
    | zero =>
      simp at h; subst h
      have := List.all_eq_true.1 hd.1 e (by simpa using he)
      simp [hp] at this
      omega
    | succ k =>
      have := goDown_of l (i + 1) hd.2 k o e (by simpa using h) he hp
      omega

theorem nodup_le : ∀ (n : Nat) (l : List Nat), l.Nodup → (∀ x, x ∈ l → x < n) → l.length ≤ n
  | 0, l, _, h => by
    cases l with
    | nil => simp
    | cons x l => exact absurd (h x (by simp)) (by omega)
  | n + 1, l, hn, h => by
    by_cases hm : n ∈ l
    · have h1 := nodup_le n (l.erase n) (hn.erase n) (fun x hx => by
        have h2 := (hn.mem_erase_iff).1 hx
        have := h x h2.2
        have := h2.1
        omega)
      rw [List.length_erase_of_mem hm] at h1
      omega
    · have h1 := nodup_le n l hn (fun x hx => by
        have h2 := h x hx
        have : x ≠ n := fun e => hm (e ▸ hx)
        omega)
      omega
theorem nodup_all {n : Nat} {l : List Nat} (hn : l.Nodup) (h : ∀ x, x ∈ l → x < n) (hl : l.length = n) : ∀ i, i < n → i ∈ l := by
  intro i hi
  apply Classical.byContradiction
  intro hni
  have := nodup_le n (i :: l) (List.nodup_cons.2 ⟨hni, hn⟩) (fun x hx => by
    rcases List.mem_cons.1 hx with rfl | hx
    · exact hi
    · exact h x hx)
  simp at this
  omega
theorem nodup_rev {l : List Nat} (h : l.Nodup) : l.reverse.Nodup := List.pairwise_reverse.2 (List.Pairwise.imp (fun h => Ne.symm h) h)
theorem lin_go (ops : Array Oper) (hdown : goDown ops.toList 0 = true) : ∀ (fuel t : Nat) (listed : Array Bool) (acc : List Nat), listed.size = ops.size → (∀ i, listed.getD i true = false ↔ (i < ops.size ∧ i ∉ acc)) → (∀ i, i ∈ acc → i < ops.size) → acc.Nodup → acc.length + fuel = ops.size →
    (∀ (k i : Nat) (o : Oper) (e : Edge), acc.reverse[k]? = some i → ops[i]? = some o → e ∈ o.after → plainEdge e = true → e.on ∈ acc.reverse.take k) →
    Listed ops (Region.linearise.go .any ops fuel t listed acc)
  | 0, t, listed, acc, hsz, hl, hlt, hnd, hlen, hed => by
    simp only [Region.linearise.go]
    refine ⟨nodup_rev hnd, fun i => ?_, hed⟩
    rw [List.mem_reverse]
    exact ⟨hlt i, nodup_all hnd hlt (by omega) i⟩
  | fuel + 1, t, listed, acc, hsz, hl, hlt, hnd, hlen, hed => by
    simp only [Region.linearise.go]
    -- somebody is ready: the least that is not listed
    have hex : ∃ i, i < ops.size ∧ i ∉ acc := by
      apply Classical.byContradiction
      intro hno
      have hall : ∀ i, i < ops.size → i ∈ acc := fun x hx => Classical.byContradiction fun hx2 => hno ⟨x, hx, hx2⟩
      have h1 : (List.range ops.size).length ≤ acc.length := by
        have h2 := nodup_le acc.length ((List.range ops.size).map fun x => acc.idxOf x) ?_ ?_
        · simpa using h2
        · have hinj : ∀ x, x < ops.size → ∀ y, y < ops.size → acc.idxOf x = acc.idxOf y → x = y := by
            intro x hx y hy hxy
            have e1 := List.getElem_idxOf (List.idxOf_lt_length_iff.2 (hall x hx))
            have e2 := List.getElem_idxOf (List.idxOf_lt_length_iff.2 (hall y hy))
            rw [← e1, ← e2]
            congr 1
          rw [List.Nodup, List.pairwise_map]
          refine List.Pairwise.imp_of_mem ?_ (List.nodup_range (n := ops.size))
          intro a b ha hb hab e
          exact hab (hinj a (by simpa using ha) b (by simpa using hb) e)
        · intro x hx
          obtain ⟨y, hy, rfl⟩ := List.mem_map.1 hx
          exact List.idxOf_lt_length_iff.2 (hall y (by simpa using hy))
      simp at h1
      omega
    generalize hrs : (List.range ops.size).filter (fun i => !listed.getD i true && ((ops[i]?).map (fun x => x.after.all fun e => !Region.binds .any e || listed.getD e.on false)).getD false) = rs
    have hmem : ∀ i, i ∈ rs ↔ i < ops.size ∧ listed.getD i true = false ∧ ∀ o, ops[i]? = some o → ∀ e ∈ o.after, Region.binds .any e = true → listed.getD e.on false = true := by
      intro i
      rw [← hrs]
      simp only [List.mem_filter, List.mem_range, Bool.and_eq_true, Bool.not_eq_true']
      constructor
      · rintro ⟨h1, h2, h3⟩
        refine ⟨h1, h2, fun o ho e he hb => ?_⟩
        rw [ho] at h3
        simp only [Option.map_some, Option.getD_some, Array.all_eq_true_iff_forall_mem] at h3
        have := h3 e he
        simpa [hb] using this
      · rintro ⟨h1, h2, h3⟩
        refine ⟨h1, h2, ?_⟩
        have ho : ops[i]? = some ops[i] := Array.getElem?_eq_getElem h1
        rw [ho]
        simp only [Option.map_some, Option.getD_some, Array.all_eq_true_iff_forall_mem]
        intro e he
        cases hb : Region.binds .any e with
        | false => rfl
        | true => simpa using h3 _ ho e he hb
    have hgt : ∀ i, listed.getD i false = true ↔ (i < ops.size ∧ i ∈ acc) := by
      intro i
      have h1 := hl i
      by_cases hi : i < ops.size
      · have e1 : listed.getD i true = listed.getD i false := by simp [Array.getD, hsz, hi]
        rw [e1] at h1
        cases hb : listed.getD i false with
        | true => rw [hb] at h1; simp at h1; exact ⟨fun _ => ⟨hi, h1 hi⟩, fun _ => rfl⟩
        | false => rw [hb] at h1; simp at h1; exact ⟨fun h => (by cases h), fun h => absurd h.2 h1.2⟩
      · have e2 : listed.getD i false = false := by simp [Array.getD, hsz, hi]
        rw [e2]
        exact ⟨fun h => (by cases h), fun h => absurd h.1 hi⟩
    have hne : rs ≠ [] := by
      -- the least one
      obtain ⟨i, hi⟩ : ∃ i, (i < ops.size ∧ i ∉ acc) ∧ ∀ j, j < i → ¬ (j < ops.size ∧ j ∉ acc) := by
        obtain ⟨i, hi⟩ := hex
        induction i using Nat.strongRecOn with
        | _ i ih =>
          by_cases h : ∃ j, j < i ∧ (j < ops.size ∧ j ∉ acc)
          · obtain ⟨j, hj, hj2⟩ := h; exact ih j hj hj2
          · exact ⟨i, hi, fun j hj h2 => h ⟨j, hj, h2⟩⟩
      intro hnil
      have : i ∈ rs := by
        rw [hmem]
        refine ⟨hi.1.1, (hl i).2 hi.1, fun o ho e he hb => ?_⟩
        rw [hgt]
        have hp : plainEdge e = true := by
          unfold Region.binds at hb
          unfold plainEdge
          cases hg : e.ground <;> simp_all
        have hlt2 : e.on < i := by
          have := goDown_of ops.toList 0 hdown i o e (by simpa using ho) he hp
          omega
        have h2 := hi.2 e.on hlt2
        refine ⟨by omega, ?_⟩
        apply Classical.byContradiction
        intro h3
        exact h2 ⟨by omega, h3⟩
      rw [hnil] at this
      simp at this
    have hpos : 0 < rs.length := List.length_pos_iff.2 hne
    have hidx : t % rs.length < rs.length := Nat.mod_lt _ hpos
    rw [List.getElem?_eq_getElem hidx]
    simp only
    have hi : rs[t % rs.length] ∈ rs := List.getElem_mem hidx
    generalize rs[t % rs.length] = i at hi
    obtain ⟨h1, h2, h3⟩ := (hmem i).1 hi
    have hni : i ∉ acc := ((hl i).1 h2).2
    refine lin_go ops hdown fuel _ _ (i :: acc) (by simpa using hsz) (fun j => ?_) (fun j hj => ?_) (List.nodup_cons.2 ⟨hni, hnd⟩) (by simp; omega) ?_
    · by_cases e : j = i
      · subst e
        have : (listed.setIfInBounds j true).getD j true = true := by simp [Array.getD_eq_getD_getElem?, hsz, h1]
        rw [this]
        simp
      · have : (listed.setIfInBounds i true).getD j true = listed.getD j true := by
          rw [Array.getD_eq_getD_getElem?, Array.getElem?_setIfInBounds_ne (fun h => e h.symm), ← Array.getD_eq_getD_getElem?]
        rw [this, hl j]
        simp [e]
    · rcases List.mem_cons.1 hj with rfl | hj
      · exact h1
      · exact hlt j hj
    · intro k j o e hk ho he hp
      rw [List.reverse_cons] at hk ⊢
      by_cases hkl : k < acc.reverse.length
      · rw [List.getElem?_append_left hkl] at hk
        rw [List.take_append_of_le_length (by omega)]
        exact hed k j o e hk ho he hp
      · have hkl2 : k = acc.reverse.length := by
          have := (List.getElem?_eq_some_iff.1 hk).1
          simp at this hkl ⊢
          omega
        subst hkl2
        rw [List.getElem?_append_right (Nat.le_refl _)] at hk
        simp at hk
        subst hk
        rw [List.take_append_of_le_length (Nat.le_refl _), List.take_length]
        have := (hgt e.on).1 (h3 o ho e he (plain_binds hp))
        exact List.mem_reverse.2 this.2
theorem sched_listed {P : Program} (hmix : P.follows .mixedOrders = true) (ops : Array Oper) (hdown : goDown ops.toList 0 = true) (t : Nat) : Listed ops (Region.schedule (P.follows .mixedOrders) ops t) := by
  unfold Region.schedule
  rw [hmix]
  simp only [Bool.true_or, if_true]
  unfold Region.linearise
  exact lin_go ops hdown ops.size t _ [] (by simp) (fun i => by
    by_cases hi : i < ops.size
    · simp [Array.getD_eq_getD_getElem?, hi]
    · simp [Array.getD_eq_getD_getElem?, hi]) (by simp) (by simp) (by simp) (by simp)

/-- What stands ahead of an operation by its edges, and theirs. -/
theorem befores_length : ∀ (l : List Oper) (acc : List (List Nat)), (befores l acc).length = acc.length + l.length
  | [], acc => rfl
  | o :: l, acc => by rw [befores, befores_length l, List.length_append, List.length_cons, List.length_cons, List.length_nil]; omega
theorem befores_keep : ∀ (l : List Oper) (acc : List (List Nat)) (i : Nat), i < acc.length → (befores l acc)[i]? = acc[i]?
  | [], acc, i, _ => rfl
  | o :: l, acc, i, h => by
    simp only [befores]
    rw [befores_keep l _ i (by simp; omega), List.getElem?_append_left h]
theorem befores_at : ∀ (l : List Oper) (acc : List (List Nat)) (k : Nat) (o : Oper), l[k]? = some o →
    ∃ acc' : List (List Nat), (befores l acc)[acc.length + k]? = some ((o.after.toList.filter plainEdge).flatMap fun e => e.on :: acc'.getD e.on []) ∧ acc'.length = acc.length + k ∧ ∀ i, i < acc'.length → acc'[i]? = (befores l acc)[i]?
  | [], acc, k, o, h => by simp at h
  | x :: l, acc, k, o, h => by
    cases k with
    | zero =>
      simp at h; subst h
      refine ⟨acc, ?_, rfl, fun i hi => ?_⟩
      · simp only [befores]
        rw [befores_keep l _ _ (by simp)]
        simp
      · simp only [befores]
        rw [befores_keep l _ i (by simp; omega), List.getElem?_append_left hi]
    | succ k =>
      simp only [befores]
      obtain ⟨acc', h1, h2, h3⟩ := befores_at l (acc ++ [(x.after.toList.filter plainEdge).flatMap fun e => e.on :: acc.getD e.on []]) k o (by simpa using h)
      refine ⟨acc', ?_, by rw [h2]; simp; omega, h3⟩
      rw [← h1]; congr 1; simp; omega
/-- Whoever stands ahead by the edges is listed ahead. -/
theorem before_listed {ops : Array Oper} (hdown : goDown ops.toList 0 = true) {l : List Nat} (hl : Listed ops l) : ∀ (j k : Nat), l[k]? = some j → ∀ i, i ∈ (befores ops.toList []).getD j [] → i ∈ l.take k := by
  intro j
  induction j using Nat.strongRecOn with
  | _ j ih =>
    intro k hk i hi
    have hj : j < ops.size := (hl.all j).1 (List.mem_of_getElem? hk)
    have ho : ops.toList[j]? = some ops[j] := by simp [hj]
    obtain ⟨acc', h1, h2, h3⟩ := befores_at ops.toList [] j ops[j] ho
    simp only [List.length_nil, Nat.zero_add] at h1 h2
    rw [List.getD_eq_getElem?_getD, h1, Option.getD_some] at hi
    obtain ⟨e, he, hi⟩ := List.mem_flatMap.1 hi
    obtain ⟨he1, he2⟩ := List.mem_filter.1 he
    have hlt : e.on < j := by
      have := goDown_of ops.toList 0 hdown j ops[j] e ho (by simpa using he1) he2
      omega
    have hon := hl.edges k j ops[j] e hk (Array.getElem?_eq_getElem hj) (by simpa using he1) he2
    rcases List.mem_cons.1 hi with rfl | hi
    · exact hon
    · have hacc : acc'.getD e.on [] = (befores ops.toList []).getD e.on [] := by
        rw [List.getD_eq_getElem?_getD, List.getD_eq_getElem?_getD, h3 e.on (by omega)]
      rw [hacc] at hi
      obtain ⟨k', hk'⟩ := List.mem_iff_getElem?.1 hon
      have hk'lt : k' < k := by
        have := (List.getElem?_eq_some_iff.1 hk').1
        simp at this; omega
      rw [List.getElem?_take, if_pos hk'lt] at hk'
      have := ih e.on hlt k' hk' i hi
      exact (List.take_subset_take_left l (Nat.le_of_lt hk'lt)) this
end Go.Proofs.Ythlbifjgnhdonaa.Ev
