/- Places and lines of a text: plain facts on lists of bytes. -/
import Derived.Lib.Bytealg
namespace Go.Proofs.Ytonjfghdakmffaa.Ev
open Go
/-- Where the first line ends; none: it does not. -/
def nl : List UInt8 → Option Nat
  | [] => none
  | c :: r => if c = 10 then some 0 else (nl r).map (· + 1)
theorem index_nl : ∀ s : List UInt8, Go.Lib.indexByte s 10 = match nl s with | some k => (k : Int) | none => -1
  | [] => rfl
  | c :: r => by
    have ih := index_nl r
    simp only [Go.Lib.indexByte, nl]
    by_cases h : c = 10
    · subst h; simp
    · have hb : (c == 10) = false := by simpa using h
      rw [if_neg (by simp [hb]), if_neg h, ih]
      cases nl r with
      | none => simp
      | some k =>
        have : ¬ ((k : Int) = -1) := by omega
        simp [this]
theorem nl_lt : ∀ {s : List UInt8} {k : Nat}, nl s = some k → k < s.length
  | [], k, h => by simp [nl] at h
  | c :: r, k, h => by
    simp only [nl] at h
    split at h
    · cases h; simp
    · obtain ⟨j, hj, rfl⟩ := Option.map_eq_some_iff.1 h
      have := nl_lt hj
      simp; omega
theorem nl_at : ∀ {s : List UInt8} {k : Nat}, nl s = some k → s[k]? = some 10 ∧ ∀ i, i < k → s[i]? ≠ some 10
  | [], k, h => by simp [nl] at h
  | c :: r, k, h => by
    simp only [nl] at h
    split at h
    · rename_i hc; cases h; subst hc; exact ⟨rfl, fun i hi => by omega⟩
    · rename_i hc
      obtain ⟨j, hj, rfl⟩ := Option.map_eq_some_iff.1 h
      obtain ⟨h1, h2⟩ := nl_at hj
      refine ⟨by simpa using h1, fun i hi => ?_⟩
      cases i with
      | zero => simpa using hc
      | succ i => simpa using h2 i (by omega)
theorem nl_none : ∀ {s : List UInt8}, nl s = none → ∀ (i : Nat), s[i]? ≠ some 10
  | [], _, i => by simp
  | c :: r, h, i => by
    simp only [nl] at h
    split at h
    · cases h
    · rename_i hc
      cases i with
      | zero => simpa using hc
      | succ i => simpa using nl_none (Option.map_eq_none_iff.1 h) i
/-- Where a line ends that begins here. -/
def endOf (s : List UInt8) : Nat := (nl s).getD s.length
theorem endOf_le (s : List UInt8) : endOf s ≤ s.length := by
  unfold endOf
  cases h : nl s with
  | none => simp
  | some k => simp; exact Nat.le_of_lt (nl_lt h)
theorem endOf_ne {s : List UInt8} {i : Nat} (h : i < endOf s) : s[i]? ≠ some 10 := by
  unfold endOf at h
  cases hn : nl s with
  | none => exact nl_none hn i
  | some k => rw [hn] at h; exact (nl_at hn).2 i (by simpa using h)
/-- Where line k begins (from 0 on). -/
def off : List UInt8 → Nat → Option Nat
  | _, 0 => some 0
  | s, k + 1 => match nl s with
    | some j => (off (s.drop (j + 1)) k).map (· + (j + 1))
    | none => none
theorem off_le : ∀ {k : Nat} {s : List UInt8} {f : Nat}, off s k = some f → f ≤ s.length
  | 0, s, f, h => by simp [off] at h; omega
  | k + 1, s, f, h => by
    simp only [off] at h
    cases hn : nl s with
    | none => simp [hn] at h
    | some j =>
      simp only [hn] at h
      obtain ⟨g, hg, rfl⟩ := Option.map_eq_some_iff.1 h
      have h1 := off_le hg
      have h2 := nl_lt hn
      simp at h1; omega
theorem off_cons (s : List UInt8) (k : Nat) : off s (k + 1) = match nl s with
    | some j => (off (s.drop (j + 1)) k).map (· + (j + 1))
    | none => none := rfl
theorem off_succ : ∀ (k : Nat) (s : List UInt8), off s (k + 1) = match off s k with
    | some f => match nl (s.drop f) with
      | some j => some (f + (j + 1))
      | none => none
    | none => none
  | 0, s => by simp only [off, List.drop_zero]; cases nl s <;> simp
  | k + 1, s => by
    rw [off_cons s (k + 1), off_cons s k]
    cases hn : nl s with
    | none => rfl
    | some j =>
      simp only []
      rw [off_succ k (s.drop (j + 1))]
      cases ho : off (s.drop (j + 1)) k with
      | none => rfl
      | some f =>
        simp only [Option.map_some, List.drop_drop]
        rw [show j + 1 + f = f + (j + 1) by omega]
        cases nl (s.drop (f + (j + 1))) with
        | none => rfl
        | some i => simp; omega
/-- A place's line and column: step by step. -/
def step (p : Nat × Nat) (c : UInt8) : Nat × Nat := if c = 10 then (p.1 + 1, 1) else (p.1, p.2 + 1)
def lc (s : List UInt8) (k : Nat) : Nat × Nat := (s.take k).foldl step (1, 1)
theorem lc_zero (s : List UInt8) : lc s 0 = (1, 1) := by simp [lc]
theorem lc_succ {s : List UInt8} {k : Nat} {c : UInt8} (h : s[k]? = some c) : lc s (k + 1) = step (lc s k) c := by
  unfold lc
  obtain ⟨hk, rfl⟩ := List.getElem?_eq_some_iff.1 h
  rw [List.take_succ_eq_append_getElem hk, List.foldl_append]
  rfl
/-- The last line's end in a text: where it begins, less one. -/
def lst (s : List UInt8) : Nat → Int
  | 0 => -1
  | i + 1 => if s[i]? = some 10 then (i : Int) else lst s i
theorem lc_count (s : List UInt8) : ∀ k, k ≤ s.length → ((lc s k).1 : Int) = 1 + ((s.take k).count 10 : Nat) ∧ ((lc s k).2 : Int) = k - lst s k
  | 0, _ => by simp [lc_zero, lst]
  | k + 1, h => by
    obtain ⟨h1, h2⟩ := lc_count s k (by omega)
    have hk : s[k]? = some (s[k]'(by omega)) := List.getElem?_eq_getElem (by omega)
    rw [lc_succ hk, List.take_succ_eq_append_getElem (by omega), List.count_append]
    simp only [lst, hk, step, Option.some.injEq]
    by_cases hc : s[k]'(by omega) = 10
    · rw [if_pos hc, if_pos hc]; simp [hc]; omega
    · rw [if_neg hc, if_neg hc]; simp [hc]; omega
/-- Within a line. -/
theorem lc_off : ∀ {k f : Nat} {s : List UInt8}, off s k = some f → ∀ j, j ≤ endOf (s.drop f) → lc s (f + j) = (k + 1, j + 1) := by
  have line : ∀ (s : List UInt8) (f l : Nat), lc s f = (l, 1) → ∀ j, j ≤ endOf (s.drop f) → lc s (f + j) = (l, j + 1) := by
    intro s f l h j
    induction j with
    | zero => intro _; exact h
    | succ j ih =>
      intro hj
      have hle := endOf_le (s.drop f)
      rw [List.length_drop] at hle
      have hne := endOf_ne (s := s.drop f) (i := j) (by omega)
      rw [List.getElem?_drop] at hne
      have hk : s[f + j]? = some (s[f + j]'(by omega)) := List.getElem?_eq_getElem (by omega)
      rw [show f + (j + 1) = f + j + 1 by omega, lc_succ hk, ih (by omega)]
      unfold step
      rw [if_neg (fun e => hne (by rw [hk, e]))]
  intro k
  induction k with
  | zero =>
    intro f s h j hj
    simp [off] at h; subst h
    exact line s 0 1 (lc_zero s) j hj
  | succ k ih =>
    intro f s h j hj
    rw [off_succ] at h
    cases ho : off s k with
    | none => simp [ho] at h
    | some g =>
      simp only [ho] at h
      cases hn : nl (s.drop g) with
      | none => simp [hn] at h
      | some i =>
        simp only [hn, Option.some.injEq] at h
        subst h
        have h1 := ih ho i (by unfold endOf; rw [hn]; exact Nat.le_refl _)
        have h2 := (nl_at hn).1
        rw [List.getElem?_drop] at h2
        refine line s _ (k + 1 + 1) ?_ j hj
        rw [show g + (i + 1) = g + i + 1 by omega, lc_succ h2, h1]
        simp [step]
/-- Each place lies in a line. -/
theorem off_of (s : List UInt8) : ∀ i, i ≤ s.length → ∃ k f j, off s k = some f ∧ i = f + j ∧ j ≤ endOf (s.drop f)
  | 0, _ => ⟨0, 0, 0, by simp [off], rfl, Nat.zero_le _⟩
  | i + 1, h => by
    obtain ⟨k, f, j, h1, h2, h3⟩ := off_of s i (by omega)
    by_cases hj : j < endOf (s.drop f)
    · exact ⟨k, f, j + 1, h1, by omega, by omega⟩
    · have hje : j = endOf (s.drop f) := by omega
      unfold endOf at hje
      cases hn : nl (s.drop f) with
      | none =>
        rw [hn] at hje
        simp only [Option.getD_none, List.length_drop] at hje
        omega
      | some q =>
        rw [hn] at hje
        simp only [Option.getD_some] at hje
        refine ⟨k + 1, f + (q + 1), 0, by rw [off_succ, h1]; simp only [hn], by omega, Nat.zero_le _⟩
/-- A line and a column, found. -/
theorem lc_iff {s : List UInt8} {i l c : Nat} (hi : i ≤ s.length) : lc s i = (l, c) ↔ ∃ k f j, l = k + 1 ∧ c = j + 1 ∧ off s k = some f ∧ i = f + j ∧ j ≤ endOf (s.drop f) := by
  constructor
  · intro h
    obtain ⟨k, f, j, h1, h2, h3⟩ := off_of s i hi
    have h4 := lc_off h1 j h3
    rw [← h2, h] at h4
    cases h4
    exact ⟨k, f, j, rfl, rfl, h1, h2, h3⟩
  · rintro ⟨k, f, j, rfl, rfl, h1, h2, h3⟩
    rw [h2]; exact lc_off h1 j h3
/-- Which place has a line and a column. -/
def atOf (s : List UInt8) (l c : Int) : Option Nat :=
  if 1 ≤ l ∧ 1 ≤ c then match off s (l.toNat - 1) with
    | some f => if c.toNat - 1 ≤ endOf (s.drop f) then some (f + (c.toNat - 1)) else none
    | none => none
  else none
theorem atOf_iff {s : List UInt8} {l c : Int} {i : Nat} : atOf s l c = some i ↔ i ≤ s.length ∧ ((lc s i).1 : Int) = l ∧ ((lc s i).2 : Int) = c := by
  unfold atOf
  constructor
  · intro h
    split at h
    · rename_i hp
      cases ho : off s (l.toNat - 1) with
      | none => simp [ho] at h
      | some f =>
        simp only [ho] at h
        split at h
        · rename_i he
          cases h
          have h1 := off_le ho
          have h2 := endOf_le (s.drop f)
          rw [List.length_drop] at h2
          have h3 := lc_off ho _ he
          rw [h3]
          exact ⟨by omega, by simp; omega, by simp; omega⟩
        · cases h
    · cases h
  · rintro ⟨h1, h2, h3⟩
    obtain ⟨k, f, j, e1, e2, e3, e4, e5⟩ := (lc_iff (l := (lc s i).1) (c := (lc s i).2) h1).1 rfl
    rw [if_pos (by omega), show l.toNat - 1 = k by omega, e3]
    simp only
    rw [show c.toNat - 1 = j by omega, if_pos e5, e4]
/-- All lines. -/
def lines : List UInt8 → List (List UInt8)
  | [] => [[]]
  | c :: r => if c = 10 then [] :: lines r else match lines r with
    | h :: t => (c :: h) :: t
    | [] => [[c]]
theorem lines_ne (s : List UInt8) : lines s ≠ [] := by
  cases s with
  | nil => simp [lines]
  | cons c r => simp only [lines]; split; simp; split <;> simp
theorem lines_count : ∀ s : List UInt8, (lines s).length = 1 + s.count 10
  | [] => rfl
  | c :: r => by
    have ih := lines_count r
    simp only [lines]
    by_cases h : c = 10
    · subst h; rw [if_pos rfl, List.length_cons, ih, List.count_cons_self]; omega
    · rw [if_neg h, List.count_cons_of_ne h]
      cases hl : lines r with
      | nil => exact absurd hl (lines_ne r)
      | cons a t => rw [hl] at ih; simpa using ih
theorem lines_nl : ∀ s : List UInt8, lines s = match nl s with | some j => s.take j :: lines (s.drop (j + 1)) | none => [s]
  | [] => rfl
  | c :: r => by
    have ih := lines_nl r
    simp only [lines, nl]
    by_cases h : c = 10
    · rw [if_pos h, if_pos h]; simp
    · rw [if_neg h, if_neg h, ih]
      cases nl r <;> simp
theorem lines_off : ∀ (k : Nat) (s : List UInt8), (lines s)[k]? = (off s k).map fun f => (s.drop f).take (endOf (s.drop f))
  | 0, s => by
    rw [lines_nl, off]
    unfold endOf
    cases h : nl s with
    | none => simp [h]
    | some j => simp [h]
  | k + 1, s => by
    rw [lines_nl]
    simp only [off]
    cases h : nl s with
    | none => simp
    | some j =>
      simp only [List.getElem?_cons_succ]
      rw [lines_off k (s.drop (j + 1)), Option.map_map]
      congr 1
      funext f
      simp only [Function.comp, List.drop_drop]
      rw [show j + 1 + f = f + (j + 1) by omega]
end Go.Proofs.Ytonjfghdakmffaa.Ev
