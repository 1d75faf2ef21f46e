/- Lines, joined, are the text: plain facts. -/
import Derived.Test.YtonjfghdakmffaaPlainPlace
namespace Go.Proofs.Ytonjfghdakmffaa.Ev
open Go
/-- Lines, joined. -/
def joined : List (List UInt8) → List UInt8
  | [] => []
  | [a] => a
  | a :: b :: r => a ++ (10 :: joined (b :: r))
theorem joined_lines : ∀ s : List UInt8, joined (lines s) = s
  | [] => rfl
  | c :: r => by
    have ih := joined_lines r
    simp only [lines]
    by_cases h : c = 10
    · rw [if_pos h]
      cases hl : lines r with
      | nil => exact absurd hl (lines_ne r)
      | cons a t => rw [hl] at ih; simp only [joined, List.nil_append, ih, h]
    · rw [if_neg h]
      cases hl : lines r with
      | nil => exact absurd hl (lines_ne r)
      | cons a t =>
        rw [hl] at ih
        cases t with
        | nil => simp only [joined] at ih ⊢; rw [ih]
        | cons b t => simp only [joined, List.cons_append] at ih ⊢; rw [ih]
theorem joined_append : ∀ (l : List (List UInt8)) (a : List UInt8), l ≠ [] → joined (l ++ [a]) = joined l ++ (10 :: a)
  | [], a, h => absurd rfl h
  | [x], a, _ => rfl
  | x :: y :: r, a, _ => by
    have ih := joined_append (y :: r) a (by simp)
    simp only [List.cons_append, joined] at ih ⊢
    rw [ih]; simp
/-- The next place's line and column. -/
theorem lc_next {s : List UInt8} {i : Nat} (h : i < s.length) : (lc s (i + 1)).1 = (lc s i).1 ∧ (lc s (i + 1)).2 = (lc s i).2 + 1 ∨ (lc s (i + 1)).1 = (lc s i).1 + 1 ∧ (lc s (i + 1)).2 = 1 := by
  have hk : s[i]? = some (s[i]'(by omega)) := List.getElem?_eq_getElem h
  rw [lc_succ hk]
  unfold step
  split
  · exact .inr ⟨rfl, rfl⟩
  · exact .inl ⟨rfl, rfl⟩
end Go.Proofs.Ytonjfghdakmffaa.Ev
