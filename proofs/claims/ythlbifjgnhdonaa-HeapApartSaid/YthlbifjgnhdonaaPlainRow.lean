/- Cells put in the place of others: plain facts. -/
import Derived.Test.YthlbifjgnhdonaaEvHeap
namespace Go.Proofs.Ythlbifjgnhdonaa.Ev
open Go
/-- Cells put in the place of others. -/
def putAt (cs : List EV) (p : Nat) (vs : List EV) : List EV := cs.take p ++ vs ++ cs.drop (p + vs.length)
theorem putAt_len {cs vs : List EV} {p : Nat} (h : p + vs.length ≤ cs.length) : (putAt cs p vs).length = cs.length := by
  simp only [putAt, List.length_append, List.length_take, List.length_drop]; omega
theorem putAt_get {cs vs : List EV} {p i : Nat} (h : p + vs.length ≤ cs.length) : (putAt cs p vs)[i]? = if p ≤ i ∧ i < p + vs.length then vs[i - p]? else cs[i]? := by
  unfold putAt
  have hl : (cs.take p).length = p := by rw [List.length_take]; omega
  by_cases h1 : i < p
  · rw [if_neg (by omega), List.append_assoc, List.getElem?_append_left (by omega), List.getElem?_take, if_pos h1]
  · by_cases h2 : i < p + vs.length
    · rw [if_pos ⟨by omega, h2⟩, List.append_assoc, List.getElem?_append_right (by omega), List.getElem?_append_left (by omega), hl]
    · rw [if_neg (by omega), List.getElem?_append_right (by rw [List.length_append, hl]; omega), List.getElem?_drop, List.length_append, hl]
      congr 1; omega
/-- A part of cells. -/
def part (cs : List EV) (o n : Nat) : List EV := (cs.drop o).take n
theorem part_get {cs : List EV} {o n i : Nat} : (part cs o n)[i]? = if i < n then cs[o + i]? else none := by
  unfold part; rw [List.getElem?_take]; split
  · rw [List.getElem?_drop]
  · rfl
theorem part_len {cs : List EV} {o n : Nat} (h : o + n ≤ cs.length) : (part cs o n).length = n := by
  simp only [part, List.length_take, List.length_drop]; omega
theorem putAt_apart {cs vs : List EV} {p o n : Nat} (h : p + vs.length ≤ cs.length) (hd : n = 0 ∨ vs.length = 0 ∨ o + n ≤ p ∨ p + vs.length ≤ o) : part (putAt cs p vs) o n = part cs o n := by
  refine List.ext_getElem? fun i => ?_
  rw [part_get, part_get]
  by_cases hi : i < n
  · rw [if_pos hi, if_pos hi, putAt_get h, if_neg (by omega)]
  · rw [if_neg hi, if_neg hi]
theorem putAt_in {cs vs : List EV} {p o n : Nat} (h1 : p + vs.length ≤ n) (h2 : o + n ≤ cs.length) : part (putAt cs (o + p) vs) o n = putAt (part cs o n) p vs := by
  refine List.ext_getElem? fun i => ?_
  rw [part_get, putAt_get (by omega), putAt_get (by rw [part_len h2]; exact h1), part_get]
  by_cases hi : i < n
  · rw [if_pos hi]
    by_cases hp : p ≤ i ∧ i < p + vs.length
    · rw [if_pos (by omega), if_pos hp]; congr 1; omega
    · rw [if_neg (by omega), if_neg hp, if_pos hi]
  · rw [if_neg hi, if_neg (by omega), if_neg hi]
theorem putAt_one {cs : List EV} {p : Nat} {x : EV} (h : p < cs.length) : putAt cs p [x] = cs.set p x := by
  refine List.ext_getElem? fun i => ?_
  rw [putAt_get (by simp; omega), List.getElem?_set]
  by_cases hi : p = i
  · subst hi; simp [h]
  · rw [if_neg (by simp; omega), if_neg hi]
theorem putAt_all {cs vs : List EV} (h : vs.length = cs.length) : putAt cs 0 vs = vs := by
  unfold putAt; rw [List.take_zero, List.nil_append, List.drop_eq_nil_of_le (by omega), List.append_nil]
theorem write_putAt {m : Mem} {b p e t : Nat} {cs vs : List EV} (hg : m.get b = .cells cs e t false) (h : p + vs.length ≤ cs.length) : m.write b p vs = some (m.set b (.cells (putAt cs p vs) e t false)) := by
  rw [write_eq, hg, wrB_cells h]; rfl
end Go.Proofs.Ythlbifjgnhdonaa.Ev
