/- Slices of one's own: in a block of their own, appended to. -/
import Derived.Test.YthlbifjgnhdonaaEvDrw
namespace Go.Proofs.Ythlbifjgnhdonaa.Ev
open Go
set_option linter.unusedSimpArgs false
/-- A slice of n elements, of these cells, in a block of its own from 'lo' on; or none at all. -/
structure Own (m : Mem) (v : EV) (cs : List EV) (n esz lo : Nat) : Prop where
  is : (v = .nilslice ∧ n = 0 ∧ cs = []) ∨ ∃ b cap t, v = .slice b 0 n cap ∧ lo ≤ b ∧ b < m.next ∧ m.get b = .cells cs esz t false ∧ (cap = none ∨ cap = some n)
  len : cs.length = n * esz
/-- Not of this slice. -/
def Off (v : EV) (c : Nat) : Prop := ∀ b o n cap, v = .slice b o n cap → c ≠ b
theorem Off.nil {c : Nat} : Off .nilslice c := fun _ _ _ _ h => by cases h
theorem Off.of {b o n c : Nat} {cap : Option Nat} (h : c ≠ b) : Off (.slice b o n cap) c := fun _ _ _ _ e => by cases e; exact h
theorem row_all {m : Mem} {b n esz e t : Nat} {cs : List EV} {ro : Bool} (hb : m.get b = .cells cs e t ro) (hl : cs.length = n * esz) : m.row b 0 (n * esz) = some cs := by
  by_cases h : n * esz = 0
  · rw [h, Mem.row_none]; rw [h] at hl; rw [List.eq_nil_of_length_eq_zero hl]
  · rw [Mem.row_pos h]; unfold Mem.row1
    rw [hb]
    show (bif (0 + n * esz).ble cs.length then some ((cs.drop 0).take (n * esz)) else none) = _
    rw [Nat.ble_eq_true_of_le (by omega)]
    simp [← hl]
theorem Own.source {m : Mem} {v : EV} {cs : List EV} {n esz lo : Nat} (h : Own m v cs n esz lo) : m.source esz v = some (n, cs) := by
  rcases h.is with ⟨rfl, rfl, rfl⟩ | ⟨b, cap, t, rfl, h1, h2, h3, h4⟩
  · rfl
  · show (m.row b 0 (n * esz)).map (fun cs => (n, cs)) = _
    rw [row_all h3 h.len]; rfl
theorem append_own {m : Mem} {v x : EV} {cs xs : List EV} {n k esz e lo : Nat} (h : Own m v cs n esz lo) (hlo : lo ≤ m.next) (hx : m.source esz x = some (k, xs)) (hxl : xs.length = k * esz) (hk : k ≠ 0) (hr : n + k ≤ room) :
    ∃ v' m', evAppend m e esz v x = some (v', m') ∧ Own m' v' (cs ++ xs) (n + k) esz lo ∧ (∀ c, c < m.next → Off v c → m'.get c = m.get c) ∧ m'.next = m.next + 1 ∧ (∃ cap, v' = .slice m.next 0 (n + k) cap) := by
  have hlen : (cs ++ xs).length = (n + k) * esz := by rw [List.length_append, h.len, hxl, Nat.add_mul]
  rcases h.is with ⟨rfl, rfl, rfl⟩ | ⟨b, cap, t, rfl, h1, h2, h3, h4⟩
  · refine ⟨.slice m.next 0 k none, m.new (.cells xs esz e false), ?_, ⟨.inr ⟨m.next, none, e, by rw [Nat.zero_add], hlo, by rw [next_new]; omega, by rw [get_new, if_pos rfl]; rfl, .inl rfl⟩, hlen⟩, fun c hc _ => by rw [get_new, if_neg (by omega)], rfl, none, by rw [Nat.zero_add]⟩
    unfold evAppend
    rw [hx]
    simp only [beq_ff hk, cond_false, Nat.ble_eq_true_of_le (show k ≤ room by omega), cond_true]
  · have hrow := row_all h3 h.len
    rcases h4 with rfl | rfl
    · refine ⟨.slice m.next 0 (n + k) none, (m.new (.cells (cs ++ xs) esz e false)).set b .dead, ?_, ⟨.inr ⟨m.next, none, e, rfl, hlo, by rw [next_set, next_new]; omega, by rw [get_set_ne (by omega), get_new, if_pos rfl], .inl rfl⟩, hlen⟩, fun c hc ho => ?_, by rw [next_set, next_new], none, rfl⟩
      · unfold evAppend
        rw [hx]
        simp only [beq_ff hk, cond_false, Nat.ble_eq_true_of_le hr, cond_true, hrow, h3, beq_self]
      · rw [get_set_ne (ho b 0 n none rfl), get_new, if_neg (by omega)]
    · refine ⟨.slice m.next 0 (n + k) none, m.new (.cells (cs ++ xs) esz e false), ?_, ⟨.inr ⟨m.next, none, e, rfl, hlo, by rw [next_new]; omega, by rw [get_new, if_pos rfl], .inl rfl⟩, hlen⟩, fun c hc ho => by rw [get_new, if_neg (by omega)], by rw [next_new], none, rfl⟩
      have hf : (n + k).ble n = false := by
        cases hb : (n + k).ble n with
        | false => rfl
        | true => have := Nat.le_of_ble_eq_true hb; omega
      unfold evAppend
      rw [hx]
      simp only [beq_ff hk, cond_false, Nat.ble_eq_true_of_le hr, cond_true, hrow, hf]
theorem Own.mono {m m' : Mem} {v : EV} {cs : List EV} {n esz lo : Nat} (h : Own m v cs n esz lo) (hn : m.next ≤ m'.next) (hk : ∀ c, c < m.next → m'.get c = m.get c) : Own m' v cs n esz lo := by
  refine ⟨?_, h.len⟩
  rcases h.is with h | ⟨b, cap, t, rfl, h1, h2, h3, h4⟩
  · exact .inl h
  · exact .inr ⟨b, cap, t, rfl, h1, by omega, by rw [hk b h2]; exact h3, h4⟩
theorem Own.ext {m : Mem} {v : EV} {cs : List EV} {n esz lo : Nat} (h : Own m v cs n esz lo) (xs : List Blk) : Own (ext m xs) v cs n esz lo := h.mono (by rw [next_ext]; exact le_nb) fun c hc => get_ext_old hc
/-- What was just made, as what is appended. -/
theorem source_new {m : Mem} {vs : List EV} {e esz : Nat} (h : vs.length = esz) : (Ev.ext m [.cells vs esz e false]).source esz (.slice (nb m.next 0) 0 1 (some 1)) = some (1, vs) := by
  have hg : (Ev.ext m [.cells vs esz e false]).get (nb m.next 0) = .cells vs esz e false := by rw [get_ext_nb rfl (by simp)]; rfl
  show ((Ev.ext m [.cells vs esz e false]).row (nb m.next 0) 0 (1 * esz)).map (fun cs => (1, cs)) = _
  rw [row_all hg (by omega)]; rfl
end Go.Proofs.Ythlbifjgnhdonaa.Ev
