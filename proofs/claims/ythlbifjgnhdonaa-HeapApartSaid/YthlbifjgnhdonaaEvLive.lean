/- What came in: slices of numbers, and that it stands. -/
import Derived.Test.YthlbifjgnhdonaaEvIn
namespace Go.Proofs.Ythlbifjgnhdonaa.Ev
open Go
/-- What stands in memory stands below its end. -/
def Stands (m : Mem) : Prop := ∀ b cs e t ro, m.get b = .cells cs e t ro → b < m.next
theorem in_live {n0 : Nat} {bs : List InB} : Stands (inMem n0 bs) := by
  intro b cs e t ro h
  refine Classical.byContradiction fun q => ?_
  have : (inMem n0 bs).next = n0 + bs.length := rfl
  rw [inMem_dead (.inr (by omega))] at h
  cases h
theorem reps_ints {m : Mem} {k : IntKind} : ∀ (n : Nat) (ess : List (List EV)) (ds : List Dt), Reps m (List.replicate n (.int k)) ess ds → ∃ zs : List Int, ess.flatten = zs.map (.int k) ∧ zs.length = n ∧ ∀ z ∈ zs, (Lit.int k z).wf = true
  | 0, ess, ds, h => by
    cases h
    exact ⟨[], rfl, rfl, fun z hz => by cases hz⟩
  | n + 1, ess, ds, h => by
    rw [List.replicate_succ] at h
    cases h with
    | cons h hs =>
      obtain ⟨zs, e1, e2, e3⟩ := reps_ints n _ _ hs
      cases h with
      | int hw =>
        rename_i z
        refine ⟨z :: zs, by rw [List.flatten_cons, e1]; rfl, by simp [e2], ?_⟩
        intro y hy
        rcases List.mem_cons.1 hy with rfl | hy
        · exact hw
        · exact e3 y hy
/-- A slice of numbers that came in. -/
theorem in_ints {m : Mem} {t : TypeId} {k : IntKind} {e : EV} {d : Dt} (h : RepV m (.slice t 1 (.int k)) e d) : e = .nilslice ∨ (∃ b o, e = .slice b o 0 (some 0)) ∨ ∃ (b : Nat) (zs : List Int), e = .slice b 0 zs.length none ∧ m.get b = .cells (zs.map (.int k)) 1 0 true ∧ zs.length ≤ maxLen ∧ ∀ z ∈ zs, (Lit.int k z).wf = true := by
  have h : Rep m (.slice t 1 (.int k)) [e] d := h
  cases h with
  | nil => exact .inl rfl
  | empty => exact .inr (.inl ⟨_, _, rfl⟩)
  | slice hl hm hr =>
    obtain ⟨zs, e1, e2, e3⟩ := reps_ints _ _ _ hr
    rw [e1] at hm
    exact .inr (.inr ⟨_, zs, by rw [e2], hm, by omega, e3⟩)
end Go.Proofs.Ythlbifjgnhdonaa.Ev
