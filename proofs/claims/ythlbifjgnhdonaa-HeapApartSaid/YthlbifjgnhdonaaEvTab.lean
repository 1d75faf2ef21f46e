/- Tables by number, for an evaluator: plain data and laws. -/
import GoSem.Dispatch
namespace Go.Proofs.Ythlbifjgnhdonaa.Ev

theorem beq_ff {a b : Nat} (h : a ≠ b) : a.beq b = false := by
  cases e : a.beq b
  · rfl
  · exact absurd (Nat.eq_of_beq_eq_true e) h
theorem of_beq {a b : Nat} (h : a.beq b = true) : a = b := Nat.eq_of_beq_eq_true h
theorem of_beq_ff {a b : Nat} (h : a.beq b = false) : a ≠ b := by
  rintro rfl
  rw [Nat.beq_refl] at h
  cases h
theorem beq_self (a : Nat) : a.beq a = true := Nat.beq_refl a

/-- A number's way through a tree. -/
def pathAux : Nat → Nat → List Bool
  | 0, _ => []
  | f + 1, k => bif k.beq 0 then [] else bif (k % 2).beq 1 then true :: pathAux f (k / 2) else false :: pathAux f (k / 2 - 1)
def path (k : Nat) : List Bool := pathAux k k

theorem pathAux_inj : ∀ (f g k l : Nat), k ≤ f → l ≤ g → pathAux f k = pathAux g l → k = l := by
  intro f
  induction f with
  | zero =>
    intro g k l hk hl h
    obtain rfl : k = 0 := by omega
    cases g with
    | zero => omega
    | succ g =>
      simp only [pathAux] at h
      by_cases e : l = 0
      · exact e.symm
      · have e1 : l.beq 0 = false := beq_ff e
        rw [e1] at h
        cases e2 : (l % 2).beq 1 <;> simp [e2] at h
  | succ f ih =>
    intro g k l hk hl h
    cases g with
    | zero =>
      obtain rfl : l = 0 := by omega
      simp only [pathAux] at h
      by_cases e : k = 0
      · exact e
      · have e1 : k.beq 0 = false := beq_ff e
        rw [e1] at h
        cases e2 : (k % 2).beq 1 <;> simp [e2] at h
    | succ g =>
      simp only [pathAux] at h
      by_cases e : k = 0
      · by_cases e' : l = 0
        · omega
        · have e1 : l.beq 0 = false := beq_ff e'
          rw [e1] at h
          subst e
          cases e2 : (l % 2).beq 1 <;> simp [e2] at h
      · have e1 : k.beq 0 = false := beq_ff e
        rw [e1] at h
        by_cases e' : l = 0
        · subst e'
          cases e2 : (k % 2).beq 1 <;> simp [e2] at h
        · have e1' : l.beq 0 = false := beq_ff e'
          rw [e1'] at h
          cases e2 : (k % 2).beq 1 <;> cases e2' : (l % 2).beq 1 <;> simp [e2, e2'] at h
          · have := of_beq_ff e2
            have := of_beq_ff e2'
            have := ih g _ _ (by omega) (by omega) h
            omega
          · have := of_beq e2
            have := of_beq e2'
            have := ih g _ _ (by omega) (by omega) h
            omega
theorem path_inj {k l : Nat} (h : path k = path l) : k = l := pathAux_inj _ _ _ _ (Nat.le_refl _) (Nat.le_refl _) h

inductive Tr (α : Type) where
  | leaf
  | node (v : Option α) (l r : Tr α)

def Tr.at {α : Type} : Tr α → List Bool → Option α
  | .leaf, _ => none
  | .node v _ _, [] => v
  | .node _ l r, b :: p => bif b then r.at p else l.at p
def Tr.put {α : Type} (x : α) : List Bool → Tr α → Tr α
  | [], .leaf => .node (some x) .leaf .leaf
  | [], .node _ l r => .node (some x) l r
  | b :: p, .leaf => bif b then .node none .leaf (Tr.put x p .leaf) else .node none (Tr.put x p .leaf) .leaf
  | b :: p, .node v l r => bif b then .node v l (Tr.put x p r) else .node v (Tr.put x p l) r

theorem Tr.at_put_self {α : Type} (x : α) (p : List Bool) : ∀ t : Tr α, (t.put x p).at p = some x := by
  induction p with
  | nil => intro t; cases t <;> rfl
  | cons b p ih => intro t; cases t <;> cases b <;> simp [Tr.put, Tr.at, ih]
theorem Tr.at_put_ne {α : Type} (x : α) (p : List Bool) : ∀ (q : List Bool) (t : Tr α), p ≠ q → (t.put x p).at q = t.at q := by
  induction p with
  | nil =>
    intro q t h
    cases q with
    | nil => exact absurd rfl h
    | cons c q => cases t <;> cases c <;> simp [Tr.put, Tr.at]
  | cons b p ih =>
    intro q t h
    cases q with
    | nil => cases t <;> cases b <;> simp [Tr.put, Tr.at]
    | cons c q =>
      cases t <;> cases b <;> cases c <;> simp [Tr.put, Tr.at] <;> (first | (rw [ih _ _ (fun e => h (by rw [e]))]; try rfl) | skip)

def Tr.get {α : Type} (t : Tr α) (k : Nat) : Option α := t.at (path k)
def Tr.set {α : Type} (t : Tr α) (k : Nat) (x : α) : Tr α := t.put x (path k)
theorem Tr.get_set {α : Type} (t : Tr α) (k l : Nat) (x : α) : (t.set k x).get l = if l = k then some x else t.get l := by
  unfold Tr.get Tr.set
  by_cases h : l = k
  · subst h; rw [if_pos rfl, Tr.at_put_self]
  · rw [if_neg h, Tr.at_put_ne _ _ _ _ (fun e => h (path_inj e).symm)]
theorem Tr.get_leaf {α : Type} (k : Nat) : (Tr.leaf : Tr α).get k = none := by
  unfold Tr.get; cases path k <;> rfl

end Go.Proofs.Ythlbifjgnhdonaa.Ev
