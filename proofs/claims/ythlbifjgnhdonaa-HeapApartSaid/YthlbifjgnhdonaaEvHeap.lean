/- Memory with new blocks, for reckoning by rewriting; tables in which calls that leave all as it was are taken as such. -/
import Derived.Test.YthlbifjgnhdonaaEvSym
namespace Go.Proofs.Ythlbifjgnhdonaa.Ev
open Go
set_option linter.unusedSimpArgs false

/-! ### Entries of a table, by number -/
class Has (T : Nat → Option Ent) (f : Nat) (e : outParam Ent) : Prop where
  has : T f = some e
theorem run_at {T : Nat → Option Ent} {f : Nat} {F : IFun} [h : Has T f (.go F)] {args : List EV} {m : Mem} (hn : args.length ≤ F.ntmps) : run T f args m = resR F.results (exec T F.body (argsF args 0 fr00) m) := run_go' h.has hn

/-! ### New blocks -/
def nb (n i : Nat) : Nat := n + i
def ext (m : Mem) (xs : List Blk) : Mem := xs.foldl Mem.new m
theorem new_eq {m : Mem} {x : Blk} : m.new x = ext m [x] := rfl
theorem ext_ext {m : Mem} {xs ys : List Blk} : ext (ext m xs) ys = ext m (xs ++ ys) := by unfold ext; rw [List.foldl_append]
theorem ext_nil {m : Mem} : ext m [] = m := rfl
theorem nb_nb {n i j : Nat} : nb (nb n i) j = nb n (i + j) := Nat.add_assoc n i j
theorem nb_zero {n : Nat} : nb n 0 = n := rfl
theorem next_ext {m : Mem} {xs : List Blk} : (ext m xs).next = nb m.next xs.length := by
  unfold ext nb
  induction xs generalizing m with
  | nil => rfl
  | cons x xs ih => rw [List.foldl_cons, ih]; show m.next + 1 + _ = _; rw [List.length_cons]; omega
theorem next_set {m : Mem} {b : Nat} {x : Blk} : (m.set b x).next = m.next := rfl
theorem next_new {m : Mem} {x : Blk} : (m.new x).next = m.next + 1 := rfl
theorem get_new {m : Mem} {x : Blk} {b : Nat} : (m.new x).get b = if b = m.next then x else m.get b := by
  unfold Mem.get Mem.new; simp only; rw [Tr.get_set]; split <;> rfl
theorem get_set {m : Mem} {x : Blk} {b c : Nat} : (m.set c x).get b = if b = c then x else m.get b := by
  unfold Mem.get Mem.set; simp only; rw [Tr.get_set]; split <;> rfl
theorem get_set_eq {m : Mem} {x : Blk} {b : Nat} : (m.set b x).get b = x := by rw [get_set, if_pos rfl]
theorem get_set_ne {m : Mem} {x : Blk} {b c : Nat} (h : b ≠ c) : (m.set c x).get b = m.get b := by rw [get_set, if_neg h]
theorem get_ext_old {m : Mem} {xs : List Blk} {b : Nat} (h : b < m.next) : (ext m xs).get b = m.get b := by
  unfold ext
  induction xs generalizing m with
  | nil => rfl
  | cons x xs ih => rw [List.foldl_cons, ih (by rw [next_new]; omega), get_new, if_neg (by omega)]
theorem get_ext_nb {m : Mem} {xs : List Blk} {n i : Nat} (hn : m.next = n) (h : i < xs.length) : (ext m xs).get (nb n i) = xs[i]?.getD .dead := by
  subst hn
  unfold ext nb
  induction xs generalizing m i with
  | nil => simp at h
  | cons x xs ih =>
    rw [List.foldl_cons]
    cases i with
    | zero =>
      have := get_ext_old (m := m.new x) (xs := xs) (b := m.next) (by rw [next_new]; omega)
      unfold ext at this
      rw [Nat.add_zero, this, get_new, if_pos rfl]; rfl
    | succ i =>
      have := ih (m := m.new x) (i := i) (by simpa using h)
      rw [next_new, show m.next + 1 + i = m.next + (i + 1) by omega] at this
      rw [this]; rfl
/-- Memories that tell the same. -/
def Keeps (m m' : Mem) : Prop := ∀ b, b < m.next → m'.get b = m.get b
theorem keeps_refl {m : Mem} : Keeps m m := fun _ _ => rfl
theorem keeps_ext {m : Mem} {xs : List Blk} : Keeps m (ext m xs) := fun _ h => get_ext_old h

/-! ### Loads and stores -/
def ldB (x : Blk) (agg : Option Nat) (off : Nat) : Option EV := match x with
  | .cells cs _ _ _ => partOf agg cs off
  | _ => none
theorem load_ptr' {m : Mem} {agg : Option Nat} {b off : Nat} : m.load agg (.ptr b off) = ldB (m.get b) agg off := by
  simp only [Mem.load, ldB]; cases m.get b <;> rfl
theorem ldB_cells {cs : List EV} {e t : Nat} {ro : Bool} {agg : Option Nat} {off : Nat} : ldB (.cells cs e t ro) agg off = partOf agg cs off := rfl
theorem part_none {cs : List EV} {off : Nat} : partOf none cs off = cs[off]? := rfl
theorem part_some {cs : List EV} {off n : Nat} (h : off + n ≤ cs.length) : partOf (some n) cs off = some (.agg ((cs.drop off).take n)) := by
  show (bif (off + n).ble cs.length then some (EV.agg ((cs.drop off).take n)) else none) = _
  rw [Nat.ble_eq_true_of_le h]; rfl
def stB (m : Mem) (size b off : Nat) (vs : Option (List EV)) : Option Mem := match vs with
  | some vs => bif vs.length.beq size then m.write b off vs else none
  | none => none
theorem store_ptr' {m : Mem} {size b off : Nat} {x : EV} : m.store size (.ptr b off) x = stB m size b off x.cells := by
  simp only [Mem.store, stB]; cases x.cells <;> rfl
theorem stB_some {m : Mem} {size b off : Nat} {vs : List EV} (h : vs.length = size) : stB m size b off (some vs) = m.write b off vs := by
  show (bif vs.length.beq size then m.write b off vs else none) = _
  rw [h, beq_self]; rfl
def wrB (m : Mem) (b off : Nat) (vs : List EV) (x : Blk) : Option Mem := match x with
  | .cells cs esz elem ro => bif ro then none else (splice cs off vs).map fun cs => m.set b (.cells cs esz elem ro)
  | _ => none
theorem write_eq {m : Mem} {b off : Nat} {vs : List EV} : m.write b off vs = wrB m b off vs (m.get b) := by simp only [Mem.write, wrB]; cases m.get b <;> rfl
theorem wrB_cells {m : Mem} {b off : Nat} {vs cs : List EV} {e t : Nat} (h : off + vs.length ≤ cs.length) : wrB m b off vs (.cells cs e t false) = some (m.set b (.cells (cs.take off ++ vs ++ cs.drop (off + vs.length)) e t false)) := by
  show (bif false then none else (splice cs off vs).map fun cs => m.set b (.cells cs e t false)) = _
  unfold splice; rw [Nat.ble_eq_true_of_le h]; rfl
/-! ### Cells -/
theorem cells_int {k : IntKind} {n : Int} : (EV.int k n).cells = some [.int k n] := rfl
theorem cells_bool {b : Bool} : (EV.bool b).cells = some [.bool b] := rfl
theorem cells_bo {p : Prop} : (bo p).cells = some [bo p] := rfl
theorem cells_str {s : List UInt8} : (EV.str s).cells = some [.str s] := rfl
theorem cells_nilptr : EV.nilptr.cells = some [.nilptr] := rfl
theorem cells_ptr {b o : Nat} : (EV.ptr b o).cells = some [.ptr b o] := rfl
theorem cells_nilslice : EV.nilslice.cells = some [.nilslice] := rfl
theorem cells_slice {b o l : Nat} {c : Option Nat} : (EV.slice b o l c).cells = some [.slice b o l c] := rfl
theorem cells_nilmap : EV.nilmap.cells = some [.nilmap] := rfl
theorem cells_map {b : Nat} : (EV.map b).cells = some [.map b] := rfl
theorem cells_nilfunc : EV.nilfunc.cells = some [.nilfunc] := rfl
theorem cells_func {f : Nat} {x y : List EV} : (EV.func f x y).cells = some [.func f x y] := rfl
theorem cells_niliface : EV.niliface.cells = some [.niliface] := rfl
theorem cells_iface {t : Nat} {v : EV} : (EV.iface t v).cells = some [.iface t v] := rfl
theorem cells_agg {cs : List EV} : (EV.agg cs).cells = some cs := rfl
def fillB (cs : List EV) (off size : Nat) (vs : Option (List EV)) (r : List (Nat × Nat × EV)) : Option (List EV) := match vs with
  | some vs => bif vs.length.beq size then match splice cs off vs with
      | some cs => fillIn cs r
      | none => none
    else none
  | none => none
theorem fill_nil {cs : List EV} : fillIn cs [] = some cs := rfl
theorem fill_cons {cs : List EV} {off size : Nat} {v : EV} {r : List (Nat × Nat × EV)} : fillIn cs ((off, size, v) :: r) = fillB cs off size v.cells r := by simp only [fillB, fillIn]; cases v.cells <;> rfl
theorem fillB_some {cs : List EV} {off size : Nat} {vs : List EV} {r : List (Nat × Nat × EV)} (h : vs.length = size) (h2 : off + vs.length ≤ cs.length) : fillB cs off size (some vs) r = fillIn (cs.take off ++ vs ++ cs.drop (off + vs.length)) r := by
  show (bif vs.length.beq size then match splice cs off vs with | some cs => fillIn cs r | none => none else none) = _
  unfold splice; rw [h, beq_self, Nat.ble_eq_true_of_le (by rw [← h]; exact h2)]; rfl
def boxE (elem : Nat) (m : Mem) (vs : Option (List EV)) : Option R1 := match vs with
  | some cs => some (.val (.ptr (nb m.next 0) 0) (ext m [.cells cs cs.length elem false]))
  | none => none
theorem evOp_box' {ρ : Opd → EV} {m : Mem} {elem : Nat} {x : Opd} : evOp ρ (.box elem x) m = boxE elem m (ρ x).cells := by
  simp only [evOp]; unfold boxE; cases (ρ x).cells <;> rfl
theorem boxE_some {elem : Nat} {m : Mem} {cs : List EV} : boxE elem m (some cs) = some (.val (.ptr (nb m.next 0) 0) (ext m [.cells cs cs.length elem false])) := rfl
theorem evOp_alloc' {ρ : Opd → EV} {m : Mem} {elem : Nat} {zero : List EV} : evOp ρ (.alloc elem zero) m = some (.val (.ptr (nb m.next 0) 0) (ext m [.cells zero zero.length elem false])) := rfl
theorem evOp_mkmap' {ρ : Opd → EV} {m : Mem} : evOp ρ .mkmap m = some (.val (.map (nb m.next 0)) (ext m [.map []])) := rfl

/-! ### Blocks set: in what order does not matter -/
theorem put_same {α : Type} (x y : α) (p : List Bool) : ∀ t : Tr α, (t.put x p).put y p = t.put y p := by
  induction p with
  | nil => intro t; cases t <;> rfl
  | cons b p ih => intro t; cases t <;> cases b <;> simp [Tr.put, ih]
theorem put_comm {α : Type} (x y : α) (p : List Bool) : ∀ (q : List Bool) (t : Tr α), p ≠ q → (t.put x p).put y q = (t.put y q).put x p := by
  induction p with
  | nil =>
    intro q t h
    cases q with
    | nil => exact absurd rfl h
    | cons c q => cases t <;> cases c <;> simp [Tr.put]
  | cons b p ih =>
    intro q t h
    cases q with
    | nil => cases t <;> cases b <;> simp [Tr.put]
    | cons c q =>
      by_cases hbc : b = c
      · subst hbc
        have hpq : p ≠ q := fun e => h (by rw [e])
        cases t <;> cases b <;> simp [Tr.put, ih _ _ hpq]
      · cases t <;> cases b <;> cases c <;> simp [Tr.put] at hbc ⊢
theorem set_same {m : Mem} {b : Nat} {x y : Blk} : (m.set b x).set b y = m.set b y := by
  unfold Mem.set Tr.set; simp only; rw [put_same]
theorem set_comm {m : Mem} {b c : Nat} {x y : Blk} (h : b ≠ c) : (m.set b x).set c y = (m.set c y).set b x := by
  unfold Mem.set Tr.set; simp only; rw [put_comm _ _ _ _ _ (fun e => h (path_inj e))]
theorem new_set {m : Mem} {b : Nat} {x y : Blk} (h : b < m.next) : (m.new y).set b x = (m.set b x).new y := by
  unfold Mem.set Mem.new Tr.set; simp only; rw [put_comm _ _ _ _ _ (fun e => by have := path_inj e; omega)]
theorem new_set_same {m : Mem} {x y : Blk} : (m.new y).set m.next x = m.new x := by
  unfold Mem.set Mem.new Tr.set; simp only; rw [put_same]
theorem set_ext_old {m : Mem} {xs : List Blk} {b : Nat} {x : Blk} (h : b < m.next) : (ext m xs).set b x = ext (m.set b x) xs := by
  unfold ext
  induction xs generalizing m with
  | nil => rfl
  | cons y ys ih => rw [List.foldl_cons, ih (by rw [next_new]; omega), new_set h]; rfl
theorem set_ext_nb {m : Mem} {xs : List Blk} {n i : Nat} {x : Blk} (hn : m.next = n) (h : i < xs.length) : (ext m xs).set (nb n i) x = ext m (xs.set i x) := by
  subst hn
  induction xs generalizing m i with
  | nil => simp at h
  | cons y ys ih =>
    cases i with
    | zero =>
      have := set_ext_old (m := m.new y) (xs := ys) (b := m.next) (x := x) (by rw [next_new]; omega)
      rw [new_set_same] at this
      exact this
    | succ i =>
      have := ih (m := m.new y) (i := i) (by simpa using h)
      rw [next_new] at this
      unfold nb at this ⊢
      rw [show m.next + (i + 1) = m.next + 1 + i by omega]
      exact this

/-! ### Calls that leave all as it was -/
open Classical in
noncomputable def lookOf (T : Nat → Option Ent) (f : Nat) : List EV → Mem → Option EV := fun args m => match run T f args m with
  | some (.ret v m') => if Flat v = true ∧ Keeps m m' then some v else none
  | _ => none
theorem lookOf_ok {P : Program} {G : List Nat} (hmix : P.follows .mixedOrders = true) {T : Nat → Option Ent} (hT : ∀ f e, T f = some e → EntOk P G f e) {f : Nat} {F : IFun} (hf : T f = some (.go F)) : EntOk P G f (.spec (lookG (lookOf T f))) := by
  refine look_ok hmix hT hf fun args m v h => ?_
  unfold lookOf at h
  split at h
  · rename_i v' m' hr
    split at h
    · rename_i hh
      cases h
      obtain ⟨k, hk⟩ := run_iff.1 hr
      exact ⟨hh.1, k, m', hk, hh.2⟩
    · cases h
  · cases h
theorem run_look {T T' : Nat → Option Ent} {f : Nat} [h : Has T' f (.spec (lookG (lookOf T f)))] {args : List EV} {m m' : Mem} {v : EV} (hr : run T f args m = some (.ret v m')) (hv : Flat v = true) (hk : Keeps m m') : run T' f args m = some (.ret v m) := by
  rw [run_spec h.has]
  unfold lookG lookOf
  rw [hr]
  simp only
  rw [if_pos ⟨hv, hk⟩]
  rfl
end Go.Proofs.Ythlbifjgnhdonaa.Ev
