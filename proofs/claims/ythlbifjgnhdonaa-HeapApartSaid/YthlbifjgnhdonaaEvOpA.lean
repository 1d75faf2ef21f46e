/- Operations that look at no memory: what the evaluator tells, the model tells. -/
import Derived.Test.YthlbifjgnhdonaaEvMem
namespace Go.Proofs.Ythlbifjgnhdonaa.Ev
open Go

def Globs (G : List Nat) (ρ : Ren) : Prop := ∀ g, G.contains g = true → ∃ L, ρ g = some L ∧ L.blk = g ∧ L.off = 0
theorem Globs.ext {G : List Nat} {ρ ρ' : Ren} (e : Ext ρ ρ') (h : Globs G ρ) : Globs G ρ' := fun g hg => let ⟨L, a, b, c⟩ := h g hg; ⟨L, e _ _ a, b, c⟩

theorem mapM_some {α β : Type} (f : α → Option β) : ∀ {l : List α} {r : List β}, l.mapM f = some r → l.length = r.length ∧ ∀ (i : Nat) (x : α) (y : β), l[i]? = some x → r[i]? = some y → f x = some y
  | [], r, h => by simp at h; subst h; simp
  | a :: l, r, h => by
    rw [List.mapM_cons] at h
    cases ha : f a with
    | none => simp [ha] at h
    | some b =>
      cases hl : l.mapM f with
      | none => simp [ha, hl] at h
      | some bs =>
        simp [ha, hl] at h
        subst h
        obtain ⟨h1, h2⟩ := mapM_some f hl
        refine ⟨by simp [h1], fun i x y hx hy => ?_⟩
        cases i with
        | zero => simp at hx hy; subst hx hy; exact ha
        | succ i => simp at hx hy; exact h2 i x y hx hy

theorem flat_one {ρ : Ren} {e : EV} {v : Value} (h : VR ρ e v) (hf : flatE e = true) : v.oneCell' = true := by
  cases h <;> first | rfl | simp [flatE] at hf
theorem cV_sound {ρ : Ren} : ∀ (n : Nat) (v : Value) (e : EV), cV n v = some e → VR ρ e v := by
  intro n
  induction n with
  | zero => intro v e h; simp [cV] at h
  | succ n ih =>
    have list : ∀ (l : List Value) (r : List EV), l.mapM (cV n) = some r → VRs ρ r l := by
      intro l r h
      obtain ⟨h1, h2⟩ := mapM_some _ h
      exact VRs.of_get h1.symm fun i v v' hv hv' => ih _ _ (h2 i v' v hv' hv)
    intro v e h
    unfold cV at h
    split at h
    · cases h; constructor
    · cases h; constructor
    · cases h; constructor
    · cases h; constructor
    · cases h; constructor
    · cases h; constructor
    · cases h; constructor
    · cases h; constructor
    · rename_i f a c
      cases ha : a.toList.mapM (cV n) with
      | none => simp [ha] at h
      | some x =>
        cases hc : c.toList.mapM (cV n) with
        | none => simp [ha, hc] at h
        | some y => simp [ha, hc] at h; subst h; exact .func (list _ _ ha) (list _ _ hc)
    · obtain ⟨x, hx, rfl⟩ := Option.map_eq_some_iff.1 h
      exact .iface (ih _ _ hx)
    · rename_i cs
      cases hx : cs.toList.mapM (cV n) with
      | none => simp [hx] at h
      | some x =>
        simp only [hx] at h
        cases hf : x.all flatE <;> simp [hf] at h
        subst h
        have hl := list _ _ hx
        refine .agg hl fun c hc => ?_
        obtain ⟨i, hi⟩ := List.mem_iff_getElem?.1 hc
        have hlt : i < x.length := by rw [hl.length]; exact (List.getElem?_eq_some_iff.1 hi).1
        obtain ⟨v', h1, h2⟩ := hl.get i x[i] (List.getElem?_eq_getElem hlt)
        rw [hi] at h1; cases h1
        exact flat_one h2 (List.all_eq_true.1 hf _ (List.getElem_mem hlt))
    · obtain ⟨x, hx, rfl⟩ := Option.map_eq_some_iff.1 h
      exact .tuple (list _ _ hx)
    · cases h

/-- The frame's temporaries. -/
structure FR (ρ : Ren) (n : Nat) (fr : Fr) (a : Act) : Prop where
  size : a.tmps.size = n
  tmp : ∀ t, VR ρ (fr.get t) (a.tmps.getD t undef)
theorem FR.ext {ρ ρ' : Ren} {n : Nat} {fr : Fr} {a : Act} (e : Ext ρ ρ') (h : FR ρ n fr a) : FR ρ' n fr a := ⟨h.size, fun t => (h.tmp t).ext e⟩
theorem Fr.get_set (fr : Fr) (d t : Nat) (v : EV) : (fr.set d v).get t = if t = d then v else fr.get t := by
  unfold Fr.get Fr.set
  simp only [Tr.get_set]
  split <;> rfl
theorem FR.put {ρ : Ren} {n : Nat} {fr : Fr} {a : Act} (h : FR ρ n fr a) {d : Option Nat} (hd : ∀ x, d = some x → x < n) {v : EV} {v' : Value} (hv : VR ρ v v') : FR ρ n (fr.put d v) (a.put d v') := by
  cases d with
  | none => exact h
  | some d =>
    have hlt := hd d rfl
    refine ⟨by simp [Act.put, h.size], fun t => ?_⟩
    simp only [Fr.put, Fr.get_set, Act.put]
    by_cases e : t = d
    · subst e
      rw [if_pos rfl]
      rw [Array.getD_eq_getD_getElem?, Array.getElem?_setIfInBounds_self_of_lt (by rw [h.size]; exact hlt)]
      exact hv
    · rw [if_neg e]
      rw [Array.getD_eq_getD_getElem?, Array.getElem?_setIfInBounds_ne (by omega), ← Array.getD_eq_getD_getElem?]
      exact h.tmp t
section
variable {G : List Nat} {ρ : Ren} {n : Nat} {fr : Fr} {a : Act}
theorem cOpd_sound (hG : Globs G ρ) (hF : FR ρ n fr a) {x : Operand} {y : Opd} (h : cOpd G x = some y) : VR ρ (fr.eval y) (a.eval x) := by
  cases x with
  | tmp t => simp [cOpd] at h; subst h; exact hF.tmp t
  | const v => simp [cOpd] at h; obtain ⟨e, he, rfl⟩ := h; exact cV_sound _ _ _ he
  | global g =>
    simp only [cOpd] at h
    cases hg : G.contains g <;> simp only [hg, cond_true, cond_false, reduceCtorEq, Option.some.injEq] at h
    subst h
    obtain ⟨L, h1, h2, h3⟩ := hG g hg
    have := VR.ptr (off := 0) h1
    rw [h2, h3] at this
    exact this
  | func f => simp [cOpd] at h; subst h; exact .func .nil .nil
theorem cOpds_sound (hG : Globs G ρ) (hF : FR ρ n fr a) {xs : List Operand} {ys : List Opd} (h : cOpds G xs = some ys) : VRs ρ (ys.map fr.eval) (xs.map a.eval) := by
  obtain ⟨h1, h2⟩ := mapM_some _ h
  exact VRs.map_of _ _ (R := fun y x => cOpd G x = some y) (fun y x hxy => cOpd_sound hG hF hxy) h1.symm fun i y x hy hx => h2 i x y hx hy
/-- A bound that may be left out. -/
inductive OptR (ρ : Ren) : Option EV → Option Value → Prop
  | none : OptR ρ none none
  | some {v : EV} {v' : Value} (h : VR ρ v v') : OptR ρ (some v) (some v')
theorem cOpt_sound (hG : Globs G ρ) (hF : FR ρ n fr a) {x : Option Operand} {y : Option Opd} (h : cOpt G x = some y) : OptR ρ (y.map fr.eval) (x.map a.eval) := by
  cases x with
  | none => simp [cOpt] at h; subst h; exact .none
  | some x => simp [cOpt] at h; obtain ⟨z, hz, rfl⟩ := h; exact .some (cOpd_sound hG hF hz)
end

/-- What an operation that tells a value must show. -/
def Good (base : Nat) (ρ : Ren) (m : Mem) (w : World) (v : EV) (m' : Mem) (r : Result Next) : Prop :=
  ∃ ρ' w' v', (r = .ok (.value v') w' ∨ (r = .ok .skip w' ∧ v' = undef)) ∧ VR ρ' v v' ∧ R base ρ' m' w' ∧ Step ρ m w ρ' m' w'
section
variable {base : Nat} {ρ : Ren} {m : Mem} {w : World} {P : Program}
theorem Good.still (hR : R base ρ m w) {v : EV} {v' : Value} {s : Sem Value} (h : s.run P w = .ok v' w) (hv : VR ρ v v') :
    Good base ρ m w v m ((do pure (Next.value (← s)) : Sem Next).run P w) :=
  ⟨ρ, w, v', .inl (by simp [h]), hv, hR, .refl _ _ _⟩
theorem Good.quiet (hR : R base ρ m w) {v : EV} {v' : Value} {s : Sem Value} {w' : World} (h : s.run P w = .ok v' w') (q : Quiet w w') (hv : VR ρ v v') :
    Good base ρ m w v m ((do pure (Next.value (← s)) : Sem Next).run P w) :=
  ⟨ρ, w', v', .inl (by simp [h]), hv, hR.quiet q, .quiet q⟩

/-! ### Whole numbers, truths, strings -/
theorem sameBytes_eq : ∀ {a b : List UInt8}, sameBytes a b = decide (a = b)
  | [], [] => rfl
  | [], _ :: _ => by simp [sameBytes]
  | _ :: _, [] => by simp [sameBytes]
  | x :: a, y :: b => by
    simp only [sameBytes, List.cons.injEq]
    cases h : x.toNat.beq y.toNat with
    | true =>
      have : x = y := UInt8.toNat_inj.1 (of_beq h)
      simp [this, sameBytes_eq (a := a) (b := b)]
    | false =>
      have : x ≠ y := fun e => of_beq_ff h (by rw [e])
      simp [this]
theorem kindNo_inj {k l : IntKind} (h : (kindNo k).beq (kindNo l) = true) : k = l := by
  have := of_beq h
  cases k <;> cases l <;> simp [kindNo] at this <;> rfl
theorem bits_sound {op : BinOp} {k : IntKind} {x y n : Int} (h : evBits op k x y = some n) : Op.intBits op k x y = (Pure.pure (.int k n) : Sem Value) := by
  cases op <;> simp only [evBits, reduceCtorEq, Option.some.injEq] at h <;> subst h <;> rfl
theorem bool_decide_lt (x y : Int) : (decide (x < y)) = (decide (x < y)) := rfl
theorem evBin_int {op : BinOp} {t : TypeId} {k l : IntKind} {x y : Int} {v : EV} (h : evBin op (.int k x) (.int l y) = some v) : ∃ v', VR ρ v v' ∧ (binOp op t (.int k x) (.int l y)).run P w = .ok v' w := by
  simp only [evBin] at h
  cases op
  case shl =>
    simp only [evShift] at h
    split at h
    · cases h
    · rename_i hn; cases h; exact ⟨_, .int _ _, by simp [binOp, Op.shift, hn]⟩
  case shr =>
    simp only [evShift] at h
    split at h
    · cases h
    · rename_i hn; cases h; exact ⟨_, .int _ _, by simp [binOp, Op.shift, hn]⟩
  all_goals
    simp only [] at h
    cases hk : (kindNo k).beq (kindNo l) <;> simp only [hk, cond_true, cond_false, reduceCtorEq] at h
    obtain rfl := kindNo_inj hk
    simp only [evInt] at h
  case add => cases h; exact ⟨_, .int _ _, by simp [binOp, Op.intArith]⟩
  case sub => cases h; exact ⟨_, .int _ _, by simp [binOp, Op.intArith]⟩
  case mul => cases h; exact ⟨_, .int _ _, by simp [binOp, Op.intArith]⟩
  case quo => split at h <;> cases h; rename_i hy; exact ⟨_, .int _ _, by simp [binOp, Op.intDiv, hy]⟩
  case rem => split at h <;> cases h; rename_i hy; exact ⟨_, .int _ _, by simp [binOp, Op.intDiv, hy]⟩
  case eql => cases h; exact ⟨_, .bool _, by simp [binOp, Op.intCmp]; rfl⟩
  case neq => cases h; exact ⟨_, .bool _, by simp [binOp, Op.intCmp]; rfl⟩
  case lss => cases h; exact ⟨_, .bool _, by simp [binOp, Op.intCmp]⟩
  case leq => cases h; exact ⟨_, .bool _, by simp [binOp, Op.intCmp]⟩
  case gtr => cases h; exact ⟨_, .bool _, by simp [binOp, Op.intCmp]⟩
  case geq => cases h; exact ⟨_, .bool _, by simp [binOp, Op.intCmp]⟩
  all_goals
    obtain ⟨n, hn, rfl⟩ := Option.map_eq_some_iff.1 h
    exact ⟨_, .int _ _, by simp [binOp, bits_sound hn]⟩
theorem bytes_list (s : ByteArray) : s.toList = s.data.toList := by
  have aux : ∀ (s : ByteArray) (i : Nat) (acc : List UInt8), ByteArray.toList.loop s i acc = acc.reverse ++ s.data.toList.drop i := by
    intro s i acc
    fun_induction ByteArray.toList.loop s i acc with
    | case1 i acc h ih =>
      rw [ih]
      have hlt : i < s.data.toList.length := by simpa using h
      have hg : s.get! i = s.data.toList[i] := by
        simp [ByteArray.get!, getElem!_def]
        rw [Array.getElem?_eq_getElem (by simpa using h)]
      rw [List.drop_eq_getElem_cons hlt, hg]
      simp
    | case2 i acc h =>
      rw [List.drop_of_length_le (by simpa using h)]
      simp
  simp [ByteArray.toList, aux]
theorem list_beq (a b : List UInt8) : (a == b) = decide (a = b) := by rw [Bool.eq_iff_iff]; simp
theorem evBin_str {op : BinOp} {t : TypeId} {x y : ByteArray} {v : EV} (h : evBin op (.str x.data.toList) (.str y.data.toList) = some v) : ∃ v', VR ρ v v' ∧ (binOp op t (.string x) (.string y)).run P w = .ok v' w := by
  simp only [evBin] at h
  cases op <;> simp only [reduceCtorEq, Option.some.injEq] at h
  case add =>
    cases hl : (x.data.toList.length + y.data.toList.length).ble 4294967296 <;> simp only [hl, cond_true, cond_false, reduceCtorEq, Option.some.injEq] at h
    subst h
    have hle := Nat.le_of_ble_eq_true hl
    refine ⟨.string (x ++ y), ?_, ?_⟩
    · have := VR.str (ρ := ρ) (x ++ y)
      rw [ByteArray.data_append, Array.toList_append] at this
      exact this
    · have hx : x.size = x.data.toList.length := rfl
      have hy : y.size = y.data.toList.length := rfl
      have : ¬ ((x.size + y.size : Nat) : Int) > IntKind.i64.max := by
        rw [hx, hy]; simp only [IntKind.max_i64]; omega
      simp only [binOp, Op.stringOp]
      rw [if_neg this]
      rfl
  case eql =>
    subst h
    exact ⟨_, .bool _, by simp only [binOp, Op.stringOp, bytes_list, sameBytes_eq, list_beq]; rfl⟩
  case neq =>
    subst h
    exact ⟨_, .bool _, by simp only [binOp, Op.stringOp, bytes_list, sameBytes_eq, list_beq]; rfl⟩
theorem evBin_sound {op : BinOp} {t : TypeId} {x y v : EV} {x' y' : Value} (hx : VR ρ x x') (hy : VR ρ y y') (h : evBin op x y = some v) :
    ∃ v', VR ρ v v' ∧ (binOp op t x' y').run P w = .ok v' w := by
  cases hx <;> cases hy <;> first
    | exact evBin_int h
    | exact evBin_str h
    | (simp [evBin] at h; done)
theorem eqGuard_other {op : BinOp} {t : TypeId} {x y : Operand} {a b : Value} (h : op ≠ .eql) (h' : op ≠ .neq) : eqGuard op t x y a b = (Pure.pure () : Sem Unit) := by
  cases op <;> first | rfl | exact absurd rfl h | exact absurd rfl h'
theorem evUn_sound {op : UnOp} {x v : EV} {x' : Value} (hx : VR ρ x x') (h : evUn op x = some v) : ∃ v', VR ρ v v' ∧ (Op.unary op x').run P w = .ok v' w := by
  cases hx <;> cases op <;> simp only [evUn, reduceCtorEq, Option.some.injEq] at h
  case int.neg => subst h; exact ⟨_, .int _ _, by simp [Op.unary, Op.intArith]⟩
  case int.xor =>
    obtain ⟨n, hn, rfl⟩ := Option.map_eq_some_iff.1 h
    exact ⟨_, .int _ _, by simp [Op.unary, bits_sound hn]⟩
  case bool.not => subst h; exact ⟨_, .bool _, by simp [Op.unary]⟩
end
end Go.Proofs.Ythlbifjgnhdonaa.Ev
