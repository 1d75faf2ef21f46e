/- A table of functions; functions for which the model stands in. -/
import Derived.Test.YthlbifjgnhdonaaEvSym
import Derived.Laws.Externs
import Derived.Lib.Bytealg
import Derived.KernelRfl
namespace Go.Proofs.Ythlbifjgnhdonaa.Ev
open Go

/-- A table, in order. -/
inductive Bt where
  | leaf
  | node (k : Nat) (e : Ent) (l r : Bt)
def Bt.find : Bt → Nat → Option Ent
  | .leaf, _ => none
  | .node k e l r, f => bif f.beq k then some e else bif f.blt k then l.find f else r.find f
def Bt.All (Q : Nat → Ent → Prop) : Bt → Prop
  | .leaf => True
  | .node k e l r => Q k e ∧ l.All Q ∧ r.All Q
theorem Bt.find_of {Q : Nat → Ent → Prop} : ∀ {t : Bt}, t.All Q → ∀ f e, t.find f = some e → Q f e
  | .leaf, _, f, e, h => by simp [Bt.find] at h
  | .node k x l r, ⟨h0, hl, hr⟩, f, e, h => by
    simp only [Bt.find] at h
    cases hk : f.beq k with
    | true =>
      rw [of_beq hk]
      simp only [hk, cond_true, Option.some.injEq] at h
      subst h; exact h0
    | false =>
      simp only [hk, cond_false] at h
      cases hb : f.blt k <;> simp only [hb, cond_true, cond_false] at h
      · exact Bt.find_of hr f e h
      · exact Bt.find_of hl f e h

/-- math/bits.Add64 -/
def xAdd64 : List EV → Option EV
  | [.int .u64 (.ofNat x), .int .u64 (.ofNat y), .int .u64 (.ofNat c)] => bif c.ble 1 then some (.tuple [.int .u64 (.ofNat ((x + y + c) % 18446744073709551616)), .int .u64 (.ofNat ((x + y + c) / 18446744073709551616))]) else none
  | _ => none
theorem ext_add64 {P : Program} {G : List Nat} {f : Nat} {fn : Func} (hf : P.funcs[f]? = some fn) (hname : (fn.name == "runtime.NumGoroutine") = false) (hb : fn.body.isNone = true) (hn : Extern.findNext fn = none) (he : Extern.find fn = some add64Entry) :
    EntOk P G f (.ext xAdd64) := by
  intro base ρ m w args args' v _ hv h
  unfold xAdd64 at h
  split at h
  · rename_i x y c
    cases hc : c.ble 1 <;> simp only [hc, cond_true, cond_false, reduceCtorEq, Option.some.injEq] at h
    subst h
    have hc : c ≤ 1 := Nat.le_of_ble_eq_true hc
    obtain ⟨l⟩ := args'
    cases hv with
    | cons h1 hs =>
    cases hs with
    | cons h2 hs =>
    cases hs with
    | cons h3 hs =>
    cases hs
    cases h1; cases h2; cases h3
    refine ⟨_, ?_, .tuple (.cons (.int _ _) (.cons (.int _ _) .nil))⟩
    rw [run_callFunc_extern hf hname hb hn he]
    have h := run_add64 (P := P) (x : Int) (y : Int) (c : Int) (Int.natCast_nonneg x) (Int.natCast_nonneg y) (Int.natCast_nonneg c) (by omega) w
    have h' : (add64Entry ⟨[Value.int IntKind.u64 (Int.ofNat x), Value.int IntKind.u64 (Int.ofNat y), Value.int IntKind.u64 (Int.ofNat c)]⟩).run P w = _ := h
    rw [h']
    simp only [Result.andThen]
    congr 5
  · cases h
theorem add64_int {x y c : Int} (hx : 0 ≤ x) (hy : 0 ≤ y) (h0 : 0 ≤ c) (hc : c ≤ 1) : xAdd64 [.int .u64 x, .int .u64 y, .int .u64 c] = some (.tuple [.int .u64 ((x + y + c) % 18446744073709551616), .int .u64 ((x + y + c) / 18446744073709551616)]) := by
  obtain ⟨a, rfl⟩ := Int.eq_ofNat_of_zero_le hx
  obtain ⟨b, rfl⟩ := Int.eq_ofNat_of_zero_le hy
  obtain ⟨d, rfl⟩ := Int.eq_ofNat_of_zero_le h0
  have hd : d.ble 1 = true := Nat.ble_eq_true_of_le (by omega)
  show (bif d.ble 1 then _ else _) = _
  rw [hd]
  rfl

/-- internal/bytealg.CountString, IndexByteString -/
def xCount : List EV → Option EV
  | [.str s, .int .u8 c] => some (.int .i64 (Go.Lib.countByte s c.toNat.toUInt8))
  | _ => none
def xIndexByte : List EV → Option EV
  | [.str s, .int .u8 c] => some (.int .i64 (Go.Lib.indexByte s c.toNat.toUInt8))
  | _ => none
theorem ext_count {P : Program} {G : List Nat} {f : Nat} {fn : Func} (hf : P.funcs[f]? = some fn) (hname : (fn.name == "runtime.NumGoroutine") = false) (hb : fn.body.isNone = true) (hn : Extern.findNext fn = none) (he : Extern.find fn = some Extern.BytealgCount.count) :
    EntOk P G f (.ext xCount) := by
  intro base ρ m w args args' v _ hv h
  unfold xCount at h
  split at h
  · rename_i s c
    cases h
    obtain ⟨l⟩ := args'
    cases hv with
    | cons h1 hs =>
    cases hs with
    | cons h2 hs =>
    cases hs
    cases h2
    generalize hx : EV.str s = x at h1
    cases h1 <;> cases hx
    rename_i t
    refine ⟨_, ?_, .int _ _⟩
    rw [run_callFunc_extern hf hname hb hn he]
    have h := Go.Lib.run_countString (P := P) t c w
    rw [h]; rfl
  · cases h
theorem ext_indexByte {P : Program} {G : List Nat} {f : Nat} {fn : Func} (hf : P.funcs[f]? = some fn) (hname : (fn.name == "runtime.NumGoroutine") = false) (hb : fn.body.isNone = true) (hn : Extern.findNext fn = none) (he : Extern.find fn = some Extern.BytealgIndexByte.indexByte) :
    EntOk P G f (.ext xIndexByte) := by
  intro base ρ m w args args' v _ hv h
  unfold xIndexByte at h
  split at h
  · rename_i s c
    cases h
    obtain ⟨l⟩ := args'
    cases hv with
    | cons h1 hs =>
    cases hs with
    | cons h2 hs =>
    cases hs
    cases h2
    generalize hx : EV.str s = x at h1
    cases h1 <;> cases hx
    rename_i t
    refine ⟨_, ?_, .int _ _⟩
    rw [run_callFunc_extern hf hname hb hn he]
    have h := Go.Lib.run_indexByteString (P := P) t c w
    rw [h]; rfl
  · cases h

/-- The chapter's examples: a closed call that tells true. -/
def isTrue : Option Fin → Bool
  | some (.ret (.bool true) _) => true
  | _ => false
theorem isTrue_of {r : Option Fin} (h : isTrue r = true) : ∃ m, r = some (.ret (.bool true) m) := by
  unfold isTrue at h
  split at h
  · exact ⟨_, rfl⟩
  · cases h
def xTrue : List EV → Option EV
  | [] => some (.bool true)
  | _ => none
theorem works_ok {P : Program} {G : List Nat} (hmix : P.follows .mixedOrders = true) {T : Nat → Option Ent} (hT : ∀ f e, T f = some e → EntOk P G f e) {f : Nat} {F : IFun} (hf : T f = some (.go F)) {n0 : Nat} (hG : ∀ g, G.contains g = true → g < n0)
    {k : Nat} (h : isTrue (evFun T k f [] (mem0 n0)) = true) : EntOk P G f (.pure xTrue) := by
  refine pure_ok hmix hT hf hG fun args v hv => ?_
  unfold xTrue at hv
  split at hv
  · cases hv
    obtain ⟨m, hm⟩ := isTrue_of h
    exact ⟨rfl, rfl, k, m, hm⟩
  · cases hv
theorem run_true {T : Nat → Option Ent} {f : Nat} (hf : T f = some (.pure xTrue)) {m : Mem} : run T f [] m = some (.ret (.bool true) m) := by rw [run_pure hf]; rfl
end Go.Proofs.Ythlbifjgnhdonaa.Ev
