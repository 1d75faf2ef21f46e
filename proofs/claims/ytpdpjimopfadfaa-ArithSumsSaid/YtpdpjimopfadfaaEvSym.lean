/- Laws for reckoning with the evaluator by rewriting. -/
import Derived.Test.YtpdpjimopfadfaaEvLim
namespace Go.Proofs.Ytpdpjimopfadfaa.Ev
open Go

/-- A frame in which nothing stands. -/
def fr00 : Fr := ⟨.leaf, []⟩
theorem fr00_get (t : Nat) : fr00.get t = .undef := by unfold Fr.get fr00; simp only [Tr.get_leaf]; rfl
theorem fr00_defers : fr00.defers = [] := rfl
def argsF : List EV → Nat → Fr → Fr
  | [], _, fr => fr
  | v :: r, i, fr => argsF r (i + 1) (fr.set i v)
theorem argsF_eq : ∀ (l : List EV) (i : Nat) (t : Tr EV), argsF l i ⟨t, []⟩ = ⟨args0 l i t, []⟩
  | [], i, t => rfl
  | v :: l, i, t => by simp only [argsF, args0, Fr.set]; exact argsF_eq l (i + 1) _
theorem put_some (fr : Fr) (d : Nat) (v : EV) : fr.put (some d) v = fr.set d v := rfl
theorem put_none (fr : Fr) (v : EV) : fr.put none v = fr := rfl
theorem set_defers (fr : Fr) (d : Nat) (v : EV) : (fr.set d v).defers = fr.defers := rfl
theorem eval_tmp (fr : Fr) (t : Nat) : fr.eval (.tmp t) = fr.get t := rfl
theorem eval_const (fr : Fr) (v : EV) : fr.eval (.const v) = v := rfl

/-! ### What tells a value -/
theorem ofEV_some (m : Mem) (v : EV) : ofEV m (some v) = some (.val v m) := rfl
theorem ofEM_some (m : Mem) (v : EV) : ofEM (some (v, m)) = some (.val v m) := rfl
theorem ofM_some (m : Mem) : ofM (some m) = some (.val .undef m) := rfl
theorem thenV_some {v : EV} {m : Mem} {k : EV → Mem → Option Out} : thenV (some (.val v m)) k = k v m := rfl
theorem thenC_ret {v : EV} {m : Mem} {fr : Fr} {k : EV → Mem → Option Out} : thenC (some (.ret v m)) fr k = k v m := rfl
theorem thenE_norm {fr : Fr} {m : Mem} {k : Fr → Mem → Option Out} : thenE (some (.norm fr m)) k = k fr m := rfl
theorem thenE_ret {fr : Fr} {m : Mem} {k : Fr → Mem → Option Out} : thenE (some (.ret fr m)) k = some (.ret fr m) := rfl
theorem thenE_exit {id : Nat} {fr : Fr} {m : Mem} {k : Fr → Mem → Option Out} : thenE (some (.exit id fr m)) k = some (.exit id fr m) := rfl
theorem leave_norm {id : Nat} {fr : Fr} {m : Mem} : leaveE id (some (.norm fr m)) = some (.norm fr m) := rfl
theorem leave_ret {id : Nat} {fr : Fr} {m : Mem} : leaveE id (some (.ret fr m)) = some (.ret fr m) := rfl
theorem leave_same {id : Nat} {fr : Fr} {m : Mem} : leaveE id (some (.exit id fr m)) = some (.norm fr m) := by simp [leaveE]
theorem leave_other {id j : Nat} {fr : Fr} {m : Mem} (h : j.beq id = false) : leaveE id (some (.exit j fr m)) = some (.exit j fr m) := by simp [leaveE, h]
theorem thenE_if {c : Prop} [Decidable c] {a b : Option Out} {k : Fr → Mem → Option Out} : thenE (if c then a else b) k = if c then thenE a k else thenE b k := by split <;> rfl
theorem leave_if {id : Nat} {c : Prop} [Decidable c] {a b : Option Out} : leaveE id (if c then a else b) = if c then leaveE id a else leaveE id b := by split <;> rfl
theorem thenV_if {c : Prop} [Decidable c] {a b : Option R1} {k : EV → Mem → Option Out} : thenV (if c then a else b) k = if c then thenV a k else thenV b k := by split <;> rfl
theorem thenC_if {c : Prop} [Decidable c] {a b : Option Fin} {fr : Fr} {k : EV → Mem → Option Out} : thenC (if c then a else b) fr k = if c then thenC a fr k else thenC b fr k := by split <;> rfl
/-- The results, where nothing waits for the end. -/
def resR (rs : List IRes) (o : Option Out) : Option Fin := match o with
  | some (.norm fr m) | some (.ret fr m) => match fr.defers with
    | [] => (evResults fr m rs).map fun vs => .ret (one vs) m
    | _ => none
  | some (.pan v fr m) => match fr.defers with
    | [] => some (.pan v m)
    | _ => none
  | _ => none
theorem resE_eq (F : IFun) (o : Option Out) : resE F o = resR F.results o := by cases o with | none => rfl | some o => cases o <;> rfl
theorem resR_if {rs : List IRes} {c : Prop} [Decidable c] {a b : Option Out} : resR rs (if c then a else b) = if c then resR rs a else resR rs b := by split <;> rfl
theorem resR_ret {rs : List IRes} {fr : Fr} {m : Mem} : resR rs (some (.ret fr m)) = match fr.defers with | [] => (evResults fr m rs).map fun vs => .ret (one vs) m | _ => none := rfl
theorem resR_norm {rs : List IRes} {fr : Fr} {m : Mem} : resR rs (some (.norm fr m)) = match fr.defers with | [] => (evResults fr m rs).map fun vs => .ret (one vs) m | _ => none := rfl
theorem resR_pan {rs : List IRes} {fr : Fr} {m : Mem} {v : EV} : resR rs (some (.pan v fr m)) = match fr.defers with | [] => some (.pan v m) | _ => none := rfl
theorem res_nil {fr : Fr} {m : Mem} : evResults fr m [] = some [] := rfl
theorem res_tmp {fr : Fr} {m : Mem} {t : Nat} {rs : List IRes} : evResults fr m (.tmp t :: rs) = (evResults fr m rs).map (fr.get t :: ·) := rfl
theorem one_one (v : EV) : one [v] = v := rfl
theorem one_two (v u : EV) (l : List EV) : one (v :: u :: l) = .tuple (v :: u :: l) := rfl
theorem one_nil : one [] = .tuple [] := rfl
theorem bif_decide {α : Type} {c : Prop} [Decidable c] {a b : α} : (bif decide c then a else b) = if c then a else b := by by_cases h : c <;> simp [h]
theorem bif_not {α : Type} {c : Bool} {a b : α} : (bif !c then a else b) = bif c then b else a := by cases c <;> rfl
theorem exec_cond_tmp {T : Nat → Option Ent} {t : Nat} {a b : ICode} {fr : Fr} {m : Mem} {c : Bool} (h : fr.get t = .bool c) : exec T (.cond (.tmp t) a b) fr m = bif c then exec T a fr m else exec T b fr m := exec_cond h
theorem eqv_true (b : Bool) : (b == true) = b := by cases b <;> rfl
theorem eqv_false (b : Bool) : (b == false) = !b := by cases b <;> rfl

/-! ### Whole numbers -/
section
variable {k l : IntKind} {a b : Int}
def iand (k : IntKind) (x y : Int) : Int := k.wrap (BitVec.ofInt k.bits x &&& BitVec.ofInt k.bits y).toNat
def ior (k : IntKind) (x y : Int) : Int := k.wrap (BitVec.ofInt k.bits x ||| BitVec.ofInt k.bits y).toNat
def ixor (k : IntKind) (x y : Int) : Int := k.wrap (BitVec.ofInt k.bits x ^^^ BitVec.ofInt k.bits y).toNat
def iandNot (k : IntKind) (x y : Int) : Int := k.wrap (BitVec.ofInt k.bits x &&& ~~~BitVec.ofInt k.bits y).toNat
theorem bin_add : evBin .add (.int k a) (.int k b) = some (.int k (k.wrap (a + b))) := by simp only [evBin, beq_self, cond_true, evInt]
theorem bin_sub : evBin .sub (.int k a) (.int k b) = some (.int k (k.wrap (a - b))) := by simp only [evBin, beq_self, cond_true, evInt]
theorem bin_mul : evBin .mul (.int k a) (.int k b) = some (.int k (k.wrap (a * b))) := by simp only [evBin, beq_self, cond_true, evInt]
theorem bin_quo : evBin .quo (.int k a) (.int k b) = if b = 0 then none else some (.int k (k.wrap (a.tdiv b))) := by simp only [evBin, beq_self, cond_true, evInt]
theorem bin_rem : evBin .rem (.int k a) (.int k b) = if b = 0 then none else some (.int k (a.tmod b)) := by simp only [evBin, beq_self, cond_true, evInt]
theorem bin_and : evBin .and (.int k a) (.int k b) = some (.int k (iand k a b)) := by simp only [evBin, beq_self, cond_true, evInt, evBits, Option.map_some, iand]
theorem bin_or : evBin .or (.int k a) (.int k b) = some (.int k (ior k a b)) := by simp only [evBin, beq_self, cond_true, evInt, evBits, Option.map_some, ior]
theorem bin_xor : evBin .xor (.int k a) (.int k b) = some (.int k (ixor k a b)) := by simp only [evBin, beq_self, cond_true, evInt, evBits, Option.map_some, ixor]
theorem bin_andNot : evBin .andNot (.int k a) (.int k b) = some (.int k (iandNot k a b)) := by simp only [evBin, beq_self, cond_true, evInt, evBits, Option.map_some, iandNot]
theorem bin_lss : evBin .lss (.int k a) (.int k b) = some (.bool (decide (a < b))) := by simp only [evBin, beq_self, cond_true, evInt]
theorem bin_leq : evBin .leq (.int k a) (.int k b) = some (.bool (decide (a ≤ b))) := by simp only [evBin, beq_self, cond_true, evInt]
theorem bin_gtr : evBin .gtr (.int k a) (.int k b) = some (.bool (decide (b < a))) := by simp only [evBin, beq_self, cond_true, evInt]
theorem bin_geq : evBin .geq (.int k a) (.int k b) = some (.bool (decide (b ≤ a))) := by simp only [evBin, beq_self, cond_true, evInt]
theorem bin_shl : evBin .shl (.int k a) (.int l b) = if b < 0 then none else some (.int k (k.wrap (a * 2 ^ min b.toNat k.bits))) := by simp only [evBin, evShift]
theorem bin_shr : evBin .shr (.int k a) (.int l b) = if b < 0 then none else some (.int k (a.fdiv (2 ^ min b.toNat k.bits))) := by simp only [evBin, evShift]
theorem bin_cat {a b : List UInt8} : evBin .add (.str a) (.str b) = bif (a.length + b.length).ble 4294967296 then some (.str (a ++ b)) else none := rfl
theorem eq_int : evEq (.prim 1) (.int k a) (.int k b) = some (decide (a = b)) := by simp only [evEq, evEqPrim, beq_self, cond_true]
theorem eq_bool {a b : Bool} : evEq (.prim 0) (.bool a) (.bool b) = some (a == b) := rfl
theorem un_neg : evUn .neg (.int k a) = some (.int k (k.wrap (0 - a))) := rfl
theorem un_not {b : Bool} : evUn .not (.bool b) = some (.bool (!b)) := rfl
theorem cv_int {m : Mem} : evConv (.int l) m (.int k a) = some (.int l (l.wrap a), m) := rfl
theorem evOp_pick {ρ : Opd → EV} {c x y : Opd} {m : Mem} {t : Bool} (h : ρ c = .bool t) : evOp ρ (.pick c x y) m = some (.val (bif t then ρ x else ρ y) m) := by simp only [evOp, h]
end
theorem exec_cond' {T : Nat → Option Ent} {c : Opd} {a b : ICode} {fr : Fr} {m : Mem} : exec T (.cond c a b) fr m = match fr.eval c with | .bool t => bif t then exec T a fr m else exec T b fr m | _ => none := by
  cases h : fr.eval c
  case bool t => exact exec_cond h
  all_goals
    refine opt_ext fun r => ?_
    rw [exec_iff]
    simp only [evCode, h, reduceCtorEq, exists_const]
theorem oprs_guard' {T : Nat → Option Ent} {d : Option Nat} {op : XOp} {t : Nat} {w : Bool} {l : List IOper} {fr : Fr} {m : Mem} :
    oprs T (⟨d, op, some (t, w)⟩ :: l) fr m = match fr.get t with | .bool b => bif b == w then oprs T (⟨d, op, none⟩ :: l) fr m else oprs T l (fr.put d .undef) m | _ => none := by
  cases h : fr.get t
  case bool b => exact oprs_guard h
  all_goals
    refine opt_ext fun r => ?_
    rw [oprs_iff]
    simp only [evOps, wantedE, h, reduceCtorEq, exists_const]
theorem run_go' {T : Nat → Option Ent} {f : Nat} {F : IFun} (hf : T f = some (.go F)) {args : List EV} {m : Mem} (hn : args.length ≤ F.ntmps) : run T f args m = resR F.results (exec T F.body (argsF args 0 fr00) m) := by
  rw [run_go hf hn, resE_eq]; unfold fr00; rw [argsF_eq]
theorem idx_cast {n : Nat} {k : IntKind} {i : Nat} (h : i < n) : idx n (.int k (i : Int)) = some i := by
  have : (i + 1).ble n = true := Nat.ble_eq_true_of_le h
  show (bif (i + 1).ble n then some i else none) = _
  rw [this]; rfl
theorem iaddr_at {ρ : Opd → EV} {e : Nat} {x y : Opd} {m : Mem} {b off len i : Nat} {c : Option Nat} {k : IntKind} (hx : ρ x = .slice b off len c) (hy : ρ y = .int k (i : Int)) (h : i < len) : evOp ρ (.iaddr e x y) m = some (.val (.ptr b (off + i * e)) m) := by
  simp only [evOp, hx, hy, idx_cast h]
theorem i64_wrap (n : Int) : IntKind.i64.wrap n = if n % 18446744073709551616 ≥ 9223372036854775808 then n % 18446744073709551616 - 18446744073709551616 else n % 18446744073709551616 := by
  have e : IntKind.i64.wrap n = if (true && decide (n % 18446744073709551616 ≥ 9223372036854775808)) = true then n % 18446744073709551616 - 18446744073709551616 else n % 18446744073709551616 := rfl
  rw [e]; simp only [Bool.true_and, decide_eq_true_eq]
theorem u64_wrap (n : Int) : IntKind.u64.wrap n = n % 18446744073709551616 := by
  have e : IntKind.u64.wrap n = if (false && decide (n % 18446744073709551616 ≥ 9223372036854775808)) = true then n % 18446744073709551616 - 18446744073709551616 else n % 18446744073709551616 := rfl
  rw [e]; simp
theorem u8_wrap (n : Int) : IntKind.u8.wrap n = n % 256 := by
  have e : IntKind.u8.wrap n = if (false && decide (n % 256 ≥ 128)) = true then n % 256 - 256 else n % 256 := rfl
  rw [e]; simp
theorem wrap_i64 {n : Int} (h1 : -9223372036854775808 ≤ n) (h2 : n < 9223372036854775808) : IntKind.i64.wrap n = n := by
  rw [i64_wrap]; split <;> omega
theorem wrap_u64 {n : Int} (h1 : 0 ≤ n) (h2 : n < 18446744073709551616) : IntKind.u64.wrap n = n := by
  rw [u64_wrap]; omega
/-- A piece of code that stands under a name, and what is known of it. -/
theorem told {T : Nat → Option Ent} {c : ICode} {fr : Fr} {m : Mem} {X : Option Out} (hX : exec T c fr m = X) {α : Type} {o : α → Out} {Q : α → Prop} (h : ∃ x, exec T c fr m = some (o x) ∧ Q x) : ∃ x, X = some (o x) ∧ Q x := by
  rw [hX] at h; exact h
end Go.Proofs.Ytpdpjimopfadfaa.Ev
