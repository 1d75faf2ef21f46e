/- Laws for reckoning with the evaluator by rewriting. -/
import Derived.Test.YthlbifjgnhdonaaEvLim
namespace Go.Proofs.Ythlbifjgnhdonaa.Ev
open Go

/-- A frame in which nothing stands. -/
def fr00 : Fr := ⟨.leaf, []⟩
theorem fr00_get (t : Nat) : fr00.get t = .undef := by unfold Fr.get fr00; simp only [Tr.get_leaf]; rfl
theorem fr00_defers : fr00.defers = [] := rfl
def selE (b : Bool) (v r : EV) : EV := bif b then v else r
@[congr] theorem selE_congr {b b' : Bool} {v r : EV} (h : b = b') : selE b v r = selE b' v r := by rw [h]
theorem selE_t {v r : EV} : selE true v r = v := rfl
theorem get_set' (fr : Fr) (d t : Nat) (v : EV) : (fr.set d v).get t = selE (t == d) v (fr.get t) := by
  rw [Fr.get_set]
  by_cases h : t = d
  · simp [selE, h]
  · simp [selE, h, beq_eq_false_iff_ne.2 h]
theorem selE_f {v r : EV} : selE false v r = r := rfl
def argsF : List EV → Nat → Fr → Fr
  | [], _, fr => fr
  | v :: r, i, fr => argsF r (i + 1) (fr.set i v)
theorem argsF_eq : ∀ (l : List EV) (i : Nat) (t : Tr EV), argsF l i ⟨t, []⟩ = ⟨args0 l i t, []⟩
  | [], i, t => rfl
  | v :: l, i, t => by simp only [argsF, args0, Fr.set]; exact argsF_eq l (i + 1) _
theorem put_some (fr : Fr) (d : Nat) (v : EV) : fr.put (some d) v = fr.set d v := rfl
theorem put_none (fr : Fr) (v : EV) : fr.put none v = fr := rfl
theorem set_defers (fr : Fr) (d : Nat) (v : EV) : (fr.set d v).defers = fr.defers := rfl
theorem eval_tmp (fr : Fr) (t : Nat) : fr.eval (.tmp t) = fr.get t := rfl
theorem eval_const (fr : Fr) (v : EV) : fr.eval (.const v) = v := rfl

/-! ### What tells a value -/
theorem ofEV_some (m : Mem) (v : EV) : ofEV m (some v) = some (.val v m) := rfl
theorem ofEM_some (m : Mem) (v : EV) : ofEM (some (v, m)) = some (.val v m) := rfl
theorem ofM_some (m : Mem) : ofM (some m) = some (.val .undef m) := rfl
@[congr] theorem thenV_congr {o o' : Option R1} {k : EV → Mem → Option Out} (h : o = o') : thenV o k = thenV o' k := by rw [h]
@[congr] theorem thenC_congr {o o' : Option Fin} {fr : Fr} {k : EV → Mem → Option Out} (h : o = o') : thenC o fr k = thenC o' fr k := by rw [h]
@[congr] theorem thenE_congr {o o' : Option Out} {k : Fr → Mem → Option Out} (h : o = o') : thenE o k = thenE o' k := by rw [h]
theorem thenV_some {v : EV} {m : Mem} {k : EV → Mem → Option Out} : thenV (some (.val v m)) k = k v m := rfl
theorem thenC_ret {v : EV} {m : Mem} {fr : Fr} {k : EV → Mem → Option Out} : thenC (some (.ret v m)) fr k = k v m := rfl
theorem thenE_norm {fr : Fr} {m : Mem} {k : Fr → Mem → Option Out} : thenE (some (.norm fr m)) k = k fr m := rfl
theorem thenE_ret {fr : Fr} {m : Mem} {k : Fr → Mem → Option Out} : thenE (some (.ret fr m)) k = some (.ret fr m) := rfl
theorem thenE_exit {id : Nat} {fr : Fr} {m : Mem} {k : Fr → Mem → Option Out} : thenE (some (.exit id fr m)) k = some (.exit id fr m) := rfl
theorem leave_norm {id : Nat} {fr : Fr} {m : Mem} : leaveE id (some (.norm fr m)) = some (.norm fr m) := rfl
theorem leave_ret {id : Nat} {fr : Fr} {m : Mem} : leaveE id (some (.ret fr m)) = some (.ret fr m) := rfl
theorem leave_same {id : Nat} {fr : Fr} {m : Mem} : leaveE id (some (.exit id fr m)) = some (.norm fr m) := by simp [leaveE]
def selO (b : Bool) (x y : Option Out) : Option Out := bif b then x else y
@[congr] theorem selO_congr {b b' : Bool} {x y : Option Out} (h : b = b') : selO b x y = selO b' x y := by rw [h]
theorem selO_t {x y : Option Out} : selO true x y = x := rfl
theorem selO_f {x y : Option Out} : selO false x y = y := rfl
theorem leave_exit {id j : Nat} {fr : Fr} {m : Mem} : leaveE id (some (.exit j fr m)) = selO (j == id) (some (.norm fr m)) (some (.exit j fr m)) := by
  by_cases h : j = id
  · subst h; simp [leaveE, selO]
  · simp [leaveE, selO, beq_ff h, beq_eq_false_iff_ne.2 h]
theorem leave_other {id j : Nat} {fr : Fr} {m : Mem} (h : j.beq id = false) : leaveE id (some (.exit j fr m)) = some (.exit j fr m) := by simp [leaveE, h]
theorem thenE_if {c : Prop} [Decidable c] {a b : Option Out} {k : Fr → Mem → Option Out} : thenE (if c then a else b) k = if c then thenE a k else thenE b k := by split <;> rfl
theorem leave_if {id : Nat} {c : Prop} [Decidable c] {a b : Option Out} : leaveE id (if c then a else b) = if c then leaveE id a else leaveE id b := by split <;> rfl
theorem thenV_if {c : Prop} [Decidable c] {a b : Option R1} {k : EV → Mem → Option Out} : thenV (if c then a else b) k = if c then thenV a k else thenV b k := by split <;> rfl
theorem thenC_if {c : Prop} [Decidable c] {a b : Option Fin} {fr : Fr} {k : EV → Mem → Option Out} : thenC (if c then a else b) fr k = if c then thenC a fr k else thenC b fr k := by split <;> rfl
/-- The results, where nothing waits for the end. -/
def resR (rs : List IRes) (o : Option Out) : Option Fin := match o with
  | some (.norm fr m) | some (.ret fr m) => match fr.defers with
    | [] => (evResults fr m rs).map fun vs => .ret (one vs) m
    | _ => none
  | some (.pan v fr m) => match fr.defers with
    | [] => some (.pan v m)
    | _ => none
  | _ => none
theorem resE_eq (F : IFun) (o : Option Out) : resE F o = resR F.results o := by cases o with | none => rfl | some o => cases o <;> rfl
theorem resR_if {rs : List IRes} {c : Prop} [Decidable c] {a b : Option Out} : resR rs (if c then a else b) = if c then resR rs a else resR rs b := by split <;> rfl
theorem resR_ret {rs : List IRes} {fr : Fr} {m : Mem} : resR rs (some (.ret fr m)) = match fr.defers with | [] => (evResults fr m rs).map fun vs => .ret (one vs) m | _ => none := rfl
theorem resR_norm {rs : List IRes} {fr : Fr} {m : Mem} : resR rs (some (.norm fr m)) = match fr.defers with | [] => (evResults fr m rs).map fun vs => .ret (one vs) m | _ => none := rfl
theorem resR_pan {rs : List IRes} {fr : Fr} {m : Mem} {v : EV} : resR rs (some (.pan v fr m)) = match fr.defers with | [] => some (.pan v m) | _ => none := rfl
theorem res_nil {fr : Fr} {m : Mem} : evResults fr m [] = some [] := rfl
theorem res_tmp {fr : Fr} {m : Mem} {t : Nat} {rs : List IRes} : evResults fr m (.tmp t :: rs) = (evResults fr m rs).map (fr.get t :: ·) := rfl
theorem one_one (v : EV) : one [v] = v := rfl
theorem one_two (v u : EV) (l : List EV) : one (v :: u :: l) = .tuple (v :: u :: l) := rfl
theorem one_nil : one [] = .tuple [] := rfl
theorem bif_decide {α : Type} {c : Prop} [Decidable c] {a b : α} : (bif decide c then a else b) = if c then a else b := by by_cases h : c <;> simp [h]
theorem bif_not {α : Type} {c : Bool} {a b : α} : (bif !c then a else b) = bif c then b else a := by cases c <;> rfl
theorem exec_cond_tmp {T : Nat → Option Ent} {t : Nat} {a b : ICode} {fr : Fr} {m : Mem} {c : Bool} (h : fr.get t = .bool c) : exec T (.cond (.tmp t) a b) fr m = bif c then exec T a fr m else exec T b fr m := exec_cond h
theorem eqv_true (b : Bool) : (b == true) = b := by cases b <;> rfl
theorem eqv_false (b : Bool) : (b == false) = !b := by cases b <;> rfl

/-! ### Whole numbers -/
section
variable {k l : IntKind} {a b : Int}
def iand (k : IntKind) (x y : Int) : Int := k.wrap (BitVec.ofInt k.bits x &&& BitVec.ofInt k.bits y).toNat
def ior (k : IntKind) (x y : Int) : Int := k.wrap (BitVec.ofInt k.bits x ||| BitVec.ofInt k.bits y).toNat
def ixor (k : IntKind) (x y : Int) : Int := k.wrap (BitVec.ofInt k.bits x ^^^ BitVec.ofInt k.bits y).toNat
def iandNot (k : IntKind) (x y : Int) : Int := k.wrap (BitVec.ofInt k.bits x &&& ~~~BitVec.ofInt k.bits y).toNat
theorem bin_add : evBin .add (.int k a) (.int k b) = some (.int k (k.wrap (a + b))) := by simp only [evBin, beq_self, cond_true, evInt]
theorem bin_sub : evBin .sub (.int k a) (.int k b) = some (.int k (k.wrap (a - b))) := by simp only [evBin, beq_self, cond_true, evInt]
theorem bin_mul : evBin .mul (.int k a) (.int k b) = some (.int k (k.wrap (a * b))) := by simp only [evBin, beq_self, cond_true, evInt]
theorem bin_quo : evBin .quo (.int k a) (.int k b) = if b = 0 then none else some (.int k (k.wrap (a.tdiv b))) := by simp only [evBin, beq_self, cond_true, evInt]
theorem bin_rem : evBin .rem (.int k a) (.int k b) = if b = 0 then none else some (.int k (a.tmod b)) := by simp only [evBin, beq_self, cond_true, evInt]
theorem bin_and : evBin .and (.int k a) (.int k b) = some (.int k (iand k a b)) := by simp only [evBin, beq_self, cond_true, evInt, evBits, Option.map_some, iand]
theorem bin_or : evBin .or (.int k a) (.int k b) = some (.int k (ior k a b)) := by simp only [evBin, beq_self, cond_true, evInt, evBits, Option.map_some, ior]
theorem bin_xor : evBin .xor (.int k a) (.int k b) = some (.int k (ixor k a b)) := by simp only [evBin, beq_self, cond_true, evInt, evBits, Option.map_some, ixor]
theorem bin_andNot : evBin .andNot (.int k a) (.int k b) = some (.int k (iandNot k a b)) := by simp only [evBin, beq_self, cond_true, evInt, evBits, Option.map_some, iandNot]
theorem bin_lss : evBin .lss (.int k a) (.int k b) = some (.bool (decide (a < b))) := by simp only [evBin, beq_self, cond_true, evInt]
theorem bin_leq : evBin .leq (.int k a) (.int k b) = some (.bool (decide (a ≤ b))) := by simp only [evBin, beq_self, cond_true, evInt]
theorem bin_gtr : evBin .gtr (.int k a) (.int k b) = some (.bool (decide (b < a))) := by simp only [evBin, beq_self, cond_true, evInt]
theorem bin_geq : evBin .geq (.int k a) (.int k b) = some (.bool (decide (b ≤ a))) := by simp only [evBin, beq_self, cond_true, evInt]
theorem bin_shl : evBin .shl (.int k a) (.int l b) = if b < 0 then none else some (.int k (k.wrap (a * 2 ^ min b.toNat k.bits))) := by simp only [evBin, evShift]
theorem bin_shr : evBin .shr (.int k a) (.int l b) = if b < 0 then none else some (.int k (a.fdiv (2 ^ min b.toNat k.bits))) := by simp only [evBin, evShift]
theorem bin_shl_i64 (h1 : 0 ≤ b) (h2 : b < 64) : evBin .shl (.int .i64 a) (.int l b) = some (.int .i64 (IntKind.i64.wrap (a * 2 ^ b.toNat))) := by
  rw [bin_shl, if_neg (by omega), show IntKind.i64.bits = 64 from rfl, Nat.min_eq_left (by omega)]
theorem bin_shr_i64 (h1 : 0 ≤ b) (h2 : b < 64) : evBin .shr (.int .i64 a) (.int l b) = some (.int .i64 (a.fdiv (2 ^ b.toNat))) := by
  rw [bin_shr, if_neg (by omega), show IntKind.i64.bits = 64 from rfl, Nat.min_eq_left (by omega)]
theorem bin_shl_u64 (h1 : 0 ≤ b) (h2 : b < 64) : evBin .shl (.int .u64 a) (.int l b) = some (.int .u64 (IntKind.u64.wrap (a * 2 ^ b.toNat))) := by
  rw [bin_shl, if_neg (by omega), show IntKind.u64.bits = 64 from rfl, Nat.min_eq_left (by omega)]
theorem bin_shr_u64 (h1 : 0 ≤ b) (h2 : b < 64) : evBin .shr (.int .u64 a) (.int l b) = some (.int .u64 (a.fdiv (2 ^ b.toNat))) := by
  rw [bin_shr, if_neg (by omega), show IntKind.u64.bits = 64 from rfl, Nat.min_eq_left (by omega)]
theorem bin_cat {a b : List UInt8} : evBin .add (.str a) (.str b) = bif (a.length + b.length).ble 4294967296 then some (.str (a ++ b)) else none := rfl
theorem eq_int : evEq (.prim 1) (.int k a) (.int k b) = some (decide (a = b)) := by simp only [evEq, evEqPrim, beq_self, cond_true]
theorem eq_bool {a b : Bool} : evEq (.prim 0) (.bool a) (.bool b) = some (a == b) := rfl
theorem un_neg : evUn .neg (.int k a) = some (.int k (k.wrap (0 - a))) := rfl
theorem un_not {b : Bool} : evUn .not (.bool b) = some (.bool (!b)) := rfl
theorem cv_int {m : Mem} : evConv (.int l) m (.int k a) = some (.int l (l.wrap a), m) := rfl
theorem evOp_pick {ρ : Opd → EV} {c x y : Opd} {m : Mem} {t : Bool} (h : ρ c = .bool t) : evOp ρ (.pick c x y) m = some (.val (bif t then ρ x else ρ y) m) := by simp only [evOp, h]
end
/-! ### Operation by operation -/
theorem evOp_mov {ρ : Opd → EV} {m : Mem} (x : Opd) : evOp ρ (.mov x) m = some (.val (ρ x) m) := rfl
theorem evOp_alloc {ρ : Opd → EV} {m : Mem} (elem : Nat) (zero : List EV) : evOp ρ (.alloc elem zero) m = some (.val (.ptr m.next 0) (m.new (.cells zero zero.length elem false))) := rfl
theorem evOp_box {ρ : Opd → EV} {m : Mem} (elem : Nat) (x : Opd) : evOp ρ (.box elem x) m = match (ρ x).cells with
    | some cs => some (.val (.ptr m.next 0) (m.new (.cells cs cs.length elem false)))
    | none => none := rfl
theorem evOp_build {ρ : Opd → EV} {m : Mem} (zero : List EV) (parts : List (Nat × Nat × Opd)) : evOp ρ (.build zero parts) m = ofEV m ((fillIn zero (parts.map fun p => (p.1, p.2.1, ρ p.2.2))).map .agg) := rfl
theorem evOp_bslice {ρ : Opd → EV} {m : Mem} (elem esz len : Nat) (zero : List EV) (parts : List (Nat × Opd)) : evOp ρ (.bslice elem esz len zero parts) m = match fillIn (copies len zero) (parts.map fun p => (p.1 * esz, esz, ρ p.2)) with
    | some cs => some (.val (.slice m.next 0 len (some len)) (m.new (.cells cs esz elem false)))
    | none => none := rfl
theorem evOp_load {ρ : Opd → EV} {m : Mem} (agg : Option Nat) (a : Opd) : evOp ρ (.load agg a) m = ofEV m (m.load agg (ρ a)) := rfl
theorem evOp_store {ρ : Opd → EV} {m : Mem} (size : Nat) (a x : Opd) : evOp ρ (.store size a x) m = ofM (m.store size (ρ a) (ρ x)) := rfl
theorem evOp_nilck {ρ : Opd → EV} {m : Mem} (x : Opd) : evOp ρ (.nilck x) m = match ρ x with
    | .ptr b off => some (.val (.ptr b off) m)
    | .func f a c => some (.val (.func f a c) m)
    | .iface t v => some (.val (.iface t v) m)
    | _ => none := rfl
theorem evOp_bin {ρ : Opd → EV} {m : Mem} (op : BinOp) (x y : Opd) : evOp ρ (.bin op x y) m = ofEV m (evBin op (ρ x) (ρ y)) := rfl
theorem evOp_eq {ρ : Opd → EV} {m : Mem} (neg : Bool) (t : EqTy) (x y : Opd) : evOp ρ (.eq neg t x y) m = ofEV m ((evEq t (ρ x) (ρ y)).map fun b => .bool (neg ^^ b)) := rfl
theorem evOp_un {ρ : Opd → EV} {m : Mem} (op : UnOp) (x : Opd) : evOp ρ (.un op x) m = ofEV m (evUn op (ρ x)) := rfl
theorem evOp_conv {ρ : Opd → EV} {m : Mem} (c : Cv) (x : Opd) : evOp ρ (.conv c x) m = ofEM (evConv c m (ρ x)) := rfl
theorem evOp_iface {ρ : Opd → EV} {m : Mem} (t : Nat) (x : Opd) : evOp ρ (.iface t x) m = some (.val (.iface t (ρ x)) m) := rfl
theorem evOp_mkfn {ρ : Opd → EV} {m : Mem} (f : Nat) (a c : List Opd) : evOp ρ (.mkfn f a c) m = some (.val (.func f (a.map ρ) (c.map ρ)) m) := rfl
theorem evOp_mkmap {ρ : Opd → EV} {m : Mem}  : evOp ρ (.mkmap) m = some (.val (.map m.next) (m.new (.map []))) := rfl
theorem evOp_mkslice {ρ : Opd → EV} {m : Mem} (elem esz : Nat) (zero : List EV) (len cap : Opd) : evOp ρ (.mkslice elem esz zero len cap) m = match ρ len, ρ cap with
    | .int .i64 (.ofNat l), .int .i64 (.ofNat c) => bif (bif l.ble c then c.ble room else false) then
        some (.val (.slice m.next 0 l (some c)) (m.new (.cells (copies c zero) esz elem false))) else none
    | _, _ => none := rfl
theorem evOp_slstr {ρ : Opd → EV} {m : Mem} (x : Opd) (lo hi : Option Opd) : evOp ρ (.slstr x lo hi) m = match ρ x with
    | .str s => match bound (hi.map ρ) s.length s.length with
      | some h => match bound (lo.map ρ) 0 h with
        | some l => some (.val (.str ((s.take h).drop l)) m)
        | none => none
      | none => none
    | _ => none := rfl
theorem evOp_slsl {ρ : Opd → EV} {m : Mem} (esz : Nat) (x : Opd) (lo hi max : Option Opd) : evOp ρ (.slsl esz x lo hi max) m = match ρ x with
    | .nilslice => match bound (max.map ρ) 0 0, bound (hi.map ρ) 0 0, bound (lo.map ρ) 0 0 with
      | some _, some _, some _ => some (.val .nilslice m)
      | _, _, _ => none
    | .slice b off len (some c) => ofEV m (evSlice esz b off len (some c) (lo.map ρ) (hi.map ρ) (max.map ρ))
    | .slice b off len none => match m.get b with
      | .cells _ e _ _ => bif e.beq esz then ofEV m (evSlice esz b off len none (lo.map ρ) (hi.map ρ) (max.map ρ)) else none
      | _ => none
    | _ => none := rfl
theorem evOp_slarr {ρ : Opd → EV} {m : Mem} (n esz : Nat) (x : Opd) (lo hi max : Option Opd) : evOp ρ (.slarr n esz x lo hi max) m = match ρ x with
    | .ptr b off => ofEV m (evSlice esz b off n (some n) (lo.map ρ) (hi.map ρ) (max.map ρ))
    | _ => none := rfl
theorem evOp_faddr {ρ : Opd → EV} {m : Mem} (off : Nat) (x : Opd) : evOp ρ (.faddr off x) m = match ρ x with
    | .ptr b o => some (.val (.ptr b (o + off)) m)
    | _ => none := rfl
theorem evOp_fld {ρ : Opd → EV} {m : Mem} (agg : Option Nat) (off : Nat) (x : Opd) : evOp ρ (.fld agg off x) m = match ρ x with
    | .agg cs => ofEV m (partOf agg cs off)
    | _ => none := rfl
theorem evOp_iaddr {ρ : Opd → EV} {m : Mem} (esz : Nat) (x i : Opd) : evOp ρ (.iaddr esz x i) m = match ρ x with
    | .slice b off len _ => match idx len (ρ i) with
      | some i => some (.val (.ptr b (off + i * esz)) m)
      | none => none
    | _ => none := rfl
theorem evOp_iaddrArr {ρ : Opd → EV} {m : Mem} (n esz : Nat) (x i : Opd) : evOp ρ (.iaddrArr n esz x i) m = match ρ x with
    | .ptr b off => match idx n (ρ i) with
      | some i => some (.val (.ptr b (off + i * esz)) m)
      | none => none
    | _ => none := rfl
theorem evOp_idxstr {ρ : Opd → EV} {m : Mem} (x i : Opd) : evOp ρ (.idxstr x i) m = match ρ x with
    | .str s => match idx s.length (ρ i) with
      | some i => match s[i]? with
        | some c => some (.val (.int .u8 (c.toNat : Int)) m)
        | none => none
      | none => none
    | _ => none := rfl
theorem evOp_idxagg {ρ : Opd → EV} {m : Mem} (n esz : Nat) (agg : Option Nat) (x i : Opd) : evOp ρ (.idxagg n esz agg x i) m = match ρ x with
    | .agg cs => match idx n (ρ i) with
      | some i => ofEV m (partOf agg cs (i * esz))
      | none => none
    | _ => none := rfl
theorem evOp_lookup {ρ : Opd → EV} {m : Mem} (kt : Nat) (zero : EV) (ok : Bool) (mp k : Opd) : evOp ρ (.lookup kt zero ok mp k) m = match ρ mp with
    | .nilmap => bif keyIs kt (ρ k) then some (.val (bif ok then .tuple [zero, .bool false] else zero) m) else none
    | .map b => match m.get b with
      | .map es => bif keysOk kt (ρ k) es then
          match find (ρ k) es with
          | some v => some (.val (bif ok then .tuple [v, .bool true] else v) m)
          | none => some (.val (bif ok then .tuple [zero, .bool false] else zero) m)
        else none
      | _ => none
    | _ => none := rfl
theorem evOp_mapupd {ρ : Opd → EV} {m : Mem} (kt : Nat) (mp k x : Opd) : evOp ρ (.mapupd kt mp k x) m = match ρ mp with
    | .map b => match m.get b with
      | .map es => bif keysOk kt (ρ k) es then some (.val .undef (m.set b (.map (update (ρ k) (ρ x) es)))) else none
      | _ => none
    | _ => none := rfl
theorem evOp_delete {ρ : Opd → EV} {m : Mem} (kt : Nat) (mp k : Opd) : evOp ρ (.delete kt mp k) m = match ρ mp with
    | .nilmap => bif keyIs kt (ρ k) then some (.val (.tuple []) m) else none
    | .map b => match m.get b with
      | .map es => bif keysOk kt (ρ k) es then some (.val (.tuple []) (m.set b (.map (erase (ρ k) es)))) else none
      | _ => none
    | _ => none := rfl
theorem evOp_lenmap {ρ : Opd → EV} {m : Mem} (mp : Opd) : evOp ρ (.lenmap mp) m = match ρ mp with
    | .nilmap => some (.val (.int .i64 0) m)
    | .map b => match m.get b with
      | .map es => some (.val (.int .i64 (es.length : Int)) m)
      | _ => none
    | _ => none := rfl
theorem evOp_tassert {ρ : Opd → EV} {m : Mem} (t : Nat) (x : Opd) : evOp ρ (.tassert t x) m = match ρ x with
    | .iface u v => bif t.beq u then some (.val v m) else none
    | _ => none := rfl
theorem evOp_extract {ρ : Opd → EV} {m : Mem} (x : Opd) (i : Nat) : evOp ρ (.extract x i) m = match ρ x with
    | .tuple vs => ofEV m vs[i]?
    | _ => none := rfl
theorem evOp_lenstr {ρ : Opd → EV} {m : Mem} (x : Opd) : evOp ρ (.lenstr x) m = match ρ x with
    | .str s => some (.val (.int .i64 (s.length : Int)) m)
    | _ => none := rfl
theorem evOp_len {ρ : Opd → EV} {m : Mem} (x : Opd) : evOp ρ (.len x) m = match ρ x with
    | .nilslice => some (.val (.int .i64 0) m)
    | .slice _ _ n _ => some (.val (.int .i64 (n : Int)) m)
    | _ => none := rfl
theorem evOp_lenarr {ρ : Opd → EV} {m : Mem} (n : Nat) : evOp ρ (.lenarr n) m = some (.val (.int .i64 (n : Int)) m) := rfl
theorem evOp_cap {ρ : Opd → EV} {m : Mem} (x : Opd) : evOp ρ (.cap x) m = match ρ x with
    | .nilslice => some (.val (.int .i64 0) m)
    | .slice _ _ _ (some c) => some (.val (.int .i64 (c : Int)) m)
    | _ => none := rfl
theorem evOp_max {ρ : Opd → EV} {m : Mem} (args : List Opd) : evOp ρ (.max args) m = ofEV m (evMax (args.map ρ)) := rfl
theorem evOp_min {ρ : Opd → EV} {m : Mem} (args : List Opd) : evOp ρ (.min args) m = ofEV m (evMin (args.map ρ)) := rfl
theorem evOp_append {ρ : Opd → EV} {m : Mem} (elem esz bytes : Nat) (s x : Opd) : evOp ρ (.append elem esz bytes s x) m = ofEM (evAppend m elem esz (ρ s) (ρ x)) := rfl
theorem evOp_copy {ρ : Opd → EV} {m : Mem} (esz : Nat) (d s : Opd) : evOp ρ (.copy esz d s) m = ofEM (evCopy m esz (ρ d) (ρ s)) := rfl
/-! ### Truths as statements: 'bo p', 'gv p v' (a value that is there where p holds), 'iF p x y' -/
open Classical in
noncomputable def bo (p : Prop) : EV := .bool (decide p)
open Classical in
noncomputable def gv (p : Prop) (v : EV) : EV := if p then v else .undef
open Classical in
noncomputable def iF {α : Type} (p : Prop) (x y : α) : α := if p then x else y
theorem bo_decide {p : Prop} [h : Decidable p] : EV.bool (decide p) = bo p := by unfold bo; congr
theorem bo_not_decide {p : Prop} [h : Decidable p] : EV.bool (!decide p) = bo (¬ p) := by
  unfold bo; by_cases hp : p <;> simp [hp]
theorem bo_tt : bo True = .bool true := by simp [bo]
theorem bo_ff : bo False = .bool false := by simp [bo]
theorem bo_pos {p : Prop} (h : p) : bo p = .bool true := by simp [bo, h]
theorem bo_neg {p : Prop} (h : ¬ p) : bo p = .bool false := by simp [bo, h]
theorem bo_bool {b : Bool} : bo (b = true) = .bool b := by cases b <;> simp [bo]
theorem bo_eq {p : Prop} [h : Decidable p] : bo p = .bool (decide p) := bo_decide.symm
theorem gv_true {v : EV} : gv True v = v := by simp [gv]
theorem gv_false {v : EV} : gv False v = .undef := by simp [gv]
theorem iF_true {α : Type} {x y : α} : iF True x y = x := by simp [iF]
theorem iF_false {α : Type} {x y : α} : iF False x y = y := by simp [iF]
theorem iF_pos {α : Type} {p : Prop} (h : p) {x y : α} : iF p x y = x := by simp [iF, h]
theorem iF_neg {α : Type} {p : Prop} (h : ¬ p) {x y : α} : iF p x y = y := by simp [iF, h]
theorem iF_same {α : Type} {p : Prop} {x : α} : iF p x x = x := by unfold iF; split <;> rfl
theorem iF_ite {α : Type} {p : Prop} [Decidable p] {x y : α} : iF p x y = if p then x else y := by by_cases h : p <;> simp [iF, h]
@[congr] theorem iF_congr {α : Type} {p p' : Prop} {x x' y y' : α} (h : p = p') (h1 : p' → x = x') (h2 : ¬ p' → y = y') : iF p x y = iF p' x' y' := by
  subst h; by_cases hp : p
  · rw [iF_pos hp, iF_pos hp]; exact h1 hp
  · rw [iF_neg hp, iF_neg hp]; exact h2 hp
/-- By a truth: one of two; nothing else is looked at ahead of it. -/
def cE (v : EV) (x y : Option Out) : Option Out := match v with
  | .bool true => x
  | .bool false => y
  | _ => none
@[congr] theorem cE_congr {v v' : EV} {x y : Option Out} (h : v = v') : cE v x y = cE v' x y := by rw [h]
theorem cE_bo {p : Prop} {x y : Option Out} : cE (bo p) x y = iF p x y := by by_cases h : p <;> simp [bo, iF, cE, h]
theorem cE_t {x y : Option Out} : cE (.bool true) x y = x := rfl
theorem cE_f {x y : Option Out} : cE (.bool false) x y = y := rfl
theorem exec_cond' {T : Nat → Option Ent} {c : Opd} {a b : ICode} {fr : Fr} {m : Mem} : exec T (.cond c a b) fr m = cE (fr.eval c) (exec T a fr m) (exec T b fr m) := by
  cases h : fr.eval c
  case bool t => rw [exec_cond h]; cases t <;> rfl
  all_goals
    refine opt_ext fun r => ?_
    rw [exec_iff]
    simp only [evCode, h, reduceCtorEq, exists_const, cE]
/-! ### Guards: what is skipped tells nothing, and the way is one -/
open Classical in
/-- An operation under a condition. -/
noncomputable def thenG (p : Prop) (m : Mem) (o : Option R1) (k : EV → Mem → Option Out) : Option Out := if p then thenV o k else k .undef m
open Classical in
noncomputable def thenH (p : Prop) (fr : Fr) (m : Mem) (o : Option Fin) (k : EV → Mem → Option Out) : Option Out := if p then thenC o fr k else k .undef m
@[congr] theorem thenG_congr {p p' : Prop} {m : Mem} {o o' : Option R1} {k : EV → Mem → Option Out} (h : p = p') (ho : p' → o = o') : thenG p m o k = thenG p' m o' k := by
  subst h; by_cases hp : p <;> simp only [thenG, hp, if_true, if_false]; rw [ho hp]
@[congr] theorem thenH_congr {p p' : Prop} {fr : Fr} {m : Mem} {o o' : Option Fin} {k : EV → Mem → Option Out} (h : p = p') (ho : p' → o = o') : thenH p fr m o k = thenH p' fr m o' k := by
  subst h; by_cases hp : p <;> simp only [thenH, hp, if_true, if_false]; rw [ho hp]
theorem thenG_val {p : Prop} {m m' : Mem} {v : EV} {k : EV → Mem → Option Out} (he : p → m' = m) : thenG p m (some (.val v m')) k = k (gv p v) m := by
  by_cases h : p
  · rw [he h]; simp [thenG, gv, thenV, h]
  · simp [thenG, gv, h]
theorem thenH_ret {p : Prop} {fr : Fr} {m m' : Mem} {v : EV} {k : EV → Mem → Option Out} (he : p → m' = m) : thenH p fr m (some (.ret v m')) k = k (gv p v) m := by
  by_cases h : p
  · rw [he h]; simp [thenH, gv, thenC, h]
  · simp [thenH, gv, h]
theorem thenG_true {m : Mem} {o : Option R1} {k : EV → Mem → Option Out} : thenG True m o k = thenV o k := by simp [thenG]
theorem thenG_false {m : Mem} {o : Option R1} {k : EV → Mem → Option Out} : thenG False m o k = k .undef m := by simp [thenG]
theorem thenH_true {fr : Fr} {m : Mem} {o : Option Fin} {k : EV → Mem → Option Out} : thenH True fr m o k = thenC o fr k := by simp [thenH]
theorem thenH_false {fr : Fr} {m : Mem} {o : Option Fin} {k : EV → Mem → Option Out} : thenH False fr m o k = k .undef m := by simp [thenH]
theorem thenG_iF {p : Prop} {m : Mem} {o : Option R1} {k : EV → Mem → Option Out} : thenG p m o k = iF p (thenV o k) (k .undef m) := rfl
theorem thenH_iF {p : Prop} {fr : Fr} {m : Mem} {o : Option Fin} {k : EV → Mem → Option Out} : thenH p fr m o k = iF p (thenC o fr k) (k .undef m) := rfl
/-- A guard's test. -/
def gE (v : EV) (w : Bool) (x y : Option Out) : Option Out := match v with
  | .bool b => bif b == w then x else y
  | .undef => y
  | _ => none
@[congr] theorem gE_congr {v v' : EV} {w : Bool} {x y : Option Out} (h : v = v') : gE v w x y = gE v' w x y := by rw [h]
/-- A guarded operation that tells a value. -/
def gV (v : EV) (w : Bool) (m : Mem) (o : Option R1) (k : EV → Mem → Option Out) : Option Out := gE v w (thenV o k) (k .undef m)
def gC (v : EV) (w : Bool) (fr : Fr) (m : Mem) (o : Option Fin) (k : EV → Mem → Option Out) : Option Out := gE v w (thenC o fr k) (k .undef m)
@[congr] theorem gV_congr {v v' : EV} {w : Bool} {m : Mem} {o : Option R1} {k : EV → Mem → Option Out} (h : v = v') : gV v w m o k = gV v' w m o k := by rw [h]
@[congr] theorem gC_congr {v v' : EV} {w : Bool} {fr : Fr} {m : Mem} {o : Option Fin} {k : EV → Mem → Option Out} (h : v = v') : gC v w fr m o k = gC v' w fr m o k := by rw [h]
section
variable {p q : Prop} {b : Bool} {w : Bool} {fr : Fr} {m : Mem} {o : Option R1} {c : Option Fin} {k : EV → Mem → Option Out}
theorem gV_undef : gV .undef w m o k = k .undef m := rfl
theorem gC_undef : gC .undef w fr m c k = k .undef m := rfl
theorem gV_bo_t : gV (bo p) true m o k = thenG p m o k := by by_cases h : p <;> simp [gV, gE, bo, thenG, h]
theorem gV_bo_f : gV (bo p) false m o k = thenG (¬ p) m o k := by by_cases h : p <;> simp [gV, gE, bo, thenG, h]
theorem gV_tt : gV (.bool true) true m o k = thenV o k := rfl
theorem gV_tf : gV (.bool true) false m o k = k .undef m := rfl
theorem gV_ft : gV (.bool false) true m o k = k .undef m := rfl
theorem gV_ff : gV (.bool false) false m o k = thenV o k := rfl
theorem gV_gv_t : gV (gv p (bo q)) true m o k = thenG (p ∧ q) m o k := by by_cases h : p <;> by_cases h' : q <;> simp [gV, gE, bo, gv, thenG, h, h']
theorem gV_gv_f : gV (gv p (bo q)) false m o k = thenG (p ∧ ¬ q) m o k := by by_cases h : p <;> by_cases h' : q <;> simp [gV, gE, bo, gv, thenG, h, h']
theorem gV_gt_t : gV (gv p (.bool true)) true m o k = thenG p m o k := by by_cases h : p <;> simp [gV, gE, gv, thenG, h]
theorem gV_gt_f : gV (gv p (.bool true)) false m o k = k .undef m := by by_cases h : p <;> simp [gV, gE, gv, h]
theorem gV_gf_t : gV (gv p (.bool false)) true m o k = k .undef m := by by_cases h : p <;> simp [gV, gE, gv, h]
theorem gV_gf_f : gV (gv p (.bool false)) false m o k = thenG p m o k := by by_cases h : p <;> simp [gV, gE, gv, thenG, h]
theorem gC_bo_t : gC (bo p) true fr m c k = thenH p fr m c k := by by_cases h : p <;> simp [gC, gE, bo, thenH, h]
theorem gC_bo_f : gC (bo p) false fr m c k = thenH (¬ p) fr m c k := by by_cases h : p <;> simp [gC, gE, bo, thenH, h]
theorem gC_tt : gC (.bool true) true fr m c k = thenC c fr k := rfl
theorem gC_tf : gC (.bool true) false fr m c k = k .undef m := rfl
theorem gC_ft : gC (.bool false) true fr m c k = k .undef m := rfl
theorem gC_ff : gC (.bool false) false fr m c k = thenC c fr k := rfl
theorem gC_gv_t : gC (gv p (bo q)) true fr m c k = thenH (p ∧ q) fr m c k := by by_cases h : p <;> by_cases h' : q <;> simp [gC, gE, bo, gv, thenH, h, h']
theorem gC_gv_f : gC (gv p (bo q)) false fr m c k = thenH (p ∧ ¬ q) fr m c k := by by_cases h : p <;> by_cases h' : q <;> simp [gC, gE, bo, gv, thenH, h, h']
theorem gC_gt_t : gC (gv p (.bool true)) true fr m c k = thenH p fr m c k := by by_cases h : p <;> simp [gC, gE, gv, thenH, h]
theorem gC_gt_f : gC (gv p (.bool true)) false fr m c k = k .undef m := by by_cases h : p <;> simp [gC, gE, gv, h]
theorem gC_gf_t : gC (gv p (.bool false)) true fr m c k = k .undef m := by by_cases h : p <;> simp [gC, gE, gv, h]
theorem gC_gf_f : gC (gv p (.bool false)) false fr m c k = thenH p fr m c k := by by_cases h : p <;> simp [gC, gE, gv, thenH, h]
end
theorem oprs_guard' {T : Nat → Option Ent} {d : Option Nat} {op : XOp} {t : Nat} {w : Bool} {l : List IOper} {fr : Fr} {m : Mem} :
    oprs T (⟨d, op, some (t, w)⟩ :: l) fr m = gE (fr.get t) w (oprs T (⟨d, op, none⟩ :: l) fr m) (oprs T l (fr.put d .undef) m) := by
  cases h : fr.get t
  case bool b => rw [oprs_guard h]; rfl
  case undef =>
    refine opt_ext fun r => ?_
    rw [oprs_iff]
    simp only [evOps, wantedE, h, gE]
    exact oprs_iff.symm
  all_goals
    refine opt_ext fun r => ?_
    rw [oprs_iff]
    simp only [evOps, wantedE, h, reduceCtorEq, exists_const, gE]
theorem oprs_gval {T : Nat → Option Ent} {d : Option Nat} {op : IOp} {t : Nat} {w : Bool} {l : List IOper} {fr : Fr} {m : Mem} :
    oprs T (⟨d, .val op, some (t, w)⟩ :: l) fr m = gV (fr.get t) w m (evOp fr.eval op m) (fun v m => oprs T l (fr.put d v) m) := by rw [oprs_guard', oprs_val]; rfl
theorem oprs_gcall {T : Nat → Option Ent} {d : Option Nat} {g : Nat} {args : List Opd} {t : Nat} {w : Bool} {l : List IOper} {fr : Fr} {m : Mem} :
    oprs T (⟨d, .call (.const (.func g [] [])) args, some (t, w)⟩ :: l) fr m = gC (fr.get t) w fr m (run T g (args.map fr.eval) m) (fun v m => oprs T l (fr.put d v) m) := by rw [oprs_guard', oprs_call]; rfl
/-- A call of a function's value. -/
noncomputable def runV (T : Nat → Option Ent) (f : EV) (args : List EV) (m : Mem) : Option Fin := match f with
  | .func g a c => run T g (a ++ args ++ c) m
  | _ => none
theorem runV_func {T : Nat → Option Ent} {g : Nat} {a c args : List EV} {m : Mem} : runV T (.func g a c) args m = run T g (a ++ args ++ c) m := rfl
theorem oprs_callv {T : Nat → Option Ent} {d : Option Nat} {x : Opd} {args : List Opd} {l : List IOper} {fr : Fr} {m : Mem} :
    oprs T (⟨d, .call x args, none⟩ :: l) fr m = thenC (runV T (fr.eval x) (args.map fr.eval) m) fr fun v m => oprs T l (fr.put d v) m := by
  refine opt_ext fun r => ?_
  rw [oprs_iff]
  simp only [evOps, wantedE]
  cases hx : fr.eval x
  case func g a c =>
    simp only [evCall, runV]
    constructor
    · rintro ⟨k, h⟩
      cases hc : evFun T k g (a ++ args.map fr.eval ++ c) m with
      | none => rw [hc] at h; cases h
      | some q =>
        rw [run_iff.2 ⟨k, hc⟩]
        simp only [hc] at h
        cases q with
        | ret v m1 => exact oprs_iff.2 ⟨k, h⟩
        | pan v m1 => exact h
    · intro h
      cases hc : run T g (a ++ args.map fr.eval ++ c) m with
      | none => rw [hc] at h; cases h
      | some q =>
        obtain ⟨k1, h1⟩ := run_iff.1 hc
        rw [hc] at h
        cases q with
        | ret v m1 =>
          simp only [thenC] at h
          obtain ⟨k2, h2⟩ := oprs_iff.1 h
          refine ⟨max k1 k2, ?_⟩
          have e1 := mono_run _ _ _ (Nat.le_max_left k1 k2) h1
          have e2 := mono_oprs _ _ _ (Nat.le_max_right k1 k2) h2
          simp only at e1 e2
          rw [e1]; exact e2
        | pan v m1 => exact ⟨k1, by rw [h1]; exact h⟩
  all_goals simp [evCall, runV, thenC]
theorem oprs_gcallv {T : Nat → Option Ent} {d : Option Nat} {x : Opd} {args : List Opd} {t : Nat} {w : Bool} {l : List IOper} {fr : Fr} {m : Mem} :
    oprs T (⟨d, .call x args, some (t, w)⟩ :: l) fr m = gC (fr.get t) w fr m (runV T (fr.eval x) (args.map fr.eval) m) (fun v m => oprs T l (fr.put d v) m) := by rw [oprs_guard', oprs_callv]; rfl
/-- One of two, by a truth. -/
def pickE (c a b : EV) (m : Mem) : Option R1 := match c with
  | .bool t => some (.val (bif t then a else b) m)
  | _ => none
theorem evOp_pick' {ρ : Opd → EV} {c x y : Opd} {m : Mem} : evOp ρ (.pick c x y) m = pickE (ρ c) (ρ x) (ρ y) m := by
  simp only [evOp]; unfold pickE; cases ρ c <;> rfl
section
variable {p q r : Prop} {a b : EV} {m : Mem} {c d : Bool}
theorem pick_and : pickE (bo p) (gv p (bo q)) (.bool false) m = some (.val (bo (p ∧ q)) m) := by by_cases h : p <;> by_cases h' : q <;> simp [pickE, gv, bo, h, h']
theorem pick_and_t : pickE (bo p) (gv p (.bool true)) (.bool false) m = some (.val (bo p) m) := by by_cases h : p <;> simp [pickE, gv, bo, h]
theorem pick_and_f : pickE (bo p) (gv p (.bool false)) (.bool false) m = some (.val (.bool false) m) := by by_cases h : p <;> simp [pickE, gv, bo, h]
theorem pick_or (hr : r = ¬ p) : pickE (bo p) (.bool true) (gv r (bo q)) m = some (.val (bo (p ∨ q)) m) := by subst hr; by_cases h : p <;> by_cases h' : q <;> simp [pickE, gv, bo, h, h']
theorem pick_or_t (hr : r = ¬ p) : pickE (bo p) (.bool true) (gv r (.bool true)) m = some (.val (.bool true) m) := by subst hr; by_cases h : p <;> simp [pickE, gv, bo, h]
theorem pick_or_f (hr : r = ¬ p) : pickE (bo p) (.bool true) (gv r (.bool false)) m = some (.val (bo p) m) := by subst hr; by_cases h : p <;> simp [pickE, gv, bo, h]
theorem pick_and0 : pickE (bo p) (bo q) (.bool false) m = some (.val (bo (p ∧ q)) m) := by by_cases h : p <;> by_cases h' : q <;> simp [pickE, bo, h, h']
theorem pick_or0 : pickE (bo p) (.bool true) (bo q) m = some (.val (bo (p ∨ q)) m) := by by_cases h : p <;> by_cases h' : q <;> simp [pickE, bo, h, h']
theorem pick_t : pickE (.bool true) a b m = some (.val a m) := rfl
theorem pick_f : pickE (.bool false) a b m = some (.val b m) := rfl
end
theorem un_not_bo {p : Prop} : evUn .not (bo p) = some (bo (¬ p)) := by by_cases h : p <;> simp [evUn, bo, h]
theorem eq_boo {p q : Prop} : evEq (.prim 0) (bo p) (bo q) = some (@decide (p = q) (Classical.propDecidable _)) := by by_cases h : p <;> by_cases h' : q <;> simp [evEq, evEqPrim, bo, h, h']
theorem eq_bo_t {p : Prop} : evEq (.prim 0) (bo p) (.bool true) = some (@decide p (Classical.propDecidable _)) := by by_cases h : p <;> simp [evEq, evEqPrim, bo, h]
theorem eq_bo_f {p : Prop} : evEq (.prim 0) (bo p) (.bool false) = some (@decide (¬ p) (Classical.propDecidable _)) := by by_cases h : p <;> simp [evEq, evEqPrim, bo, h]
theorem eq_t_bo {p : Prop} : evEq (.prim 0) (.bool true) (bo p) = some (@decide p (Classical.propDecidable _)) := by by_cases h : p <;> simp [evEq, evEqPrim, bo, h]
theorem eq_f_bo {p : Prop} : evEq (.prim 0) (.bool false) (bo p) = some (@decide (¬ p) (Classical.propDecidable _)) := by by_cases h : p <;> simp [evEq, evEqPrim, bo, h]
theorem eq_tt : evEq (.prim 0) (.bool true) (.bool true) = some true := rfl
theorem eq_ff : evEq (.prim 0) (.bool false) (.bool false) = some true := rfl
theorem eq_tf : evEq (.prim 0) (.bool true) (.bool false) = some false := rfl
theorem eq_ft : evEq (.prim 0) (.bool false) (.bool true) = some false := rfl
theorem un_not_t : evUn .not (.bool true) = some (.bool false) := rfl
theorem un_not_f : evUn .not (.bool false) = some (.bool true) := rfl
theorem eq_str {a b : List UInt8} : evEq (.prim 2) (.str a) (.str b) = some (decide (a = b)) := by simp only [evEq, evEqPrim, beq_self, cond_true, sameBytes_eq]
theorem thenE_iF {p : Prop} {a b : Option Out} {k : Fr → Mem → Option Out} : thenE (iF p a b) k = iF p (thenE a k) (thenE b k) := by unfold iF; split <;> rfl
theorem leave_iF {id : Nat} {p : Prop} {a b : Option Out} : leaveE id (iF p a b) = iF p (leaveE id a) (leaveE id b) := by unfold iF; split <;> rfl
theorem thenV_iF {p : Prop} {a b : Option R1} {k : EV → Mem → Option Out} : thenV (iF p a b) k = iF p (thenV a k) (thenV b k) := by unfold iF; split <;> rfl
theorem thenC_iF {p : Prop} {a b : Option Fin} {fr : Fr} {k : EV → Mem → Option Out} : thenC (iF p a b) fr k = iF p (thenC a fr k) (thenC b fr k) := by unfold iF; split <;> rfl
theorem resR_iF {rs : List IRes} {p : Prop} {a b : Option Out} : resR rs (iF p a b) = iF p (resR rs a) (resR rs b) := by unfold iF; split <;> rfl
theorem run_go' {T : Nat → Option Ent} {f : Nat} {F : IFun} (hf : T f = some (.go F)) {args : List EV} {m : Mem} (hn : args.length ≤ F.ntmps) : run T f args m = resR F.results (exec T F.body (argsF args 0 fr00) m) := by
  rw [run_go hf hn, resE_eq]; unfold fr00; rw [argsF_eq]
theorem idx_cast {n : Nat} {k : IntKind} {i : Nat} (h : i < n) : idx n (.int k (i : Int)) = some i := by
  have : (i + 1).ble n = true := Nat.ble_eq_true_of_le h
  show (bif (i + 1).ble n then some i else none) = _
  rw [this]; rfl
theorem idx_lit0 {n : Nat} {k : IntKind} (h : 0 < n) : idx n (.int k 0) = some 0 := idx_cast (i := 0) h
theorem bound_none {d n : Nat} : bound none d n = some d := rfl
theorem bound_cast {d n i : Nat} {k : IntKind} (h : i ≤ n) : bound (some (.int k (i : Int))) d n = some i := by
  show (bif i.ble n then some i else none) = _
  rw [Nat.ble_eq_true_of_le h]; rfl
theorem iaddr_at {ρ : Opd → EV} {e : Nat} {x y : Opd} {m : Mem} {b off len i : Nat} {c : Option Nat} {k : IntKind} (hx : ρ x = .slice b off len c) (hy : ρ y = .int k (i : Int)) (h : i < len) : evOp ρ (.iaddr e x y) m = some (.val (.ptr b (off + i * e)) m) := by
  simp only [evOp, hx, hy, idx_cast h]
theorem i64_wrap (n : Int) : IntKind.i64.wrap n = if n % 18446744073709551616 ≥ 9223372036854775808 then n % 18446744073709551616 - 18446744073709551616 else n % 18446744073709551616 := by
  have e : IntKind.i64.wrap n = if (true && decide (n % 18446744073709551616 ≥ 9223372036854775808)) = true then n % 18446744073709551616 - 18446744073709551616 else n % 18446744073709551616 := rfl
  rw [e]; simp only [Bool.true_and, decide_eq_true_eq]
theorem u64_wrap (n : Int) : IntKind.u64.wrap n = n % 18446744073709551616 := by
  have e : IntKind.u64.wrap n = if (false && decide (n % 18446744073709551616 ≥ 9223372036854775808)) = true then n % 18446744073709551616 - 18446744073709551616 else n % 18446744073709551616 := rfl
  rw [e]; simp
theorem u8_wrap (n : Int) : IntKind.u8.wrap n = n % 256 := by
  have e : IntKind.u8.wrap n = if (false && decide (n % 256 ≥ 128)) = true then n % 256 - 256 else n % 256 := rfl
  rw [e]; simp
theorem wrap_i64 {n : Int} (h1 : -9223372036854775808 ≤ n) (h2 : n < 9223372036854775808) : IntKind.i64.wrap n = n := by
  rw [i64_wrap]; split <;> omega
theorem wrap_u64 {n : Int} (h1 : 0 ≤ n) (h2 : n < 18446744073709551616) : IntKind.u64.wrap n = n := by
  rw [u64_wrap]; omega
/-- A piece of code that stands under a name, and what is known of it. -/
theorem told {T : Nat → Option Ent} {c : ICode} {fr : Fr} {m : Mem} {X : Option Out} (hX : exec T c fr m = X) {α : Type} {o : α → Out} {Q : α → Prop} (h : ∃ x, exec T c fr m = some (o x) ∧ Q x) : ∃ x, X = some (o x) ∧ Q x := by
  rw [hX] at h; exact h
end Go.Proofs.Ythlbifjgnhdonaa.Ev
