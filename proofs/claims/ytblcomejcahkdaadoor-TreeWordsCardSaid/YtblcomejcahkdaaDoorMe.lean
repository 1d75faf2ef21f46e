/- EvSym, EvExt, EvLi, EvLj, EvHeap, EvDrw, EvFz, EvSub, EvFzOp, EvFzOps. -/
import Derived.Laws.Externs
import Derived.Lib.Bytealg
import Derived.KernelRfl
import Derived.Shelf.Strconv.Itoa3
import Derived.Test.YtblcomejcahkdaaDoorChecked
import Derived.Shelf.Strings.OnBuilder
import Derived.Test.YtblcomejcahkdaaDoorMd
set_option linter.unusedSimpArgs false
set_option linter.unusedVariables false
section
namespace Go.Proofs.YtblcomejcahkdaaDoor.Ev
open Go

/-- A frame in which nothing stands. -/
def fr00 : Fr := ⟨.leaf, []⟩
theorem fr00_get (t : Nat) : fr00.get t = .undef := by unfold Fr.get fr00; simp only [Tr.get_leaf]; rfl
theorem fr00_defers : fr00.defers = [] := rfl
def selE (b : Bool) (v r : EV) : EV := bif b then v else r
@[congr] theorem selE_congr {b b' : Bool} {v r : EV} (h : b = b') : selE b v r = selE b' v r := by rw [h]
theorem selE_t {v r : EV} : selE true v r = v := rfl
theorem get_set' (fr : Fr) (d t : Nat) (v : EV) : (fr.set d v).get t = selE (t == d) v (fr.get t) := by
  rw [Fr.get_set]
  by_cases h : t = d
  · simp [selE, h]
  · simp [selE, h, beq_eq_false_iff_ne.2 h]
theorem selE_f {v r : EV} : selE false v r = r := rfl
def argsF : List EV → Nat → Fr → Fr
  | [], _, fr => fr
  | v :: r, i, fr => argsF r (i + 1) (fr.set i v)
theorem argsF_eq : ∀ (l : List EV) (i : Nat) (t : Tr EV), argsF l i ⟨t, []⟩ = ⟨args0 l i t, []⟩
  | [], i, t => rfl
  | v :: l, i, t => by simp only [argsF, args0, Fr.set]; exact argsF_eq l (i + 1) _
theorem put_some (fr : Fr) (d : Nat) (v : EV) : fr.put (some d) v = fr.set d v := rfl
theorem put_none (fr : Fr) (v : EV) : fr.put none v = fr := rfl
theorem set_defers (fr : Fr) (d : Nat) (v : EV) : (fr.set d v).defers = fr.defers := rfl
theorem eval_tmp (fr : Fr) (t : Nat) : fr.eval (.tmp t) = fr.get t := rfl
theorem eval_const (fr : Fr) (v : EV) : fr.eval (.const v) = v := rfl

/-! ### What tells a value -/
theorem ofEV_some (m : Mem) (v : EV) : ofEV m (some v) = some (.val v m) := rfl
theorem ofEM_some (m : Mem) (v : EV) : ofEM (some (v, m)) = some (.val v m) := rfl
theorem ofM_some (m : Mem) : ofM (some m) = some (.val .undef m) := rfl
@[congr] theorem thenV_congr {o o' : Option R1} {k : EV → Mem → Option Out} (h : o = o') : thenV o k = thenV o' k := by rw [h]
@[congr] theorem thenC_congr {o o' : Option Fin} {fr : Fr} {k : EV → Mem → Option Out} (h : o = o') : thenC o fr k = thenC o' fr k := by rw [h]
@[congr] theorem thenE_congr {o o' : Option Out} {k : Fr → Mem → Option Out} (h : o = o') : thenE o k = thenE o' k := by rw [h]
theorem thenV_some {v : EV} {m : Mem} {k : EV → Mem → Option Out} : thenV (some (.val v m)) k = k v m := rfl
theorem thenC_ret {v : EV} {m : Mem} {fr : Fr} {k : EV → Mem → Option Out} : thenC (some (.ret v m)) fr k = k v m := rfl
theorem thenE_norm {fr : Fr} {m : Mem} {k : Fr → Mem → Option Out} : thenE (some (.norm fr m)) k = k fr m := rfl
theorem thenE_ret {fr : Fr} {m : Mem} {k : Fr → Mem → Option Out} : thenE (some (.ret fr m)) k = some (.ret fr m) := rfl
theorem thenE_exit {id : Nat} {fr : Fr} {m : Mem} {k : Fr → Mem → Option Out} : thenE (some (.exit id fr m)) k = some (.exit id fr m) := rfl
theorem leave_norm {id : Nat} {fr : Fr} {m : Mem} : leaveE id (some (.norm fr m)) = some (.norm fr m) := rfl
theorem leave_ret {id : Nat} {fr : Fr} {m : Mem} : leaveE id (some (.ret fr m)) = some (.ret fr m) := rfl
def selO (b : Bool) (x y : Option Out) : Option Out := bif b then x else y
@[congr] theorem selO_congr {b b' : Bool} {x y : Option Out} (h : b = b') : selO b x y = selO b' x y := by rw [h]
theorem selO_t {x y : Option Out} : selO true x y = x := rfl
theorem selO_f {x y : Option Out} : selO false x y = y := rfl
theorem leave_exit {id j : Nat} {fr : Fr} {m : Mem} : leaveE id (some (.exit j fr m)) = selO (j == id) (some (.norm fr m)) (some (.exit j fr m)) := by
  by_cases h : j = id
  · subst h; simp [leaveE, selO]
  · simp [leaveE, selO, beq_ff h, beq_eq_false_iff_ne.2 h]
/-- The results, where nothing waits for the end. -/
def resR (rs : List IRes) (o : Option Out) : Option Fin := match o with
  | some (.norm fr m) | some (.ret fr m) => match fr.defers with
    | [] => (evResults fr m rs).map fun vs => .ret (one vs) m
    | _ => none
  | some (.pan v fr m) => match fr.defers with
    | [] => some (.pan v m)
    | _ => none
  | _ => none
theorem resE_eq (F : IFun) (o : Option Out) : resE F o = resR F.results o := by cases o with | none => rfl | some o => cases o <;> rfl
theorem resR_ret {rs : List IRes} {fr : Fr} {m : Mem} : resR rs (some (.ret fr m)) = match fr.defers with | [] => (evResults fr m rs).map fun vs => .ret (one vs) m | _ => none := rfl
theorem resR_norm {rs : List IRes} {fr : Fr} {m : Mem} : resR rs (some (.norm fr m)) = match fr.defers with | [] => (evResults fr m rs).map fun vs => .ret (one vs) m | _ => none := rfl
theorem resR_pan {rs : List IRes} {fr : Fr} {m : Mem} {v : EV} : resR rs (some (.pan v fr m)) = match fr.defers with | [] => some (.pan v m) | _ => none := rfl
theorem res_nil {fr : Fr} {m : Mem} : evResults fr m [] = some [] := rfl
theorem res_tmp {fr : Fr} {m : Mem} {t : Nat} {rs : List IRes} : evResults fr m (.tmp t :: rs) = (evResults fr m rs).map (fr.get t :: ·) := rfl
theorem one_one (v : EV) : one [v] = v := rfl
theorem one_two (v u : EV) (l : List EV) : one (v :: u :: l) = .tuple (v :: u :: l) := rfl
theorem one_nil : one [] = .tuple [] := rfl
/-! ### Whole numbers -/
section
variable {k l : IntKind} {a b : Int}
def iand (k : IntKind) (x y : Int) : Int := k.wrap (BitVec.ofInt k.bits x &&& BitVec.ofInt k.bits y).toNat
def ior (k : IntKind) (x y : Int) : Int := k.wrap (BitVec.ofInt k.bits x ||| BitVec.ofInt k.bits y).toNat
def ixor (k : IntKind) (x y : Int) : Int := k.wrap (BitVec.ofInt k.bits x ^^^ BitVec.ofInt k.bits y).toNat
def iandNot (k : IntKind) (x y : Int) : Int := k.wrap (BitVec.ofInt k.bits x &&& ~~~BitVec.ofInt k.bits y).toNat
theorem bin_add : evBin .add (.int k a) (.int k b) = some (.int k (k.wrap (a + b))) := by simp only [evBin, beq_self, cond_true, evInt]
theorem bin_sub : evBin .sub (.int k a) (.int k b) = some (.int k (k.wrap (a - b))) := by simp only [evBin, beq_self, cond_true, evInt]
theorem bin_mul : evBin .mul (.int k a) (.int k b) = some (.int k (k.wrap (a * b))) := by simp only [evBin, beq_self, cond_true, evInt]
theorem bin_quo : evBin .quo (.int k a) (.int k b) = if b = 0 then none else some (.int k (k.wrap (a.tdiv b))) := by simp only [evBin, beq_self, cond_true, evInt]
theorem bin_rem : evBin .rem (.int k a) (.int k b) = if b = 0 then none else some (.int k (a.tmod b)) := by simp only [evBin, beq_self, cond_true, evInt]
theorem bin_and : evBin .and (.int k a) (.int k b) = some (.int k (iand k a b)) := by simp only [evBin, beq_self, cond_true, evInt, evBits, Option.map_some, iand]
theorem bin_or : evBin .or (.int k a) (.int k b) = some (.int k (ior k a b)) := by simp only [evBin, beq_self, cond_true, evInt, evBits, Option.map_some, ior]
theorem bin_xor : evBin .xor (.int k a) (.int k b) = some (.int k (ixor k a b)) := by simp only [evBin, beq_self, cond_true, evInt, evBits, Option.map_some, ixor]
theorem bin_andNot : evBin .andNot (.int k a) (.int k b) = some (.int k (iandNot k a b)) := by simp only [evBin, beq_self, cond_true, evInt, evBits, Option.map_some, iandNot]
theorem bin_lss : evBin .lss (.int k a) (.int k b) = some (.bool (decide (a < b))) := by simp only [evBin, beq_self, cond_true, evInt]
theorem bin_leq : evBin .leq (.int k a) (.int k b) = some (.bool (decide (a ≤ b))) := by simp only [evBin, beq_self, cond_true, evInt]
theorem bin_gtr : evBin .gtr (.int k a) (.int k b) = some (.bool (decide (b < a))) := by simp only [evBin, beq_self, cond_true, evInt]
theorem bin_geq : evBin .geq (.int k a) (.int k b) = some (.bool (decide (b ≤ a))) := by simp only [evBin, beq_self, cond_true, evInt]
theorem bin_shl : evBin .shl (.int k a) (.int l b) = if b < 0 then none else some (.int k (k.wrap (a * 2 ^ min b.toNat k.bits))) := by simp only [evBin, evShift]
theorem bin_shr : evBin .shr (.int k a) (.int l b) = if b < 0 then none else some (.int k (a.fdiv (2 ^ min b.toNat k.bits))) := by simp only [evBin, evShift]
theorem bin_shl_i64 (h1 : 0 ≤ b) (h2 : b < 64) : evBin .shl (.int .i64 a) (.int l b) = some (.int .i64 (IntKind.i64.wrap (a * 2 ^ b.toNat))) := by
  rw [bin_shl, if_neg (by omega), show IntKind.i64.bits = 64 from rfl, Nat.min_eq_left (by omega)]
theorem bin_shr_i64 (h1 : 0 ≤ b) (h2 : b < 64) : evBin .shr (.int .i64 a) (.int l b) = some (.int .i64 (a.fdiv (2 ^ b.toNat))) := by
  rw [bin_shr, if_neg (by omega), show IntKind.i64.bits = 64 from rfl, Nat.min_eq_left (by omega)]
theorem bin_shl_u64 (h1 : 0 ≤ b) (h2 : b < 64) : evBin .shl (.int .u64 a) (.int l b) = some (.int .u64 (IntKind.u64.wrap (a * 2 ^ b.toNat))) := by
  rw [bin_shl, if_neg (by omega), show IntKind.u64.bits = 64 from rfl, Nat.min_eq_left (by omega)]
theorem bin_shr_u64 (h1 : 0 ≤ b) (h2 : b < 64) : evBin .shr (.int .u64 a) (.int l b) = some (.int .u64 (a.fdiv (2 ^ b.toNat))) := by
  rw [bin_shr, if_neg (by omega), show IntKind.u64.bits = 64 from rfl, Nat.min_eq_left (by omega)]
theorem eq_int : evEq (.prim 1) (.int k a) (.int k b) = some (decide (a = b)) := by simp only [evEq, evEqPrim, beq_self, cond_true]
theorem un_neg : evUn .neg (.int k a) = some (.int k (k.wrap (0 - a))) := rfl
theorem cv_int {m : Mem} : evConv (.int l) m (.int k a) = some (.int l (l.wrap a), m) := rfl
end
/-! ### Operation by operation -/
theorem evOp_mov {ρ : Opd → EV} {m : Mem} (x : Opd) : evOp ρ (.mov x) m = some (.val (ρ x) m) := rfl
theorem evOp_build {ρ : Opd → EV} {m : Mem} (zero : List EV) (parts : List (Nat × Nat × Opd)) : evOp ρ (.build zero parts) m = ofEV m ((fillIn zero (parts.map fun p => (p.1, p.2.1, ρ p.2.2))).map .agg) := rfl
theorem evOp_load {ρ : Opd → EV} {m : Mem} (agg : Option Nat) (a : Opd) : evOp ρ (.load agg a) m = ofEV m (m.load agg (ρ a)) := rfl
theorem evOp_store {ρ : Opd → EV} {m : Mem} (size : Nat) (a x : Opd) : evOp ρ (.store size a x) m = ofM (m.store size (ρ a) (ρ x)) := rfl
theorem evOp_nilck {ρ : Opd → EV} {m : Mem} (x : Opd) : evOp ρ (.nilck x) m = match ρ x with
    | .ptr b off => some (.val (.ptr b off) m)
    | .func f a c => some (.val (.func f a c) m)
    | .iface t v => some (.val (.iface t v) m)
    | .fptr e els i k => some (.val (.fptr e els i k) m)
    | _ => none := rfl
theorem evOp_bin {ρ : Opd → EV} {m : Mem} (op : BinOp) (x y : Opd) : evOp ρ (.bin op x y) m = ofEV m (evBin op (ρ x) (ρ y)) := rfl
theorem evOp_eq {ρ : Opd → EV} {m : Mem} (neg : Bool) (t : EqTy) (x y : Opd) : evOp ρ (.eq neg t x y) m = ofEV m ((evEq t (ρ x) (ρ y)).map fun b => .bool (neg ^^ b)) := rfl
theorem evOp_un {ρ : Opd → EV} {m : Mem} (op : UnOp) (x : Opd) : evOp ρ (.un op x) m = ofEV m (evUn op (ρ x)) := rfl
theorem evOp_conv {ρ : Opd → EV} {m : Mem} (c : Cv) (x : Opd) : evOp ρ (.conv c x) m = ofEM (evConv c m (ρ x)) := rfl
theorem evOp_iface {ρ : Opd → EV} {m : Mem} (t : Nat) (x : Opd) : evOp ρ (.iface t x) m = some (.val (.iface t (ρ x)) m) := rfl
theorem evOp_mkfn {ρ : Opd → EV} {m : Mem} (f : Nat) (a c : List Opd) : evOp ρ (.mkfn f a c) m = some (.val (.func f (a.map ρ) (c.map ρ)) m) := rfl
theorem evOp_mkslice {ρ : Opd → EV} {m : Mem} (elem esz : Nat) (zero : List EV) (len cap : Opd) : evOp ρ (.mkslice elem esz zero len cap) m = match ρ len, ρ cap with
    | .int .i64 (.ofNat l), .int .i64 (.ofNat c) => bif (bif l.ble c then c.ble room else false) then
        some (.val (.slice m.next 0 l (some c)) (m.new (.cells (copies c zero) esz elem false))) else none
    | _, _ => none := rfl
theorem evOp_slstr {ρ : Opd → EV} {m : Mem} (x : Opd) (lo hi : Option Opd) : evOp ρ (.slstr x lo hi) m = match ρ x with
    | .str s => match bound (hi.map ρ) s.length s.length with
      | some h => match bound (lo.map ρ) 0 h with
        | some l => some (.val (.str ((s.take h).drop l)) m)
        | none => none
      | none => none
    | _ => none := rfl
theorem evOp_slarr {ρ : Opd → EV} {m : Mem} (n esz : Nat) (x : Opd) (lo hi max : Option Opd) : evOp ρ (.slarr n esz x lo hi max) m = match ρ x with
    | .ptr b off => ofEV m (evSlice esz b off n (some n) (lo.map ρ) (hi.map ρ) (max.map ρ))
    | _ => none := rfl
theorem evOp_faddr {ρ : Opd → EV} {m : Mem} (off : Nat) (x : Opd) : evOp ρ (.faddr off x) m = match ρ x with
    | .ptr b o => some (.val (.ptr b (o + off)) m)
    | .fptr e els i k => some (.val (.fptr e els i (k + off)) m)
    | _ => none := rfl
theorem evOp_fld {ρ : Opd → EV} {m : Mem} (agg : Option Nat) (off : Nat) (x : Opd) : evOp ρ (.fld agg off x) m = match ρ x with
    | .agg cs => ofEV m (partOf agg cs off)
    | _ => none := rfl
theorem evOp_iaddrArr {ρ : Opd → EV} {m : Mem} (n esz : Nat) (x i : Opd) : evOp ρ (.iaddrArr n esz x i) m = match ρ x with
    | .ptr b off => match idx n (ρ i) with
      | some i => some (.val (.ptr b (off + i * esz)) m)
      | none => none
    | _ => none := rfl
theorem evOp_idxstr {ρ : Opd → EV} {m : Mem} (x i : Opd) : evOp ρ (.idxstr x i) m = match ρ x with
    | .str s => match idx s.length (ρ i) with
      | some i => match s[i]? with
        | some c => some (.val (.int .u8 (c.toNat : Int)) m)
        | none => none
      | none => none
    | _ => none := rfl
theorem evOp_idxagg {ρ : Opd → EV} {m : Mem} (n esz : Nat) (agg : Option Nat) (x i : Opd) : evOp ρ (.idxagg n esz agg x i) m = match ρ x with
    | .agg cs => match idx n (ρ i) with
      | some i => ofEV m (partOf agg cs (i * esz))
      | none => none
    | _ => none := rfl
theorem evOp_lookup {ρ : Opd → EV} {m : Mem} (kt : Nat) (zero : EV) (ok : Bool) (mp k : Opd) : evOp ρ (.lookup kt zero ok mp k) m = match ρ mp with
    | .nilmap => bif keyIs kt (ρ k) then some (.val (bif ok then .tuple [zero, .bool false] else zero) m) else none
    | .map b => match m.get b with
      | .map es => bif keysOk kt (ρ k) es then
          match find (ρ k) es with
          | some v => some (.val (bif ok then .tuple [v, .bool true] else v) m)
          | none => some (.val (bif ok then .tuple [zero, .bool false] else zero) m)
        else none
      | _ => none
    | _ => none := rfl
theorem evOp_mapupd {ρ : Opd → EV} {m : Mem} (kt : Nat) (mp k x : Opd) : evOp ρ (.mapupd kt mp k x) m = match ρ mp with
    | .map b => match m.get b with
      | .map es => bif keysOk kt (ρ k) es then some (.val .undef (m.set b (.map (update (ρ k) (ρ x) es)))) else none
      | _ => none
    | _ => none := rfl
theorem evOp_delete {ρ : Opd → EV} {m : Mem} (kt : Nat) (mp k : Opd) : evOp ρ (.delete kt mp k) m = match ρ mp with
    | .nilmap => bif keyIs kt (ρ k) then some (.val (.tuple []) m) else none
    | .map b => match m.get b with
      | .map es => bif keysOk kt (ρ k) es then some (.val (.tuple []) (m.set b (.map (erase (ρ k) es)))) else none
      | _ => none
    | _ => none := rfl
theorem evOp_lenmap {ρ : Opd → EV} {m : Mem} (mp : Opd) : evOp ρ (.lenmap mp) m = match ρ mp with
    | .nilmap => some (.val (.int .i64 0) m)
    | .map b => match m.get b with
      | .map es => some (.val (.int .i64 (es.length : Int)) m)
      | _ => none
    | _ => none := rfl
theorem evOp_tassert {ρ : Opd → EV} {m : Mem} (t : Nat) (x : Opd) : evOp ρ (.tassert t x) m = match ρ x with
    | .iface u v => bif t.beq u then some (.val v m) else none
    | _ => none := rfl
theorem evOp_extract {ρ : Opd → EV} {m : Mem} (x : Opd) (i : Nat) : evOp ρ (.extract x i) m = match ρ x with
    | .tuple vs => ofEV m vs[i]?
    | _ => none := rfl
theorem evOp_lenstr {ρ : Opd → EV} {m : Mem} (x : Opd) : evOp ρ (.lenstr x) m = match ρ x with
    | .str s => some (.val (.int .i64 (s.length : Int)) m)
    | _ => none := rfl
theorem evOp_lenarr {ρ : Opd → EV} {m : Mem} (n : Nat) : evOp ρ (.lenarr n) m = some (.val (.int .i64 (n : Int)) m) := rfl
theorem evOp_cap {ρ : Opd → EV} {m : Mem} (x : Opd) : evOp ρ (.cap x) m = match ρ x with
    | .nilslice => some (.val (.int .i64 0) m)
    | .slice _ _ _ (some c) => some (.val (.int .i64 (c : Int)) m)
    | _ => none := rfl
theorem evOp_max {ρ : Opd → EV} {m : Mem} (args : List Opd) : evOp ρ (.max args) m = ofEV m (evMax (args.map ρ)) := rfl
theorem evOp_min {ρ : Opd → EV} {m : Mem} (args : List Opd) : evOp ρ (.min args) m = ofEV m (evMin (args.map ρ)) := rfl
theorem evOp_append {ρ : Opd → EV} {m : Mem} (elem esz bytes : Nat) (s x : Opd) : evOp ρ (.append elem esz bytes s x) m = ofEM (evAppend m elem esz (ρ s) (ρ x)) := rfl
theorem evOp_copy {ρ : Opd → EV} {m : Mem} (esz : Nat) (d s : Opd) : evOp ρ (.copy esz d s) m = ofEM (evCopy m esz (ρ d) (ρ s)) := rfl
/-! ### Truths asx statements: 'bo p', 'gv p v' (a value that is there where p holds), 'iF p x y' -/
open Classical in
noncomputable def bo (p : Prop) : EV := .bool (decide p)
open Classical in
noncomputable def gv (p : Prop) (v : EV) : EV := if p then v else .undef
open Classical in
noncomputable def iF {α : Type} (p : Prop) (x y : α) : α := if p then x else y
theorem bo_decide {p : Prop} [h : Decidable p] : EV.bool (decide p) = bo p := by unfold bo; congr
theorem bo_not_decide {p : Prop} [h : Decidable p] : EV.bool (!decide p) = bo (¬ p) := by
  unfold bo; by_cases hp : p <;> simp [hp]
theorem bo_tt : bo True = .bool true := by simp [bo]
theorem bo_ff : bo False = .bool false := by simp [bo]
theorem gv_true {v : EV} : gv True v = v := by simp [gv]
theorem gv_false {v : EV} : gv False v = .undef := by simp [gv]
theorem iF_pos {α : Type} {p : Prop} (h : p) {x y : α} : iF p x y = x := by simp [iF, h]
theorem iF_neg {α : Type} {p : Prop} (h : ¬ p) {x y : α} : iF p x y = y := by simp [iF, h]
@[congr] theorem iF_congr {α : Type} {p p' : Prop} {x x' y y' : α} (h : p = p') (h1 : p' → x = x') (h2 : ¬ p' → y = y') : iF p x y = iF p' x' y' := by
  subst h; by_cases hp : p
  · rw [iF_pos hp, iF_pos hp]; exact h1 hp
  · rw [iF_neg hp, iF_neg hp]; exact h2 hp
/-- By a truth: one of two; nothing else is looked at ahead of it. -/
def cE (v : EV) (x y : Option Out) : Option Out := match v with
  | .bool true => x
  | .bool false => y
  | _ => none
@[congr] theorem cE_congr {v v' : EV} {x y : Option Out} (h : v = v') : cE v x y = cE v' x y := by rw [h]
theorem cE_bo {p : Prop} {x y : Option Out} : cE (bo p) x y = iF p x y := by by_cases h : p <;> simp [bo, iF, cE, h]
theorem cE_t {x y : Option Out} : cE (.bool true) x y = x := rfl
theorem cE_f {x y : Option Out} : cE (.bool false) x y = y := rfl
theorem exec_cond' {T : Nat → Option Ent} {c : Opd} {a b : ICode} {fr : Fr} {m : Mem} : exec T (.cond c a b) fr m = cE (fr.eval c) (exec T a fr m) (exec T b fr m) := by
  cases h : fr.eval c
  case bool t => rw [exec_cond h]; cases t <;> rfl
  all_goals
    refine opt_ext fun r => ?_
    rw [exec_iff]
    simp only [evCode, h, reduceCtorEq, exists_const, cE]
/-! ### Guards: what is skipped tells nothing, and the way is one -/
open Classical in
/-- An operation under a condition. -/
noncomputable def thenG (p : Prop) (m : Mem) (o : Option R1) (k : EV → Mem → Option Out) : Option Out := if p then thenV o k else k .undef m
open Classical in
noncomputable def thenH (p : Prop) (fr : Fr) (m : Mem) (o : Option Fin) (k : EV → Mem → Option Out) : Option Out := if p then thenC o fr k else k .undef m
@[congr] theorem thenG_congr {p p' : Prop} {m : Mem} {o o' : Option R1} {k : EV → Mem → Option Out} (h : p = p') (ho : p' → o = o') : thenG p m o k = thenG p' m o' k := by
  subst h; by_cases hp : p <;> simp only [thenG, hp, if_true, if_false]; rw [ho hp]
@[congr] theorem thenH_congr {p p' : Prop} {fr : Fr} {m : Mem} {o o' : Option Fin} {k : EV → Mem → Option Out} (h : p = p') (ho : p' → o = o') : thenH p fr m o k = thenH p' fr m o' k := by
  subst h; by_cases hp : p <;> simp only [thenH, hp, if_true, if_false]; rw [ho hp]
theorem thenG_val {p : Prop} {m m' : Mem} {v : EV} {k : EV → Mem → Option Out} (he : p → m' = m) : thenG p m (some (.val v m')) k = k (gv p v) m := by
  by_cases h : p
  · rw [he h]; simp [thenG, gv, thenV, h]
  · simp [thenG, gv, h]
theorem thenH_ret {p : Prop} {fr : Fr} {m m' : Mem} {v : EV} {k : EV → Mem → Option Out} (he : p → m' = m) : thenH p fr m (some (.ret v m')) k = k (gv p v) m := by
  by_cases h : p
  · rw [he h]; simp [thenH, gv, thenC, h]
  · simp [thenH, gv, h]
/-- A guard's test. -/
def gE (v : EV) (w : Bool) (x y : Option Out) : Option Out := match v with
  | .bool b => bif b == w then x else y
  | .undef => y
  | _ => none
@[congr] theorem gE_congr {v v' : EV} {w : Bool} {x y : Option Out} (h : v = v') : gE v w x y = gE v' w x y := by rw [h]
/-- A guarded operation that tells a value. -/
def gV (v : EV) (w : Bool) (m : Mem) (o : Option R1) (k : EV → Mem → Option Out) : Option Out := gE v w (thenV o k) (k .undef m)
def gC (v : EV) (w : Bool) (fr : Fr) (m : Mem) (o : Option Fin) (k : EV → Mem → Option Out) : Option Out := gE v w (thenC o fr k) (k .undef m)
@[congr] theorem gV_congr {v v' : EV} {w : Bool} {m : Mem} {o : Option R1} {k : EV → Mem → Option Out} (h : v = v') : gV v w m o k = gV v' w m o k := by rw [h]
@[congr] theorem gC_congr {v v' : EV} {w : Bool} {fr : Fr} {m : Mem} {o : Option Fin} {k : EV → Mem → Option Out} (h : v = v') : gC v w fr m o k = gC v' w fr m o k := by rw [h]
section
variable {p q : Prop} {b : Bool} {w : Bool} {fr : Fr} {m : Mem} {o : Option R1} {c : Option Fin} {k : EV → Mem → Option Out}
theorem gV_undef : gV .undef w m o k = k .undef m := rfl
theorem gC_undef : gC .undef w fr m c k = k .undef m := rfl
theorem gV_bo_t : gV (bo p) true m o k = thenG p m o k := by by_cases h : p <;> simp [gV, gE, bo, thenG, h]
theorem gV_bo_f : gV (bo p) false m o k = thenG (¬ p) m o k := by by_cases h : p <;> simp [gV, gE, bo, thenG, h]
theorem gV_tt : gV (.bool true) true m o k = thenV o k := rfl
theorem gV_tf : gV (.bool true) false m o k = k .undef m := rfl
theorem gV_ft : gV (.bool false) true m o k = k .undef m := rfl
theorem gV_ff : gV (.bool false) false m o k = thenV o k := rfl
theorem gV_gv_t : gV (gv p (bo q)) true m o k = thenG (p ∧ q) m o k := by by_cases h : p <;> by_cases h' : q <;> simp [gV, gE, bo, gv, thenG, h, h']
theorem gV_gv_f : gV (gv p (bo q)) false m o k = thenG (p ∧ ¬ q) m o k := by by_cases h : p <;> by_cases h' : q <;> simp [gV, gE, bo, gv, thenG, h, h']
theorem gV_gt_t : gV (gv p (.bool true)) true m o k = thenG p m o k := by by_cases h : p <;> simp [gV, gE, gv, thenG, h]
theorem gV_gt_f : gV (gv p (.bool true)) false m o k = k .undef m := by by_cases h : p <;> simp [gV, gE, gv, h]
theorem gV_gf_t : gV (gv p (.bool false)) true m o k = k .undef m := by by_cases h : p <;> simp [gV, gE, gv, h]
theorem gV_gf_f : gV (gv p (.bool false)) false m o k = thenG p m o k := by by_cases h : p <;> simp [gV, gE, gv, thenG, h]
theorem gC_bo_t : gC (bo p) true fr m c k = thenH p fr m c k := by by_cases h : p <;> simp [gC, gE, bo, thenH, h]
theorem gC_bo_f : gC (bo p) false fr m c k = thenH (¬ p) fr m c k := by by_cases h : p <;> simp [gC, gE, bo, thenH, h]
theorem gC_tt : gC (.bool true) true fr m c k = thenC c fr k := rfl
theorem gC_tf : gC (.bool true) false fr m c k = k .undef m := rfl
theorem gC_ft : gC (.bool false) true fr m c k = k .undef m := rfl
theorem gC_ff : gC (.bool false) false fr m c k = thenC c fr k := rfl
theorem gC_gv_t : gC (gv p (bo q)) true fr m c k = thenH (p ∧ q) fr m c k := by by_cases h : p <;> by_cases h' : q <;> simp [gC, gE, bo, gv, thenH, h, h']
theorem gC_gv_f : gC (gv p (bo q)) false fr m c k = thenH (p ∧ ¬ q) fr m c k := by by_cases h : p <;> by_cases h' : q <;> simp [gC, gE, bo, gv, thenH, h, h']
theorem gC_gt_t : gC (gv p (.bool true)) true fr m c k = thenH p fr m c k := by by_cases h : p <;> simp [gC, gE, gv, thenH, h]
theorem gC_gt_f : gC (gv p (.bool true)) false fr m c k = k .undef m := by by_cases h : p <;> simp [gC, gE, gv, h]
theorem gC_gf_t : gC (gv p (.bool false)) true fr m c k = k .undef m := by by_cases h : p <;> simp [gC, gE, gv, h]
theorem gC_gf_f : gC (gv p (.bool false)) false fr m c k = thenH p fr m c k := by by_cases h : p <;> simp [gC, gE, gv, thenH, h]
end
theorem oprs_guard' {T : Nat → Option Ent} {d : Option Nat} {op : XOp} {t : Nat} {w : Bool} {l : List IOper} {fr : Fr} {m : Mem} :
    oprs T (⟨d, op, some (t, w)⟩ :: l) fr m = gE (fr.get t) w (oprs T (⟨d, op, none⟩ :: l) fr m) (oprs T l (fr.put d .undef) m) := by
  cases h : fr.get t
  case bool b => rw [oprs_guard h]; rfl
  case undef =>
    refine opt_ext fun r => ?_
    rw [oprs_iff]
    simp only [evOps, wantedE, h, gE]
    exact oprs_iff.symm
  all_goals
    refine opt_ext fun r => ?_
    rw [oprs_iff]
    simp only [evOps, wantedE, h, reduceCtorEq, exists_const, gE]
theorem oprs_gval {T : Nat → Option Ent} {d : Option Nat} {op : IOp} {t : Nat} {w : Bool} {l : List IOper} {fr : Fr} {m : Mem} :
    oprs T (⟨d, .val op, some (t, w)⟩ :: l) fr m = gV (fr.get t) w m (evOp fr.eval op m) (fun v m => oprs T l (fr.put d v) m) := by rw [oprs_guard', oprs_val]; rfl
/-- A call of a function's value. -/
noncomputable def runV (T : Nat → Option Ent) (f : EV) (args : List EV) (m : Mem) : Option Fin := match f with
  | .func g a c => run T g (a ++ args ++ c) m
  | _ => none
theorem runV_func {T : Nat → Option Ent} {g : Nat} {a c args : List EV} {m : Mem} : runV T (.func g a c) args m = run T g (a ++ args ++ c) m := rfl
theorem oprs_callv {T : Nat → Option Ent} {d : Option Nat} {x : Opd} {args : List Opd} {l : List IOper} {fr : Fr} {m : Mem} :
    oprs T (⟨d, .call x args, none⟩ :: l) fr m = thenC (runV T (fr.eval x) (args.map fr.eval) m) fr fun v m => oprs T l (fr.put d v) m := by
  refine opt_ext fun r => ?_
  rw [oprs_iff]
  simp only [evOps, wantedE]
  cases hx : fr.eval x
  case func g a c =>
    simp only [evCall, runV]
    constructor
    · rintro ⟨k, h⟩
      cases hc : evFun T k g (a ++ args.map fr.eval ++ c) m with
      | none => rw [hc] at h; cases h
      | some q =>
        rw [run_iff.2 ⟨k, hc⟩]
        simp only [hc] at h
        cases q with
        | ret v m1 => exact oprs_iff.2 ⟨k, h⟩
        | pan v m1 => exact h
    · intro h
      cases hc : run T g (a ++ args.map fr.eval ++ c) m with
      | none => rw [hc] at h; cases h
      | some q =>
        obtain ⟨k1, h1⟩ := run_iff.1 hc
        rw [hc] at h
        cases q with
        | ret v m1 =>
          simp only [thenC] at h
          obtain ⟨k2, h2⟩ := oprs_iff.1 h
          refine ⟨max k1 k2, ?_⟩
          have e1 := mono_run _ _ _ (Nat.le_max_left k1 k2) h1
          have e2 := mono_oprs _ _ _ (Nat.le_max_right k1 k2) h2
          simp only at e1 e2
          rw [e1]; exact e2
        | pan v m1 => exact ⟨k1, by rw [h1]; exact h⟩
  all_goals simp [evCall, runV, thenC]
theorem oprs_gcallv {T : Nat → Option Ent} {d : Option Nat} {x : Opd} {args : List Opd} {t : Nat} {w : Bool} {l : List IOper} {fr : Fr} {m : Mem} :
    oprs T (⟨d, .call x args, some (t, w)⟩ :: l) fr m = gC (fr.get t) w fr m (runV T (fr.eval x) (args.map fr.eval) m) (fun v m => oprs T l (fr.put d v) m) := by rw [oprs_guard', oprs_callv]; rfl
/-- One of two, by a truth. -/
def pickE (c a b : EV) (m : Mem) : Option R1 := match c with
  | .bool t => some (.val (bif t then a else b) m)
  | _ => none
theorem evOp_pick' {ρ : Opd → EV} {c x y : Opd} {m : Mem} : evOp ρ (.pick c x y) m = pickE (ρ c) (ρ x) (ρ y) m := by
  simp only [evOp]; unfold pickE; cases ρ c <;> rfl
section
variable {p q r : Prop} {a b : EV} {m : Mem} {c d : Bool}
theorem pick_and : pickE (bo p) (gv p (bo q)) (.bool false) m = some (.val (bo (p ∧ q)) m) := by by_cases h : p <;> by_cases h' : q <;> simp [pickE, gv, bo, h, h']
theorem pick_and_t : pickE (bo p) (gv p (.bool true)) (.bool false) m = some (.val (bo p) m) := by by_cases h : p <;> simp [pickE, gv, bo, h]
theorem pick_and_f : pickE (bo p) (gv p (.bool false)) (.bool false) m = some (.val (.bool false) m) := by by_cases h : p <;> simp [pickE, gv, bo, h]
theorem pick_or (hr : r = ¬ p) : pickE (bo p) (.bool true) (gv r (bo q)) m = some (.val (bo (p ∨ q)) m) := by subst hr; by_cases h : p <;> by_cases h' : q <;> simp [pickE, gv, bo, h, h']
theorem pick_or_t (hr : r = ¬ p) : pickE (bo p) (.bool true) (gv r (.bool true)) m = some (.val (.bool true) m) := by subst hr; by_cases h : p <;> simp [pickE, gv, bo, h]
theorem pick_or_f (hr : r = ¬ p) : pickE (bo p) (.bool true) (gv r (.bool false)) m = some (.val (bo p) m) := by subst hr; by_cases h : p <;> simp [pickE, gv, bo, h]
theorem pick_and0 : pickE (bo p) (bo q) (.bool false) m = some (.val (bo (p ∧ q)) m) := by by_cases h : p <;> by_cases h' : q <;> simp [pickE, bo, h, h']
theorem pick_or0 : pickE (bo p) (.bool true) (bo q) m = some (.val (bo (p ∨ q)) m) := by by_cases h : p <;> by_cases h' : q <;> simp [pickE, bo, h, h']
theorem pick_t : pickE (.bool true) a b m = some (.val a m) := rfl
theorem pick_f : pickE (.bool false) a b m = some (.val b m) := rfl
end
theorem un_not_bo {p : Prop} : evUn .not (bo p) = some (bo (¬ p)) := by by_cases h : p <;> simp [evUn, bo, h]
theorem eq_boo {p q : Prop} : evEq (.prim 0) (bo p) (bo q) = some (@decide (p = q) (Classical.propDecidable _)) := by by_cases h : p <;> by_cases h' : q <;> simp [evEq, evEqPrim, bo, h, h']
theorem eq_bo_t {p : Prop} : evEq (.prim 0) (bo p) (.bool true) = some (@decide p (Classical.propDecidable _)) := by by_cases h : p <;> simp [evEq, evEqPrim, bo, h]
theorem eq_bo_f {p : Prop} : evEq (.prim 0) (bo p) (.bool false) = some (@decide (¬ p) (Classical.propDecidable _)) := by by_cases h : p <;> simp [evEq, evEqPrim, bo, h]
theorem eq_t_bo {p : Prop} : evEq (.prim 0) (.bool true) (bo p) = some (@decide p (Classical.propDecidable _)) := by by_cases h : p <;> simp [evEq, evEqPrim, bo, h]
theorem eq_f_bo {p : Prop} : evEq (.prim 0) (.bool false) (bo p) = some (@decide (¬ p) (Classical.propDecidable _)) := by by_cases h : p <;> simp [evEq, evEqPrim, bo, h]
theorem eq_tt : evEq (.prim 0) (.bool true) (.bool true) = some true := rfl
theorem eq_ff : evEq (.prim 0) (.bool false) (.bool false) = some true := rfl
theorem eq_tf : evEq (.prim 0) (.bool true) (.bool false) = some false := rfl
theorem eq_ft : evEq (.prim 0) (.bool false) (.bool true) = some false := rfl
theorem un_not_t : evUn .not (.bool true) = some (.bool false) := rfl
theorem un_not_f : evUn .not (.bool false) = some (.bool true) := rfl
theorem eq_str {a b : List UInt8} : evEq (.prim 2) (.str a) (.str b) = some (decide (a = b)) := by simp only [evEq, evEqPrim, beq_self, cond_true, sameBytes_eq]
theorem thenE_iF {p : Prop} {a b : Option Out} {k : Fr → Mem → Option Out} : thenE (iF p a b) k = iF p (thenE a k) (thenE b k) := by unfold iF; split <;> rfl
theorem leave_iF {id : Nat} {p : Prop} {a b : Option Out} : leaveE id (iF p a b) = iF p (leaveE id a) (leaveE id b) := by unfold iF; split <;> rfl
theorem thenV_iF {p : Prop} {a b : Option R1} {k : EV → Mem → Option Out} : thenV (iF p a b) k = iF p (thenV a k) (thenV b k) := by unfold iF; split <;> rfl
theorem thenC_iF {p : Prop} {a b : Option Fin} {fr : Fr} {k : EV → Mem → Option Out} : thenC (iF p a b) fr k = iF p (thenC a fr k) (thenC b fr k) := by unfold iF; split <;> rfl
theorem resR_iF {rs : List IRes} {p : Prop} {a b : Option Out} : resR rs (iF p a b) = iF p (resR rs a) (resR rs b) := by unfold iF; split <;> rfl
theorem run_go' {T : Nat → Option Ent} {f : Nat} {F : IFun} (hf : T f = some (.go F)) {args : List EV} {m : Mem} (hn : args.length ≤ F.ntmps) : run T f args m = resR F.results (exec T F.body (argsF args 0 fr00) m) := by
  rw [run_go hf hn, resE_eq]; unfold fr00; rw [argsF_eq]
theorem idx_cast {n : Nat} {k : IntKind} {i : Nat} (h : i < n) : idx n (.int k (i : Int)) = some i := by
  have : (i + 1).ble n = true := Nat.ble_eq_true_of_le h
  show (bif (i + 1).ble n then some i else none) = _
  rw [this]; rfl
theorem bound_none {d n : Nat} : bound none d n = some d := rfl
theorem i64_wrap (n : Int) : IntKind.i64.wrap n = if n % 18446744073709551616 ≥ 9223372036854775808 then n % 18446744073709551616 - 18446744073709551616 else n % 18446744073709551616 := by
  have e : IntKind.i64.wrap n = if (true && decide (n % 18446744073709551616 ≥ 9223372036854775808)) = true then n % 18446744073709551616 - 18446744073709551616 else n % 18446744073709551616 := rfl
  rw [e]; simp only [Bool.true_and, decide_eq_true_eq]
theorem wrap_i64 {n : Int} (h1 : -9223372036854775808 ≤ n) (h2 : n < 9223372036854775808) : IntKind.i64.wrap n = n := by
  rw [i64_wrap]; split <;> omega
/-- A piece of code that stands under a name, and what is known of it. -/
theorem told {T : Nat → Option Ent} {c : ICode} {fr : Fr} {m : Mem} {X : Option Out} (hX : exec T c fr m = X) {α : Type} {o : α → Out} {Q : α → Prop} (h : ∃ x, exec T c fr m = some (o x) ∧ Q x) : ∃ x, X = some (o x) ∧ Q x := by
  rw [hX] at h; exact h
end Go.Proofs.YtblcomejcahkdaaDoor.Ev
end
section
namespace Go.Proofs.YtblcomejcahkdaaDoor.Ev
open Go

/-- A table, in order. -/
inductive Bt where
  | leaf
  | node (k : Nat) (e : Ent) (l r : Bt)
def Bt.find : Bt → Nat → Option Ent
  | .leaf, _ => none
  | .node k e l r, f => bif f.beq k then some e else bif f.blt k then l.find f else r.find f
def Bt.All (Q : Nat → Ent → Prop) : Bt → Prop
  | .leaf => True
  | .node k e l r => Q k e ∧ l.All Q ∧ r.All Q
theorem Bt.find_of {Q : Nat → Ent → Prop} : ∀ {t : Bt}, t.All Q → ∀ f e, t.find f = some e → Q f e
  | .leaf, _, f, e, h => by simp [Bt.find] at h
  | .node k x l r, ⟨h0, hl, hr⟩, f, e, h => by
    simp only [Bt.find] at h
    cases hk : f.beq k with
    | true =>
      rw [of_beq hk]
      simp only [hk, cond_true, Option.some.injEq] at h
      subst h; exact h0
    | false =>
      simp only [hk, cond_false] at h
      cases hb : f.blt k <;> simp only [hb, cond_true, cond_false] at h
      · exact Bt.find_of hr f e h
      · exact Bt.find_of hl f e h

/-- math/bits.Add64 -/
def xAdd64 : List EV → Option EV
  | [.int .u64 (.ofNat x), .int .u64 (.ofNat y), .int .u64 (.ofNat c)] => bif c.ble 1 then some (.tuple [.int .u64 (.ofNat ((x + y + c) % 18446744073709551616)), .int .u64 (.ofNat ((x + y + c) / 18446744073709551616))]) else none
  | _ => none
/-- internal/bytealg.CountString, IndexByteString -/
def xCount : List EV → Option EV
  | [.str s, .int .u8 c] => some (.int .i64 (Go.Lib.countByte s c.toNat.toUInt8))
  | _ => none
def xIndexByte : List EV → Option EV
  | [.str s, .int .u8 c] => some (.int .i64 (Go.Lib.indexByte s c.toNat.toUInt8))
  | _ => none
/-- The chapter's examples: a closed call that tells true. -/
def isTrue : Option Fin → Bool
  | some (.ret (.bool true) _) => true
  | _ => false
theorem isTrue_of {r : Option Fin} (h : isTrue r = true) : ∃ m, r = some (.ret (.bool true) m) := by
  unfold isTrue at h
  split at h
  · exact ⟨_, rfl⟩
  · cases h
def xTrue : List EV → Option EV
  | [] => some (.bool true)
  | _ => none
theorem run_true {T : Nat → Option Ent} {f : Nat} (hf : T f = some (.pure xTrue)) {m : Mem} : run T f [] m = some (.ret (.bool true) m) := by rw [run_pure hf]; rfl
end Go.Proofs.YtblcomejcahkdaaDoor.Ev
end
section
namespace Go.Proofs.YtblcomejcahkdaaDoor.Ev
open Go
def lays171_ren : Go.Shelf.Ren := ⟨fun | 171 => 31 | 243 => 42 | 246 => 55 | 283 => 63 | 284 => 64 | 285 => 65 | 286 => 66 | 129 => 71 | 317 => 70 | 318 => 72 | 319 => 73 | 320 => 74 | 337 => 75 | 338 => 76 | n => n, fun | 3 => 3 | 9 => 9 | 2 => 2 | 4 => 4 | 171 => 78 | 0 => 0 | 53 => 79 | 37 => 59 | 5 => 5 | 173 => 82 | 212 => 89 | 51 => 90 | 20 => 20 | 213 => 91 | 46 => 92 | 232 => 95 | 233 => 96 | n => n, fun | 17 => 2 | 18 => 4 | 19 => 5 | n => n⟩
theorem lays171 : Go.Proofs.LaysM.n171 Tryd.prog lays171_ren where
  mixed := by kernel_rfl
  f129 := Tryd.func71.trans (congrArg some (by kernel_rfl))
  f171 := Tryd.func31.trans (congrArg some (by kernel_rfl))
  f243 := Tryd.func42.trans (congrArg some (by kernel_rfl))
  f246 := Tryd.func55.trans (congrArg some (by kernel_rfl))
  f283 := Tryd.func63.trans (congrArg some (by kernel_rfl))
  f284 := Tryd.func64.trans (congrArg some (by kernel_rfl))
  f285 := Tryd.func65.trans (congrArg some (by kernel_rfl))
  f286 := Tryd.func66.trans (congrArg some (by kernel_rfl))
  f317 := Tryd.func70.trans (congrArg some (by kernel_rfl))
  f318 := Tryd.func72.trans (congrArg some (by kernel_rfl))
  f319 := Tryd.func73.trans (congrArg some (by kernel_rfl))
  f320 := Tryd.func74.trans (congrArg some (by kernel_rfl))
  f337 := Tryd.func75.trans (congrArg some (by kernel_rfl))
  f338 := Tryd.func76.trans (congrArg some (by kernel_rfl))
  t0 := Tryd.underlying0
  a0 := Tryd.isAgg0
  z0 := Tryd.sizeOf0
  v0 := Tryd.zeroValue0
  t2 := Tryd.underlying2
  a2 := Tryd.isAgg2
  z2 := Tryd.sizeOf2
  v2 := Tryd.zeroValue2
  t3 := Tryd.underlying3
  a3 := Tryd.isAgg3
  z3 := Tryd.sizeOf3
  v3 := Tryd.zeroValue3
  t4 := Tryd.underlying4
  a4 := Tryd.isAgg4
  z4 := Tryd.sizeOf4
  v4 := Tryd.zeroValue4
  t5 := Tryd.underlying5
  a5 := Tryd.isAgg5
  z5 := Tryd.sizeOf5
  v5 := Tryd.zeroValue5
  t9 := Tryd.underlying9
  a9 := Tryd.isAgg9
  z9 := Tryd.sizeOf9
  v9 := Tryd.zeroValue9
  t20 := Tryd.underlying20
  a20 := Tryd.isAgg20
  z20 := Tryd.sizeOf20
  v20 := Tryd.zeroValue20
  t37 := Tryd.underlying59
  a37 := Tryd.isAgg59
  z37 := Tryd.sizeOf59
  v37 := Tryd.zeroValue59
  t46 := Tryd.underlying92
  a46 := Tryd.isAgg92
  z46 := Tryd.sizeOf92
  v46 := Tryd.zeroValue92
  t51 := Tryd.underlying90
  a51 := Tryd.isAgg90
  z51 := Tryd.sizeOf90
  v51 := Tryd.zeroValue90
  t53 := Tryd.underlying79
  a53 := Tryd.isAgg79
  z53 := Tryd.sizeOf79
  v53 := Tryd.zeroValue79
  t171 := Tryd.underlying78
  a171 := Tryd.isAgg78
  z171 := Tryd.sizeOf78
  v171 := Tryd.zeroValue78
  t173 := Tryd.underlying82
  a173 := Tryd.isAgg82
  z173 := Tryd.sizeOf82
  v173 := Tryd.zeroValue82
  t212 := Tryd.underlying89
  a212 := Tryd.isAgg89
  z212 := Tryd.sizeOf89
  v212 := Tryd.zeroValue89
  t213 := Tryd.underlying91
  a213 := Tryd.isAgg91
  z213 := Tryd.sizeOf91
  t232 := Tryd.underlying95
  a232 := Tryd.isAgg95
  z232 := Tryd.sizeOf95
  v232 := Tryd.zeroValue95
  t233 := Tryd.underlying96
  a233 := Tryd.isAgg96
  z233 := Tryd.sizeOf96
  v233 := Tryd.zeroValue96
  g17 := by kernel_rfl
  g18 := by kernel_rfl
  g19 := by kernel_rfl
  i0 := by kernel_rfl
  i2 := by kernel_rfl
  i3 := by kernel_rfl
  i4 := by kernel_rfl
  i5 := by kernel_rfl
  i9 := by kernel_rfl
  i20 := by kernel_rfl
  i37 := by kernel_rfl
  i46 := by kernel_rfl
  i51 := by kernel_rfl
  i53 := by kernel_rfl
  i171 := by kernel_rfl
  i173 := by kernel_rfl
  i212 := by kernel_rfl
  i232 := by kernel_rfl
  i233 := by kernel_rfl
  m17 := by kernel_rfl
  m18 := by kernel_rfl
  m19 := by kernel_rfl
theorem itoaNo : lays171_ren.f 171 = 31 := rfl
theorem itoaFn : Tryd.prog.funcs[(31 : Nat)]? = some Tryd.f31 := Tryd.func31
/-- The table that strconv.Itoa reads. -/
abbrev tabNo : Nat := 2
theorem tab_no : Tryd.prog.globalNamed "internal/strconv.uint64pow10" = some tabNo := by kernel_rfl
theorem tab_told : tabl tabNo = some Go.Lib.pow10Tab := rfl
end Go.Proofs.YtblcomejcahkdaaDoor.Ev
end
section
namespace Go.Proofs.YtblcomejcahkdaaDoor.Ev
open Go
def lays156_ren : Go.Shelf.Ren := ⟨fun | 156 => 33 | 165 => 44 | 166 => 45 | 169 => 46 | 240 => 56 | 241 => 57 | 276 => 67 | 277 => 68 | n => n, fun | 31 => 36 | 9 => 9 | 3 => 3 | 4 => 4 | 0 => 0 | 20 => 20 | 72 => 61 | 76 => 65 | 70 => 58 | 37 => 59 | 75 => 64 | 127 => 75 | 164 => 84 | 5 => 5 | 80 => 67 | n => n, fun | n => n⟩
theorem lays156 : Go.Proofs.Lays.n156 Tryd.prog lays156_ren where
  mixed := by kernel_rfl
  f156 := Tryd.func33.trans (congrArg some (by kernel_rfl))
  f165 := Tryd.func44.trans (congrArg some (by kernel_rfl))
  f166 := Tryd.func45.trans (congrArg some (by kernel_rfl))
  f169 := Tryd.func46.trans (congrArg some (by kernel_rfl))
  f240 := Tryd.func56.trans (congrArg some (by kernel_rfl))
  f241 := Tryd.func57.trans (congrArg some (by kernel_rfl))
  f276 := Tryd.func67.trans (congrArg some (by kernel_rfl))
  f277 := Tryd.func68.trans (congrArg some (by kernel_rfl))
  t0 := Tryd.underlying0
  a0 := Tryd.isAgg0
  z0 := Tryd.sizeOf0
  v0 := Tryd.zeroValue0
  t3 := Tryd.underlying3
  a3 := Tryd.isAgg3
  z3 := Tryd.sizeOf3
  v3 := Tryd.zeroValue3
  t4 := Tryd.underlying4
  a4 := Tryd.isAgg4
  z4 := Tryd.sizeOf4
  v4 := Tryd.zeroValue4
  t9 := Tryd.underlying9
  a9 := Tryd.isAgg9
  z9 := Tryd.sizeOf9
  v9 := Tryd.zeroValue9
  t20 := Tryd.underlying20
  a20 := Tryd.isAgg20
  z20 := Tryd.sizeOf20
  v20 := Tryd.zeroValue20
  t31 := Tryd.underlying36
  a31 := Tryd.isAgg36
  z31 := Tryd.sizeOf36
  v31 := Tryd.zeroValue36
  t37 := Tryd.underlying59
  a37 := Tryd.isAgg59
  z37 := Tryd.sizeOf59
  v37 := Tryd.zeroValue59
  t70 := Tryd.underlying58
  a70 := Tryd.isAgg58
  z70 := Tryd.sizeOf58
  v70 := Tryd.zeroValue58
  t72 := Tryd.underlying61
  a72 := Tryd.isAgg61
  z72 := Tryd.sizeOf61
  v72 := Tryd.zeroValue61
  t75 := Tryd.underlying64
  a75 := Tryd.isAgg64
  z75 := Tryd.sizeOf64
  v75 := Tryd.zeroValue64
  t76 := Tryd.underlying65
  a76 := Tryd.isAgg65
  z76 := Tryd.sizeOf65
  v76 := Tryd.zeroValue65
  t127 := Tryd.underlying75
  a127 := Tryd.isAgg75
  z127 := Tryd.sizeOf75
  v127 := Tryd.zeroValue75
  t164 := Tryd.underlying84
  a164 := Tryd.isAgg84
  z164 := Tryd.sizeOf84
  v164 := Tryd.zeroValue84
theorem extra156 : Go.Proofs.Builder.Extra Tryd.prog lays156_ren where
  sizeBuilder := by kernel_rfl
  liesBuilder := by kernel_rfl
  t5 := Tryd.underlying5
  a5 := Tryd.isAgg5
  z5 := Tryd.sizeOf5
  v5 := Tryd.zeroValue5
  infoByte := by kernel_rfl
  cellsByte := by kernel_rfl
  sizeByte := by kernel_rfl
  neB5 := by decide
theorem joinFn : Tryd.prog.funcs[(33 : Nat)]? = some Tryd.f33 := Tryd.func33
theorem joinNo : lays156_ren.f 156 = 33 := rfl
end Go.Proofs.YtblcomejcahkdaaDoor.Ev
end
section
namespace Go.Proofs.YtblcomejcahkdaaDoor.Ev
open Go
set_option linter.unusedSimpArgs false

/-! ### Entries of a table, by number -/
class Has (T : Nat → Option Ent) (f : Nat) (e : outParam Ent) : Prop where
  has : T f = some e
/-! ### New blocks -/
def nb (n i : Nat) : Nat := n + i
def ext (m : Mem) (xs : List Blk) : Mem := xs.foldl Mem.new m
theorem new_eq {m : Mem} {x : Blk} : m.new x = ext m [x] := rfl
theorem ext_ext {m : Mem} {xs ys : List Blk} : ext (ext m xs) ys = ext m (xs ++ ys) := by unfold ext; rw [List.foldl_append]
theorem nb_nb {n i j : Nat} : nb (nb n i) j = nb n (i + j) := Nat.add_assoc n i j
theorem next_ext {m : Mem} {xs : List Blk} : (ext m xs).next = nb m.next xs.length := by
  unfold ext nb
  induction xs generalizing m with
  | nil => rfl
  | cons x xs ih => rw [List.foldl_cons, ih]; show m.next + 1 + _ = _; rw [List.length_cons]; omega
theorem next_set {m : Mem} {b : Nat} {x : Blk} : (m.set b x).next = m.next := rfl
theorem next_new {m : Mem} {x : Blk} : (m.new x).next = m.next + 1 := rfl
theorem get_new {m : Mem} {x : Blk} {b : Nat} : (m.new x).get b = if b = m.next then x else m.get b := by
  unfold Mem.get Mem.new; simp only; rw [Tr.get_set]; split <;> rfl
theorem get_set {m : Mem} {x : Blk} {b c : Nat} : (m.set c x).get b = if b = c then x else m.get b := by
  unfold Mem.get Mem.set; simp only; rw [Tr.get_set]; split <;> rfl
theorem get_set_eq {m : Mem} {x : Blk} {b : Nat} : (m.set b x).get b = x := by rw [get_set, if_pos rfl]
theorem get_set_ne {m : Mem} {x : Blk} {b c : Nat} (h : b ≠ c) : (m.set c x).get b = m.get b := by rw [get_set, if_neg h]
theorem get_ext_old {m : Mem} {xs : List Blk} {b : Nat} (h : b < m.next) : (ext m xs).get b = m.get b := by
  unfold ext
  induction xs generalizing m with
  | nil => rfl
  | cons x xs ih => rw [List.foldl_cons, ih (by rw [next_new]; omega), get_new, if_neg (by omega)]
theorem get_ext_nb {m : Mem} {xs : List Blk} {n i : Nat} (hn : m.next = n) (h : i < xs.length) : (ext m xs).get (nb n i) = xs[i]?.getD .dead := by
  subst hn
  unfold ext nb
  induction xs generalizing m i with
  | nil => simp at h
  | cons x xs ih =>
    rw [List.foldl_cons]
    cases i with
    | zero =>
      have := get_ext_old (m := m.new x) (xs := xs) (b := m.next) (by rw [next_new]; omega)
      unfold ext at this
      rw [Nat.add_zero, this, get_new, if_pos rfl]; rfl
    | succ i =>
      have := ih (m := m.new x) (i := i) (by simpa using h)
      rw [next_new, show m.next + 1 + i = m.next + (i + 1) by omega] at this
      rw [this]; rfl
/-- Memories that tell the same. -/
def Keeps (m m' : Mem) : Prop := ∀ b, b < m.next → m'.get b = m.get b
/-! ### Loads and stores -/
def ldB (x : Blk) (agg : Option Nat) (off : Nat) : Option EV := match x with
  | .cells cs _ _ _ => partOf agg cs off
  | _ => none
theorem load_ptr' {m : Mem} {agg : Option Nat} {b off : Nat} : m.load agg (.ptr b off) = ldB (m.get b) agg off := by
  simp only [Mem.load, ldB]; cases m.get b <;> rfl
theorem ldB_cells {cs : List EV} {e t : Nat} {ro : Bool} {agg : Option Nat} {off : Nat} : ldB (.cells cs e t ro) agg off = partOf agg cs off := rfl
theorem part_none {cs : List EV} {off : Nat} : partOf none cs off = cs[off]? := rfl
theorem part_some {cs : List EV} {off n : Nat} (h : off + n ≤ cs.length) : partOf (some n) cs off = some (.agg ((cs.drop off).take n)) := by
  show (bif (off + n).ble cs.length then some (EV.agg ((cs.drop off).take n)) else none) = _
  rw [Nat.ble_eq_true_of_le h]; rfl
def stB (m : Mem) (size b off : Nat) (vs : Option (List EV)) : Option Mem := match vs with
  | some vs => bif vs.length.beq size then m.write b off vs else none
  | none => none
theorem store_ptr' {m : Mem} {size b off : Nat} {x : EV} : m.store size (.ptr b off) x = stB m size b off x.cells := by
  simp only [Mem.store, stB]; cases x.cells <;> rfl
theorem stB_some {m : Mem} {size b off : Nat} {vs : List EV} (h : vs.length = size) : stB m size b off (some vs) = m.write b off vs := by
  show (bif vs.length.beq size then m.write b off vs else none) = _
  rw [h, beq_self]; rfl
def wrB (m : Mem) (b off : Nat) (vs : List EV) (x : Blk) : Option Mem := match x with
  | .cells cs esz elem ro => bif ro then none else (splice cs off vs).map fun cs => m.set b (.cells cs esz elem ro)
  | _ => none
theorem write_eq {m : Mem} {b off : Nat} {vs : List EV} : m.write b off vs = wrB m b off vs (m.get b) := by simp only [Mem.write, wrB]; cases m.get b <;> rfl
theorem wrB_cells {m : Mem} {b off : Nat} {vs cs : List EV} {e t : Nat} (h : off + vs.length ≤ cs.length) : wrB m b off vs (.cells cs e t false) = some (m.set b (.cells (cs.take off ++ vs ++ cs.drop (off + vs.length)) e t false)) := by
  show (bif false then none else (splice cs off vs).map fun cs => m.set b (.cells cs e t false)) = _
  unfold splice; rw [Nat.ble_eq_true_of_le h]; rfl
/-! ### Cells -/
theorem cells_int {k : IntKind} {n : Int} : (EV.int k n).cells = some [.int k n] := rfl
theorem cells_bool {b : Bool} : (EV.bool b).cells = some [.bool b] := rfl
theorem cells_bo {p : Prop} : (bo p).cells = some [bo p] := rfl
theorem cells_str {s : List UInt8} : (EV.str s).cells = some [.str s] := rfl
theorem cells_nilptr : EV.nilptr.cells = some [.nilptr] := rfl
theorem cells_ptr {b o : Nat} : (EV.ptr b o).cells = some [.ptr b o] := rfl
theorem cells_nilslice : EV.nilslice.cells = some [.nilslice] := rfl
theorem cells_slice {b o l : Nat} {c : Option Nat} : (EV.slice b o l c).cells = some [.slice b o l c] := rfl
theorem cells_nilmap : EV.nilmap.cells = some [.nilmap] := rfl
theorem cells_map {b : Nat} : (EV.map b).cells = some [.map b] := rfl
theorem cells_nilfunc : EV.nilfunc.cells = some [.nilfunc] := rfl
theorem cells_func {f : Nat} {x y : List EV} : (EV.func f x y).cells = some [.func f x y] := rfl
theorem cells_niliface : EV.niliface.cells = some [.niliface] := rfl
theorem cells_iface {t : Nat} {v : EV} : (EV.iface t v).cells = some [.iface t v] := rfl
theorem cells_agg {cs : List EV} : (EV.agg cs).cells = some cs := rfl
def fillB (cs : List EV) (off size : Nat) (vs : Option (List EV)) (r : List (Nat × Nat × EV)) : Option (List EV) := match vs with
  | some vs => bif vs.length.beq size then match splice cs off vs with
      | some cs => fillIn cs r
      | none => none
    else none
  | none => none
theorem fill_nil {cs : List EV} : fillIn cs [] = some cs := rfl
theorem fill_cons {cs : List EV} {off size : Nat} {v : EV} {r : List (Nat × Nat × EV)} : fillIn cs ((off, size, v) :: r) = fillB cs off size v.cells r := by simp only [fillB, fillIn]; cases v.cells <;> rfl
theorem fillB_some {cs : List EV} {off size : Nat} {vs : List EV} {r : List (Nat × Nat × EV)} (h : vs.length = size) (h2 : off + vs.length ≤ cs.length) : fillB cs off size (some vs) r = fillIn (cs.take off ++ vs ++ cs.drop (off + vs.length)) r := by
  show (bif vs.length.beq size then match splice cs off vs with | some cs => fillIn cs r | none => none else none) = _
  unfold splice; rw [h, beq_self, Nat.ble_eq_true_of_le (by rw [← h]; exact h2)]; rfl
def boxE (elem : Nat) (m : Mem) (vs : Option (List EV)) : Option R1 := match vs with
  | some cs => some (.val (.ptr (nb m.next 0) 0) (ext m [.cells cs cs.length elem false]))
  | none => none
theorem evOp_box' {ρ : Opd → EV} {m : Mem} {elem : Nat} {x : Opd} : evOp ρ (.box elem x) m = boxE elem m (ρ x).cells := by
  simp only [evOp]; unfold boxE; cases (ρ x).cells <;> rfl
theorem boxE_some {elem : Nat} {m : Mem} {cs : List EV} : boxE elem m (some cs) = some (.val (.ptr (nb m.next 0) 0) (ext m [.cells cs cs.length elem false])) := rfl
theorem evOp_alloc' {ρ : Opd → EV} {m : Mem} {elem : Nat} {zero : List EV} : evOp ρ (.alloc elem zero) m = some (.val (.ptr (nb m.next 0) 0) (ext m [.cells zero zero.length elem false])) := rfl
theorem evOp_mkmap' {ρ : Opd → EV} {m : Mem} : evOp ρ .mkmap m = some (.val (.map (nb m.next 0)) (ext m [.map []])) := rfl

/-! ### Blocks set: in what order does not matter -/
theorem put_same {α : Type} (x y : α) (p : List Bool) : ∀ t : Tr α, (t.put x p).put y p = t.put y p := by
  induction p with
  | nil => intro t; cases t <;> rfl
  | cons b p ih => intro t; cases t <;> cases b <;> simp [Tr.put, ih]
theorem put_comm {α : Type} (x y : α) (p : List Bool) : ∀ (q : List Bool) (t : Tr α), p ≠ q → (t.put x p).put y q = (t.put y q).put x p := by
  induction p with
  | nil =>
    intro q t h
    cases q with
    | nil => exact absurd rfl h
    | cons c q => cases t <;> cases c <;> simp [Tr.put]
  | cons b p ih =>
    intro q t h
    cases q with
    | nil => cases t <;> cases b <;> simp [Tr.put]
    | cons c q =>
      by_cases hbc : b = c
      · subst hbc
        have hpq : p ≠ q := fun e => h (by rw [e])
        cases t <;> cases b <;> simp [Tr.put, ih _ _ hpq]
      · cases t <;> cases b <;> cases c <;> simp [Tr.put] at hbc ⊢
theorem new_set {m : Mem} {b : Nat} {x y : Blk} (h : b < m.next) : (m.new y).set b x = (m.set b x).new y := by
  unfold Mem.set Mem.new Tr.set; simp only; rw [put_comm _ _ _ _ _ (fun e => by have := path_inj e; omega)]
theorem new_set_same {m : Mem} {x y : Blk} : (m.new y).set m.next x = m.new x := by
  unfold Mem.set Mem.new Tr.set; simp only; rw [put_same]
theorem set_ext_old {m : Mem} {xs : List Blk} {b : Nat} {x : Blk} (h : b < m.next) : (ext m xs).set b x = ext (m.set b x) xs := by
  unfold ext
  induction xs generalizing m with
  | nil => rfl
  | cons y ys ih => rw [List.foldl_cons, ih (by rw [next_new]; omega), new_set h]; rfl
theorem set_ext_nb {m : Mem} {xs : List Blk} {n i : Nat} {x : Blk} (hn : m.next = n) (h : i < xs.length) : (ext m xs).set (nb n i) x = ext m (xs.set i x) := by
  subst hn
  induction xs generalizing m i with
  | nil => simp at h
  | cons y ys ih =>
    cases i with
    | zero =>
      have := set_ext_old (m := m.new y) (xs := ys) (b := m.next) (x := x) (by rw [next_new]; omega)
      rw [new_set_same] at this
      exact this
    | succ i =>
      have := ih (m := m.new y) (i := i) (by simpa using h)
      rw [next_new] at this
      unfold nb at this ⊢
      rw [show m.next + (i + 1) = m.next + 1 + i by omega]
      exact this

/-! ### Calls that leave all asx it was -/
open Classical in
noncomputable def lookOf (T : Nat → Option Ent) (f : Nat) : List EV → Mem → Option EV := fun args m => match run T f args m with
  | some (.ret v m') => if Flat v = true ∧ Keeps m m' then some v else none
  | _ => none
end Go.Proofs.YtblcomejcahkdaaDoor.Ev
end
section
namespace Go.Proofs.YtblcomejcahkdaaDoor.Ev
open Go
set_option linter.unusedSimpArgs false
theorem srt_mov (x : Opd) : srt (.mov x) = 0 := rfl
theorem srt_alloc (elem : Nat) (zero : List EV) : srt (.alloc elem zero) = 1 := rfl
theorem srt_box (elem : Nat) (x : Opd) : srt (.box elem x) = 1 := rfl
theorem srt_build (zero : List EV) (parts : List (Nat × Nat × Opd)) : srt (.build zero parts) = 0 := rfl
theorem srt_bslice (elem esz len : Nat) (zero : List EV) (parts : List (Nat × Opd)) : srt (.bslice elem esz len zero parts) = 1 := rfl
theorem srt_store (size : Nat) (a x : Opd) : srt (.store size a x) = 3 := rfl
theorem srt_nilck (x : Opd) : srt (.nilck x) = 0 := rfl
theorem srt_bin (op : BinOp) (x y : Opd) : srt (.bin op x y) = 0 := rfl
theorem srt_eq (neg : Bool) (t : EqTy) (x y : Opd) : srt (.eq neg t x y) = 0 := rfl
theorem srt_un (op : UnOp) (x : Opd) : srt (.un op x) = 0 := rfl
theorem srt_iface (t : Nat) (x : Opd) : srt (.iface t x) = 0 := rfl
theorem srt_mkfn (f : Nat) (a c : List Opd) : srt (.mkfn f a c) = 0 := rfl
theorem srt_mkmap  : srt (.mkmap ) = 1 := rfl
theorem srt_mkslice (elem esz : Nat) (zero : List EV) (len cap : Opd) : srt (.mkslice elem esz zero len cap) = 1 := rfl
theorem srt_slstr (x : Opd) (lo hi : Option Opd) : srt (.slstr x lo hi) = 0 := rfl
theorem srt_slsl (esz : Nat) (x : Opd) (lo hi max : Option Opd) : srt (.slsl esz x lo hi max) = 3 := rfl
theorem srt_slarr (n esz : Nat) (x : Opd) (lo hi max : Option Opd) : srt (.slarr n esz x lo hi max) = 0 := rfl
theorem srt_faddr (off : Nat) (x : Opd) : srt (.faddr off x) = 0 := rfl
theorem srt_fld (agg : Option Nat) (off : Nat) (x : Opd) : srt (.fld agg off x) = 0 := rfl
theorem srt_iaddr (esz : Nat) (x i : Opd) : srt (.iaddr esz x i) = 0 := rfl
theorem srt_iaddrArr (n esz : Nat) (x i : Opd) : srt (.iaddrArr n esz x i) = 0 := rfl
theorem srt_idxstr (x i : Opd) : srt (.idxstr x i) = 0 := rfl
theorem srt_idxagg (n esz : Nat) (agg : Option Nat) (x i : Opd) : srt (.idxagg n esz agg x i) = 0 := rfl
theorem srt_lookup (kt : Nat) (zero : EV) (ok : Bool) (mp k : Opd) : srt (.lookup kt zero ok mp k) = 3 := rfl
theorem srt_mapupd (kt : Nat) (mp k x : Opd) : srt (.mapupd kt mp k x) = 3 := rfl
theorem srt_delete (kt : Nat) (mp k : Opd) : srt (.delete kt mp k) = 3 := rfl
theorem srt_lenmap (mp : Opd) : srt (.lenmap mp) = 3 := rfl
theorem srt_tassert (t : Nat) (x : Opd) : srt (.tassert t x) = 0 := rfl
theorem srt_extract (x : Opd) (i : Nat) : srt (.extract x i) = 0 := rfl
theorem srt_len (x : Opd) : srt (.len x) = 0 := rfl
theorem srt_lenstr (x : Opd) : srt (.lenstr x) = 0 := rfl
theorem srt_lenarr (n : Nat) : srt (.lenarr n) = 0 := rfl
theorem srt_cap (x : Opd) : srt (.cap x) = 0 := rfl
theorem srt_max (args : List Opd) : srt (.max args) = 0 := rfl
theorem srt_min (args : List Opd) : srt (.min args) = 0 := rfl
theorem srt_append (elem esz bytes : Nat) (s x : Opd) : srt (.append elem esz bytes s x) = 3 := rfl
theorem srt_copy (esz : Nat) (d s : Opd) : srt (.copy esz d s) = 3 := rfl
theorem srt_pick {x y z : Opd} : srt (.pick x y z) = 0 := rfl
theorem srt_cv_int {k : IntKind} {x : Opd} : srt (.conv (.int k) x) = 0 := rfl
theorem srt_cv_same {x : Opd} : srt (.conv .same x) = 0 := rfl
theorem srt_cv_bytes {e : Nat} {x : Opd} : srt (.conv (.bytes e) x) = 1 := rfl
theorem srt_cv_text {x : Opd} : srt (.conv .text x) = 3 := rfl
/-! ### Room set aside -/
def bump (m : Mem) (k : Nat) : Mem := ⟨m.next + k, m.tbl⟩
theorem get_bump {m : Mem} {k b : Nat} : (bump m k).get b = m.get b := rfl
theorem next_bump {m : Mem} {k : Nat} : (bump m k).next = nb m.next k := rfl
theorem set_bump {m : Mem} {k b : Nat} {x : Blk} : (bump m k).set b x = bump (m.set b x) k := rfl
theorem load_bump {m : Mem} {k : Nat} {agg : Option Nat} {a : EV} : (bump m k).load agg a = m.load agg a := rfl
theorem nb_lt {n i j : Nat} : nb n i < nb n j ↔ i < j := by unfold nb; omega
theorem nb_inj {n i j : Nat} : nb n i = nb n j ↔ i = j := by unfold nb; omega
theorem lt_nb {b n i : Nat} (h : b < n) : b < nb n i := by unfold nb; omega
theorem get_ext_nb' {m : Mem} {xs : List Blk} {n i j : Nat} (hn : m.next = nb n j) (h : j ≤ i) (h2 : i - j < xs.length) : (ext m xs).get (nb n i) = xs[i - j]?.getD .dead := by
  have := get_ext_nb (m := m) (xs := xs) (n := nb n j) (i := i - j) hn h2
  rw [nb_nb, show j + (i - j) = i by omega] at this; exact this
theorem set_ext_nb' {m : Mem} {xs : List Blk} {n i j : Nat} {x : Blk} (hn : m.next = nb n j) (h : j ≤ i) (h2 : i - j < xs.length) : (ext m xs).set (nb n i) x = ext m (xs.set (i - j) x) := by
  have := set_ext_nb (m := m) (xs := xs) (n := nb n j) (i := i - j) (x := x) hn h2
  rw [nb_nb, show j + (i - j) = i by omega] at this; exact this
theorem le_nb {n i : Nat} : n ≤ nb n i := by unfold nb; omega

/-! ### Values that are the same -/
mutual
/-- Which row it is, is told. -/
def Told : EV → Bool
  | .fz t _ els => !(t.beq 0) && Toldss els
  | .fptr _ _ _ _ => false
  | .func _ x y => Tolds x && Tolds y
  | .iface _ v => Told v
  | .agg x | .tuple x => Tolds x
  | _ => true
def Tolds : List EV → Bool
  | [] => true
  | v :: x => Told v && Tolds x
def Toldss : List (List EV) → Bool
  | [] => true
  | v :: x => Tolds v && Toldss x
end
mutual
theorem same_refl : ∀ v : EV, Told v = true → EV.same v v = true
  | .undef, _ | .nilptr, _ | .nilslice, _ | .nilmap, _ | .nilfunc, _ | .niliface, _ => rfl
  | .bool b, _ => by cases b <;> rfl
  | .int k n, _ => by
    have h1 : (kindNo k).beq (kindNo k) = true := Nat.beq_refl _
    have h2 : sameInt n n = true := by cases n <;> exact Nat.beq_refl _
    simp only [EV.same, h1, cond_true, h2]
  | .str s, _ => by simp only [EV.same, sameBytes_eq, decide_true]
  | .ptr a i, _ => by simp only [EV.same, Nat.beq_refl, cond_true]
  | .slice a i n c, _ => by
    have h : sameOpt c c = true := by cases c <;> simp [sameOpt]
    simp only [EV.same, Nat.beq_refl, cond_true, h]
  | .map a, _ => by simp only [EV.same, Nat.beq_refl]
  | .func f x y, h => by
    simp only [Told, Bool.and_eq_true] at h
    simp only [EV.same, Nat.beq_refl, cond_true, sames_refl x h.1, sames_refl y h.2]
  | .iface t v, h => by simp only [EV.same, Nat.beq_refl, cond_true, same_refl v (by simpa only [Told] using h)]
  | .agg x, h => by simp only [EV.same, sames_refl x (by simpa only [Told] using h)]
  | .tuple x, h => by simp only [EV.same, sames_refl x (by simpa only [Told] using h)]
  | .fz t e els, h => by
    simp only [Told, Bool.and_eq_true, Bool.not_eq_true'] at h
    simp only [EV.same, h.1, cond_false, Nat.beq_refl, cond_true, samess_refl els h.2]
  | .fptr _ _ _ _, h => by simp [Told] at h
theorem sames_refl : ∀ x : List EV, Tolds x = true → EV.sames x x = true
  | [], _ => rfl
  | v :: x, h => by
    simp only [Tolds, Bool.and_eq_true] at h
    simp only [EV.sames, same_refl v h.1, cond_true, sames_refl x h.2]
theorem samess_refl : ∀ x : List (List EV), Toldss x = true → EV.samess x x = true
  | [], _ => rfl
  | v :: x, h => by
    simp only [Toldss, Bool.and_eq_true] at h
    simp only [EV.samess, sames_refl v h.1, cond_true, samess_refl x h.2]
end

/-! ### Regions whose order is open -/
section
variable {T : Nat → Option Ent} {chk : List (Nat × Nat)} {B0 i : Nat} {l : List IOper} {fr : Fr} {m : Mem} {sn : List (Nat × Mem)} {se : List Seen} {d : Option Nat}
theorem exec_draw' : exec T (.draw l chk) fr m = drw T chk m.next l 0 fr (bump m l.length) [] [] := rfl
theorem drw_nil : drw T chk B0 [] i fr m sn se = some (.norm fr m) := drw_iff.2 ⟨0, rfl⟩
def thenL (o : Option EV) (k : EV → Option Out) : Option Out := match o with
  | some v => k v
  | none => none
@[congr] theorem thenL_congr {o o' : Option EV} {k : EV → Option Out} (h : o = o') : thenL o k = thenL o' k := by rw [h]
theorem thenL_some {v : EV} {k : EV → Option Out} : thenL (some v) k = k v := rfl
def ifB (b : Bool) (o : Option Out) : Option Out := bif b then o else none
@[congr] theorem ifB_congr {b b' : Bool} {o : Option Out} (h : b = b') : ifB b o = ifB b' o := by rw [h]
theorem ifB_true {o : Option Out} : ifB true o = o := rfl
theorem drw_v0 {op : IOp} (h : srt op = 0) : drw T chk B0 (⟨d, .val op, none⟩ :: l) i fr m sn se = thenV (evOp fr.eval op m) fun v _ => drw T chk B0 l (i + 1) (fr.put d v) m sn se := by
  refine opt_ext fun r => ?_
  rw [drw_iff]
  simp only [evDraw, wantedE, h]
  cases evOp fr.eval op m with
  | none => simp [thenV]
  | some q => obtain ⟨v, m1⟩ := q; simp only [thenV]; exact drw_iff.symm
theorem drw_v1 {op : IOp} (h : srt op = 1) : drw T chk B0 (⟨d, .val op, none⟩ :: l) i fr m sn se = thenV (evOp fr.eval op ⟨B0 + i, m.tbl⟩) fun v m1 => drw T chk B0 l (i + 1) (fr.put d v) ⟨m.next, m1.tbl⟩ sn se := by
  refine opt_ext fun r => ?_
  rw [drw_iff]
  simp only [evDraw, wantedE, h]
  cases evOp fr.eval op ⟨B0 + i, m.tbl⟩ with
  | none => simp [thenV]
  | some q => obtain ⟨v, m1⟩ := q; simp only [thenV]; exact drw_iff.symm
theorem drw_v3 {op : IOp} (h : srt op = 3) : drw T chk B0 (⟨d, .val op, none⟩ :: l) i fr m sn se = thenV (evOp fr.eval op m) fun v m' => ifB (checkSeen chk i m' se) (drw T chk B0 l (i + 1) (fr.put d v) m' ((i, m) :: sn) se) := by
  refine opt_ext fun r => ?_
  rw [drw_iff]
  simp only [evDraw, wantedE, h]
  cases evOp fr.eval op m with
  | none => simp [thenV]
  | some q =>
    obtain ⟨v, m1⟩ := q
    simp only [thenV]
    cases checkSeen chk i m1 se
    · simp [ifB]
    · simp only [ifB, cond_true]; exact drw_iff.symm
def ifF (a : EV) (x y : Option Out) : Option Out := bif isF a then x else y
@[congr] theorem ifF_congr {a a' : EV} {x y : Option Out} (h : a = a') : ifF a x y = ifF a' x y := by rw [h]
theorem ifF_ptr {b o : Nat} {x y : Option Out} : ifF (.ptr b o) x y = y := rfl
theorem ifF_fptr {e i k : Nat} {els : List (List EV)} {x y : Option Out} : ifF (.fptr e els i k) x y = x := rfl
theorem drw_load {agg : Option Nat} {a : Opd} : drw T chk B0 (⟨d, .val (.load agg a), none⟩ :: l) i fr m sn se = thenL (m.load agg (fr.eval a)) fun v => ifF (fr.eval a) (ifB (checkOld chk i m.next sn) (drw T chk B0 l (i + 1) (fr.put d v) m sn se)) (ifB (checkSnap chk i agg (fr.eval a) v sn) (drw T chk B0 l (i + 1) (fr.put d v) m sn (⟨i, agg, fr.eval a, v⟩ :: se))) := by
  refine opt_ext fun r => ?_
  rw [drw_iff]
  simp only [evDraw, wantedE, srt]
  cases m.load agg (fr.eval a) with
  | none => simp [thenL]
  | some v =>
    simp only [thenL, ifF]
    cases isF (fr.eval a)
    · simp only [cond_false]
      cases checkSnap chk i agg (fr.eval a) v sn
      · simp [ifB]
      · simp only [ifB, cond_true]; exact drw_iff.symm
    · simp only [cond_true]
      cases checkOld chk i m.next sn
      · simp [ifB]
      · simp only [ifB, cond_true]; exact drw_iff.symm
def thenD (o : Option Fin) (k : EV → Mem → Option Out) : Option Out := match o with
  | some (.ret v m) => k v m
  | _ => none
@[congr] theorem thenD_congr {o o' : Option Fin} {k : EV → Mem → Option Out} (h : o = o') : thenD o k = thenD o' k := by rw [h]
theorem thenD_ret {v : EV} {m : Mem} {k : EV → Mem → Option Out} : thenD (some (.ret v m)) k = k v m := rfl
theorem drw_call {x : Opd} {args : List Opd} : drw T chk B0 (⟨d, .call x args, none⟩ :: l) i fr m sn se = thenD (runV T (fr.eval x) (args.map fr.eval) m) fun v m' => ifB (checkSeen chk i m' se) (drw T chk B0 l (i + 1) (fr.put d v) m' ((i, m) :: sn) se) := by
  refine opt_ext fun r => ?_
  rw [drw_iff]
  simp only [evDraw, wantedE]
  cases hx : fr.eval x
  case func g a c =>
    simp only [evCall, runV]
    constructor
    · rintro ⟨k, h⟩
      cases hc : evFun T k g (a ++ args.map fr.eval ++ c) m with
      | none => rw [hc] at h; cases h
      | some q =>
        rw [run_iff.2 ⟨k, hc⟩]
        simp only [hc] at h
        cases q with
        | ret v m1 =>
          simp only [thenD]
          cases hk : checkSeen chk i m1 se
          · simp [hk] at h
          · simp only [hk, cond_true] at h
            simp only [ifB, cond_true]; exact drw_iff.2 ⟨k, h⟩
        | pan v m1 => simp at h
    · intro h
      cases hc : run T g (a ++ args.map fr.eval ++ c) m with
      | none => rw [hc] at h; cases h
      | some q =>
        obtain ⟨k1, h1⟩ := run_iff.1 hc
        rw [hc] at h
        cases q with
        | ret v m1 =>
          simp only [thenD] at h
          cases hk : checkSeen chk i m1 se
          · simp [hk, ifB] at h
          · simp only [hk, ifB, cond_true] at h
            obtain ⟨k2, h2⟩ := drw_iff.1 h
            refine ⟨max k1 k2, ?_⟩
            have e1 := mono_run _ _ _ (Nat.le_max_left k1 k2) h1
            have e2 := mono_drw _ _ _ (Nat.le_max_right k1 k2) h2
            simp only at e1 e2
            simp only [e1, hk, cond_true]; exact e2
        | pan v m1 => cases h
  all_goals simp [evCall, runV, thenD]
/-- No pair speaks of this load; of this act. -/
def noL (i : Nat) (chk : List (Nat × Nat)) : Bool := chk.all fun p => p.1 != i
def noA (j : Nat) (chk : List (Nat × Nat)) : Bool := chk.all fun p => p.2 != j
theorem noL_nil : noL i [] = true := rfl
theorem noL_cons {a b : Nat} : noL i ((a, b) :: chk) = (a != i && noL i chk) := rfl
theorem noA_nil : noA i [] = true := rfl
theorem noA_cons {a b : Nat} : noA i ((a, b) :: chk) = (b != i && noA i chk) := rfl
theorem noL_pair {j : Nat} : ∀ {chk : List (Nat × Nat)}, noL i chk = true → hasPair i j chk = false
  | [], _ => rfl
  | (a, b) :: chk, h => by
    simp only [noL_cons, Bool.and_eq_true, bne_iff_ne, ne_eq] at h
    simp only [hasPair, beq_ff h.1, cond_false]
    exact noL_pair h.2
theorem noA_pair {j : Nat} : ∀ {chk : List (Nat × Nat)}, noA j chk = true → hasPair i j chk = false
  | [], _ => rfl
  | (a, b) :: chk, h => by
    simp only [noA_cons, Bool.and_eq_true, bne_iff_ne, ne_eq] at h
    simp only [hasPair, beq_ff h.1, cond_false]
    rw [noA_pair h.2]; cases a.beq i <;> rfl
theorem snap_noL {agg : Option Nat} {a v : EV} (h : noL i chk = true) : ∀ sn, checkSnap chk i agg a v sn = true
  | [] => rfl
  | (j, m1) :: sn => by simp only [checkSnap, noL_pair h, cond_false]; exact snap_noL h sn
theorem old_noL {n : Nat} (h : noL i chk = true) : ∀ sn, checkOld chk i n sn = true
  | [] => rfl
  | (j, m1) :: sn => by simp only [checkOld, noL_pair h, cond_false]; exact old_noL h sn
theorem seen_noA {m : Mem} (h : noA i chk = true) : ∀ se, checkSeen chk i m se = true
  | [] => rfl
  | x :: se => by simp only [checkSeen, noA_pair h, cond_false]; exact seen_noA h se
/-- What is seen, but for what no pair speaks of. -/
def Same1 (chk : List (Nat × Nat)) (se se' : List Seen) : Prop := ∀ j m, checkSeen chk j m se = checkSeen chk j m se'
def Same2 (chk : List (Nat × Nat)) (sn sn' : List (Nat × Mem)) : Prop := (∀ i agg a v, checkSnap chk i agg a v sn = checkSnap chk i agg a v sn') ∧ ∀ i n, checkOld chk i n sn = checkOld chk i n sn'
theorem Same1.cons {se se' : List Seen} (h : Same1 chk se se') (x : Seen) : Same1 chk (x :: se) (x :: se') := fun j m => by simp only [checkSeen, h j m]
theorem Same2.cons {sn sn' : List (Nat × Mem)} (h : Same2 chk sn sn') (x : Nat × Mem) : Same2 chk (x :: sn) (x :: sn') := ⟨fun i agg a v => by obtain ⟨j, m⟩ := x; simp only [checkSnap, h.1 i agg a v], fun i n => by obtain ⟨j, m⟩ := x; simp only [checkOld, h.2 i n]⟩
theorem evDraw_same {call : Call} : ∀ (l : List IOper) (i : Nat) (fr : Fr) (m : Mem) (sn sn' : List (Nat × Mem)) (se se' : List Seen), Same2 chk sn sn' → Same1 chk se se' → evDraw call chk B0 l i fr m sn se = evDraw call chk B0 l i fr m sn' se'
  | [], i, fr, m, sn, sn', se, se', _, _ => rfl
  | o :: r, i, fr, m, sn, sn', se, se', h2, h1 => by
    have ih := fun i fr m sn sn' se se' h2 h1 => evDraw_same (call := call) r i fr m sn sn' se se' h2 h1
    simp only [evDraw]
    cases wantedE fr o.guard with
    | none => rfl
    | some b =>
    cases b with
    | false => exact ih _ _ _ _ _ _ _ h2 h1
    | true =>
      simp only
      cases o.op with
      | val op =>
        simp only
        split
        · cases evOp fr.eval op m with
          | none => rfl
          | some q => obtain ⟨v, m1⟩ := q; exact ih _ _ _ _ _ _ _ h2 h1
        · cases evOp fr.eval op ⟨B0 + i, m.tbl⟩ with
          | none => rfl
          | some q => obtain ⟨v, m1⟩ := q; exact ih _ _ _ _ _ _ _ h2 h1
        · split
          · rename_i agg x _
            cases m.load agg (fr.eval x) with
            | none => rfl
            | some v =>
              simp only [h2.1 i agg (fr.eval x) v, h2.2 i m.next]
              cases isF (fr.eval x)
              · simp only [cond_false]
                cases checkSnap chk i agg (fr.eval x) v sn'
                · rfl
                · simp only [cond_true]; exact ih _ _ _ _ _ _ _ h2 (h1.cons _)
              · simp only [cond_true]
                cases checkOld chk i m.next sn'
                · rfl
                · simp only [cond_true]; exact ih _ _ _ _ _ _ _ h2 h1
          · rfl
        · cases evOp fr.eval op m with
          | none => rfl
          | some q =>
            obtain ⟨v, m1⟩ := q
            simp only [h1 i m1]
            cases checkSeen chk i m1 se'
            · rfl
            · simp only [cond_true]; exact ih _ _ _ _ _ _ _ (h2.cons _) h1
      | call f args =>
        simp only
        cases evCall call (fr.eval f) (args.map fr.eval) m with
        | none => rfl
        | some q =>
          cases q with
          | ret v m1 =>
            simp only [h1 i m1]
            cases checkSeen chk i m1 se'
            · rfl
            · simp only [cond_true]; exact ih _ _ _ _ _ _ _ (h2.cons _) h1
          | pan v m1 => rfl
      | panic x => rfl
      | defer f x => rfl
theorem drw_same {sn' : List (Nat × Mem)} {se' : List Seen} (h2 : Same2 chk sn sn') (h1 : Same1 chk se se') : drw T chk B0 l i fr m sn se = drw T chk B0 l i fr m sn' se' := by
  unfold drw; congr 1; funext k; exact evDraw_same l i fr m sn sn' se se' h2 h1
theorem drw_seen {j : Nat} {agg : Option Nat} {a v : EV} (h : noL j chk = true) : drw T chk B0 l i fr m sn (⟨j, agg, a, v⟩ :: se) = drw T chk B0 l i fr m sn se :=
  drw_same ⟨fun _ _ _ _ => rfl, fun _ _ => rfl⟩ fun k m => by simp only [checkSeen, noL_pair h, cond_false]
theorem drw_snap {j : Nat} {m1 : Mem} (h : noA j chk = true) : drw T chk B0 l i fr m ((j, m1) :: sn) se = drw T chk B0 l i fr m sn se :=
  drw_same ⟨fun i agg a v => by simp only [checkSnap, noA_pair h, cond_false], fun i n => by simp only [checkOld, noA_pair h, cond_false]⟩ fun _ _ => rfl
theorem drw_load0 {agg : Option Nat} {a : Opd} (h : noL i chk = true) : drw T chk B0 (⟨d, .val (.load agg a), none⟩ :: l) i fr m sn se = thenL (m.load agg (fr.eval a)) fun v => drw T chk B0 l (i + 1) (fr.put d v) m sn se := by
  rw [drw_load]; cases m.load agg (fr.eval a) with
  | none => rfl
  | some v => simp only [thenL, snap_noL h, old_noL h, ifB_true, drw_seen h, ifF]; cases isF (fr.eval a) <;> rfl
theorem drw_load1 {agg : Option Nat} {a : Opd} (_h : noL i chk = false) : drw T chk B0 (⟨d, .val (.load agg a), none⟩ :: l) i fr m sn se = thenL (m.load agg (fr.eval a)) fun v => ifF (fr.eval a) (ifB (checkOld chk i m.next sn) (drw T chk B0 l (i + 1) (fr.put d v) m sn se)) (ifB (checkSnap chk i agg (fr.eval a) v sn) (drw T chk B0 l (i + 1) (fr.put d v) m sn (⟨i, agg, fr.eval a, v⟩ :: se))) := drw_load
theorem drw_v30 {op : IOp} (h : srt op = 3) (h0 : noA i chk = true) : drw T chk B0 (⟨d, .val op, none⟩ :: l) i fr m sn se = thenV (evOp fr.eval op m) fun v m' => drw T chk B0 l (i + 1) (fr.put d v) m' sn se := by
  rw [drw_v3 h]; cases evOp fr.eval op m with
  | none => rfl
  | some q => obtain ⟨v, m1⟩ := q; simp only [thenV, seen_noA h0, ifB_true, drw_snap h0]
theorem drw_v31 {op : IOp} (h : srt op = 3) (_h0 : noA i chk = false) : drw T chk B0 (⟨d, .val op, none⟩ :: l) i fr m sn se = thenV (evOp fr.eval op m) fun v m' => ifB (checkSeen chk i m' se) (drw T chk B0 l (i + 1) (fr.put d v) m' ((i, m) :: sn) se) := drw_v3 h
theorem drw_call0 {x : Opd} {args : List Opd} (h0 : noA i chk = true) : drw T chk B0 (⟨d, .call x args, none⟩ :: l) i fr m sn se = thenD (runV T (fr.eval x) (args.map fr.eval) m) fun v m' => drw T chk B0 l (i + 1) (fr.put d v) m' sn se := by
  rw [drw_call]; cases runV T (fr.eval x) (args.map fr.eval) m with
  | none => rfl
  | some q => cases q with
    | ret v m1 => simp only [thenD, seen_noA h0, ifB_true, drw_snap h0]
    | pan v m1 => rfl
theorem drw_call1 {x : Opd} {args : List Opd} (_h0 : noA i chk = false) : drw T chk B0 (⟨d, .call x args, none⟩ :: l) i fr m sn se = thenD (runV T (fr.eval x) (args.map fr.eval) m) fun v m' => ifB (checkSeen chk i m' se) (drw T chk B0 l (i + 1) (fr.put d v) m' ((i, m) :: sn) se) := drw_call
theorem drw_guard {op : XOp} {t : Nat} {w : Bool} : drw T chk B0 (⟨d, op, some (t, w)⟩ :: l) i fr m sn se = gE (fr.get t) w (drw T chk B0 (⟨d, op, none⟩ :: l) i fr m sn se) (drw T chk B0 l (i + 1) (fr.put d .undef) m sn se) := by
  cases h : fr.get t
  case bool b =>
    refine opt_ext fun r => ?_
    rw [drw_iff]
    simp only [evDraw, wantedE, h, gE]
    cases hb : b == w
    · simp only [cond_false]; exact drw_iff.symm
    · simp only [cond_true]
      rw [drw_iff]
      simp only [evDraw, wantedE]
  case undef =>
    refine opt_ext fun r => ?_
    rw [drw_iff]
    simp only [evDraw, wantedE, h, gE]
    exact drw_iff.symm
  all_goals
    refine opt_ext fun r => ?_
    rw [drw_iff]
    simp only [evDraw, wantedE, h, reduceCtorEq, exists_const, gE]
def retO (o : Option Fin) : Option R1 := match o with
  | some (.ret v m) => some (.val v m)
  | _ => none
theorem retO_ret {v : EV} {m : Mem} : retO (some (.ret v m)) = some (.val v m) := rfl
theorem thenD_eq {o : Option Fin} {k : EV → Mem → Option Out} : thenD o k = thenV (retO o) k := by cases o with | none => rfl | some q => cases q <;> rfl
theorem drw_gv0 {op : IOp} {t : Nat} {w : Bool} (h : srt op = 0) : drw T chk B0 (⟨d, .val op, some (t, w)⟩ :: l) i fr m sn se = gV (fr.get t) w m (evOp fr.eval op m) fun v _ => drw T chk B0 l (i + 1) (fr.put d v) m sn se := by rw [drw_guard, drw_v0 h]; rfl
theorem drw_gv1 {op : IOp} {t : Nat} {w : Bool} (h : srt op = 1) : drw T chk B0 (⟨d, .val op, some (t, w)⟩ :: l) i fr m sn se = gE (fr.get t) w (thenV (evOp fr.eval op ⟨B0 + i, m.tbl⟩) fun v m1 => drw T chk B0 l (i + 1) (fr.put d v) ⟨m.next, m1.tbl⟩ sn se) (drw T chk B0 l (i + 1) (fr.put d .undef) m sn se) := by rw [drw_guard, drw_v1 h]
theorem drw_gld0 {agg : Option Nat} {a : Opd} {t : Nat} {w : Bool} (h : noL i chk = true) : drw T chk B0 (⟨d, .val (.load agg a), some (t, w)⟩ :: l) i fr m sn se = gV (fr.get t) w m (ofEV m (m.load agg (fr.eval a))) fun v _ => drw T chk B0 l (i + 1) (fr.put d v) m sn se := by
  rw [drw_guard, drw_load0 h]; unfold gV
  cases m.load agg (fr.eval a) <;> rfl
theorem drw_gld1 {agg : Option Nat} {a : Opd} {t : Nat} {w : Bool} (_h : noL i chk = false) : drw T chk B0 (⟨d, .val (.load agg a), some (t, w)⟩ :: l) i fr m sn se = gE (fr.get t) w (thenL (m.load agg (fr.eval a)) fun v => ifF (fr.eval a) (ifB (checkOld chk i m.next sn) (drw T chk B0 l (i + 1) (fr.put d v) m sn se)) (ifB (checkSnap chk i agg (fr.eval a) v sn) (drw T chk B0 l (i + 1) (fr.put d v) m sn (⟨i, agg, fr.eval a, v⟩ :: se)))) (drw T chk B0 l (i + 1) (fr.put d .undef) m sn se) := by rw [drw_guard, drw_load]
theorem drw_gv30 {op : IOp} {t : Nat} {w : Bool} (h : srt op = 3) (h0 : noA i chk = true) : drw T chk B0 (⟨d, .val op, some (t, w)⟩ :: l) i fr m sn se = gV (fr.get t) w m (evOp fr.eval op m) fun v m' => drw T chk B0 l (i + 1) (fr.put d v) m' sn se := by rw [drw_guard, drw_v30 h h0]; rfl
theorem drw_gv31 {op : IOp} {t : Nat} {w : Bool} (h : srt op = 3) (_h0 : noA i chk = false) : drw T chk B0 (⟨d, .val op, some (t, w)⟩ :: l) i fr m sn se = gE (fr.get t) w (thenV (evOp fr.eval op m) fun v m' => ifB (checkSeen chk i m' se) (drw T chk B0 l (i + 1) (fr.put d v) m' ((i, m) :: sn) se)) (drw T chk B0 l (i + 1) (fr.put d .undef) m sn se) := by rw [drw_guard, drw_v3 h]
theorem drw_gcall0 {x : Opd} {args : List Opd} {t : Nat} {w : Bool} (h0 : noA i chk = true) : drw T chk B0 (⟨d, .call x args, some (t, w)⟩ :: l) i fr m sn se = gV (fr.get t) w m (retO (runV T (fr.eval x) (args.map fr.eval) m)) fun v m' => drw T chk B0 l (i + 1) (fr.put d v) m' sn se := by rw [drw_guard, drw_call0 h0, thenD_eq]; rfl
theorem drw_gcall1 {x : Opd} {args : List Opd} {t : Nat} {w : Bool} (_h0 : noA i chk = false) : drw T chk B0 (⟨d, .call x args, some (t, w)⟩ :: l) i fr m sn se = gE (fr.get t) w (thenD (runV T (fr.eval x) (args.map fr.eval) m) fun v m' => ifB (checkSeen chk i m' se) (drw T chk B0 l (i + 1) (fr.put d v) m' ((i, m) :: sn) se)) (drw T chk B0 l (i + 1) (fr.put d .undef) m sn se) := by rw [drw_guard, drw_call]
section
variable {p q : Prop} {x y : Option Out}
theorem gE_bo_t : gE (bo p) true x y = iF p x y := by by_cases h : p <;> simp [gE, bo, iF, h]
theorem gE_bo_f : gE (bo p) false x y = iF p y x := by by_cases h : p <;> simp [gE, bo, iF, h]
theorem gE_tt : gE (.bool true) true x y = x := rfl
theorem gE_tf : gE (.bool true) false x y = y := rfl
theorem gE_ft : gE (.bool false) true x y = y := rfl
theorem gE_ff : gE (.bool false) false x y = x := rfl
theorem gE_undef {w : Bool} : gE .undef w x y = y := rfl
theorem gE_gv_t : gE (gv p (bo q)) true x y = iF (p ∧ q) x y := by by_cases h : p <;> by_cases h' : q <;> simp [gE, bo, gv, iF, h, h']
theorem gE_gv_f : gE (gv p (bo q)) false x y = iF (p ∧ ¬ q) x y := by by_cases h : p <;> by_cases h' : q <;> simp [gE, bo, gv, iF, h, h']
theorem gE_gt_t : gE (gv p (.bool true)) true x y = iF p x y := by by_cases h : p <;> simp [gE, gv, iF, h]
theorem gE_gt_f : gE (gv p (.bool true)) false x y = y := by by_cases h : p <;> simp [gE, gv, h]
theorem gE_gf_t : gE (gv p (.bool false)) true x y = y := by by_cases h : p <;> simp [gE, gv, h]
theorem gE_gf_f : gE (gv p (.bool false)) false x y = iF p x y := by by_cases h : p <;> simp [gE, gv, iF, h]
end
theorem chk_nil {j : Nat} : checkSeen chk j m [] = true := rfl
theorem chk_cons {j : Nat} {s : Seen} : checkSeen chk j m (s :: se) = ((!hasPair s.i j chk || m.stands s.agg s.a s.v) && checkSeen chk j m se) := by
  simp only [checkSeen]; cases hasPair s.i j chk <;> simp
theorem snap_nil {agg : Option Nat} {a v : EV} : checkSnap chk i agg a v [] = true := rfl
theorem snap_cons {agg : Option Nat} {a v : EV} {j : Nat} {m1 : Mem} : checkSnap chk i agg a v ((j, m1) :: sn) = ((!hasPair i j chk || m1.stands agg a v) && checkSnap chk i agg a v sn) := by
  simp only [checkSnap]; cases hasPair i j chk <;> simp
theorem old_nil {n : Nat} : checkOld chk i n [] = true := rfl
theorem old_cons {n j : Nat} {m1 : Mem} : checkOld chk i n ((j, m1) :: sn) = ((!hasPair i j chk || m1.next.beq n) && checkOld chk i n sn) := by
  simp only [checkOld]; cases hasPair i j chk <;> cases m1.next.beq n <;> simp
theorem pair_nil {j : Nat} : hasPair i j [] = false := rfl
theorem pair_cons {j a b : Nat} : hasPair i j ((a, b) :: chk) = ((a == i && b == j) || hasPair i j chk) := by
  simp only [hasPair]
  have e : ∀ x y : Nat, x.beq y = (x == y) := fun x y => by
    by_cases h : x = y
    · subst h; simp
    · rw [beq_ff h]; simp [h]
  rw [e, e]
  cases a == i <;> cases b == j <;> simp
def standE (o : Option EV) (v : EV) : Bool := match o with
  | some x => EV.same x v
  | none => false
theorem stands_eq {agg : Option Nat} {a v : EV} : m.stands agg a v = standE (m.load agg a) v := by simp only [Mem.stands, standE]; cases m.load agg a <;> rfl
theorem standE_self {v : EV} (h : Told v = true) : standE (some v) v = true := same_refl v h
theorem told_bool {b : Bool} : Told (.bool b) = true := rfl
theorem told_bo {p : Prop} : Told (bo p) = true := rfl
theorem told_int {k : IntKind} {n : Int} : Told (.int k n) = true := rfl
theorem told_str {s : List UInt8} : Told (.str s) = true := rfl
theorem told_nilptr : Told .nilptr = true := rfl
theorem told_ptr {b o : Nat} : Told (.ptr b o) = true := rfl
theorem told_nilslice : Told .nilslice = true := rfl
theorem told_slice {b o l : Nat} {c : Option Nat} : Told (.slice b o l c) = true := rfl
theorem told_nilmap : Told .nilmap = true := rfl
theorem told_map {b : Nat} : Told (.map b) = true := rfl
theorem told_nilfunc : Told .nilfunc = true := rfl
theorem told_niliface : Told .niliface = true := rfl
theorem told_undef : Told .undef = true := rfl
theorem told_agg {x : List EV} : Told (.agg x) = Tolds x := by simp only [Told]
theorem told_tuple {x : List EV} : Told (.tuple x) = Tolds x := by simp only [Told]
theorem told_iface {t : Nat} {v : EV} : Told (.iface t v) = Told v := by simp only [Told]
theorem told_func {f : Nat} {x y : List EV} : Told (.func f x y) = (Tolds x && Tolds y) := by simp only [Told]
theorem tolds_nil : Tolds [] = true := rfl
theorem tolds_cons {v : EV} {x : List EV} : Tolds (v :: x) = (Told v && Tolds x) := by simp only [Tolds]
end

/-! ### Values of several cells -/
theorem eq_agg {fs : List (Option Nat × Nat × EqTy)} {a b : List EV} : evEq (.agg fs) (.agg a) (.agg b) = evEqs fs a b := rfl
def andO (o r : Option Bool) : Option Bool := match o with
  | some true => r
  | o => o
def eqsE (t : EqTy) (x y : Option EV) (r : Option Bool) : Option Bool := match x, y with
  | some x, some y => andO (evEq t x y) r
  | _, _ => none
theorem eqs_nil {a b : List EV} : evEqs [] a b = some true := rfl
theorem eqs_cons {g : Option Nat} {off : Nat} {t : EqTy} {r : List (Option Nat × Nat × EqTy)} {a b : List EV} : evEqs ((g, off, t) :: r) a b = eqsE t (partOf g a off) (partOf g b off) (evEqs r a b) := by
  simp only [evEqs, eqsE, andO]
  cases partOf g a off <;> cases partOf g b off <;> rfl
theorem eqsE_some {t : EqTy} {x y : EV} {r : Option Bool} : eqsE t (some x) (some y) r = andO (evEq t x y) r := rfl
theorem andO_true {r : Option Bool} : andO (some true) r = r := rfl
theorem andO_false {r : Option Bool} : andO (some false) r = some false := rfl
theorem andO_t {p : Prop} [Decidable p] : andO (some (decide p)) (some true) = some (decide p) := by by_cases h : p <;> simp [andO, h]
theorem andO_f {p : Prop} [Decidable p] : andO (some (decide p)) (some false) = some false := by by_cases h : p <;> simp [andO, h]
theorem andO_dec {p q : Prop} [Decidable p] [Decidable q] : andO (some (decide p)) (some (decide q)) = some (decide (p ∧ q)) := by by_cases h : p <;> by_cases h' : q <;> simp [andO, h, h']
def rcE (o : Option EV) (r : Option (List EV)) : Option (List EV) := match o with
  | some v => r.map (v :: ·)
  | none => none
theorem res_cell {fr : Fr} {m : Mem} {t : Nat} {agg : Option Nat} {rs : List IRes} : evResults fr m (.cell t agg :: rs) = rcE (m.load agg (fr.get t)) (evResults fr m rs) := by
  simp only [evResults, evRes, rcE]; cases m.load agg (fr.get t) <;> rfl
theorem rcE_some {v : EV} {r : Option (List EV)} : rcE (some v) r = r.map (v :: ·) := rfl

theorem eq_pn {b o : Nat} : evEq (.prim 3) (.ptr b o) .nilptr = some false := rfl
theorem eq_np {b o : Nat} : evEq (.prim 3) .nilptr (.ptr b o) = some false := rfl
theorem eq_nn : evEq (.prim 3) .nilptr .nilptr = some true := rfl
theorem eq_sn {b o l : Nat} {c : Option Nat} : evEq (.prim 4) (.slice b o l c) .nilslice = some false := rfl
theorem eq_ns {b o l : Nat} {c : Option Nat} : evEq (.prim 4) .nilslice (.slice b o l c) = some false := rfl
theorem eq_nsns : evEq (.prim 4) .nilslice .nilslice = some true := rfl
/-! ### What a call tells, whatever it leaves behind -/
def Tells (m : Mem) (o : Option Fin) (v : EV) : Prop := ∃ m', o = some (.ret v m') ∧ Keeps m m'
/-- A slice of one element, or of none, made anew. -/
def bsE (e esz : Nat) (m : Mem) (vs : Option (List EV)) : Option R1 := match vs with
  | some vs => bif vs.length.beq esz then some (.val (.slice (nb m.next 0) 0 1 (some 1)) (Ev.ext m [.cells vs esz e false])) else none
  | none => none
theorem bsE_some {e esz : Nat} {m : Mem} {vs : List EV} (h : vs.length = esz) : bsE e esz m (some vs) = some (.val (.slice (nb m.next 0) 0 1 (some 1)) (Ev.ext m [.cells vs esz e false])) := by
  show (bif vs.length.beq esz then _ else _) = _
  rw [h, beq_self]; rfl
theorem evOp_bslice1 {ρ : Opd → EV} {m : Mem} {e esz : Nat} {zero : List EV} {x : Opd} (hz : zero.length = esz) : evOp ρ (.bslice e esz 1 zero [(0, x)]) m = bsE e esz m (ρ x).cells := by
  simp only [evOp, List.map_cons, List.map_nil, fill_cons, Nat.zero_mul]
  have hc : copies 1 zero = zero := by simp [copies]
  rw [hc]
  cases hx : (ρ x).cells with
  | none => rfl
  | some vs =>
    by_cases hl : vs.length = esz
    · rw [bsE_some hl, fillB_some hl (by omega)]
      simp only [fill_nil, List.take_zero, List.nil_append, Nat.zero_add]
      rw [List.drop_eq_nil_of_le (by omega), List.append_nil]; rfl
    · simp only [bsE, fillB, beq_ff hl, cond_false]
theorem evOp_bslice0 {ρ : Opd → EV} {m : Mem} {e esz : Nat} {zero : List EV} : evOp ρ (.bslice e esz 0 zero []) m = some (.val (.slice (nb m.next 0) 0 0 (some 0)) (Ev.ext m [.cells [] esz e false])) := by
  simp only [evOp, List.map_nil, fill_nil, copies, List.replicate_zero, List.flatten_nil]; rfl
end Go.Proofs.YtblcomejcahkdaaDoor.Ev
end
section
namespace Go.Proofs.YtblcomejcahkdaaDoor.Ev
open Go
set_option linter.unusedSimpArgs false

/-- How two runs stand to each other: which block stands for which; which row a number tells; which blocks stay asx they are. -/
structure Tie where
  ren : Nat → Option Nat
  tag : Nat → Option (Nat × Nat × Option Nat)
  sta : Nat → Option Blk

/-- What holds within rows: no block that may be written, no numbers of rows. -/
def Tie.low (θ : Tie) : Tie := ⟨fun _ => none, fun _ => none, θ.sta⟩
mutual
inductive SV : Tie → EV → EV → Prop
  | undef {θ : Tie} : SV θ .undef .undef
  | bool {θ : Tie} (b : Bool) : SV θ (.bool b) (.bool b)
  | int {θ : Tie} (k : IntKind) (n : Int) : SV θ (.int k n) (.int k n)
  | str {θ : Tie} (s : List UInt8) : SV θ (.str s) (.str s)
  | nilptr {θ : Tie} : SV θ .nilptr .nilptr
  | ptr {θ : Tie} {b c off : Nat} (h : θ.ren b = some c) : SV θ (.ptr b off) (.ptr c off)
  | nilslice {θ : Tie} : SV θ .nilslice .nilslice
  | slice {θ : Tie} {b c off len : Nat} {cap : Option Nat} (h : θ.ren b = some c) : SV θ (.slice b off len cap) (.slice c off len cap)
  | nilmap {θ : Tie} : SV θ .nilmap .nilmap
  | map {θ : Tie} {b c : Nat} (h : θ.ren b = some c) : SV θ (.map b) (.map c)
  | nilfunc {θ : Tie} : SV θ .nilfunc .nilfunc
  | func {θ : Tie} {f : Nat} {x y x' y' : List EV} (hx : SVs θ x x') (hy : SVs θ y y') : SV θ (.func f x y) (.func f x' y')
  | niliface {θ : Tie} : SV θ .niliface .niliface
  | iface {θ : Tie} {t : Nat} {v v' : EV} (h : SV θ v v') : SV θ (.iface t v) (.iface t v')
  | agg {θ : Tie} {x x' : List EV} (h : SVs θ x x') : SV θ (.agg x) (.agg x')
  | tuple {θ : Tie} {x x' : List EV} (h : SVs θ x x') : SV θ (.tuple x) (.tuple x')
  | fz {θ : Tie} {t esz : Nat} {els : List (List EV)} {b off : Nat} {cap : Option Nat} (h : SR θ esz els b off) (ht : t = 0 ∨ θ.tag t = some (b, off, cap)) (hc : ∀ c, cap = some c → els.length ≤ c) : SV θ (.fz t esz els) (.slice b off els.length cap)
  | fz0 {θ : Tie} {t esz b off : Nat} (ht : t = 0 ∨ θ.tag t = some (b, off, some 0)) : SV θ (.fz t esz []) (.slice b off 0 (some 0))
  | fptr {θ : Tie} {esz : Nat} {els : List (List EV)} {b off i k o : Nat} (h : SR θ esz els b off) (hi : i < els.length) (ho : o = off + i * esz + k) : SV θ (.fptr esz els i k) (.ptr b o)
inductive SVs : Tie → List EV → List EV → Prop
  | nil {θ : Tie} : SVs θ [] []
  | cons {θ : Tie} {v v' : EV} {x x' : List EV} (h : SV θ v v') (hs : SVs θ x x') : SVs θ (v :: x) (v' :: x')
inductive SR : Tie → Nat → List (List EV) → Nat → Nat → Prop
  | mk {θ : Tie} {esz : Nat} {els : List (List EV)} {b off k : Nat} {cs : List EV} {ro : Bool} (hs : θ.sta b = some (.cells cs esz k ro)) (hl : ∀ el ∈ els, el.length = esz) (hn : off + els.length * esz ≤ cs.length)
      (hx : SVs θ.low els.flatten ((cs.drop off).take (els.length * esz))) : SR θ esz els b off
end

structure Tie.Ext (θ θ' : Tie) : Prop where
  ren : ∀ b c, θ.ren b = some c → θ'.ren b = some c
  tag : ∀ t x, θ.tag t = some x → θ'.tag t = some x
  sta : ∀ b B, θ.sta b = some B → θ'.sta b = some B
theorem Tie.Ext.refl (θ : Tie) : Tie.Ext θ θ := ⟨fun _ _ h => h, fun _ _ h => h, fun _ _ h => h⟩
theorem Tie.Ext.trans {θ θ' θ'' : Tie} (h : Tie.Ext θ θ') (k : Tie.Ext θ' θ'') : Tie.Ext θ θ'' := ⟨fun b c e => k.ren b c (h.ren b c e), fun t x e => k.tag t x (h.tag t x e), fun b B e => k.sta b B (h.sta b B e)⟩
theorem Tie.Ext.low {θ θ' : Tie} (e : Tie.Ext θ θ') : Tie.Ext θ.low θ'.low := ⟨fun _ _ h => h, fun _ _ h => h, e.sta⟩
theorem Tie.low_ext (θ : Tie) : Tie.Ext θ.low θ := ⟨fun _ _ h => (by simp [Tie.low] at h), fun _ _ h => (by simp [Tie.low] at h), fun _ _ h => h⟩
mutual
theorem SV.ext : ∀ {θ θ' : Tie}, Tie.Ext θ θ' → ∀ {v v' : EV}, SV θ v v' → SV θ' v v'
  | _, _, _, _, _, .undef => .undef
  | _, _, _, _, _, .bool b => .bool b
  | _, _, _, _, _, .int k n => .int k n
  | _, _, _, _, _, .str s => .str s
  | _, _, _, _, _, .nilptr => .nilptr
  | _, _, e, _, _, .ptr h => .ptr (e.ren _ _ h)
  | _, _, _, _, _, .nilslice => .nilslice
  | _, _, e, _, _, .slice h => .slice (e.ren _ _ h)
  | _, _, _, _, _, .nilmap => .nilmap
  | _, _, e, _, _, .map h => .map (e.ren _ _ h)
  | _, _, _, _, _, .nilfunc => .nilfunc
  | _, _, e, _, _, .func hx hy => .func (SVs.ext e hx) (SVs.ext e hy)
  | _, _, _, _, _, .niliface => .niliface
  | _, _, e, _, _, .iface h => .iface (SV.ext e h)
  | _, _, e, _, _, .agg h => .agg (SVs.ext e h)
  | _, _, e, _, _, .tuple h => .tuple (SVs.ext e h)
  | _, _, e, _, _, .fz h ht hc => .fz (SR.ext e h) (ht.imp id (e.tag _ _)) hc
  | _, _, e, _, _, .fz0 ht => .fz0 (ht.imp id (e.tag _ _))
  | _, _, e, _, _, .fptr h hi ho => .fptr (SR.ext e h) hi ho
theorem SVs.ext : ∀ {θ θ' : Tie}, Tie.Ext θ θ' → ∀ {v v' : List EV}, SVs θ v v' → SVs θ' v v'
  | _, _, _, _, _, .nil => .nil
  | _, _, e, _, _, .cons h hs => .cons (SV.ext e h) (SVs.ext e hs)
theorem SR.ext : ∀ {θ θ' : Tie}, Tie.Ext θ θ' → ∀ {esz : Nat} {els : List (List EV)} {b off : Nat}, SR θ esz els b off → SR θ' esz els b off
  | _, _, e, _, _, _, _, .mk hs hl hn hx => .mk (e.sta _ _ hs) hl hn (SVs.ext e.low hx)
end

section
variable {θ : Tie}
theorem SVs.length : ∀ {x x' : List EV}, SVs θ x x' → x.length = x'.length
  | _, _, .nil => rfl
  | _, _, .cons _ hs => by simp [SVs.length hs]
theorem SVs.get : ∀ {x x' : List EV}, SVs θ x x' → ∀ {i : Nat} {v : EV}, x[i]? = some v → ∃ v', x'[i]? = some v' ∧ SV θ v v'
  | _, _, .nil, i, v, h => by simp at h
  | _, _, .cons (v' := a') h0 hs, i, v, h => by
    cases i with
    | zero => simp at h; subst h; exact ⟨a', rfl, h0⟩
    | succ i => simp at h; obtain ⟨v', hv, hr⟩ := SVs.get hs h; exact ⟨v', by simpa using hv, hr⟩
theorem SVs.of_get : ∀ {x x' : List EV}, x.length = x'.length → (∀ (i : Nat) (v v' : EV), x[i]? = some v → x'[i]? = some v' → SV θ v v') → SVs θ x x'
  | [], [], _, _ => .nil
  | [], _ :: _, h, _ => by simp at h
  | _ :: _, [], h, _ => by simp at h
  | a :: x, a' :: x', h, hg => .cons (hg 0 a a' rfl rfl) (SVs.of_get (by simpa using h) fun i v v' hv hv' => hg (i + 1) v v' (by simpa using hv) (by simpa using hv'))
theorem SVs.append : ∀ {x y x' y' : List EV}, SVs θ x x' → SVs θ y y' → SVs θ (x ++ y) (x' ++ y')
  | _, _, _, _, .nil, h => h
  | _, _, _, _, .cons h hs, k => .cons h (SVs.append hs k)
theorem SVs.take {x x' : List EV} (h : SVs θ x x') (n : Nat) : SVs θ (x.take n) (x'.take n) := by
  refine SVs.of_get (by simp [h.length]) fun i v v' hv hv' => ?_
  rw [List.getElem?_take] at hv hv'
  split at hv
  · rename_i hlt
    obtain ⟨u, hu, hr⟩ := h.get hv
    rw [if_pos hlt, hu] at hv'; cases hv'; exact hr
  · cases hv
theorem SVs.drop {x x' : List EV} (h : SVs θ x x') (n : Nat) : SVs θ (x.drop n) (x'.drop n) := by
  refine SVs.of_get (by simp [h.length]) fun i v v' hv hv' => ?_
  rw [List.getElem?_drop] at hv hv'
  obtain ⟨u, hu, hr⟩ := h.get hv
  rw [hu] at hv'; cases hv'; exact hr
theorem SVs.map {α : Type} (f g : α → EV) : ∀ {l : List α}, (∀ a ∈ l, SV θ (f a) (g a)) → SVs θ (l.map f) (l.map g)
  | [], _ => .nil
  | a :: l, h => .cons (h a (by simp)) (SVs.map f g fun b hb => h b (by simp [hb]))
theorem SVs.replicate {v v' : EV} (h : SV θ v v') : ∀ n : Nat, SVs θ (List.replicate n v) (List.replicate n v')
  | 0 => .nil
  | n + 1 => .cons h (SVs.replicate h n)
mutual
theorem SV.of_flat : ∀ {v : EV}, Flat v = true → SV θ v v
  | .undef, _ => .undef
  | .bool b, _ => .bool b
  | .int k n, _ => .int k n
  | .str s, _ => .str s
  | .nilptr, _ => .nilptr
  | .ptr _ _, h => by simp [Flat] at h
  | .nilslice, _ => .nilslice
  | .slice _ _ _ _, h => by simp [Flat] at h
  | .nilmap, _ => .nilmap
  | .map _, h => by simp [Flat] at h
  | .nilfunc, _ => .nilfunc
  | .func f x y, h => by simp only [Flat, Bool.and_eq_true] at h; exact .func (SVs.of_flat h.1) (SVs.of_flat h.2)
  | .niliface, _ => .niliface
  | .iface t v, h => .iface (SV.of_flat (by simpa only [Flat] using h))
  | .agg x, h => .agg (SVs.of_flat (by simpa only [Flat] using h))
  | .tuple x, h => .tuple (SVs.of_flat (by simpa only [Flat] using h))
  | .fz _ _ _, h => by simp [Flat] at h
  | .fptr _ _ _ _, h => by simp [Flat] at h
theorem SVs.of_flat : ∀ {x : List EV}, flats x = true → SVs θ x x
  | [], _ => .nil
  | v :: x, h => by simp only [flats, Bool.and_eq_true] at h; exact .cons (SV.of_flat h.1) (SVs.of_flat h.2)
end
mutual
theorem SV.flat : ∀ {v v' : EV}, SV θ v v' → Flat v = true → v' = v
  | _, _, .undef, _ | _, _, .bool _, _ | _, _, .int _ _, _ | _, _, .str _, _ | _, _, .nilptr, _ | _, _, .nilslice, _ | _, _, .nilmap, _ | _, _, .nilfunc, _ | _, _, .niliface, _ => rfl
  | _, _, .ptr _, h => by simp [Flat] at h
  | _, _, .slice _, h => by simp [Flat] at h
  | _, _, .map _, h => by simp [Flat] at h
  | _, _, .func hx hy, h => by simp only [Flat, Bool.and_eq_true] at h; rw [SVs.flat hx h.1, SVs.flat hy h.2]
  | _, _, .iface hv, h => by rw [SV.flat hv (by simpa only [Flat] using h)]
  | _, _, .agg hx, h => by rw [SVs.flat hx (by simpa only [Flat] using h)]
  | _, _, .tuple hx, h => by rw [SVs.flat hx (by simpa only [Flat] using h)]
  | _, _, .fz _ _ _, h => by simp [Flat] at h
  | _, _, .fz0 _, h => by simp [Flat] at h
  | _, _, .fptr _ _ _, h => by simp [Flat] at h
theorem SVs.flat : ∀ {x x' : List EV}, SVs θ x x' → flats x = true → x' = x
  | _, _, .nil, _ => rfl
  | _, _, .cons h hs, k => by simp only [flats, Bool.and_eq_true] at k; rw [SV.flat h k.1, SVs.flat hs k.2]
end
mutual
/-- What stands for one thing is one thing. -/
theorem SV.fn : ∀ {a b c : EV}, SV θ a b → SV θ a c → Told a = true → b = c
  | _, _, _, .undef, h, _ => by cases h; rfl
  | _, _, _, .bool _, h, _ => by cases h; rfl
  | _, _, _, .int _ _, h, _ => by cases h; rfl
  | _, _, _, .str _, h, _ => by cases h; rfl
  | _, _, _, .nilptr, h, _ => by cases h; rfl
  | _, _, _, .ptr h, k, _ => by cases k with | ptr k => rw [h] at k; cases k; rfl
  | _, _, _, .nilslice, h, _ => by cases h; rfl
  | _, _, _, .slice h, k, _ => by cases k with | slice k => rw [h] at k; cases k; rfl
  | _, _, _, .nilmap, h, _ => by cases h; rfl
  | _, _, _, .map h, k, _ => by cases k with | map k => rw [h] at k; cases k; rfl
  | _, _, _, .nilfunc, h, _ => by cases h; rfl
  | _, _, _, .func hx hy, k, t => by
    simp only [Told, Bool.and_eq_true] at t
    cases k with | func kx ky => rw [SVs.fn hx kx t.1, SVs.fn hy ky t.2]
  | _, _, _, .niliface, h, _ => by cases h; rfl
  | _, _, _, .iface h, k, t => by cases k with | iface k => rw [SV.fn h k (by simpa only [Told] using t)]
  | _, _, _, .agg h, k, t => by cases k with | agg k => rw [SVs.fn h k (by simpa only [Told] using t)]
  | _, _, _, .tuple h, k, t => by cases k with | tuple k => rw [SVs.fn h k (by simpa only [Told] using t)]
  | _, _, _, .fz _ ht _, k, t => by
    simp only [Told, Bool.and_eq_true, Bool.not_eq_true'] at t
    have hne := of_beq_ff t.1
    cases k with
    | fz _ kt _ =>
      rcases ht with ht | ht
      · exact absurd ht hne
      · rcases kt with kt | kt
        · exact absurd kt hne
        · rw [ht] at kt; cases kt; rfl
    | fz0 kt =>
      rcases ht with ht | ht
      · exact absurd ht hne
      · rcases kt with kt | kt
        · exact absurd kt hne
        · rw [ht] at kt; cases kt; rfl
  | _, _, _, .fz0 ht, k, t => by
    simp only [Told, Bool.and_eq_true, Bool.not_eq_true'] at t
    have hne := of_beq_ff t.1
    generalize hn : ([] : List (List EV)) = els at k
    cases k with
    | fz _ kt _ =>
      subst hn
      rcases ht with ht | ht
      · exact absurd ht hne
      · rcases kt with kt | kt
        · exact absurd kt hne
        · rw [ht] at kt; cases kt; rfl
    | fz0 kt =>
      rcases ht with ht | ht
      · exact absurd ht hne
      · rcases kt with kt | kt
        · exact absurd kt hne
        · rw [ht] at kt; cases kt; rfl
  | _, _, _, .fptr _ _ _, _, t => by simp [Told] at t
theorem SVs.fn : ∀ {a b c : List EV}, SVs θ a b → SVs θ a c → Tolds a = true → b = c
  | _, _, _, .nil, h, _ => by cases h; rfl
  | _, _, _, .cons h hs, k, t => by
    simp only [Tolds, Bool.and_eq_true] at t
    cases k with | cons k ks => rw [SV.fn h k t.1, SVs.fn hs ks t.2]
end
mutual
/-- The other run knows no rows told by their elements. -/
theorem SV.told : ∀ {a b : EV}, SV θ a b → Told b = true
  | _, _, .undef | _, _, .bool _ | _, _, .int _ _ | _, _, .str _ | _, _, .nilptr | _, _, .ptr _ | _, _, .nilslice | _, _, .slice _ | _, _, .nilmap | _, _, .map _ | _, _, .nilfunc | _, _, .niliface | _, _, .fz _ _ _ | _, _, .fz0 _ | _, _, .fptr _ _ _ => rfl
  | _, _, .func hx hy => by simp only [Told, SVs.told hx, SVs.told hy, Bool.and_self]
  | _, _, .iface h => by simp only [Told]; exact SV.told h
  | _, _, .agg h => by simp only [Told]; exact SVs.told h
  | _, _, .tuple h => by simp only [Told]; exact SVs.told h
theorem SVs.told : ∀ {a b : List EV}, SVs θ a b → Tolds b = true
  | _, _, .nil => rfl
  | _, _, .cons h hs => by simp only [Tolds, SV.told h, SVs.told hs, Bool.and_self]
end
mutual
theorem told_of_same : ∀ {a : EV}, EV.same a a = true → Told a = true
  | .undef, _ | .bool _, _ | .int _ _, _ | .str _, _ | .nilptr, _ | .ptr _ _, _ | .nilslice, _ | .slice _ _ _ _, _ | .nilmap, _ | .map _, _ | .nilfunc, _ | .niliface, _ => rfl
  | .func f x y, h => by
    simp only [EV.same, Nat.beq_refl, cond_true] at h
    cases hx : EV.sames x x <;> simp only [hx, cond_true, cond_false, Bool.false_eq_true] at h
    simp only [Told, tolds_of_sames hx, tolds_of_sames h, Bool.and_self]
  | .iface t v, h => by simp only [EV.same, Nat.beq_refl, cond_true] at h; simp only [Told]; exact told_of_same h
  | .agg x, h => by simp only [EV.same] at h; simp only [Told]; exact tolds_of_sames h
  | .tuple x, h => by simp only [EV.same] at h; simp only [Told]; exact tolds_of_sames h
  | .fz t e els, h => by
    simp only [EV.same, Nat.beq_refl, cond_true] at h
    cases ht : t.beq 0 <;> simp only [ht, cond_true, cond_false, Bool.false_eq_true] at h
    simp only [Told, ht, Bool.not_false, Bool.true_and]
    exact toldss_of_samess h
  | .fptr _ _ _ _, h => by simp [EV.same] at h
theorem tolds_of_sames : ∀ {a : List EV}, EV.sames a a = true → Tolds a = true
  | [], _ => rfl
  | v :: x, h => by
    simp only [EV.sames] at h
    cases hx : EV.same v v <;> simp only [hx, cond_true, cond_false, Bool.false_eq_true] at h
    simp only [Tolds, told_of_same hx, tolds_of_sames h, Bool.and_self]
theorem toldss_of_samess : ∀ {a : List (List EV)}, EV.samess a a = true → Toldss a = true
  | [], _ => rfl
  | v :: x, h => by
    simp only [EV.samess] at h
    cases hx : EV.sames v v <;> simp only [hx, cond_true, cond_false, Bool.false_eq_true] at h
    simp only [Toldss, tolds_of_sames hx, toldss_of_samess h, Bool.and_self]
end
theorem SV.same {a b a' b' : EV} (ha : SV θ a a') (hb : SV θ b b') (h : EV.same a b = true) : EV.same a' b' = true := by
  have e := same_eq h
  subst e
  rw [SV.fn ha hb (told_of_same h)]
  exact same_refl _ hb.told
theorem SV.cells {v v' : EV} {cs : List EV} (h : SV θ v v') (hc : v.cells = some cs) : ∃ cs', v'.cells = some cs' ∧ SVs θ cs cs' := by
  cases h <;> simp only [EV.cells, reduceCtorEq, Option.some.injEq] at hc <;> subst hc
  case agg h => exact ⟨_, rfl, h⟩
  case fz0 h => exact ⟨_, rfl, .cons (.fz0 h) .nil⟩
  all_goals exact ⟨_, rfl, .cons (by constructor <;> assumption) .nil⟩
theorem SVs.part {x x' : List EV} (h : SVs θ x x') {g : Option Nat} {off : Nat} {v : EV} (hp : partOf g x off = some v) : ∃ v', partOf g x' off = some v' ∧ SV θ v v' := by
  cases g with
  | none => exact h.get hp
  | some n =>
    simp only [partOf] at hp ⊢
    rw [← h.length]
    cases hb : (off + n).ble x.length <;> simp only [hb, cond_true, cond_false, reduceCtorEq, Option.some.injEq] at hp ⊢
    subst hp
    exact ⟨_, rfl, .agg ((h.drop off).take n)⟩
theorem SVs.splice {x x' vs vs' r : List EV} (h : SVs θ x x') (hv : SVs θ vs vs') {off : Nat} (hp : Ev.splice x off vs = some r) : ∃ r', Ev.splice x' off vs' = some r' ∧ SVs θ r r' := by
  unfold Ev.splice at hp ⊢
  rw [← h.length, ← hv.length]
  cases hb : (off + vs.length).ble x.length <;> simp only [hb, cond_true, cond_false, reduceCtorEq, Option.some.injEq] at hp ⊢
  subst hp
  exact ⟨_, rfl, ((h.take off).append hv).append (h.drop _)⟩
end

/-! ### Blocks -/
inductive EntsS (θ : Tie) : List (EV × EV) → List (EV × EV) → Prop
  | nil : EntsS θ [] []
  | cons {k v k' v' : EV} {x x' : List (EV × EV)} (hk : SV θ k k') (hv : SV θ v v') (h : EntsS θ x x') : EntsS θ ((k, v) :: x) ((k', v') :: x')
theorem EntsS.ext {θ θ' : Tie} (e : Tie.Ext θ θ') : ∀ {x x' : List (EV × EV)}, EntsS θ x x' → EntsS θ' x x'
  | _, _, .nil => .nil
  | _, _, .cons hk hv h => .cons (hk.ext e) (hv.ext e) (EntsS.ext e h)
def BlkS (θ : Tie) : Blk → Blk → Prop
  | .dead, _ => True
  | .cells cs e k ro, B => ∃ cs', B = .cells cs' e k ro ∧ SVs θ cs cs'
  | .map es, B => ∃ es', B = .map es' ∧ EntsS θ es es'
theorem BlkS.ext {θ θ' : Tie} (e : Tie.Ext θ θ') {B B' : Blk} (h : BlkS θ B B') : BlkS θ' B B' := by
  cases B with
  | dead => trivial
  | cells cs k t ro => obtain ⟨cs', h1, h2⟩ := h; exact ⟨cs', h1, h2.ext e⟩
  | map es => obtain ⟨es', h1, h2⟩ := h; exact ⟨es', h1, h2.ext e⟩
structure MemB (θ : Tie) (m m' : Mem) : Prop where
  blk : ∀ b c, θ.ren b = some c → BlkS θ (m.get b) (m'.get c)
  cl : ∀ b, θ.ren b = none → m.get b = .dead
structure MemS (θ : Tie) (m m' : Mem) : Prop extends MemB θ m m' where
  sta : ∀ b B, θ.sta b = some B → m'.get b = B
structure TieOk (θ : Tie) (n n' : Nat) : Prop where
  ren : ∀ b c, θ.ren b = some c → b < n ∧ c < n'
  inj : ∀ a b c, θ.ren a = some c → θ.ren b = some c → a = b
  off : ∀ b c, θ.ren b = some c → θ.sta c = none
  sta : ∀ b B, θ.sta b = some B → b < n'
theorem MemB.ext {θ θ' : Tie} {m m' : Mem} (h : MemB θ m m') (e : Tie.Ext θ θ') (hd : ∀ b c, θ.ren b = none → θ'.ren b = some c → m.get b = .dead) : MemB θ' m m' := by
  refine ⟨fun b c hb => ?_, fun b hb => ?_⟩
  · cases hr : θ.ren b with
    | none => rw [h.cl b hr]; trivial
    | some d =>
      have := e.ren b d hr
      rw [hb] at this; cases this
      exact (h.blk b c hr).ext e
  · cases hr : θ.ren b with
    | none => exact h.cl b hr
    | some d => rw [e.ren b d hr] at hb; cases hb

/-- A tie with one block more. -/
def Tie.more (θ : Tie) (b c : Nat) : Tie := ⟨fun x => if x = b then some c else θ.ren x, θ.tag, θ.sta⟩
structure Fresh (θ : Tie) (b c : Nat) : Prop where
  l : θ.ren b = none
  r : ∀ a, θ.ren a ≠ some c
  s : θ.sta c = none
theorem TieOk.fresh {θ : Tie} {n n' : Nat} (h : TieOk θ n n') {b c : Nat} (hb : n ≤ b) (hc : n' ≤ c) : Fresh θ b c := by
  refine ⟨?_, fun a ha => ?_, ?_⟩
  · cases e : θ.ren b with
    | none => rfl
    | some d => have := (h.ren b d e).1; omega
  · have := (h.ren a c ha).2; omega
  · cases e : θ.sta c with
    | none => rfl
    | some d => have := h.sta c d e; omega
theorem Fresh.ext {θ : Tie} {b c : Nat} (h : Fresh θ b c) : Tie.Ext θ (θ.more b c) := by
  refine ⟨fun x y e => ?_, fun _ _ e => e, fun _ _ e => e⟩
  show (if x = b then some c else θ.ren x) = some y
  by_cases hx : x = b
  · subst hx; rw [h.l] at e; cases e
  · rw [if_neg hx]; exact e
theorem more_at {θ : Tie} {b c : Nat} : (θ.more b c).ren b = some c := if_pos rfl
theorem TieOk.more {θ : Tie} {n n' b c : Nat} (h : TieOk θ n n') (f : Fresh θ b c) {k k' : Nat} (hb : b < k) (hc : c < k') (hk : n ≤ k) (hk' : n' ≤ k') : TieOk (θ.more b c) k k' := by
  have ren : ∀ x y, (θ.more b c).ren x = some y → (x = b ∧ y = c) ∨ θ.ren x = some y := by
    intro x y e
    have e' : (if x = b then some c else θ.ren x) = some y := e
    by_cases hx : x = b
    · rw [if_pos hx] at e'; cases e'; exact .inl ⟨hx, rfl⟩
    · rw [if_neg hx] at e'; exact .inr e'
  refine ⟨fun x y e => ?_, fun x y z e1 e2 => ?_, fun x y e => ?_, fun x B e => ?_⟩
  · rcases ren x y e with ⟨rfl, rfl⟩ | e
    · exact ⟨hb, hc⟩
    · have := h.ren x y e; omega
  · rcases ren x z e1 with ⟨rfl, rfl⟩ | e1 <;> rcases ren y _ e2 with ⟨h1, h2⟩ | e2
    · exact h1.symm
    · exact absurd e2 (f.r y)
    · exact absurd e1 (h2 ▸ f.r x)
    · exact h.inj x y z e1 e2
  · rcases ren x y e with ⟨rfl, rfl⟩ | e
    · exact f.s
    · exact h.off x y e
  · have := h.sta x B e; omega
/-- A block more in both. -/
theorem MemS.more {θ : Tie} {m m' : Mem} {b c : Nat} (h : MemS θ m m') (f : Fresh θ b c) {B B' : Blk} (hB : BlkS (θ.more b c) B B') : MemS (θ.more b c) (Mem.new ⟨b, m.tbl⟩ B) (Mem.new ⟨c, m'.tbl⟩ B') := by
  have g1 : ∀ x, (Mem.new ⟨b, m.tbl⟩ B).get x = if x = b then B else m.get x := fun x => get_new
  have g2 : ∀ x, (Mem.new ⟨c, m'.tbl⟩ B').get x = if x = c then B' else m'.get x := fun x => get_new
  refine ⟨⟨fun x y e => ?_, fun x e => ?_⟩, fun x C e => ?_⟩
  · have e' : (if x = b then some c else θ.ren x) = some y := e
    by_cases hx : x = b
    · rw [if_pos hx] at e'; cases e'
      rw [g1, g2, if_pos hx, if_pos rfl]; exact hB
    · rw [if_neg hx] at e'
      have hy : y ≠ c := fun q => f.r x (q ▸ e')
      rw [g1, g2, if_neg hx, if_neg hy]; exact (h.blk x y e').ext f.ext
  · have e' : (if x = b then some c else θ.ren x) = none := e
    by_cases hx : x = b
    · rw [if_pos hx] at e'; cases e'
    · rw [if_neg hx] at e'; rw [g1, if_neg hx]; exact h.cl x e'
  · have hx : x ≠ c := fun q => by
      have e' : θ.sta x = some C := e
      subst q; rw [f.s] at e'; cases e'
    rw [g2, if_neg hx]; exact h.sta x C e
/-- A block written anew in both. -/
theorem MemS.set {θ : Tie} {m m' : Mem} {n n' b c : Nat} (h : MemS θ m m') (k : TieOk θ n n') (hb : θ.ren b = some c) {B B' : Blk} (hB : BlkS θ B B') : MemS θ (m.set b B) (m'.set c B') := by
  refine ⟨⟨fun x y e => ?_, fun x e => ?_⟩, fun x C e => ?_⟩
  · by_cases hx : x = b
    · subst hx; rw [hb] at e; cases e
      rw [get_set_eq, get_set_eq]; exact hB
    · have hy : y ≠ c := fun q => hx (k.inj x b c (q ▸ e) hb)
      rw [get_set_ne hx, get_set_ne hy]; exact h.blk x y e
  · have hx : x ≠ b := fun q => by subst q; rw [hb] at e; cases e
    rw [get_set_ne hx]; exact h.cl x e
  · have hx : x ≠ c := fun q => by subst q; rw [k.off b x hb] at e; cases e
    rw [get_set_ne hx]; exact h.sta x C e
end Go.Proofs.YtblcomejcahkdaaDoor.Ev
end
section
namespace Go.Proofs.YtblcomejcahkdaaDoor.Ev
open Go
set_option linter.unusedSimpArgs false
def strs1 (l : List (List UInt8)) : List (List EV) := l.map fun s => [.str s]
/-- A variable that holds a row of texts. -/
def glV (l : List (List UInt8)) : EV := .fptr 1 [[.fz 0 1 (strs1 l)]] 0 0
def subV : EV → EV
  | .ptr g 0 => match glob g with
    | some l => glV l
    | none => .ptr g 0
  | v => v
def isGl : EV → Bool
  | .ptr g 0 => (glob g).isSome
  | _ => false
def subO : Opd → Opd
  | .tmp t => .tmp t
  | .const v => .const (subV v)
def tabC (l : List Int) : Blk := .cells (l.map (.int .u64)) 1 0 true
def GlobOk (θ : Tie) : Prop := (∀ g l, glob g = some l → SV θ (glV l) (.ptr g 0)) ∧ ∀ g l, tabl g = some l → θ.sta g = some (tabC l)
theorem GlobOk.ext {θ θ' : Tie} (h : GlobOk θ) (e : Tie.Ext θ θ') : GlobOk θ' := ⟨fun g l hg => (h.1 g l hg).ext e, fun g l hg => e.sta _ _ (h.2 g l hg)⟩
theorem SR.lowG {θ : Tie} {esz : Nat} {els : List (List EV)} {b off : Nat} (h : SR θ esz els b off) : SR θ.low esz els b off := by
  cases h with | mk hs hl hn hx => exact .mk hs hl hn hx
theorem GlobOk.down {θ θ' : Tie} (h : GlobOk θ) (e : Tie.Ext θ.low θ') : GlobOk θ' := by
  refine ⟨fun g l hg => ?_, fun g l hg => e.sta _ _ (h.2 g l hg)⟩
  have := h.1 g l hg
  unfold glV at this ⊢
  cases this with | fptr hr hi ho => exact .fptr (hr.lowG.ext e) hi ho
structure GoodS (θ : Tie) (m m' : Mem) : Prop extends MemS θ m m' where
  ok : TieOk θ m.next m'.next
  glb : GlobOk θ
theorem subV_flat {v : EV} (h : Flat v = true) : subV v = v := by
  cases v <;> first | rfl | (simp [Flat] at h)
theorem subV_sv {θ : Tie} (hg : GlobOk θ) {v : EV} (h : (Flat v || isGl v) = true) : SV θ (subV v) v := by
  cases hf : Flat v with
  | true => rw [subV_flat hf]; exact SV.of_flat hf
  | false =>
    rw [hf, Bool.false_or] at h
    cases v with
    | ptr g off =>
      cases off with
      | zero =>
        simp only [isGl] at h
        cases hgl : glob g with
        | none => rw [hgl] at h; cases h
        | some l => simp only [subV, hgl]; exact hg.1 g l hgl
      | succ n => simp [isGl] at h
    | _ => simp [isGl] at h
/-- Operands put for operands. -/
def IOp.mapO (f : Opd → Opd) : IOp → IOp
  | .mov x => .mov (f x)
  | .pick c a b => .pick (f c) (f a) (f b)
  | .alloc e z => .alloc e z
  | .box e x => .box e (f x)
  | .build z ps => .build z (ps.map fun p => (p.1, p.2.1, f p.2.2))
  | .bslice e z n zr ps => .bslice e z n zr (ps.map fun p => (p.1, f p.2))
  | .load a x => .load a (f x)
  | .store n a x => .store n (f a) (f x)
  | .nilck x => .nilck (f x)
  | .bin o x y => .bin o (f x) (f y)
  | .eq n t x y => .eq n t (f x) (f y)
  | .un o x => .un o (f x)
  | .conv c x => .conv c (f x)
  | .iface t x => .iface t (f x)
  | .mkfn g a c => .mkfn g (a.map f) (c.map f)
  | .mkmap => .mkmap
  | .mkslice e z zr l c => .mkslice e z zr (f l) (f c)
  | .slstr x l h => .slstr (f x) (l.map f) (h.map f)
  | .slsl e x l h m => .slsl e (f x) (l.map f) (h.map f) (m.map f)
  | .slarr n e x l h m => .slarr n e (f x) (l.map f) (h.map f) (m.map f)
  | .faddr o x => .faddr o (f x)
  | .fld a o x => .fld a o (f x)
  | .iaddr e x i => .iaddr e (f x) (f i)
  | .iaddrArr n e x i => .iaddrArr n e (f x) (f i)
  | .idxstr x i => .idxstr (f x) (f i)
  | .idxagg n e a x i => .idxagg n e a (f x) (f i)
  | .lookup k z o m x => .lookup k z o (f m) (f x)
  | .mapupd k m x y => .mapupd k (f m) (f x) (f y)
  | .delete k m x => .delete k (f m) (f x)
  | .lenmap m => .lenmap (f m)
  | .tassert t x => .tassert t (f x)
  | .extract x i => .extract (f x) i
  | .len x => .len (f x)
  | .lenstr x => .lenstr (f x)
  | .lenarr n => .lenarr n
  | .cap x => .cap (f x)
  | .max l => .max (l.map f)
  | .min l => .min (l.map f)
  | .append e z b s x => .append e z b (f s) (f x)
  | .copy e d s => .copy e (f d) (f s)
theorem srt_mapO {f : Opd → Opd} {op : IOp} : srt (op.mapO f) = srt op := by
  cases op with
  | conv c x => cases c <;> rfl
  | _ => rfl
theorem evOp_mapO {ρ : Opd → EV} {f : Opd → Opd} {op : IOp} {m : Mem} : evOp ρ (op.mapO f) m = evOp (fun x => ρ (f x)) op m := by
  cases op with
  | slsl e x l h mx =>
    simp only [IOp.mapO, evOp, Option.map_map, Function.comp_def]
    cases mx <;> rfl
  | _ => first | rfl | (simp only [IOp.mapO, evOp, List.map_map, Option.map_map, Function.comp_def])
theorem map_same {α : Type} {f : α → α} : ∀ {l : List α}, (∀ x ∈ l, f x = x) → l.map f = l
  | [], _ => rfl
  | a :: l, h => by rw [List.map_cons, h a (by simp), map_same fun x hx => h x (by simp [hx])]
theorem opt_same {f : Opd → Opd} {o : Option Opd} (h : ∀ x ∈ optl o, f x = x) : o.map f = o := by
  cases o with
  | none => rfl
  | some x => rw [Option.map_some, h x (by simp [optl])]
theorem mapO_same {f : Opd → Opd} {op : IOp} (h : ∀ x ∈ opds op, f x = x) : op.mapO f = op := by
  cases op with
  | build z ps =>
    simp only [IOp.mapO]
    rw [map_same fun p hp => by rw [h p.2.2 (by simp only [opds, List.mem_map]; exact ⟨p, hp, rfl⟩)]]
  | bslice e z n zr ps =>
    simp only [IOp.mapO]
    rw [map_same fun p hp => by rw [h p.2 (by simp only [opds, List.mem_map]; exact ⟨p, hp, rfl⟩)]]
  | mkfn g a c =>
    simp only [IOp.mapO]
    rw [map_same fun x hx => h x (by simp only [opds, List.mem_append]; exact .inl hx), map_same fun x hx => h x (by simp only [opds, List.mem_append]; exact .inr hx)]
  | slstr x l hh =>
    simp only [IOp.mapO]
    rw [h x (by simp [opds]), opt_same fun y hy => h y (by simp only [opds, List.mem_cons, List.mem_append]; exact .inr (.inl hy)), opt_same fun y hy => h y (by simp only [opds, List.mem_cons, List.mem_append]; exact .inr (.inr hy))]
  | slsl e x l hh mm =>
    simp only [IOp.mapO]
    rw [h x (by simp [opds]), opt_same fun y hy => h y (by simp only [opds, List.mem_cons, List.mem_append]; exact .inr (.inl hy)), opt_same fun y hy => h y (by simp only [opds, List.mem_cons, List.mem_append]; exact .inr (.inr (.inl hy))), opt_same fun y hy => h y (by simp only [opds, List.mem_cons, List.mem_append]; exact .inr (.inr (.inr hy)))]
  | slarr n e x l hh mm =>
    simp only [IOp.mapO]
    rw [h x (by simp [opds]), opt_same fun y hy => h y (by simp only [opds, List.mem_cons, List.mem_append]; exact .inr (.inl hy)), opt_same fun y hy => h y (by simp only [opds, List.mem_cons, List.mem_append]; exact .inr (.inr (.inl hy))), opt_same fun y hy => h y (by simp only [opds, List.mem_cons, List.mem_append]; exact .inr (.inr (.inr hy)))]
  | max l => simp only [IOp.mapO]; rw [map_same fun x hx => h x (by simp only [opds]; exact hx)]
  | min l => simp only [IOp.mapO]; rw [map_same fun x hx => h x (by simp only [opds]; exact hx)]
  | _ => simp only [opds, List.mem_cons, List.not_mem_nil, or_false, forall_eq_or_imp, forall_eq] at h <;> simp only [IOp.mapO, h]
def XOp.sub : XOp → XOp
  | .val op => .val (op.mapO subO)
  | .call f xs => .call (subO f) (xs.map subO)
  | .panic x => .panic (subO x)
  | .defer f xs => .defer (subO f) (xs.map subO)
def IOper.sub (o : IOper) : IOper := ⟨o.dst, o.op.sub, o.guard⟩
def ICode.sub : ICode → ICode
  | .skip => .skip
  | .region ops => .region (ops.map IOper.sub)
  | .draw ops chk => .draw (ops.map IOper.sub) chk
  | .seq a b => .seq a.sub b.sub
  | .cond c a b => .cond (subO c) a.sub b.sub
  | .block id a => .block id a.sub
  | .loop a => .loop a.sub
  | .exit id => .exit id
  | .ret => .ret
def IFun.sub (F : IFun) : IFun := ⟨F.ntmps, F.body.sub, F.results⟩
/-- No package variable is named. -/
def noGl : Opd → Bool
  | .tmp _ => true
  | .const v => Flat v
def noGlX (x : XOp) : Bool := (xopds x).all noGl
def noGlC : ICode → Bool
  | .region ops | .draw ops _ => ops.all fun o => noGlX o.op
  | .seq a b => noGlC a && noGlC b
  | .cond c a b => noGl c && noGlC a && noGlC b
  | .block _ a | .loop a => noGlC a
  | _ => true
theorem noGl_sub {x : Opd} (h : noGl x = true) : subO x = x := by
  cases x with
  | tmp t => rfl
  | const v => simp only [subO, subV_flat (show Flat v = true from h)]
theorem noGlX_sub {x : XOp} (h : noGlX x = true) : x.sub = x := by
  have hx : ∀ y ∈ xopds x, subO y = y := fun y hy => noGl_sub (List.all_eq_true.1 h y hy)
  cases x with
  | val op => simp only [XOp.sub]; rw [mapO_same hx]
  | call f xs =>
    simp only [XOp.sub]
    rw [hx f (by simp [xopds]), map_same fun y hy => hx y (by simp [xopds, hy])]
  | panic y => simp only [XOp.sub]; rw [hx y (by simp [xopds])]
  | defer f xs =>
    simp only [XOp.sub]
    rw [hx f (by simp [xopds]), map_same fun y hy => hx y (by simp [xopds, hy])]
theorem noGlO_sub {ops : List IOper} (h : ops.all (fun o => noGlX o.op) = true) : ops.map IOper.sub = ops :=
  map_same fun o ho => by unfold IOper.sub; rw [noGlX_sub (List.all_eq_true.1 h o ho)]
theorem noGlC_sub : ∀ {c : ICode}, noGlC c = true → c.sub = c
  | .skip, _ => rfl
  | .region ops, h => by simp only [ICode.sub]; rw [noGlO_sub (by simpa only [noGlC] using h)]
  | .draw ops chk, h => by simp only [ICode.sub]; rw [noGlO_sub (by simpa only [noGlC] using h)]
  | .seq a b, h => by simp only [noGlC, Bool.and_eq_true] at h; simp only [ICode.sub]; rw [noGlC_sub h.1, noGlC_sub h.2]
  | .cond c a b, h => by simp only [noGlC, Bool.and_eq_true] at h; simp only [ICode.sub]; rw [noGl_sub h.1.1, noGlC_sub h.1.2, noGlC_sub h.2]
  | .block id a, h => by simp only [noGlC] at h; simp only [ICode.sub]; rw [noGlC_sub h]
  | .loop a, h => by simp only [noGlC] at h; simp only [ICode.sub]; rw [noGlC_sub h]
  | .exit id, _ => rfl
  | .ret, _ => rfl
end Go.Proofs.YtblcomejcahkdaaDoor.Ev
end
section
namespace Go.Proofs.YtblcomejcahkdaaDoor.Ev
open Go
set_option linter.unusedSimpArgs false

def okOpd : Opd → Bool
  | .tmp _ => true
  | .const v => Flat v || isGl v
def okZero : IOp → Bool
  | .alloc _ z | .build z _ | .bslice _ _ _ z _ | .mkslice _ _ z _ _ => flats z
  | .lookup _ z _ _ _ => Flat z
  | _ => true
def okOp (op : IOp) : Bool := (opds op).all okOpd && okZero op
def OpsS (θ : Tie) (ρ ρ' : Opd → EV) : Prop := ∀ x, okOpd x = true → SV θ (ρ x) (ρ' x)
/-- What an operation does in the other run. -/
def OpS (θ : Tie) (m m' : Mem) (v : EV) (m1 : Mem) (o : Option R1) : Prop :=
  ∃ v' m1', o = some (.val v' m1') ∧
    ((SV θ v v' ∧ MemS θ m1 m1' ∧ m1.next = m.next ∧ m1'.next = m'.next) ∨
      (SV (θ.more m.next m'.next) v v' ∧ MemS (θ.more m.next m'.next) m1 m1' ∧ m1.next = m.next + 1 ∧ m1'.next = m'.next + 1)) ∧
    (∀ c, c ≠ m'.next → (∀ b, θ.ren b ≠ some c) → m1'.get c = m'.get c)
section
variable {θ : Tie} {m m' m1 : Mem} {v : EV} {o : Option R1} {n n' : Nat} {ρ ρ' : Opd → EV}
theorem OpS.here (hm : MemS θ m m') (h1 : m1 = m) {v' : EV} (hv : SV θ v v') : OpS θ m m' v m1 (some (.val v' m')) := by
  subst h1; exact ⟨v', m', rfl, .inl ⟨hv, hm, rfl, rfl⟩, fun _ _ _ => rfl⟩
theorem OpS.new (hm : MemS θ m m') (f : Fresh θ m.next m'.next) {B B' : Blk} {v' : EV} (hB : BlkS (θ.more m.next m'.next) B B') (hv : SV (θ.more m.next m'.next) v v') : OpS θ m m' v (m.new B) (some (.val v' (m'.new B'))) :=
  ⟨v', _, rfl, .inr ⟨hv, hm.more f hB, rfl, rfl⟩, fun c hc _ => by rw [get_new, if_neg hc]⟩
theorem bool_of {b : Bool} {v' : EV} (h : SV θ (.bool b) v') : v' = .bool b := by cases h; rfl
theorem int_of {k : IntKind} {i : Int} {v' : EV} (h : SV θ (.int k i) v') : v' = .int k i := by cases h; rfl
theorem idx_sim {N i : Nat} {x x' : EV} (hx : SV θ x x') (h : idx N x = some i) : idx N x' = some i := by
  cases hx <;> first | exact h | simp [idx] at h
theorem bound_sim {lo : Option Opd} (hl : ∀ x, lo = some x → SV θ (ρ x) (ρ' x)) {d N i : Nat} (h : bound (lo.map ρ) d N = some i) : bound (lo.map ρ') d N = some i := by
  cases lo with
  | none => exact h
  | some x =>
    have hx := hl x rfl
    simp only [Option.map_some] at h ⊢
    generalize ρ x = a at hx h
    generalize ρ' x = a' at hx
    cases hx <;> first | exact h | simp [bound] at h
theorem fill_sim : ∀ (ps : List (Nat × Nat × EV)) (ps' : List (Nat × Nat × EV)) (cs cs' r : List EV), ps.map (fun p => (p.1, p.2.1)) = ps'.map (fun p => (p.1, p.2.1)) → SVs θ (ps.map (·.2.2)) (ps'.map (·.2.2)) → SVs θ cs cs' → fillIn cs ps = some r → ∃ r', fillIn cs' ps' = some r' ∧ SVs θ r r'
  | [], [], cs, cs', r, _, _, hcs, h => by simp only [fillIn, Option.some.injEq] at h ⊢; subst h; exact ⟨_, rfl, hcs⟩
  | [], _ :: _, _, _, _, he, _, _, _ => by simp at he
  | _ :: _, [], _, _, _, he, _, _, _ => by simp at he
  | (off, size, v) :: ps, (off', size', v') :: ps', cs, cs', r, he, hv, hcs, h => by
    simp only [List.map_cons, List.cons.injEq, Prod.mk.injEq] at he
    obtain ⟨⟨rfl, rfl⟩, he⟩ := he
    cases hv with
    | cons hv hvs =>
    simp only [fillIn] at h ⊢
    cases hc : v.cells with
    | none => simp [hc] at h
    | some vs =>
      obtain ⟨vs', hc', hs⟩ := hv.cells hc
      simp only [hc, hc', ← hs.length] at h ⊢
      cases hb : vs.length.beq size <;> simp only [hb, cond_true, cond_false, reduceCtorEq] at h ⊢
      cases hp : splice cs off vs with
      | none => simp [hp] at h
      | some q =>
        obtain ⟨q', hp', hq⟩ := hcs.splice hs hp
        simp only [hp, hp'] at h ⊢
        exact fill_sim ps ps' _ _ _ he hvs hq h
theorem flat_flatten {z : List EV} (hz : flats z = true) : ∀ n : Nat, flats (copies n z) = true := by
  have app : ∀ a b : List EV, flats a = true → flats b = true → flats (a ++ b) = true := by
    intro a b ha hb
    induction a with
    | nil => exact hb
    | cons x a ih => simp only [flats, Bool.and_eq_true] at ha; simp only [List.cons_append, flats, ha.1, ih ha.2, Bool.and_self]
  intro n
  induction n with
  | zero => rfl
  | succ n ih => unfold copies at ih ⊢; rw [List.replicate_succ, List.flatten_cons]; exact app _ _ hz ih
theorem load_f {esz i k : Nat} {els : List (List EV)} {a' : EV} (ha : SV θ (.fptr esz els i k) a') {g : Option Nat} (h : m.load g (.fptr esz els i k) = some v) : ∃ v', SV θ v v' ∧ ∀ q : Mem, (∀ c B, θ.sta c = some B → q.get c = B) → q.load g a' = some v' := by
  cases ha with
  | @fptr _ _ _ b off _ _ o hr hi ho =>
    simp only [Mem.load] at h
    cases hr with
    | @mk _ _ _ _ _ kk cs ro hsta hl hn hx0 =>
    have hx := hx0.ext θ.low_ext
    rw [List.getElem?_eq_getElem hi] at h
    simp only at h
    have hel : els[i].length = esz := hl _ (List.getElem_mem hi)
    -- the element's cells, in the row
    have key : ∀ (L : List (List EV)) (i : Nat) (hi : i < L.length), (∀ el ∈ L, el.length = esz) → (L.flatten.drop (i * esz)).take esz = L[i] := by
      intro L
      induction L with
      | nil => intro i hi; simp at hi
      | cons e L ih =>
        intro i hi hl
        have he : e.length = esz := hl e (by simp)
        cases i with
        | zero => simp [he]
        | succ i =>
          have := ih i (by simpa using hi) (fun el h => hl el (by simp [h]))
          rw [List.flatten_cons, Nat.succ_mul, Nat.add_comm, ← List.drop_drop, show (e ++ L.flatten).drop esz = L.flatten by rw [← he]; simp]
          simpa using this
    have hseg : SVs θ els[i] ((cs.drop (off + i * esz)).take esz) := by
      have h1 := ((hx.drop (i * esz)).take esz)
      rw [key els i hi hl] at h1
      have h2 : (((cs.drop off).take (els.length * esz)).drop (i * esz)).take esz = (cs.drop (off + i * esz)).take esz := by
        have : i * esz + esz ≤ els.length * esz := by rw [← Nat.succ_mul]; exact Nat.mul_le_mul_right _ hi
        rw [List.drop_take, List.drop_drop, List.take_take, Nat.min_eq_left (by omega)]
      rw [h2] at h1; exact h1
    obtain ⟨v', hp, hv⟩ := hseg.part h
    refine ⟨v', hv, fun Q hQ => ?_⟩
    have hg' := hQ _ _ hsta
    simp only [Mem.load, hg']
    subst ho
    have hlen : off + i * esz + esz ≤ cs.length := by
      have : i * esz + esz ≤ els.length * esz := by rw [← Nat.succ_mul]; exact Nat.mul_le_mul_right _ hi
      omega
    cases g with
    | none =>
      simp only [partOf] at hp ⊢
      rw [List.getElem?_take] at hp
      split at hp
      · rw [List.getElem?_drop] at hp; exact hp
      · cases hp
    | some q =>
      simp only [partOf] at hp ⊢
      have hl2 : ((cs.drop (off + i * esz)).take esz).length = esz := by rw [List.length_take, List.length_drop]; omega
      rw [hl2] at hp
      cases hb : (k + q).ble esz <;> simp only [hb, cond_true, cond_false, reduceCtorEq, Option.some.injEq] at hp
      have := Nat.le_of_ble_eq_true hb
      rw [Nat.ble_eq_true_of_le (show off + i * esz + k + q ≤ cs.length by omega)]
      simp only [cond_true, Option.some.injEq]
      rw [← hp, List.drop_take, List.drop_drop, List.take_take, Nat.min_eq_left (by omega)]
theorem load_b (hm : MemB θ m m') {a a' : EV} (ha : SV θ a a') (hf : isF a = false) {g : Option Nat} (h : m.load g a = some v) : ∃ v', m'.load g a' = some v' ∧ SV θ v v' := by
  cases ha <;> simp only [Mem.load, reduceCtorEq] at h
  case fptr => simp [isF] at hf
  case ptr b c off hb =>
    have hB := hm.blk b c hb
    cases hg : m.get b with
    | dead => simp [hg] at h
    | map es => simp [hg] at h
    | cells cs e k ro =>
      rw [hg] at hB h
      obtain ⟨cs', hg', hs⟩ := hB
      simp only [Mem.load, hg']
      exact hs.part h
theorem load_sim (hm : MemS θ m m') {a a' : EV} (ha : SV θ a a') {g : Option Nat} (h : m.load g a = some v) : ∃ v', m'.load g a' = some v' ∧ SV θ v v' := by
  cases hf : isF a with
  | false => exact load_b hm.toMemB ha hf h
  | true =>
    cases a <;> simp only [isF, Bool.false_eq_true] at hf
    obtain ⟨v', h1, h2⟩ := load_f ha h
    exact ⟨v', h2 m' hm.sta, h1⟩
theorem row_sim (hm : MemS θ m m') {b c : Nat} (hb : θ.ren b = some c) {off N : Nat} {xs : List EV} (h : m.row b off N = some xs) : ∃ xs', m'.row c off N = some xs' ∧ SVs θ xs xs' := by
  by_cases h0 : N = 0
  · subst h0; rw [Mem.row_none] at h; cases h; exact ⟨_, Mem.row_none, .nil⟩
  · rw [Mem.row_pos h0] at h ⊢
    have hB := hm.blk b c hb
    unfold Mem.row1 at h ⊢
    cases hg : m.get b with
    | dead => simp [hg] at h
    | map es => simp [hg] at h
    | cells cs e k ro =>
      rw [hg] at hB
      obtain ⟨cs', hg', hs⟩ := hB
      simp only [hg, hg', ← hs.length] at h ⊢
      cases hbb : (off + N).ble cs.length <;> simp only [hbb, cond_true, cond_false, reduceCtorEq, Option.some.injEq] at h ⊢
      subst h
      exact ⟨_, rfl, (hs.drop off).take N⟩
theorem source_sim (hm : MemS θ m m') {x x' : EV} (hx : SV θ x x') {esz N : Nat} {xs : List EV} (h : m.source esz x = some (N, xs)) : ∃ xs', m'.source esz x' = some (N, xs') ∧ SVs θ xs xs' := by
  cases hx <;> simp only [Mem.source, reduceCtorEq] at h
  case str s =>
    refine ⟨xs, h, ?_⟩
    cases hb : esz.beq 1 <;> simp only [hb, cond_true, cond_false, reduceCtorEq, Option.some.injEq, Prod.mk.injEq] at h
    rw [← h.2]
    exact SVs.map _ _ fun a _ => .int _ _
  case nilslice => simp only [Option.some.injEq, Prod.mk.injEq] at h; obtain ⟨rfl, rfl⟩ := h; exact ⟨[], rfl, .nil⟩
  case slice b c off len cap hb =>
    obtain ⟨r, hr, he⟩ := Option.map_eq_some_iff.1 h
    obtain ⟨r', hr', hs⟩ := row_sim hm hb hr
    simp only [Prod.mk.injEq] at he
    obtain ⟨rfl, rfl⟩ := he
    exact ⟨r', by simp only [Mem.source, hr', Option.map_some], hs⟩
  case fz0 t e b off ht =>
    cases hb : e.beq esz <;> simp only [hb, cond_true, cond_false, reduceCtorEq, Option.some.injEq, Prod.mk.injEq] at h
    obtain ⟨rfl, rfl⟩ := h
    refine ⟨[], ?_, .nil⟩
    simp only [Mem.source, Nat.zero_mul, Mem.row_none, Option.map_some, List.length_nil]
  case fz t e els b off cap hc hr ht =>
    cases hb : e.beq esz <;> simp only [hb, cond_true, cond_false, reduceCtorEq, Option.some.injEq, Prod.mk.injEq] at h
    obtain ⟨rfl, rfl⟩ := h
    obtain rfl := of_beq hb
    cases hr with
    | mk hsta hl hn hx0 =>
    have hx := hx0.ext θ.low_ext
    rename_i cs ro
    refine ⟨(cs.drop off).take (els.length * e), ?_, hx⟩
    simp only [Mem.source]
    by_cases h0 : els.length * e = 0
    · rw [h0, Mem.row_none, List.take_zero]; rfl
    · rw [Mem.row_pos h0, Mem.row1, hm.sta _ _ hsta]
      simp only [Nat.ble_eq_true_of_le hn, cond_true, Option.map_some]
theorem write_sim (hm : MemS θ m m') (k : TieOk θ n n') {b c : Nat} (hb : θ.ren b = some c) {off : Nat} {vs vs' : List EV} (hv : SVs θ vs vs') (h : m.write b off vs = some m1) : ∃ m1', m'.write c off vs' = some m1' ∧ MemS θ m1 m1' ∧ m1.next = m.next ∧ m1'.next = m'.next ∧ ∀ d, d ≠ c → m1'.get d = m'.get d := by
  have hB := hm.blk b c hb
  unfold Mem.write at h ⊢
  cases hg : m.get b with
  | dead => simp [hg] at h
  | map es => simp [hg] at h
  | cells cs e t ro =>
    rw [hg] at hB
    obtain ⟨cs', hg', hs⟩ := hB
    simp only [hg, hg'] at h ⊢
    cases ro <;> simp only [cond_true, cond_false, reduceCtorEq] at h ⊢
    obtain ⟨r, hr, rfl⟩ := Option.map_eq_some_iff.1 h
    obtain ⟨r', hr', hq⟩ := hs.splice hv hr
    exact ⟨_, by rw [hr']; rfl, hm.set k hb ⟨r', rfl, hq⟩, rfl, rfl, fun d hd => get_set_ne hd⟩
theorem store_sim (hm : MemS θ m m') (k : TieOk θ n n') {size : Nat} {a a' x x' : EV} (ha : SV θ a a') (hx : SV θ x x') (h : m.store size a x = some m1) : ∃ m1', m'.store size a' x' = some m1' ∧ MemS θ m1 m1' ∧ m1.next = m.next ∧ m1'.next = m'.next ∧ ∀ d, (∀ b, θ.ren b ≠ some d) → m1'.get d = m'.get d := by
  unfold Mem.store at h
  cases hc : x.cells with
  | none => rw [hc] at h; cases a <;> simp at h
  | some vs =>
    obtain ⟨vs', hc', hs⟩ := hx.cells hc
    rw [hc] at h
    cases ha <;> simp only [reduceCtorEq] at h
    case ptr b c off hb =>
      cases hl : vs.length.beq size <;> simp only [hl, cond_true, cond_false, reduceCtorEq] at h
      obtain ⟨m1', h1, h2, h3, h4, h5⟩ := write_sim hm k hb hs h
      refine ⟨m1', ?_, h2, h3, h4, fun d hd => h5 d fun e => hd b (e ▸ hb)⟩
      simp only [Mem.store, hc', ← hs.length, hl, cond_true]; exact h1

/-! ### What is reckoned of plain values -/
theorem bin_flat {op : BinOp} {x y : EV} (h : evBin op x y = some v) : Flat x = true ∧ Flat y = true ∧ Flat v = true := by
  cases x <;> cases y <;> simp only [evBin, reduceCtorEq] at h
  case int.int k a l b =>
    refine ⟨rfl, rfl, ?_⟩
    have sh : ∀ op, evShift op k a b = some v → Flat v = true := by
      intro op h
      unfold evShift at h
      split at h
      · cases h
      · cases op <;> simp at h <;> subst h <;> rfl
    have it : ∀ op, (bif (kindNo k).beq (kindNo l) then evInt op k a b else none) = some v → Flat v = true := by
      intro op h
      cases hk : (kindNo k).beq (kindNo l) <;> simp only [hk, cond_true, cond_false, reduceCtorEq] at h
      cases op <;> simp only [evInt, evBits, Option.map_some, Option.some.injEq, reduceCtorEq] at h <;> first | (subst h; rfl) | (split at h <;> simp at h; subst h; rfl)
    cases op <;> first | exact sh _ h | exact it _ h
  case str.str a b =>
    refine ⟨rfl, rfl, ?_⟩
    cases op <;> simp only [reduceCtorEq, Option.some.injEq] at h <;> first | (subst h; rfl) | skip
    cases hb : (a.length + b.length).ble 4294967296 <;> simp only [hb, cond_true, cond_false, reduceCtorEq, Option.some.injEq] at h
    subst h; rfl
theorem un_flat {op : UnOp} {x : EV} (h : evUn op x = some v) : Flat x = true ∧ Flat v = true := by
  cases op <;> cases x <;> simp only [evUn, reduceCtorEq, Option.some.injEq, evBits, Option.map_some] at h <;> subst h <;> exact ⟨rfl, rfl⟩
theorem eqPrim_sim {t : Nat} {x y x' y' : EV} (hx : SV θ x x') (hy : SV θ y y') {b : Bool} (h : evEqPrim t x y = some b) : evEqPrim t x' y' = some b := by
  cases hx <;> cases hy <;> first | exact h | (simp only [evEqPrim, reduceCtorEq] at h ⊢ <;> done) | (simp only [evEqPrim] at h ⊢; exact h)
theorem eq_agg_inv {fs : List (Option Nat × Nat × EqTy)} {x y : EV} {b : Bool} (h : evEq (.agg fs) x y = some b) : ∃ a c, x = .agg a ∧ y = .agg c ∧ evEqs fs a c = some b := by
  rw [evEq.eq_def] at h
  cases x <;> cases y <;> first | exact ⟨_, _, rfl, rfl, h⟩ | cases h
theorem agg_inv {a : List EV} {x' : EV} (h : SV θ (.agg a) x') : ∃ a', x' = .agg a' ∧ SVs θ a a' := by
  cases h with | agg h => exact ⟨_, rfl, h⟩
mutual
theorem eq_sim : ∀ (t : EqTy) {x y x' y' : EV}, SV θ x x' → SV θ y y' → ∀ {b : Bool}, evEq t x y = some b → evEq t x' y' = some b
  | .prim t, _, _, _, _, hx, hy, b, h => by simp only [evEq] at h ⊢; exact eqPrim_sim hx hy h
  | .agg fs, _, _, _, _, hx, hy, b, h => by
    obtain ⟨a, c, rfl, rfl, h⟩ := eq_agg_inv h
    obtain ⟨a', rfl, ha⟩ := agg_inv hx
    obtain ⟨c', rfl, hc⟩ := agg_inv hy
    simp only [evEq]
    exact eqs_sim fs ha hc h
theorem eqs_sim : ∀ (fs : List (Option Nat × Nat × EqTy)) {x y x' y' : List EV}, SVs θ x x' → SVs θ y y' → ∀ {b : Bool}, evEqs fs x y = some b → evEqs fs x' y' = some b
  | [], _, _, _, _, _, _, _, h => by simp only [evEqs] at h ⊢; exact h
  | (g, off, t) :: r, x, y, x', y', hx, hy, b, h => by
    simp only [evEqs] at h ⊢
    cases hp : partOf g x off with
    | none => simp [hp] at h
    | some p =>
      cases hq : partOf g y off with
      | none => simp [hp, hq] at h
      | some q =>
        obtain ⟨p', hp', sp⟩ := hx.part hp
        obtain ⟨q', hq', sq⟩ := hy.part hq
        simp only [hp, hq, hp', hq'] at h ⊢
        cases he : evEq t p q with
        | none => simp [he] at h
        | some c =>
          rw [eq_sim t sp sq he]
          cases c
          · simpa [he] using h
          · simp only [he] at h ⊢; exact eqs_sim r hx hy h
end
theorem bytes_flat : ∀ {xs : List EV} {s : List UInt8}, bytesOf xs = some s → flats xs = true
  | [], _, _ => rfl
  | v :: xs, s, h => by
    unfold bytesOf at h
    split at h
    · rename_i hh; cases hh
    · rename_i hh; cases hh
      obtain ⟨r, hr, _⟩ := Option.map_eq_some_iff.1 h
      simp only [flats, Flat, bytes_flat hr, Bool.and_self]
    · cases h
theorem max_flat : ∀ {l : List EV}, evMax l = some v → flats l = true ∧ Flat v = true := by
  have go : ∀ (k : IntKind) (l : List EV) (x : Int), maxFrom k x l = some v → flats l = true ∧ Flat v = true := by
    intro k l
    induction l with
    | nil => intro x h; simp only [maxFrom, Option.some.injEq] at h; subst h; exact ⟨rfl, rfl⟩
    | cons a l ih =>
      intro x h
      cases a <;> simp only [maxFrom, reduceCtorEq] at h
      rename_i k' y
      cases hk : (kindNo k).beq (kindNo k') <;> simp only [hk, cond_true, cond_false, reduceCtorEq] at h
      obtain ⟨h1, h2⟩ := ih _ h
      exact ⟨by simp only [flats, Flat, h1, Bool.and_self], h2⟩
  intro l h
  cases l with
  | nil => simp [evMax] at h
  | cons a l =>
    cases a <;> simp only [evMax, reduceCtorEq] at h
    obtain ⟨h1, h2⟩ := go _ _ _ h
    exact ⟨by simp only [flats, Flat, h1, Bool.and_self], h2⟩
theorem min_flat : ∀ {l : List EV}, evMin l = some v → flats l = true ∧ Flat v = true := by
  have go : ∀ (k : IntKind) (l : List EV) (x : Int), minFrom k x l = some v → flats l = true ∧ Flat v = true := by
    intro k l
    induction l with
    | nil => intro x h; simp only [minFrom, Option.some.injEq] at h; subst h; exact ⟨rfl, rfl⟩
    | cons a l ih =>
      intro x h
      cases a <;> simp only [minFrom, reduceCtorEq] at h
      rename_i k' y
      cases hk : (kindNo k).beq (kindNo k') <;> simp only [hk, cond_true, cond_false, reduceCtorEq] at h
      obtain ⟨h1, h2⟩ := ih _ h
      exact ⟨by simp only [flats, Flat, h1, Bool.and_self], h2⟩
  intro l h
  cases l with
  | nil => simp [evMin] at h
  | cons a l =>
    cases a <;> simp only [evMin, reduceCtorEq] at h
    obtain ⟨h1, h2⟩ := go _ _ _ h
    exact ⟨by simp only [flats, Flat, h1, Bool.and_self], h2⟩
theorem OpsS.list (hρ : OpsS θ ρ ρ') : ∀ {l : List Opd}, l.all okOpd = true → SVs θ (l.map ρ) (l.map ρ')
  | [], _ => .nil
  | x :: l, h => by simp only [List.all_cons, Bool.and_eq_true] at h; exact .cons (hρ x h.1) (OpsS.list hρ h.2)

/-! ### Maps -/
theorem sort_flat {k : EV} (h : sortOf k ≠ 99) : Flat k = true := by cases k <;> first | rfl | exact absurd rfl h
theorem key_sort {kt : Nat} {k : EV} (h : keyIs kt k = true) : sortOf k ≠ 99 := by
  cases k <;> simp only [keyIs, Bool.false_eq_true] at h <;> simp [sortOf]
  rename_i kk n; cases kk <;> simp [kindNo]
theorem sorts_sim {k : EV} (hk : sortOf k ≠ 99) : ∀ {es es' : List (EV × EV)}, EntsS θ es es' → sortsOk k es = true → es'.map (·.1) = es.map (·.1) ∧ sortsOk k es' = true
  | _, _, .nil, _ => ⟨rfl, rfl⟩
  | _, _, .cons (k := a) ha hv hs, h => by
    simp only [sortsOk] at h
    cases hb : (sortOf a).beq (sortOf k) <;> simp only [hb, cond_true, cond_false, Bool.false_eq_true] at h
    have hf : Flat a = true := sort_flat (by rw [of_beq hb]; exact hk)
    have := ha.flat hf
    subst this
    obtain ⟨h1, h2⟩ := sorts_sim hk hs h
    exact ⟨by simp [h1], by simp only [sortsOk, hb, cond_true, h2]⟩
theorem find_sim {k : EV} : ∀ {es es' : List (EV × EV)}, EntsS θ es es' → es'.map (·.1) = es.map (·.1) → (∀ v, find k es = some v → ∃ v', find k es' = some v' ∧ SV θ v v') ∧ (find k es = none → find k es' = none)
  | _, _, .nil, _ => ⟨fun v h => by simp [find] at h, fun _ => rfl⟩
  | _, _, .cons (k' := a) (v := w) (v' := w') ha hv hs, h => by
    simp only [List.map_cons, List.cons.injEq] at h
    obtain ⟨rfl, h⟩ := h
    obtain ⟨h1, h2⟩ := find_sim (k := k) hs h
    simp only [find]
    cases EV.same k a <;> simp only [cond_true, cond_false]
    · exact ⟨h1, h2⟩
    · exact ⟨fun v hh => by cases hh; exact ⟨w', rfl, hv⟩, fun hh => by cases hh⟩
theorem update_sim {k k' x x' : EV} (hk : SV θ k k') (hx : SV θ x x') (he : k' = k) : ∀ {es es' : List (EV × EV)}, EntsS θ es es' → es'.map (·.1) = es.map (·.1) → EntsS θ (update k x es) (update k' x' es')
  | _, _, .nil, _ => .cons hk hx .nil
  | _, _, .cons (k' := a) ha hv hs, h => by
    simp only [List.map_cons, List.cons.injEq] at h
    obtain ⟨rfl, h⟩ := h
    have ih := update_sim hk hx he hs h
    subst he
    simp only [update]
    cases EV.same k' a <;> simp only [cond_true, cond_false]
    · exact .cons ha hv ih
    · exact .cons hk hx hs
theorem erase_sim {k : EV} : ∀ {es es' : List (EV × EV)}, EntsS θ es es' → es'.map (·.1) = es.map (·.1) → EntsS θ (erase k es) (erase k es')
  | _, _, .nil, _ => .nil
  | _, _, .cons (k' := a) ha hv hs, h => by
    simp only [List.map_cons, List.cons.injEq] at h
    obtain ⟨rfl, h⟩ := h
    have ih := erase_sim (k := k) hs h
    simp only [erase]
    cases EV.same k a <;> simp only [cond_true, cond_false]
    · exact .cons ha hv ih
    · exact hs
theorem EntsS.len : ∀ {es es' : List (EV × EV)}, EntsS θ es es' → es.length = es'.length
  | _, _, .nil => rfl
  | _, _, .cons _ _ h => by simp [EntsS.len h]
end
end Go.Proofs.YtblcomejcahkdaaDoor.Ev
end
section
namespace Go.Proofs.YtblcomejcahkdaaDoor.Ev
open Go
set_option linter.unusedSimpArgs false
section
variable {θ : Tie} {m m' m1 : Mem} {v : EV} {n n' : Nat} {ρ ρ' : Opd → EV}
theorem ofEV_inv {x : Option EV} (h : ofEV m x = some (.val v m1)) : x = some v ∧ m1 = m := by
  unfold ofEV at h
  obtain ⟨y, hy, he⟩ := Option.map_eq_some_iff.1 h
  cases he; exact ⟨hy, rfl⟩
theorem ofM_inv {x : Option Mem} (h : ofM x = some (.val v m1)) : x = some m1 ∧ v = .undef := by
  unfold ofM at h
  obtain ⟨y, hy, he⟩ := Option.map_eq_some_iff.1 h
  cases he; exact ⟨hy, rfl⟩
theorem val_inv {a : EV} {q : Mem} (h : some (R1.val a q) = some (R1.val v m1)) : a = v ∧ q = m1 := by cases h; exact ⟨rfl, rfl⟩
theorem all_optl {lo : Option Opd} (h : (optl lo).all okOpd = true) (hρ : OpsS θ ρ ρ') : ∀ x, lo = some x → SV θ (ρ x) (ρ' x) := by
  intro x e; subst e
  simp only [optl, List.all_cons, List.all_nil, Bool.and_true] at h
  exact hρ x h
theorem evSlice_sim {θ' : Tie} {esz b c off len : Nat} {cap : Option Nat} {lo hi max : Option Opd} (hb : θ.ren b = some c) (hlo : ∀ x, lo = some x → SV θ (ρ x) (ρ' x)) (hhi : ∀ x, hi = some x → SV θ (ρ x) (ρ' x)) (hmax : ∀ x, max = some x → SV θ (ρ x) (ρ' x))
    (h : evSlice esz b off len cap (lo.map ρ) (hi.map ρ) (max.map ρ) = some v) : ∃ v', evSlice esz c off len cap (lo.map ρ') (hi.map ρ') (max.map ρ') = some v' ∧ SV θ v v' := by
  cases cap with
  | some cp =>
    simp only [evSlice] at h ⊢
    cases h1 : bound (max.map ρ) cp cp with
    | none => simp [h1] at h
    | some t =>
      rw [bound_sim hmax h1]; simp only [h1] at h ⊢
      cases h2 : bound (hi.map ρ) len t with
      | none => simp [h2] at h
      | some q =>
        rw [bound_sim hhi h2]; simp only [h2] at h ⊢
        cases h3 : bound (lo.map ρ) 0 q with
        | none => simp [h3] at h
        | some l =>
          rw [bound_sim hlo h3]; simp only [h3, Option.some.injEq] at h ⊢
          subst h; exact ⟨_, rfl, .slice hb⟩
  | none =>
    cases max with
    | some mx =>
      simp only [evSlice, Option.map_some] at h ⊢
      cases h1 : bound (some (ρ mx)) len len with
      | none => simp [h1] at h
      | some t =>
        have h1' : bound (some (ρ' mx)) len len = some t := bound_sim (lo := some mx) hmax h1
        simp only [h1, h1'] at h ⊢
        cases h2 : bound (hi.map ρ) len t with
        | none => simp [h2] at h
        | some q =>
          rw [bound_sim hhi h2]; simp only [h2] at h ⊢
          cases h3 : bound (lo.map ρ) 0 q with
          | none => simp [h3] at h
          | some l =>
            rw [bound_sim hlo h3]; simp only [h3, Option.some.injEq] at h ⊢
            subst h; exact ⟨_, rfl, .slice hb⟩
    | none =>
      simp only [evSlice, Option.map_none] at h ⊢
      cases h2 : bound (hi.map ρ) len len with
      | none => simp [h2] at h
      | some q =>
        rw [bound_sim hhi h2]; simp only [h2] at h ⊢
        cases h3 : bound (lo.map ρ) 0 q with
        | none => simp [h3] at h
        | some l =>
          rw [bound_sim hlo h3]; simp only [h3, Option.some.injEq] at h ⊢
          subst h; exact ⟨_, rfl, .slice hb⟩
theorem flatten_seg {esz : Nat} : ∀ (L : List (List EV)) (l h : Nat), l ≤ h → h ≤ L.length → (∀ el ∈ L, el.length = esz) → ((L.take h).drop l).flatten = (L.flatten.drop (l * esz)).take ((h - l) * esz) := by
  have tk : ∀ (L : List (List EV)) (h : Nat), (∀ el ∈ L, el.length = esz) → (L.take h).flatten = L.flatten.take (h * esz) := by
    intro L
    induction L with
    | nil => intro h _; simp
    | cons e L ih =>
      intro h hl
      have he := hl e (by simp)
      cases h with
      | zero => simp
      | succ h => rw [List.take_succ_cons, List.flatten_cons, ih h (fun el q => hl el (by simp [q])), List.flatten_cons, Nat.succ_mul, Nat.add_comm, List.take_append, he, List.take_of_length_le (l := e) (by rw [he]; omega)]; simp
  have dp : ∀ (L : List (List EV)) (h : Nat), (∀ el ∈ L, el.length = esz) → (L.drop h).flatten = L.flatten.drop (h * esz) := by
    intro L
    induction L with
    | nil => intro h _; simp
    | cons e L ih =>
      intro h hl
      have he := hl e (by simp)
      cases h with
      | zero => simp
      | succ h => rw [List.drop_succ_cons, ih h (fun el q => hl el (by simp [q])), List.flatten_cons, Nat.succ_mul, Nat.add_comm, ← List.drop_drop, show (e ++ L.flatten).drop esz = L.flatten by rw [← he]; simp]
  intro L l h hlh hh hl
  rw [dp _ _ (fun el q => hl el (List.mem_of_mem_take q)), tk _ _ hl, List.drop_take, ← Nat.sub_mul]
/-- A part of a row. -/
theorem fz_part {esz t b off : Nat} {els : List (List EV)} {cap : Option Nat} (hx : SV θ (.fz t esz els) (.slice b off els.length cap)) (hm : MemS θ m m') {lo hi : Option Opd} (hlo : ∀ x, lo = some x → SV θ (ρ x) (ρ' x)) (hhi : ∀ x, hi = some x → SV θ (ρ x) (ρ' x)) {h l : Nat}
    (h1 : bound (hi.map ρ) els.length els.length = some h) (h2 : bound (lo.map ρ) 0 h = some l) (hh : h ≤ els.length) (hl : l ≤ h) :
    ∃ v' , (match cap with
      | some c => ofEV m' (evSlice esz b off els.length (some c) (lo.map ρ') (hi.map ρ') none)
      | none => match m'.get b with
        | .cells _ e _ _ => bif e.beq esz then ofEV m' (evSlice esz b off els.length none (lo.map ρ') (hi.map ρ') none) else none
        | _ => none) = some (.val v' m') ∧ SV θ (.fz 0 esz ((els.take h).drop l)) v' := by
  have h1' := bound_sim hhi h1
  have h2' := bound_sim hlo h2
  have hlen : ((els.take h).drop l).length = h - l := by rw [List.length_drop, List.length_take]; omega
  generalize hev : EV.slice b off els.length cap = y at hx
  cases hx with
  | fz0 ht =>
    cases hev
    simp only [List.length_nil] at h1 h1' hh
    obtain rfl : h = 0 := by omega
    obtain rfl : l = 0 := by omega
    simp only [List.length_nil, evSlice, bound_none, h1', h2', ofEV, Option.map_some]
    refine ⟨_, rfl, ?_⟩
    simp only [Nat.beq_refl, cond_true, Nat.sub_self, List.take_nil, List.drop_nil]
    exact .fz0 (.inl rfl)
  | fz hr ht hc =>
    cases hev
    cases hr with
    | @mk _ _ _ _ _ k cs ro hs hle hn hxs =>
    have hx' : SVs θ.low ((els.take h).drop l).flatten ((cs.drop (off + l * esz)).take (((els.take h).drop l).length * esz)) := by
      rw [hlen, flatten_seg els l h hl hh hle]
      have q := (hxs.drop (l * esz)).take ((h - l) * esz)
      have : l * esz + (h - l) * esz ≤ els.length * esz := by rw [← Nat.add_mul]; exact Nat.mul_le_mul_right _ (by omega)
      rw [List.drop_take, List.drop_drop, List.take_take, Nat.min_eq_left (by omega)] at q
      exact q
    have hn' : off + l * esz + ((els.take h).drop l).length * esz ≤ cs.length := by
      have : l * esz + (h - l) * esz ≤ els.length * esz := by rw [← Nat.add_mul]; exact Nat.mul_le_mul_right _ (by omega)
      rw [hlen]; omega
    have hr : SR θ esz ((els.take h).drop l) b (off + l * esz) := .mk hs (fun el q => hle el (List.mem_of_mem_take (List.mem_of_mem_drop q))) hn' hx'
    cases cap with
    | some c =>
      have hcl := hc c rfl
      have g1 : bound (hi.map ρ') els.length c = some h := by
        cases hi with
        | none => simp only [Option.map_none, bound, Option.some.injEq] at h1' ⊢; exact h1'
        | some x =>
          simp only [Option.map_some] at h1' ⊢
          generalize ρ' x = w at h1'
          unfold bound at h1' ⊢
          split at h1'
          · rename_i e; cases e
          · rename_i e; cases e
            rename_i i
            cases hb : i.ble els.length <;> simp only [hb, cond_true, cond_false, reduceCtorEq, Option.some.injEq] at h1'
            have := Nat.le_of_ble_eq_true hb
            subst h1'
            simp only [Nat.ble_eq_true_of_le (show i ≤ c by omega), cond_true]
          · cases h1'
      simp only [evSlice, bound_none, g1, h2', ofEV, Option.map_some]
      refine ⟨_, rfl, ?_⟩
      by_cases hcl' : c = l
      · subst hcl'
        obtain rfl : h = c := by omega
        simp only [Nat.beq_refl, cond_true, Nat.sub_self]
        have : (els.take h).drop h = [] := List.eq_nil_of_length_eq_zero (by rw [hlen]; omega)
        rw [this]; exact .fz0 (.inl rfl)
      · simp only [beq_ff hcl', cond_false]
        have := SV.fz (t := 0) (cap := some (c - l)) hr (.inl rfl) (fun q e => by cases e; rw [hlen]; omega)
        rw [hlen] at this; exact this
    | none =>
      simp only [hm.sta _ _ hs, Nat.beq_refl, cond_true, evSlice, bound_none, h1', h2', ofEV, Option.map_some]
      refine ⟨_, rfl, ?_⟩
      have := SV.fz (t := 0) (cap := none) hr (.inl rfl) (fun q e => by cases e)
      rw [hlen] at this; exact this
theorem bound_le {x : Option EV} {d most i : Nat} (h : bound x d most = some i) (hd : d ≤ most) : i ≤ most := by
  unfold bound at h
  split at h
  · cases h; exact hd
  · rename_i kk i'
    cases hb : i'.ble most <;> simp only [hb, cond_true, cond_false, reduceCtorEq, Option.some.injEq] at h
    rw [← h]; exact Nat.le_of_ble_eq_true hb
  · cases h
theorem append_sim (hm : MemS θ m m') (k : TieOk θ n n') (f : Fresh θ m.next m'.next) {elem esz : Nat} {s s' x x' : EV} (hs : SV θ s s') (hx : SV θ x x') (h : evAppend m elem esz s x = some (v, m1)) : OpS θ m m' v m1 (ofEM (evAppend m' elem esz s' x')) := by
  unfold evAppend at h ⊢
  cases hsrc : m.source esz x with
  | none => simp [hsrc] at h
  | some q =>
    obtain ⟨N, xs⟩ := q
    obtain ⟨xs', hsrc', hxs⟩ := source_sim hm hx hsrc
    simp only [hsrc, hsrc'] at h ⊢
    cases h0 : N.beq 0 <;> simp only [h0, cond_true, cond_false] at h ⊢
    · cases hs <;> simp only [reduceCtorEq] at h
      case nilslice =>
        cases hr : N.ble room <;> simp only [hr, cond_true, cond_false, reduceCtorEq, Option.some.injEq, Prod.mk.injEq] at h
        obtain ⟨rfl, rfl⟩ := h
        exact OpS.new hm f ⟨xs', rfl, hxs.ext f.ext⟩ (.slice more_at)
      case slice b c off len cap hb =>
        cases hr : (len + N).ble room <;> simp only [hr, cond_true, cond_false, reduceCtorEq] at h ⊢
        cases hrow : m.row b off (len * esz) with
        | none => simp [hrow] at h
        | some old =>
          obtain ⟨old', hrow', hold⟩ := row_sim hm hb hrow
          simp only [hrow, hrow'] at h ⊢
          cases cap with
          | some cp =>
            simp only at h ⊢
            cases hc : (len + N).ble cp <;> simp only [hc, cond_true, cond_false] at h ⊢
            · simp only [Option.some.injEq, Prod.mk.injEq] at h
              obtain ⟨rfl, rfl⟩ := h
              exact OpS.new hm f ⟨_, rfl, (hold.append hxs).ext f.ext⟩ (.slice more_at)
            · obtain ⟨m2, hw, he⟩ := Option.map_eq_some_iff.1 h
              simp only [Prod.mk.injEq] at he
              obtain ⟨rfl, rfl⟩ := he
              obtain ⟨m2', hw', h2, h3, h4, h5⟩ := write_sim hm k hb hxs hw
              refine ⟨_, m2', by simp only [hw', Option.map_some, ofEM], .inl ⟨.slice hb, h2, h3, h4⟩, fun d _ hd => h5 d fun e => hd b (e ▸ hb)⟩
          | none =>
            simp only at h ⊢
            have hB := hm.blk b c hb
            cases hg : m.get b with
            | dead => simp [hg] at h
            | map es => simp [hg] at h
            | cells cs e t ro =>
              rw [hg] at hB
              obtain ⟨cs', hg', _⟩ := hB
              cases ro with
              | true => simp [hg] at h
              | false =>
              simp only [hg, hg'] at h ⊢
              cases he : e.beq esz <;> simp only [he, cond_true, cond_false, reduceCtorEq, Option.some.injEq, Prod.mk.injEq] at h ⊢
              obtain ⟨rfl, rfl⟩ := h
              have hmo := hm.more f (B := .cells (old ++ xs) esz elem false) (B' := .cells (old' ++ xs') esz elem false) ⟨_, rfl, (hold.append hxs).ext f.ext⟩
              have k2 := k.more f (k := max n (m.next + 1)) (k' := max n' (m'.next + 1)) (by omega) (by omega) (by omega) (by omega)
              refine ⟨_, _, rfl, .inr ⟨.slice more_at, hmo.set k2 (f.ext.ren b c hb) (B := .dead) (B' := .dead) trivial, rfl, rfl⟩, fun d hd hd' => ?_⟩
              have hdc : d ≠ c := fun q => hd' b (q ▸ hb)
              rw [get_set_ne hdc, get_new, if_neg hd]
    · cases hs <;> simp only [reduceCtorEq, Option.some.injEq, Prod.mk.injEq] at h
      case nilslice => obtain ⟨rfl, rfl⟩ := h; exact OpS.here hm rfl .nilslice
      case slice hb => obtain ⟨rfl, rfl⟩ := h; exact OpS.here hm rfl (.slice hb)
      case fz c a b => obtain ⟨rfl, rfl⟩ := h; exact OpS.here hm rfl (.fz a b c)
      case fz0 ht => obtain ⟨rfl, rfl⟩ := h; exact OpS.here hm rfl (.fz0 ht)
theorem copy_sim (hm : MemS θ m m') (k : TieOk θ n n') {esz : Nat} {s s' x x' : EV} (hs : SV θ s s') (hx : SV θ x x') (h : evCopy m esz s x = some (v, m1)) : OpS θ m m' v m1 (ofEM (evCopy m' esz s' x')) := by
  unfold evCopy at h ⊢
  cases hs <;> simp only [reduceCtorEq] at h
  case nilslice =>
    obtain ⟨q, hq, he⟩ := Option.map_eq_some_iff.1 h
    obtain ⟨xs', hsrc', _⟩ := source_sim hm hx hq
    simp only [Prod.mk.injEq] at he
    obtain ⟨rfl, rfl⟩ := he
    simp only [hsrc', Option.map_some]
    exact OpS.here hm rfl (.int _ _)
  case slice b c off len cap hb =>
    cases hsrc : m.source esz x with
    | none => simp [hsrc] at h
    | some q =>
      obtain ⟨N, xs⟩ := q
      obtain ⟨xs', hsrc', hxs⟩ := source_sim hm hx hsrc
      simp only [hsrc, hsrc'] at h ⊢
      obtain ⟨m2, hw, he⟩ := Option.map_eq_some_iff.1 h
      simp only [Prod.mk.injEq] at he
      obtain ⟨rfl, rfl⟩ := he
      obtain ⟨m2', hw', h2, h3, h4, h5⟩ := write_sim hm k hb (hxs.take _) hw
      exact ⟨_, m2', by simp only [hw', Option.map_some, ofEM], .inl ⟨.int _ _, h2, h3, h4⟩, fun d _ hd => h5 d fun e => hd b (e ▸ hb)⟩
theorem op_sim (hρ : OpsS θ ρ ρ') (hm : MemS θ m m') (k : TieOk θ n n') (f : Fresh θ m.next m'.next) {op : IOp} (hok : okOp op = true) (h : evOp ρ op m = some (.val v m1)) : OpS θ m m' v m1 (evOp ρ' op m') := by
  cases op <;> simp only [okOp, opds, okZero, List.all_cons, List.all_nil, List.all_append, Bool.and_true, Bool.true_and, Bool.and_eq_true] at hok <;> simp only [evOp] at h ⊢
  case mov x => obtain ⟨rfl, rfl⟩ := val_inv h; exact .here hm rfl (hρ x hok)
  case pick c a b =>
    have hc := hρ c hok.1
    generalize ρ c = y at hc h; generalize ρ' c = y' at hc
    cases hc <;> simp only [reduceCtorEq] at h ⊢
    rename_i t
    obtain ⟨rfl, rfl⟩ := val_inv h
    cases t
    · exact .here hm rfl (hρ b hok.2.2)
    · exact .here hm rfl (hρ a hok.2.1)
  case alloc e z =>
    obtain ⟨rfl, rfl⟩ := val_inv h
    exact .new hm f ⟨z, rfl, SVs.of_flat hok⟩ (.ptr more_at)
  case box e x =>
    have hx := hρ x hok
    cases hc : (ρ x).cells with
    | none => simp [hc] at h
    | some cs =>
      obtain ⟨cs', hc', hs⟩ := hx.cells hc
      simp only [hc, hc'] at h ⊢
      obtain ⟨rfl, rfl⟩ := val_inv h
      rw [← hs.length]
      exact .new hm f ⟨cs', rfl, hs.ext f.ext⟩ (.ptr more_at)
  case build z ps =>
    obtain ⟨h1, rfl⟩ := ofEV_inv h
    obtain ⟨r, hr, rfl⟩ := Option.map_eq_some_iff.1 h1
    have hp : SVs θ ((ps.map fun p => (p.1, p.2.1, ρ p.2.2)).map (·.2.2)) ((ps.map fun p => (p.1, p.2.1, ρ' p.2.2)).map (·.2.2)) := by
      have := OpsS.list hρ hok.1
      rw [List.map_map, List.map_map] at this
      rw [List.map_map, List.map_map]; exact this
    obtain ⟨r', hr', hs⟩ := fill_sim _ (ps.map fun p => (p.1, p.2.1, ρ' p.2.2)) _ _ _ (by simp [Function.comp_def]) hp (SVs.of_flat hok.2) hr
    simp only [hr', Option.map_some, ofEV]
    exact .here hm rfl (.agg hs)
  case bslice e esz len z ps =>
    cases hr : fillIn (copies len z) (ps.map fun p => (p.1 * esz, esz, ρ p.2)) with
    | none => simp [hr] at h
    | some r =>
      have hp : SVs θ ((ps.map fun p => (p.1 * esz, esz, ρ p.2)).map (·.2.2)) ((ps.map fun p => (p.1 * esz, esz, ρ' p.2)).map (·.2.2)) := by
        have := OpsS.list hρ hok.1
        rw [List.map_map, List.map_map] at this
        rw [List.map_map, List.map_map]; exact this
      obtain ⟨r', hr', hs⟩ := fill_sim _ (ps.map fun p => (p.1 * esz, esz, ρ' p.2)) _ _ _ (by simp [Function.comp_def]) hp (SVs.of_flat (flat_flatten hok.2 len)) hr
      simp only [hr, hr'] at h ⊢
      obtain ⟨rfl, rfl⟩ := val_inv h
      exact .new hm f ⟨r', rfl, hs.ext f.ext⟩ (.slice more_at)
  case load g a =>
    obtain ⟨h1, rfl⟩ := ofEV_inv h
    obtain ⟨v', hl, hv⟩ := load_sim hm (hρ a hok) h1
    simp only [hl, ofEV, Option.map_some]
    exact .here hm rfl hv
  case store size a x =>
    obtain ⟨h1, rfl⟩ := ofM_inv h
    obtain ⟨m1', hs, h2, h3, h4, h5⟩ := store_sim hm k (hρ a hok.1) (hρ x hok.2) h1
    exact ⟨_, m1', by simp only [hs, ofM, Option.map_some], .inl ⟨.undef, h2, h3, h4⟩, fun c _ hc => h5 c hc⟩
  case nilck x =>
    have hx := hρ x hok
    generalize ρ x = y at hx h; generalize ρ' x = y' at hx
    cases hx <;> simp only [reduceCtorEq] at h ⊢ <;> obtain ⟨rfl, rfl⟩ := val_inv h
    case ptr hb => exact .here hm rfl (.ptr hb)
    case func h1 h2 => exact .here hm rfl (.func h1 h2)
    case iface h1 => exact .here hm rfl (.iface h1)
    case fptr h2 h3 h1 => exact .here hm rfl (.fptr h1 h2 h3)
  case bin op x y =>
    obtain ⟨h1, rfl⟩ := ofEV_inv h
    obtain ⟨f1, f2, f3⟩ := bin_flat h1
    rw [(hρ x hok.1).flat f1, (hρ y hok.2).flat f2, h1]
    exact .here hm rfl (SV.of_flat f3)
  case eq neg t x y =>
    obtain ⟨h1, rfl⟩ := ofEV_inv h
    obtain ⟨b, hb, rfl⟩ := Option.map_eq_some_iff.1 h1
    rw [eq_sim t (hρ x hok.1) (hρ y hok.2) hb]
    exact .here hm rfl (.bool _)
  case un op x =>
    obtain ⟨h1, rfl⟩ := ofEV_inv h
    obtain ⟨f1, f2⟩ := un_flat h1
    rw [(hρ x hok).flat f1, h1]
    exact .here hm rfl (SV.of_flat f2)
  case conv c x =>
    have hx := hρ x hok
    unfold ofEM at h
    obtain ⟨q, hq, he⟩ := Option.map_eq_some_iff.1 h
    obtain ⟨q1, q2⟩ := q
    cases he
    generalize ρ x = y at hx hq; generalize ρ' x = y' at hx
    cases c with
    | int kk =>
      cases hx <;> simp only [evConv, reduceCtorEq, Option.some.injEq, Prod.mk.injEq] at hq ⊢
      obtain ⟨rfl, rfl⟩ := hq
      exact .here hm rfl (.int _ _)
    | same =>
      cases hx <;> simp only [evConv, reduceCtorEq, Option.some.injEq, Prod.mk.injEq] at hq ⊢
      obtain ⟨rfl, rfl⟩ := hq
      exact .here hm rfl (.str _)
    | bytes e =>
      cases hx <;> simp only [evConv, reduceCtorEq, Option.some.injEq, Prod.mk.injEq] at hq ⊢
      obtain ⟨rfl, rfl⟩ := hq
      exact .new hm f ⟨_, rfl, SVs.map _ _ fun a _ => .int _ _⟩ (.slice more_at)
    | text =>
      cases hx <;> simp only [evConv, reduceCtorEq, Option.some.injEq, Prod.mk.injEq] at hq ⊢
      case nilslice => obtain ⟨rfl, rfl⟩ := hq; exact .here hm rfl (.str _)
      case slice b c off len cap hb =>
        cases hr : m.row b off len with
        | none => simp [hr] at hq
        | some cs =>
          obtain ⟨cs', hr', hs⟩ := row_sim hm hb hr
          simp only [hr, hr'] at hq ⊢
          obtain ⟨s, hs1, he⟩ := Option.map_eq_some_iff.1 hq
          cases he
          rw [hs.flat (bytes_flat hs1), hs1]
          exact .here hm rfl (.str _)
  case iface t x => obtain ⟨rfl, rfl⟩ := val_inv h; exact .here hm rfl (.iface (hρ x hok))
  case mkfn g a c =>
    obtain ⟨rfl, rfl⟩ := val_inv h
    exact .here hm rfl (.func (OpsS.list hρ hok.1) (OpsS.list hρ hok.2))
  case mkmap =>
    obtain ⟨rfl, rfl⟩ := val_inv h
    exact .new hm f ⟨[], rfl, .nil⟩ (.map more_at)
  case mkslice e esz z len cap =>
    have hl := hρ len hok.1.1
    have hc := hρ cap hok.1.2
    generalize ρ len = a at hl h; generalize ρ' len = a' at hl
    generalize ρ cap = b at hc h; generalize ρ' cap = b' at hc
    split at h
    · rename_i l c
      have := int_of hl; have := int_of hc; subst_vars
      simp only
      cases hb : (bif l.ble c then c.ble room else false) <;> simp only [hb, cond_true, cond_false, reduceCtorEq] at h ⊢
      obtain ⟨rfl, rfl⟩ := val_inv h
      exact .new hm f ⟨_, rfl, SVs.of_flat (flat_flatten hok.2 c)⟩ (.slice more_at)
    · cases h
  case slstr x lo hi =>
    have hx := hρ x hok.1
    have hlo := all_optl hok.2.1 hρ
    have hhi := all_optl hok.2.2 hρ
    generalize ρ x = y at hx h; generalize ρ' x = y' at hx
    cases hx <;> simp only [reduceCtorEq] at h ⊢
    rename_i s
    cases h1 : bound (hi.map ρ) s.length s.length with
    | none => simp [h1] at h
    | some q =>
      rw [bound_sim hhi h1]; simp only [h1] at h ⊢
      cases h2 : bound (lo.map ρ) 0 q with
      | none => simp [h2] at h
      | some l =>
        rw [bound_sim hlo h2]; simp only [h2] at h ⊢
        obtain ⟨rfl, rfl⟩ := val_inv h
        exact .here hm rfl (.str _)
  case slsl esz x lo hi mx =>
    have hx := hρ x hok.1
    have hlo := all_optl hok.2.1 hρ
    have hhi := all_optl hok.2.2.1 hρ
    have hmx := all_optl hok.2.2.2 hρ
    generalize hy : ρ x = y at hx h; generalize hy' : ρ' x = y' at hx
    have fzc : ∀ (t e : Nat) (els : List (List EV)) (b off : Nat) (cap : Option Nat), SV θ (.fz t e els) (.slice b off els.length cap) → (match mx with
      | none => bif e.beq esz then match bound (hi.map ρ) els.length els.length with
          | some h => match bound (lo.map ρ) 0 h with
            | some l => some (R1.val (.fz 0 e ((els.take h).drop l)) m)
            | none => none
          | none => none
        else none
      | some _ => none) = some (.val v m1) → OpS θ m m' v m1 (match cap with
      | some c => ofEV m' (evSlice esz b off els.length (some c) (lo.map ρ') (hi.map ρ') (mx.map ρ'))
      | none => match m'.get b with
        | .cells _ e _ _ => bif e.beq esz then ofEV m' (evSlice esz b off els.length none (lo.map ρ') (hi.map ρ') (mx.map ρ')) else none
        | _ => none) := by
      intro t e els b off cap hsv hh
      cases mx with
      | some x => cases hh
      | none =>
        simp only at hh
        cases he : e.beq esz <;> simp only [he, cond_true, cond_false, reduceCtorEq] at hh
        obtain rfl := of_beq he
        cases h1 : bound (hi.map ρ) els.length els.length with
        | none => simp [h1] at hh
        | some q =>
          simp only [h1] at hh
          cases h2 : bound (lo.map ρ) 0 q with
          | none => simp [h2] at hh
          | some l =>
            simp only [h2] at hh
            obtain ⟨rfl, rfl⟩ := val_inv hh
            obtain ⟨v', e1, e2⟩ := fz_part hsv hm hlo hhi h1 h2 (bound_le h1 (Nat.le_refl _)) (bound_le h2 (Nat.zero_le _))
            rw [show (Option.map ρ' none : Option EV) = none from rfl, e1]
            exact .here hm rfl e2
    cases hx <;> (try simp only [reduceCtorEq] at h ⊢)
    case nilslice =>
      cases h1 : bound (mx.map ρ) 0 0 with
      | none => simp [h1] at h
      | some a =>
        cases h2 : bound (hi.map ρ) 0 0 with
        | none => simp [h1, h2] at h
        | some b =>
          cases h3 : bound (lo.map ρ) 0 0 with
          | none => simp [h1, h2, h3] at h
          | some c =>
            rw [bound_sim hmx h1, bound_sim hhi h2, bound_sim hlo h3]
            simp only [h1, h2, h3] at h ⊢
            obtain ⟨rfl, rfl⟩ := val_inv h
            exact .here hm rfl .nilslice
    case slice b c off len cap hb =>
      cases cap with
      | some cp =>
        simp only at h ⊢
        obtain ⟨h1, rfl⟩ := ofEV_inv h
        obtain ⟨v', e1, e2⟩ := evSlice_sim (θ' := θ) hb hlo hhi hmx h1
        rw [e1]
        exact .here hm rfl e2
      | none =>
        simp only at h ⊢
        have hB := hm.blk b c hb
        cases hg : m.get b with
        | dead => simp [hg] at h
        | map es => simp [hg] at h
        | cells cs e t ro =>
          rw [hg] at hB
          obtain ⟨cs', hg', _⟩ := hB
          simp only [hg, hg'] at h ⊢
          cases he : e.beq esz <;> simp only [he, cond_true, cond_false, reduceCtorEq] at h ⊢
          obtain ⟨h1, rfl⟩ := ofEV_inv h
          obtain ⟨v', e1, e2⟩ := evSlice_sim (θ' := θ) hb hlo hhi hmx h1
          rw [e1]
          exact .here hm rfl e2
    case fz t e els b off cap h3 h1 h2 =>
      have := fzc t e els b off cap (.fz h1 h2 h3) h
      cases cap <;> exact this
    case fz0 t e b off ht =>
      exact fzc t e [] b off (some 0) (.fz0 ht) h
  case slarr N esz x lo hi mx =>
    have hx := hρ x hok.1
    have hlo := all_optl hok.2.1 hρ
    have hhi := all_optl hok.2.2.1 hρ
    have hmx := all_optl hok.2.2.2 hρ
    generalize ρ x = y at hx h; generalize ρ' x = y' at hx
    cases hx <;> simp only [reduceCtorEq] at h ⊢
    rename_i hb
    obtain ⟨h1, rfl⟩ := ofEV_inv h
    obtain ⟨v', e1, e2⟩ := evSlice_sim (θ' := θ) hb hlo hhi hmx h1
    rw [e1]
    exact .here hm rfl e2
  case faddr off x =>
    have hx := hρ x hok
    generalize ρ x = y at hx h; generalize ρ' x = y' at hx
    cases hx <;> simp only [reduceCtorEq] at h ⊢ <;> obtain ⟨rfl, rfl⟩ := val_inv h
    case ptr hb => exact .here hm rfl (.ptr hb)
    case fptr h2 h3 h1 => exact .here hm rfl (.fptr h1 h2 (by omega))
  case fld g off x =>
    have hx := hρ x hok
    generalize ρ x = y at hx h; generalize ρ' x = y' at hx
    cases hx <;> simp only [reduceCtorEq] at h ⊢
    rename_i hs
    obtain ⟨h1, rfl⟩ := ofEV_inv h
    obtain ⟨v', e1, e2⟩ := hs.part h1
    rw [e1]
    exact .here hm rfl e2
  case iaddr esz x i =>
    have hx := hρ x hok.1
    have hi := hρ i hok.2
    generalize ρ x = y at hx h; generalize ρ' x = y' at hx
    cases hx <;> simp only [reduceCtorEq] at h ⊢
    case slice b c off len cap hb =>
      cases hj : idx len (ρ i) with
      | none => simp [hj] at h
      | some j =>
        rw [idx_sim hi hj]; simp only [hj] at h ⊢
        obtain ⟨rfl, rfl⟩ := val_inv h
        exact .here hm rfl (.ptr hb)
    case fz t e els b off cap hc hr ht =>
      cases he : e.beq esz <;> simp only [he, cond_true, cond_false, reduceCtorEq] at h
      obtain rfl := of_beq he
      cases hj : idx els.length (ρ i) with
      | none => simp [hj] at h
      | some j =>
        rw [idx_sim hi hj]; simp only [hj] at h ⊢
        obtain ⟨rfl, rfl⟩ := val_inv h
        refine .here hm rfl (.fptr hr ?_ rfl)
        unfold idx at hj
        split at hj
        · rename_i j' _
          cases hb : (j' + 1).ble els.length <;> simp only [hb, cond_true, cond_false, reduceCtorEq, Option.some.injEq] at hj
          subst hj; exact Nat.le_of_ble_eq_true hb
        · cases hj
    case fz0 t e b off ht =>
      cases he : e.beq esz <;> simp only [he, cond_true, cond_false, reduceCtorEq] at h
      cases hj : idx 0 (ρ i) with
      | none => simp [hj] at h
      | some j =>
        unfold idx at hj
        split at hj
        · exact absurd (show (none : Option Nat) = some j from hj) (by simp)
        · cases hj
  case iaddrArr N esz x i =>
    have hx := hρ x hok.1
    have hi := hρ i hok.2
    generalize ρ x = y at hx h; generalize ρ' x = y' at hx
    cases hx <;> simp only [reduceCtorEq] at h ⊢
    rename_i hb
    cases hj : idx N (ρ i) with
    | none => simp [hj] at h
    | some j =>
      rw [idx_sim hi hj]; simp only [hj] at h ⊢
      obtain ⟨rfl, rfl⟩ := val_inv h
      exact .here hm rfl (.ptr hb)
  case idxstr x i =>
    have hx := hρ x hok.1
    have hi := hρ i hok.2
    generalize ρ x = y at hx h; generalize ρ' x = y' at hx
    cases hx <;> simp only [reduceCtorEq] at h ⊢
    rename_i s
    cases hj : idx s.length (ρ i) with
    | none => simp [hj] at h
    | some j =>
      rw [idx_sim hi hj]; simp only [hj] at h ⊢
      cases hs : s[j]? with
      | none => simp [hs] at h
      | some c =>
        simp only [hs] at h ⊢
        obtain ⟨rfl, rfl⟩ := val_inv h
        exact .here hm rfl (.int _ _)
  case idxagg N esz g x i =>
    have hx := hρ x hok.1
    have hi := hρ i hok.2
    generalize ρ x = y at hx h; generalize ρ' x = y' at hx
    cases hx <;> simp only [reduceCtorEq] at h ⊢
    rename_i hs
    cases hj : idx N (ρ i) with
    | none => simp [hj] at h
    | some j =>
      rw [idx_sim hi hj]; simp only [hj] at h ⊢
      obtain ⟨h1, rfl⟩ := ofEV_inv h
      obtain ⟨v', e1, e2⟩ := hs.part h1
      rw [e1]
      exact .here hm rfl e2
  case lookup kt z ok mp key =>
    have hx := hρ mp hok.1.1
    have hk := hρ key hok.1.2
    have hz : SV θ z z := SV.of_flat hok.2
    have hzk : SV θ (bif ok then .tuple [z, .bool false] else z) (bif ok then .tuple [z, .bool false] else z) := by
      cases ok
      · exact hz
      · exact .tuple (.cons hz (.cons (.bool _) .nil))
    generalize ρ mp = y at hx h; generalize ρ' mp = y' at hx
    cases hx <;> simp only [reduceCtorEq] at h ⊢
    case nilmap =>
      cases hki : keyIs kt (ρ key) <;> simp only [hki, cond_true, cond_false, reduceCtorEq] at h
      rw [hk.flat (sort_flat (key_sort hki)), hki]
      obtain ⟨rfl, rfl⟩ := val_inv h
      exact .here hm rfl hzk
    case map b c hb =>
      have hB := hm.blk b c hb
      cases hg : m.get b with
      | dead => simp [hg] at h
      | cells cs e t ro => simp [hg] at h
      | map es =>
        rw [hg] at hB
        obtain ⟨es', hg', hes⟩ := hB
        simp only [hg, hg'] at h ⊢
        cases hko : keysOk kt (ρ key) es <;> simp only [hko, cond_true, cond_false, reduceCtorEq] at h
        unfold keysOk at hko
        cases hki : keyIs kt (ρ key) <;> simp only [hki, cond_true, cond_false, Bool.false_eq_true] at hko
        obtain ⟨g1, g2⟩ := sorts_sim (key_sort hki) hes hko
        obtain ⟨f1, f2⟩ := find_sim (k := ρ key) hes g1
        rw [hk.flat (sort_flat (key_sort hki))]
        simp only [keysOk, hki, g2, cond_true]
        cases hf : find (ρ key) es with
        | none =>
          rw [f2 hf]; simp only [hf] at h ⊢
          obtain ⟨rfl, rfl⟩ := val_inv h
          exact .here hm rfl hzk
        | some w =>
          obtain ⟨w', e1, e2⟩ := f1 w hf
          rw [e1]; simp only [hf] at h ⊢
          obtain ⟨rfl, rfl⟩ := val_inv h
          refine .here hm rfl ?_
          cases ok
          · exact e2
          · exact .tuple (.cons e2 (.cons (.bool _) .nil))
  case mapupd kt mp key x =>
    have hx := hρ mp hok.1
    have hk := hρ key hok.2.1
    have hv := hρ x hok.2.2
    generalize ρ mp = y at hx h; generalize ρ' mp = y' at hx
    cases hx <;> simp only [reduceCtorEq] at h ⊢
    case map b c hb =>
      have hB := hm.blk b c hb
      cases hg : m.get b with
      | dead => simp [hg] at h
      | cells cs e t ro => simp [hg] at h
      | map es =>
        rw [hg] at hB
        obtain ⟨es', hg', hes⟩ := hB
        simp only [hg, hg'] at h ⊢
        cases hko : keysOk kt (ρ key) es <;> simp only [hko, cond_true, cond_false, reduceCtorEq] at h
        unfold keysOk at hko
        cases hki : keyIs kt (ρ key) <;> simp only [hki, cond_true, cond_false, Bool.false_eq_true] at hko
        obtain ⟨g1, g2⟩ := sorts_sim (key_sort hki) hes hko
        have hkk := hk.flat (sort_flat (key_sort hki))
        have hu := update_sim hk hv hkk hes g1
        rw [hkk] at hu ⊢
        simp only [keysOk, hki, g2, cond_true]
        obtain ⟨rfl, rfl⟩ := val_inv h
        exact ⟨_, _, rfl, .inl ⟨.undef, hm.set k hb ⟨_, rfl, hu⟩, rfl, rfl⟩, fun d _ hd => get_set_ne fun e => hd b (e ▸ hb)⟩
  case delete kt mp key =>
    have hx := hρ mp hok.1
    have hk := hρ key hok.2
    generalize ρ mp = y at hx h; generalize ρ' mp = y' at hx
    cases hx <;> simp only [reduceCtorEq] at h ⊢
    case nilmap =>
      cases hki : keyIs kt (ρ key) <;> simp only [hki, cond_true, cond_false, reduceCtorEq] at h
      rw [hk.flat (sort_flat (key_sort hki)), hki]
      obtain ⟨rfl, rfl⟩ := val_inv h
      exact .here hm rfl (.tuple .nil)
    case map b c hb =>
      have hB := hm.blk b c hb
      cases hg : m.get b with
      | dead => simp [hg] at h
      | cells cs e t ro => simp [hg] at h
      | map es =>
        rw [hg] at hB
        obtain ⟨es', hg', hes⟩ := hB
        simp only [hg, hg'] at h ⊢
        cases hko : keysOk kt (ρ key) es <;> simp only [hko, cond_true, cond_false, reduceCtorEq] at h
        unfold keysOk at hko
        cases hki : keyIs kt (ρ key) <;> simp only [hki, cond_true, cond_false, Bool.false_eq_true] at hko
        obtain ⟨g1, g2⟩ := sorts_sim (key_sort hki) hes hko
        have hkk := hk.flat (sort_flat (key_sort hki))
        rw [hkk]
        simp only [keysOk, hki, g2, cond_true]
        obtain ⟨rfl, rfl⟩ := val_inv h
        exact ⟨_, _, rfl, .inl ⟨.tuple .nil, hm.set k hb ⟨_, rfl, erase_sim hes g1⟩, rfl, rfl⟩, fun d _ hd => get_set_ne fun e => hd b (e ▸ hb)⟩
  case lenmap mp =>
    have hx := hρ mp hok
    generalize ρ mp = y at hx h; generalize ρ' mp = y' at hx
    cases hx <;> simp only [reduceCtorEq] at h ⊢
    case nilmap => obtain ⟨rfl, rfl⟩ := val_inv h; exact .here hm rfl (.int _ _)
    case map b c hb =>
      have hB := hm.blk b c hb
      cases hg : m.get b with
      | dead => simp [hg] at h
      | cells cs e t ro => simp [hg] at h
      | map es =>
        rw [hg] at hB
        obtain ⟨es', hg', hes⟩ := hB
        simp only [hg, hg', hes.len] at h ⊢
        obtain ⟨rfl, rfl⟩ := val_inv h
        exact .here hm rfl (.int _ _)
  case tassert t x =>
    have hx := hρ x hok
    generalize ρ x = y at hx h; generalize ρ' x = y' at hx
    cases hx <;> simp only [reduceCtorEq] at h ⊢
    rename_i u _ _ hs
    cases hb : t.beq u <;> simp only [hb, cond_true, cond_false, reduceCtorEq] at h ⊢
    obtain ⟨rfl, rfl⟩ := val_inv h
    exact .here hm rfl hs
  case extract x i =>
    have hx := hρ x hok
    generalize ρ x = y at hx h; generalize ρ' x = y' at hx
    cases hx <;> simp only [reduceCtorEq] at h ⊢
    rename_i hs
    obtain ⟨h1, rfl⟩ := ofEV_inv h
    obtain ⟨v', e1, e2⟩ := hs.get h1
    rw [e1]
    exact .here hm rfl e2
  case len x =>
    have hx := hρ x hok
    generalize ρ x = y at hx h; generalize ρ' x = y' at hx
    cases hx <;> simp only [reduceCtorEq] at h ⊢ <;> obtain ⟨rfl, rfl⟩ := val_inv h <;> exact .here hm rfl (.int _ _)
  case lenstr x =>
    have hx := hρ x hok
    generalize ρ x = y at hx h; generalize ρ' x = y' at hx
    cases hx <;> simp only [reduceCtorEq] at h ⊢
    obtain ⟨rfl, rfl⟩ := val_inv h; exact .here hm rfl (.int _ _)
  case lenarr N => obtain ⟨rfl, rfl⟩ := val_inv h; exact .here hm rfl (.int _ _)
  case cap x =>
    have hx := hρ x hok
    generalize ρ x = y at hx h; generalize ρ' x = y' at hx
    cases hx <;> (try simp only [reduceCtorEq] at h ⊢)
    case nilslice => obtain ⟨rfl, rfl⟩ := val_inv h; exact .here hm rfl (.int _ _)
    case slice cap hb =>
      cases cap <;> simp only [reduceCtorEq] at h ⊢
      obtain ⟨rfl, rfl⟩ := val_inv h; exact .here hm rfl (.int _ _)
  case max args =>
    obtain ⟨h1, rfl⟩ := ofEV_inv h
    obtain ⟨f1, f2⟩ := max_flat h1
    rw [(OpsS.list hρ hok).flat f1, h1]
    exact .here hm rfl (SV.of_flat f2)
  case min args =>
    obtain ⟨h1, rfl⟩ := ofEV_inv h
    obtain ⟨f1, f2⟩ := min_flat h1
    rw [(OpsS.list hρ hok).flat f1, h1]
    exact .here hm rfl (SV.of_flat f2)
  case append e esz by_ s x =>
    unfold ofEM at h
    obtain ⟨q, hq, he⟩ := Option.map_eq_some_iff.1 h
    obtain ⟨q1, q2⟩ := q
    cases he
    exact append_sim hm k f (hρ s hok.1) (hρ x hok.2) hq
  case copy esz d s =>
    unfold ofEM at h
    obtain ⟨q, hq, he⟩ := Option.map_eq_some_iff.1 h
    obtain ⟨q1, q2⟩ := q
    cases he
    exact copy_sim hm k (hρ d hok.1) (hρ s hok.2) hq
end
end Go.Proofs.YtblcomejcahkdaaDoor.Ev
end
