/- EvSym, EvExt, EvT, EvHeap, EvDrw, EvFz, EvSub, EvFzOp, EvFzOps. -/
import Derived.Laws.Externs
import Derived.Lib.Bytealg
import Derived.KernelRfl
import Derived.Test.YtdiccmapankckaaDoorMd
set_option linter.unusedSimpArgs false
set_option linter.unusedVariables false
set_option linter.unusedSectionVars false
set_option linter.defProp false
set_option maxRecDepth 20000
set_option maxHeartbeats 8000000
namespace Go.Proofs.YtdiccmapankckaaDoor.Ev
open Go
section
def pz : Fr := ⟨.leaf, []⟩
theorem mb (t : Nat) : pz.get t = .undef := by unfold Fr.get pz; simp only [Tr.zD]; rfl
theorem nK : pz.defers = [] := rfl
def K0 (b : Bool) (v r : EV) : EV := bif b then v else r
@[congr] theorem UY {b b' : Bool} {v r : EV} (h : b = b') : K0 b v r = K0 b' v r := by rw [h]
theorem Ek {v r : EV} : K0 true v r = v := rfl
theorem vd (fr : Fr) (d t : Nat) (v : EV) : (fr.set d v).get t = K0 (t == d) v (fr.get t) := by
 rw [Fr.bY];by_cases h : t = d
 ·simp [K0, h]
 ·simp [K0, h, beq_eq_false_iff_ne.2 h]
theorem El {v r : EV} : K0 false v r = r := rfl
def aa : List EV -> Nat -> Fr -> Fr
 | [], _, fr => fr
 | v :: r, i, fr => aa r (i + 1) (fr.set i v)
theorem Aq : ∀ (l : List EV) (i : Nat) (t : Tr EV), aa l i ⟨t, []⟩ = ⟨cQ l i t, []⟩
 | [], i, t => rfl
 | v :: l, i, t => by simp only [aa, cQ, Fr.set]; exact Aq l (i + 1) _
theorem uR (fr : Fr) (d : Nat) (v : EV) : fr.put (some d) v = fr.set d v := rfl
theorem uS (fr : Fr) (v : EV) : fr.put none v = fr := rfl
theorem pj (fr : Fr) (d : Nat) (v : EV) : (fr.set d v).defers = fr.defers := rfl
theorem zR (fr : Fr) (t : Nat) : fr.eval (.tmp t) = fr.get t := rfl
theorem eval_const (fr : Fr) (v : EV) : fr.eval (.const v) = v := rfl
theorem wx (m : Mem) (v : EV) : gA m (some v) = some (.val v m) := rfl
theorem wy (m : Mem) (v : EV) : xn (some (v, m)) = some (.val v m) := rfl
theorem y7 (m : Mem) : ofM (some m) = some (.val .undef m) := rfl
@[congr] theorem T8 {o o' : Option R1} {k : EV -> Mem -> Option Out} (h : o = o') : gL o k = gL o' k := by rw [h]
@[congr] theorem Ue {o o' : Option Fin} {fr : Fr} {k : EV -> Mem -> Option Out} (h : o = o') : pZ o fr k = pZ o' fr k := by rw [h]
@[congr] theorem Uc {o o' : Option Out} {k : Fr -> Mem -> Option Out} (h : o = o') : my o k = my o' k := by rw [h]
theorem sF {v : EV} {m : Mem} {k : EV -> Mem -> Option Out} : gL (some (.val v m)) k = k v m := rfl
theorem vM {v : EV} {m : Mem} {fr : Fr} {k : EV -> Mem -> Option Out} : pZ (some (.ret v m)) fr k = k v m := rfl
theorem sH {fr : Fr} {m : Mem} {k : Fr -> Mem -> Option Out} : my (some (.norm fr m)) k = k fr m := rfl
theorem vK {fr : Fr} {m : Mem} {k : Fr -> Mem -> Option Out} : my (some (.ret fr m)) k = some (.ret fr m) := rfl
theorem sI {id : Nat} {fr : Fr} {m : Mem} {k : Fr -> Mem -> Option Out} : my (some (.exit id fr m)) k = some (.exit id fr m) := rfl
theorem tl {id : Nat} {fr : Fr} {m : Mem} : pu id (some (.norm fr m)) = some (.norm fr m) := rfl
theorem wE {id : Nat} {fr : Fr} {m : Mem} : pu id (some (.ret fr m)) = some (.ret fr m) := rfl
def KZ (b : Bool) (x y : Option Out) : Option Out := bif b then x else y
@[congr] theorem UX {b b' : Bool} {x y : Option Out} (h : b = b') : KZ b x y = KZ b' x y := by rw [h]
theorem Hp {x y : Option Out} : KZ true x y = x := rfl
theorem Hq {x y : Option Out} : KZ false x y = y := rfl
theorem tp {id j : Nat} {fr : Fr} {m : Mem} : pu id (some (.exit j fr m)) = KZ (j == id) (some (.norm fr m)) (some (.exit j fr m)) := by
 by_cases h : j = id
 ·subst h; simp [pu, KZ]
 ·simp [pu, KZ, j4 h, beq_eq_false_iff_ne.2 h]
def pO (rs : List mq) (o : Option Out) : Option Fin := match o with
 | some (.norm fr m) | some (.ret fr m) => match fr.defers with
  | [] => (bP fr m rs).map fun vs => .ret (one vs) m
  | _ => none
 | some (.gO v fr m) => match fr.defers with
  | [] => some (.gO v m)
  | _ => none
 | _ => none
theorem Hx (F : az) (o : Option Out) : s6 F o = pO F.results o := by cases o with | none => rfl | some o => cases o <;> rfl
theorem yS {rs : List mq} {fr : Fr} {m : Mem} : pO rs (some (.ret fr m)) = match fr.defers with | [] => (bP fr m rs).map fun vs => .ret (one vs) m | _ => none := rfl
theorem wg {rs : List mq} {fr : Fr} {m : Mem} : pO rs (some (.norm fr m)) = match fr.defers with | [] => (bP fr m rs).map fun vs => .ret (one vs) m | _ => none := rfl
theorem yT {rs : List mq} {fr : Fr} {m : Mem} {v : EV} : pO rs (some (.gO v fr m)) = match fr.defers with | [] => some (.gO v m) | _ => none := rfl
theorem Cy {fr : Fr} {m : Mem} : bP fr m [] = some [] := rfl
theorem Cw {fr : Fr} {m : Mem} {t : Nat} {rs : List mq} : bP fr m (.tmp t :: rs) = (bP fr m rs).map (fr.get t :: ·) := rfl
theorem CE (v : EV) : one [v] = v := rfl
theorem CD (v u : EV) (l : List EV) : one (v :: u :: l) = .tuple (v :: u :: l) := rfl
theorem CF : one [] = .tuple [] := rfl
section
variable {k l : IntKind} {a b : Int}
def Xl (k : IntKind) (x y : Int) : Int := k.wrap (BitVec.ofInt k.bits x &&& BitVec.ofInt k.bits y).toNat
def ior (k : IntKind) (x y : Int) : Int := k.wrap (BitVec.ofInt k.bits x ||| BitVec.ofInt k.bits y).toNat
def Xh (k : IntKind) (x y : Int) : Int := k.wrap (BitVec.ofInt k.bits x ^^^ BitVec.ofInt k.bits y).toNat
def Nh (k : IntKind) (x y : Int) : Int := k.wrap (BitVec.ofInt k.bits x &&& ~~~BitVec.ofInt k.bits y).toNat
theorem DP : eG .add (.int k a) (.int k b) = some (.int k (k.wrap (a + b))) := by simp only [eG, dW, cond_true, nM]
theorem DG : eG .sub (.int k a) (.int k b) = some (.int k (k.wrap (a - b))) := by simp only [eG, dW, cond_true, nM]
theorem DJ : eG .mul (.int k a) (.int k b) = some (.int k (k.wrap (a * b))) := by simp only [eG, dW, cond_true, nM]
theorem DI : eG .quo (.int k a) (.int k b) = if b = 0 then none else some (.int k (k.wrap (a.tdiv b))) := by simp only [eG, dW, cond_true, nM]
theorem DH : eG .rem (.int k a) (.int k b) = if b = 0 then none else some (.int k (a.tmod b)) := by simp only [eG, dW, cond_true, nM]
theorem DO : eG .and (.int k a) (.int k b) = some (.int k (Xl k a b)) := by simp only [eG, dW, cond_true, nM, rk, Option.map_some, Xl]
theorem Iv : eG .or (.int k a) (.int k b) = some (.int k (ior k a b)) := by simp only [eG, dW, cond_true, nM, rk, Option.map_some, ior]
theorem DF : eG .xor (.int k a) (.int k b) = some (.int k (Xh k a b)) := by simp only [eG, dW, cond_true, nM, rk, Option.map_some, Xh]
theorem uf : eG .andNot (.int k a) (.int k b) = some (.int k (Nh k a b)) := by simp only [eG, dW, cond_true, nM, rk, Option.map_some, Nh]
theorem DK : eG .lss (.int k a) (.int k b) = some (.bool (decide (a < b))) := by simp only [eG, dW, cond_true, nM]
theorem DL : eG .leq (.int k a) (.int k b) = some (.bool (decide (a <= b))) := by simp only [eG, dW, cond_true, nM]
theorem DM : eG .gtr (.int k a) (.int k b) = some (.bool (decide (b < a))) := by simp only [eG, dW, cond_true, nM]
theorem DN : eG .geq (.int k a) (.int k b) = some (.bool (decide (b <= a))) := by simp only [eG, dW, cond_true, nM]
theorem N3 : eG .shl (.int k a) (.int l b) = if b < 0 then none else some (.int k (k.wrap (a * 2 ^ min b.toNat k.bits))) := by simp only [eG, tJ]
theorem N2 : eG .shr (.int k a) (.int l b) = if b < 0 then none else some (.int k (a.fdiv (2 ^ min b.toNat k.bits))) := by simp only [eG, tJ]
theorem qY (h1 : 0 <= b) (h2 : b < 64) : eG .shl (.int .i64 a) (.int l b) = some (.int .i64 (IntKind.i64.wrap (a * 2 ^ b.toNat))) := by
 rw [N3, if_neg (by omega), show IntKind.i64.bits = 64 from rfl, Nat.min_eq_left (by omega)]
theorem qW (h1 : 0 <= b) (h2 : b < 64) : eG .shr (.int .i64 a) (.int l b) = some (.int .i64 (a.fdiv (2 ^ b.toNat))) := by
 rw [N2, if_neg (by omega), show IntKind.i64.bits = 64 from rfl, Nat.min_eq_left (by omega)]
theorem qX (h1 : 0 <= b) (h2 : b < 64) : eG .shl (.int .u64 a) (.int l b) = some (.int .u64 (IntKind.u64.wrap (a * 2 ^ b.toNat))) := by
 rw [N3, if_neg (by omega), show IntKind.u64.bits = 64 from rfl, Nat.min_eq_left (by omega)]
theorem qV (h1 : 0 <= b) (h2 : b < 64) : eG .shr (.int .u64 a) (.int l b) = some (.int .u64 (a.fdiv (2 ^ b.toNat))) := by
 rw [N2, if_neg (by omega), show IntKind.u64.bits = 64 from rfl, Nat.min_eq_left (by omega)]
theorem eq_int : eO (.aL 1) (.int k a) (.int k b) = some (decide (a = b)) := by simp only [eO, dU, dW, cond_true]
theorem Hj : E1 .neg (.int k a) = some (.int k (k.wrap (0 - a))) := rfl
theorem Im {m : Mem} : li (.int l) m (.int k a) = some (.int l (l.wrap a), m) := rfl
end
theorem zT {ρ : aZ -> EV} {m : Mem} (x : aZ) : aF ρ (.ab x) m = some (.val (ρ x) m) := rfl
theorem tR {ρ : aZ -> EV} {m : Mem} (zero : List EV) (parts : List (Nat × Nat × aZ)) : aF ρ (.build zero parts) m = gA m ((fu zero (parts.map fun p => (p.1, p.2.1, ρ p.2.2))).map .agg) := rfl
theorem wQ {ρ : aZ -> EV} {m : Mem} (agg : Option Nat) (a : aZ) : aF ρ (.load agg a) m = gA m (m.load agg (ρ a)) := rfl
theorem tK {ρ : aZ -> EV} {m : Mem} (size : Nat) (a x : aZ) : aF ρ (.store size a x) m = ofM (m.store size (ρ a) (ρ x)) := rfl
theorem tO {ρ : aZ -> EV} {m : Mem} (x : aZ) : aF ρ (.cA x) m = match ρ x with
  | .ptr b off => some (.val (.ptr b off) m)
  | .func f a c => some (.val (.func f a c) m)
  | .iface t v => some (.val (.iface t v) m)
  | .fL e els i k => some (.val (.fL e els i k) m)
  | _ => none := rfl
theorem zY {ρ : aZ -> EV} {m : Mem} (op : BinOp) (x y : aZ) : aF ρ (.bin op x y) m = gA m (eG op (ρ x) (ρ y)) := rfl
theorem Du {ρ : aZ -> EV} {m : Mem} (neg : Bool) (t : su) (x y : aZ) : aF ρ (.eq neg t x y) m = gA m ((eO t (ρ x) (ρ y)).map fun b => .bool (neg ^^ b)) := rfl
theorem Ds {ρ : aZ -> EV} {m : Mem} (op : UnOp) (x : aZ) : aF ρ (.un op x) m = gA m (E1 op (ρ x)) := rfl
theorem wT {ρ : aZ -> EV} {m : Mem} (c : Cv) (x : aZ) : aF ρ (.conv c x) m = xn (li c m (ρ x)) := rfl
theorem tP {ρ : aZ -> EV} {m : Mem} (t : Nat) (x : aZ) : aF ρ (.iface t x) m = some (.val (.iface t (ρ x)) m) := rfl
theorem wP {ρ : aZ -> EV} {m : Mem} (f : Nat) (a c : List aZ) : aF ρ (.BQ f a c) m = some (.val (.func f (a.map ρ) (c.map ρ)) m) := rfl
theorem oI {ρ : aZ -> EV} {m : Mem} (elem esz : Nat) (zero : List EV) (len cap : aZ) : aF ρ (.lU elem esz zero len cap) m = match ρ len, ρ cap with
  | .int .i64 (.ofNat l), .int .i64 (.ofNat c) => bif (bif l.ble c then c.ble room else false) then
    some (.val (.slice m.next 0 l (some c)) (m.new (.cells (eE c zero) esz elem false))) else none
  | _, _ => none := rfl
theorem tL {ρ : aZ -> EV} {m : Mem} (x : aZ) (lo hi : Option aZ) : aF ρ (.gh x lo hi) m = match ρ x with
  | .str s => match ay (hi.map ρ) s.length s.length with
   | some h => match ay (lo.map ρ) 0 h with
    | some l => some (.val (.str ((s.take h).drop l)) m)
    | none => none
   | none => none
  | _ => none := rfl
theorem tM {ρ : aZ -> EV} {m : Mem} (n esz : Nat) (x : aZ) (lo hi max : Option aZ) : aF ρ (.xz n esz x lo hi max) m = match ρ x with
  | .ptr b off => gA m (ez esz b off n (some n) (lo.map ρ) (hi.map ρ) (max.map ρ))
  | _ => none := rfl
theorem tQ {ρ : aZ -> EV} {m : Mem} (off : Nat) (x : aZ) : aF ρ (.aj off x) m = match ρ x with
  | .ptr b o => some (.val (.ptr b (o + off)) m)
  | .fL e els i k => some (.val (.fL e els i (k + off)) m)
  | _ => none := rfl
theorem zW {ρ : aZ -> EV} {m : Mem} (agg : Option Nat) (off : Nat) (x : aZ) : aF ρ (.A5 agg off x) m = match ρ x with
  | .agg cs => gA m (partOf agg cs off)
  | _ => none := rfl
theorem nn {ρ : aZ -> EV} {m : Mem} (n esz : Nat) (x i : aZ) : aF ρ (.nH n esz x i) m = match ρ x with
  | .ptr b off => match idx n (ρ i) with
   | some i => some (.val (.ptr b (off + i * esz)) m)
   | none => none
  | _ => none := rfl
theorem qJ {ρ : aZ -> EV} {m : Mem} (x i : aZ) : aF ρ (.eD x i) m = match ρ x with
  | .str s => match idx s.length (ρ i) with
   | some i => match s[i]? with
    | some c => some (.val (.int .u8 (c.toNat : Int)) m)
    | none => none
   | none => none
  | _ => none := rfl
theorem qK {ρ : aZ -> EV} {m : Mem} (n esz : Nat) (agg : Option Nat) (x i : aZ) : aF ρ (.u6 n esz agg x i) m = match ρ x with
  | .agg cs => match idx n (ρ i) with
   | some i => gA m (partOf agg cs (i * esz))
   | none => none
  | _ => none := rfl
theorem qF {ρ : aZ -> EV} {m : Mem} (kt : Nat) (zero : EV) (ok : Bool) (mp k : aZ) : aF ρ (.lookup kt zero ok mp k) m = match ρ mp with
  | .bF => bif l7 kt (ρ k) then some (.val (bif ok then .tuple [zero, .bool false] else zero) m) else none
  | .map b => match m.get b with
   | .map es => bif iU kt (ρ k) es then
     match find (ρ k) es with
     | some v => some (.val (bif ok then .tuple [v, .bool true] else v) m)
     | none => some (.val (bif ok then .tuple [zero, .bool false] else zero) m)
    else none
   | _ => none
  | _ => none := rfl
theorem qE {ρ : aZ -> EV} {m : Mem} (kt : Nat) (mp k x : aZ) : aF ρ (.pq kt mp k x) m = match ρ mp with
  | .map b => match m.get b with
   | .map es => bif iU kt (ρ k) es then some (.val .undef (m.set b (.map (update (ρ k) (ρ x) es)))) else none
   | _ => none
  | _ => none := rfl
theorem qM {ρ : aZ -> EV} {m : Mem} (kt : Nat) (mp k : aZ) : aF ρ (.delete kt mp k) m = match ρ mp with
  | .bF => bif l7 kt (ρ k) then some (.val (.tuple []) m) else none
  | .map b => match m.get b with
   | .map es => bif iU kt (ρ k) es then some (.val (.tuple []) (m.set b (.map (erase (ρ k) es)))) else none
   | _ => none
  | _ => none := rfl
theorem qH {ρ : aZ -> EV} {m : Mem} (mp : aZ) : aF ρ (.ri mp) m = match ρ mp with
  | .bF => some (.val (.int .i64 0) m)
  | .map b => match m.get b with
   | .map es => some (.val (.int .i64 (es.length : Int)) m)
   | _ => none
  | _ => none := rfl
theorem oH {ρ : aZ -> EV} {m : Mem} (t : Nat) (x : aZ) : aF ρ (.p6 t x) m = match ρ x with
  | .iface u v => bif t.beq u then some (.val v m) else none
  | _ => none := rfl
theorem oJ {ρ : aZ -> EV} {m : Mem} (x : aZ) (i : Nat) : aF ρ (.extract x i) m = match ρ x with
  | .tuple vs => gA m vs[i]?
  | _ => none := rfl
theorem qG {ρ : aZ -> EV} {m : Mem} (x : aZ) : aF ρ (.cH x) m = match ρ x with
  | .str s => some (.val (.int .i64 (s.length : Int)) m)
  | _ => none := rfl
theorem qI {ρ : aZ -> EV} {m : Mem} (n : Nat) : aF ρ (.u5 n) m = some (.val (.int .i64 (n : Int)) m) := rfl
theorem zX {ρ : aZ -> EV} {m : Mem} (x : aZ) : aF ρ (.cap x) m = match ρ x with
  | .ae => some (.val (.int .i64 0) m)
  | .slice _ _ _ (some c) => some (.val (.int .i64 (c : Int)) m)
  | _ => none := rfl
theorem zV {ρ : aZ -> EV} {m : Mem} (args : List aZ) : aF ρ (.max args) m = gA m (uu (args.map ρ)) := rfl
theorem zU {ρ : aZ -> EV} {m : Mem} (args : List aZ) : aF ρ (.min args) m = gA m (xG (args.map ρ)) := rfl
theorem qN {ρ : aZ -> EV} {m : Mem} (elem esz bytes : Nat) (s x : aZ) : aF ρ (.append elem esz bytes s x) m = xn (fV m elem esz (ρ s) (ρ x)) := rfl
theorem wS {ρ : aZ -> EV} {m : Mem} (esz : Nat) (d s : aZ) : aF ρ (.copy esz d s) m = xn (ya m esz (ρ d) (ρ s)) := rfl
open Classical in
noncomputable def bo (p : Prop) : EV := .bool (decide p)
open Classical in
noncomputable def gv (p : Prop) (v : EV) : EV := if p then v else .undef
open Classical in
noncomputable def iF {α : Type} (p : Prop) (x y : α) : α := if p then x else y
theorem xi {p : Prop} [h : Decidable p] : EV.bool (decide p) = bo p := by unfold bo; congr
theorem nt {p : Prop} [h : Decidable p] : EV.bool (!decide p) = bo (¬ p) := by
 unfold bo; by_cases hp : p <;> simp [hp]
theorem gl : bo True = .bool true := by simp [bo]
theorem fG : bo False = .bool false := by simp [bo]
theorem eA {p : Prop} (h : p) : bo p = .bool true := by simp [bo, h]
theorem eU {p : Prop} (h : ¬ p) : bo p = .bool false := by simp [bo, h]
theorem CX {v : EV} : gv True v = v := by simp [gv]
theorem zB {v : EV} : gv False v = .undef := by simp [gv]
theorem AX {α : Type} {p : Prop} (h : p) {x y : α} : iF p x y = x := by simp [iF, h]
theorem AY {α : Type} {p : Prop} (h : ¬ p) {x y : α} : iF p x y = y := by simp [iF, h]
@[congr] theorem Xm {α : Type} {p p' : Prop} {x x' y y' : α} (h : p = p') (h1 : p' -> x = x') (h2 : ¬ p' -> y = y') : iF p x y = iF p' x' y' := by
 subst h; by_cases hp : p
 ·rw [AX hp, AX hp]; exact h1 hp
 ·rw [AY hp, AY hp]; exact h2 hp
def cE (v : EV) (x y : Option Out) : Option Out := match v with
 | .bool true => x
 | .bool false => y
 | _ => none
@[congr] theorem Ys {v v' : EV} {x y : Option Out} (h : v = v') : cE v x y = cE v' x y := by rw [h]
theorem NZ {p : Prop} {x y : Option Out} : cE (bo p) x y = iF p x y := by by_cases h : p <;> simp [bo, iF, cE, h]
theorem TW {x y : Option Out} : cE (.bool true) x y = x := rfl
theorem TX {x y : Option Out} : cE (.bool false) x y = y := rfl
theorem tH {T : Nat -> Option iM} {c : aZ} {a b : aE} {fr : Fr} {m : Mem} : exec T (.cond c a b) fr m = cE (fr.eval c) (exec T a fr m) (exec T b fr m) := by
 cases h : fr.eval c
 case bool t => rw [GU h]; cases t <;> rfl
 all_goals
  refine dl fun r => ?_
  rw [cr];simp only [aw, h, reduceCtorEq, exists_const, cE]
open Classical in
noncomputable def mw (p : Prop) (m : Mem) (o : Option R1) (k : EV -> Mem -> Option Out) : Option Out := if p then gL o k else k .undef m
open Classical in
noncomputable def mv (p : Prop) (fr : Fr) (m : Mem) (o : Option Fin) (k : EV -> Mem -> Option Out) : Option Out := if p then pZ o fr k else k .undef m
@[congr] theorem Ub {p p' : Prop} {m : Mem} {o o' : Option R1} {k : EV -> Mem -> Option Out} (h : p = p') (ho : p' -> o = o') : mw p m o k = mw p' m o' k := by
 subst h; by_cases hp : p <;> simp only [mw, hp, if_true, if_false]; rw [ho hp]
@[congr] theorem Ua {p p' : Prop} {fr : Fr} {m : Mem} {o o' : Option Fin} {k : EV -> Mem -> Option Out} (h : p = p') (ho : p' -> o = o') : mv p fr m o k = mv p' fr m o' k := by
 subst h; by_cases hp : p <;> simp only [mv, hp, if_true, if_false]; rw [ho hp]
theorem vJ {p : Prop} {m m' : Mem} {v : EV} {k : EV -> Mem -> Option Out} (he : p -> m' = m) : mw p m (some (.val v m')) k = k (gv p v) m := by
 by_cases h : p
 ·rw [he h]; simp [mw, gv, gL, h]
 ·simp [mw, gv, h]
theorem vI {p : Prop} {fr : Fr} {m m' : Mem} {v : EV} {k : EV -> Mem -> Option Out} (he : p -> m' = m) : mv p fr m (some (.ret v m')) k = k (gv p v) m := by
 by_cases h : p
 ·rw [he h]; simp [mv, gv, pZ, h]
 ·simp [mv, gv, h]
def gE (v : EV) (w : Bool) (x y : Option Out) : Option Out := match v with
 | .bool b => bif b == w then x else y
 | .undef => y
 | _ => none
@[congr] theorem X7 {v v' : EV} {w : Bool} {x y : Option Out} (h : v = v') : gE v w x y = gE v' w x y := by rw [h]
def gV (v : EV) (w : Bool) (m : Mem) (o : Option R1) (k : EV -> Mem -> Option Out) : Option Out := gE v w (gL o k) (k .undef m)
def gC (v : EV) (w : Bool) (fr : Fr) (m : Mem) (o : Option Fin) (k : EV -> Mem -> Option Out) : Option Out := gE v w (pZ o fr k) (k .undef m)
@[congr] theorem X6 {v v' : EV} {w : Bool} {m : Mem} {o : Option R1} {k : EV -> Mem -> Option Out} (h : v = v') : gV v w m o k = gV v' w m o k := by rw [h]
@[congr] theorem X8 {v v' : EV} {w : Bool} {fr : Fr} {m : Mem} {o : Option Fin} {k : EV -> Mem -> Option Out} (h : v = v') : gC v w fr m o k = gC v' w fr m o k := by rw [h]
section
variable {p q : Prop} {b : Bool} {w : Bool} {fr : Fr} {m : Mem} {o : Option R1} {c : Option Fin} {k : EV -> Mem -> Option Out}
theorem zE : gV .undef w m o k = k .undef m := rfl
theorem zG : gC .undef w fr m c k = k .undef m := rfl
theorem C4 : gV (bo p) true m o k = mw p m o k := by by_cases h : p <;> simp [gV, gE, bo, mw, h]
theorem C5 : gV (bo p) false m o k = mw (¬ p) m o k := by by_cases h : p <;> simp [gV, gE, bo, mw, h]
theorem Np : gV (.bool true) true m o k = gL o k := rfl
theorem Nq : gV (.bool true) false m o k = k .undef m := rfl
theorem Nr : gV (.bool false) true m o k = k .undef m := rfl
theorem Ns : gV (.bool false) false m o k = gL o k := rfl
theorem CY : gV (gv p (bo q)) true m o k = mw (p /\ q) m o k := by by_cases h : p <;> by_cases h' : q <;> simp [gV, gE, bo, gv, mw, h, h']
theorem CZ : gV (gv p (bo q)) false m o k = mw (p /\ ¬ q) m o k := by by_cases h : p <;> by_cases h' : q <;> simp [gV, gE, bo, gv, mw, h, h']
theorem C0 : gV (gv p (.bool true)) true m o k = mw p m o k := by by_cases h : p <;> simp [gV, gE, gv, mw, h]
theorem C1 : gV (gv p (.bool true)) false m o k = k .undef m := by by_cases h : p <;> simp [gV, gE, gv, h]
theorem C2 : gV (gv p (.bool false)) true m o k = k .undef m := by by_cases h : p <;> simp [gV, gE, gv, h]
theorem C3 : gV (gv p (.bool false)) false m o k = mw p m o k := by by_cases h : p <;> simp [gV, gE, gv, mw, h]
theorem Dk : gC (bo p) true fr m c k = mv p fr m c k := by by_cases h : p <;> simp [gC, gE, bo, mv, h]
theorem Dl : gC (bo p) false fr m c k = mv (¬ p) fr m c k := by by_cases h : p <;> simp [gC, gE, bo, mv, h]
theorem Ny : gC (.bool true) true fr m c k = pZ c fr k := rfl
theorem Nz : gC (.bool true) false fr m c k = k .undef m := rfl
theorem NA : gC (.bool false) true fr m c k = k .undef m := rfl
theorem NB : gC (.bool false) false fr m c k = pZ c fr k := rfl
theorem De : gC (gv p (bo q)) true fr m c k = mv (p /\ q) fr m c k := by by_cases h : p <;> by_cases h' : q <;> simp [gC, gE, bo, gv, mv, h, h']
theorem Df : gC (gv p (bo q)) false fr m c k = mv (p /\ ¬ q) fr m c k := by by_cases h : p <;> by_cases h' : q <;> simp [gC, gE, bo, gv, mv, h, h']
theorem Dg : gC (gv p (.bool true)) true fr m c k = mv p fr m c k := by by_cases h : p <;> simp [gC, gE, gv, mv, h]
theorem Dh : gC (gv p (.bool true)) false fr m c k = k .undef m := by by_cases h : p <;> simp [gC, gE, gv, h]
theorem Di : gC (gv p (.bool false)) true fr m c k = k .undef m := by by_cases h : p <;> simp [gC, gE, gv, h]
theorem Dj : gC (gv p (.bool false)) false fr m c k = mv p fr m c k := by by_cases h : p <;> simp [gC, gE, gv, mv, h]
end
theorem uV {T : Nat -> Option iM} {d : Option Nat} {op : AD} {t : Nat} {w : Bool} {l : List bd} {fr : Fr} {m : Mem} :
  oD T (⟨d, op, some (t, w)⟩ :: l) fr m = gE (fr.get t) w (oD T (⟨d, op, none⟩ :: l) fr m) (oD T l (fr.put d .undef) m) := by
 cases h : fr.get t
 case bool b => rw [Lf h]; rfl
 case undef =>
  refine dl fun r => ?_
  rw [gz];simp only [gY, bm, h, gE];exact gz.symm
 all_goals
  refine dl fun r => ?_
  rw [gz];simp only [gY, bm, h, reduceCtorEq, exists_const, gE]
theorem wv {T : Nat -> Option iM} {d : Option Nat} {op : lL} {t : Nat} {w : Bool} {l : List bd} {fr : Fr} {m : Mem} :
  oD T (⟨d, .val op, some (t, w)⟩ :: l) fr m = gV (fr.get t) w m (aF fr.eval op m) (fun v m => oD T l (fr.put d v) m) := by rw [uV, rI]; rfl
noncomputable def AO (T : Nat -> Option iM) (f : EV) (args : List EV) (m : Mem) : Option Fin := match f with
 | .func g a c => run T g (a ++ args ++ c) m
 | _ => none
theorem oU {T : Nat -> Option iM} {g : Nat} {a c args : List EV} {m : Mem} : AO T (.func g a c) args m = run T g (a ++ args ++ c) m := rfl
theorem mM {T : Nat -> Option iM} {d : Option Nat} {x : aZ} {args : List aZ} {l : List bd} {fr : Fr} {m : Mem} :
  oD T (⟨d, .call x args, none⟩ :: l) fr m = pZ (AO T (fr.eval x) (args.map fr.eval) m) fr fun v m => oD T l (fr.put d v) m := by
 refine dl fun r => ?_
 rw [gz];simp only [gY, bm]
 cases hx : fr.eval x
 case func g a c =>
  simp only [fR, AO]
  constructor
  ·rintro ⟨k, h⟩
   cases hc : aW T k g (a ++ args.map fr.eval ++ c) m with
   | none => rw [hc] at h; cases h
   | some q =>
    rw [ng.2 ⟨k, hc⟩];simp only [hc] at h
    cases q with
    | ret v m1 => exact gz.2 ⟨k, h⟩
    | gO v m1 => exact h
  ·intro h
   cases hc : run T g (a ++ args.map fr.eval ++ c) m with
   | none => rw [hc] at h; cases h
   | some q =>
    obtain ⟨k1, h1⟩ := ng.1 hc
    rw [hc] at h
    cases q with
    | ret v m1 =>
     simp only [pZ] at h;obtain ⟨k2, h2⟩ := gz.1 h
     refine ⟨max k1 k2, ?_⟩
     have e1 := EA _ _ _ (Nat.le_max_left k1 k2) h1
     have e2 := Gy _ _ _ (Nat.le_max_right k1 k2) h2
     simp only at e1 e2
     rw [e1]; exact e2
    | gO v m1 => exact ⟨k1, by rw [h1]; exact h⟩
 all_goals simp [fR, AO, pZ]
theorem qn {T : Nat -> Option iM} {d : Option Nat} {x : aZ} {args : List aZ} {t : Nat} {w : Bool} {l : List bd} {fr : Fr} {m : Mem} :
  oD T (⟨d, .call x args, some (t, w)⟩ :: l) fr m = gC (fr.get t) w fr m (AO T (fr.eval x) (args.map fr.eval) m) (fun v m => oD T l (fr.put d v) m) := by rw [uV, mM]; rfl
def ls (c a b : EV) (m : Mem) : Option R1 := match c with
 | .bool t => some (.val (bif t then a else b) m)
 | _ => none
theorem tN {ρ : aZ -> EV} {c x y : aZ} {m : Mem} : aF ρ (.pick c x y) m = ls (ρ c) (ρ x) (ρ y) m := by
 simp only [aF]; unfold ls; cases ρ c <;> rfl
section
variable {p q r : Prop} {a b : EV} {m : Mem} {c d : Bool}
theorem yW : ls (bo p) (gv p (bo q)) (.bool false) m = some (.val (bo (p /\ q)) m) := by by_cases h : p <;> by_cases h' : q <;> simp [ls, gv, bo, h, h']
theorem s9 : ls (bo p) (gv p (.bool true)) (.bool false) m = some (.val (bo p) m) := by by_cases h : p <;> simp [ls, gv, bo, h]
theorem ta : ls (bo p) (gv p (.bool false)) (.bool false) m = some (.val (.bool false) m) := by by_cases h : p <;> simp [ls, gv, bo, h]
theorem CA (hr : r = ¬ p) : ls (bo p) (.bool true) (gv r (bo q)) m = some (.val (bo (p \/ q)) m) := by subst hr; by_cases h : p <;> by_cases h' : q <;> simp [ls, gv, bo, h, h']
theorem wh (hr : r = ¬ p) : ls (bo p) (.bool true) (gv r (.bool true)) m = some (.val (.bool true) m) := by subst hr; by_cases h : p <;> simp [ls, gv, bo, h]
theorem wi (hr : r = ¬ p) : ls (bo p) (.bool true) (gv r (.bool false)) m = some (.val (bo p) m) := by subst hr; by_cases h : p <;> simp [ls, gv, bo, h]
theorem wj : ls (bo p) (bo q) (.bool false) m = some (.val (bo (p /\ q)) m) := by by_cases h : p <;> by_cases h' : q <;> simp [ls, bo, h, h']
theorem yV : ls (bo p) (.bool true) (bo q) m = some (.val (bo (p \/ q)) m) := by by_cases h : p <;> by_cases h' : q <;> simp [ls, bo, h, h']
theorem Hz : ls (.bool true) a b m = some (.val a m) := rfl
theorem HA : ls (.bool false) a b m = some (.val b m) := rfl
end
theorem vD {p : Prop} : E1 .not (bo p) = some (bo (¬ p)) := by by_cases h : p <;> simp [E1, bo, h]
theorem Ia {p q : Prop} : eO (.aL 0) (bo p) (bo q) = some (@decide (p = q) (Classical.propDecidable _)) := by by_cases h : p <;> by_cases h' : q <;> simp [eO, dU, bo, h, h']
theorem Dz {p : Prop} : eO (.aL 0) (bo p) (.bool true) = some (@decide p (Classical.propDecidable _)) := by by_cases h : p <;> simp [eO, dU, bo, h]
theorem DA {p : Prop} : eO (.aL 0) (bo p) (.bool false) = some (@decide (¬ p) (Classical.propDecidable _)) := by by_cases h : p <;> simp [eO, dU, bo, h]
theorem Dw {p : Prop} : eO (.aL 0) (.bool true) (bo p) = some (@decide p (Classical.propDecidable _)) := by by_cases h : p <;> simp [eO, dU, bo, h]
theorem Dy {p : Prop} : eO (.aL 0) (.bool false) (bo p) = some (@decide (¬ p) (Classical.propDecidable _)) := by by_cases h : p <;> simp [eO, dU, bo, h]
theorem NI : eO (.aL 0) (.bool true) (.bool true) = some true := rfl
theorem NT : eO (.aL 0) (.bool false) (.bool false) = some true := rfl
theorem NJ : eO (.aL 0) (.bool true) (.bool false) = some false := rfl
theorem NR : eO (.aL 0) (.bool false) (.bool true) = some false := rfl
theorem yo : E1 .not (.bool true) = some (.bool false) := rfl
theorem yp : E1 .not (.bool false) = some (.bool true) := rfl
theorem H9 {a b : List UInt8} : eO (.aL 2) (.str a) (.str b) = some (decide (a = b)) := by simp only [eO, dU, dW, cond_true, fH]
theorem yA {p : Prop} {a b : Option Out} {k : Fr -> Mem -> Option Out} : my (iF p a b) k = iF p (my a k) (my b k) := by unfold iF; split <;> rfl
theorem zk {id : Nat} {p : Prop} {a b : Option Out} : pu id (iF p a b) = iF p (pu id a) (pu id b) := by unfold iF; split <;> rfl
theorem yz {p : Prop} {a b : Option R1} {k : EV -> Mem -> Option Out} : gL (iF p a b) k = iF p (gL a k) (gL b k) := by unfold iF; split <;> rfl
theorem yB {p : Prop} {a b : Option Fin} {fr : Fr} {k : EV -> Mem -> Option Out} : pZ (iF p a b) fr k = iF p (pZ a fr k) (pZ b fr k) := by unfold iF; split <;> rfl
theorem Cz {rs : List mq} {p : Prop} {a b : Option Out} : pO rs (iF p a b) = iF p (pO rs a) (pO rs b) := by unfold iF; split <;> rfl
theorem MI {T : Nat -> Option iM} {f : Nat} {F : az} (hf : T f = some (.go F)) {args : List EV} {m : Mem} (hn : args.length <= F.ntmps) : run T f args m = pO F.results (exec T F.body (aa args 0 pz) m) := by
 rw [Qn hf hn, Hx]; unfold pz; rw [Aq]
theorem bi {n : Nat} {k : IntKind} {i : Nat} (h : i < n) : idx n (.int k (i : Int)) = some i := by
 have : (i + 1).ble n = true := BH h
 show (bif (i + 1).ble n then some i else none) = _
 rw [this]; rfl
theorem zp {n : Nat} {k : IntKind} (h : 0 < n) : idx n (.int k 0) = some 0 := bi (i := 0) h
theorem pH {d n : Nat} : ay none d n = some d := rfl
theorem cJ {d n i : Nat} {k : IntKind} (h : i <= n) : ay (some (.int k (i : Int))) d n = some i := by
 show (bif i.ble n then some i else none) = _
 rw [BH h]; rfl
theorem Ri (n : Int) : IntKind.i64.wrap n = if n % 18446744073709551616 >= 9223372036854775808 then n % 18446744073709551616 - 18446744073709551616 else n % 18446744073709551616 := by
 have e : IntKind.i64.wrap n = if (true && decide (n % 18446744073709551616 >= 9223372036854775808)) = true then n % 18446744073709551616 - 18446744073709551616 else n % 18446744073709551616 := rfl
 rw [e]; simp only [Bool.true_and, decide_eq_true_eq]
theorem ME (n : Int) : IntKind.u8.wrap n = n % 256 := by
 have e : IntKind.u8.wrap n = if (false && decide (n % 256 >= 128)) = true then n % 256 - 256 else n % 256 := rfl
 rw [e]; simp
theorem wrap_i64 {n : Int} (h1 : -9223372036854775808 <= n) (h2 : n < 9223372036854775808) : IntKind.i64.wrap n = n := by
 rw [Ri]; split <;> omega
theorem told {T : Nat -> Option iM} {c : aE} {fr : Fr} {m : Mem} {X : Option Out} (hX : exec T c fr m = X) {α : Type} {o : α -> Out} {Q : α -> Prop} (h : ∃ x, exec T c fr m = some (o x) /\ Q x) : ∃ x, X = some (o x) /\ Q x := by
 rw [hX] at h; exact h
end
section
inductive Bt where
 | leaf
 | node (k : Nat) (e : iM) (l r : Bt)
def Bt.find : Bt -> Nat -> Option iM
 | .leaf, _ => none
 | .node k e l r, f => bif f.beq k then some e else bif f.blt k then l.find f else r.find f
def Bt.All (Q : Nat -> iM -> Prop) : Bt -> Prop
 | .leaf => True
 | .node k e l r => Q k e /\ l.All Q /\ r.All Q
theorem Bt.Dq {Q : Nat -> iM -> Prop} : ∀ {t : Bt}, t.All Q -> ∀ f e, t.find f = some e -> Q f e
 | .leaf, _, f, e, h => by simp [Bt.find] at h
 | .node k x l r, ⟨h0, hl, hr⟩, f, e, h => by
  simp only [Bt.find] at h
  cases hk : f.beq k with
  | true =>
   rw [aV hk];simp only [hk, cond_true, bj] at h;subst h; exact h0
  | false =>
   simp only [hk, cond_false] at h
   cases hb : f.blt k <;> simp only [hb, cond_true, cond_false] at h
   ·exact Bt.Dq hr f e h
   ·exact Bt.Dq hl f e h
def Zg : List EV -> Option EV
 | [.int .u64 (.ofNat x), .int .u64 (.ofNat y), .int .u64 (.ofNat c)] => bif c.ble 1 then some (.tuple [.int .u64 (.ofNat ((x + y + c) % 18446744073709551616)), .int .u64 (.ofNat ((x + y + c) / 18446744073709551616))]) else none
 | _ => none
def Zf : List EV -> Option EV
 | [.str s, .int .u8 c] => some (.int .i64 (Go.Lib.countByte s c.toNat.toUInt8))
 | _ => none
def gy : List EV -> Option EV
 | [.str s, .int .u8 c] => some (.int .i64 (Go.Lib.indexByte s c.toNat.toUInt8))
 | _ => none
theorem F2 {P : Program} {G : List Nat} {f : Nat} {fn : Func} (hf : P.funcs[f]? = some fn) (XH : (fn.name == "runtime.NumGoroutine") = false) (hb : fn.body.isNone = true) (hn : Extern.findNext fn = none) (he : Extern.find fn = some Extern.BytealgIndexByte.indexByte) :
  KD P G f (.ext gy) := by
 intro base ρ m w args aA v _ hv h
 unfold gy at h
 split at h
 ·rename_i s c
  cases h
  obtain ⟨l⟩ := aA
  cases hv with
  | cons h1 hs =>
  cases hs with
  | cons h2 hs =>
  cases hs
  cases h2
  generalize hx : EV.str s = x at h1
  cases h1 <;> cases hx
  rename_i t
  refine ⟨_, ?_, .int _ _⟩
  rw [run_callFunc_extern hf XH hb hn he];have h := Go.Lib.run_indexByteString (P := P) t c w
  rw [h]; rfl
 ·cases h
def isTrue : Option Fin -> Bool
 | some (.ret (.bool true) _) => true
 | _ => false
theorem O4 {r : Option Fin} (h : isTrue r = true) : ∃ m, r = some (.ret (.bool true) m) := by
 unfold isTrue at h
 split at h
 ·exact ⟨_, rfl⟩
 ·cases h
def MB : List EV -> Option EV
 | [] => some (.bool true)
 | _ => none
theorem Ql {T : Nat -> Option iM} {f : Nat} (hf : T f = some (.pure MB)) {m : Mem} : run T f [] m = some (.ret (.bool true) m) := by rw [run_pure hf]; rfl
end
section
theorem mix : Tryd.prog.follows .mixedOrders = true := by kernel_rfl
theorem ltG : ∀ g, G.contains g = true -> g < 3 := fun g h => by simp [G] at h; try omega
abbrev gB : Nat := 92
def tree : Bt :=
 (.node 55 (.go dJ) (.node 31 (.go cN) (.node 18 (.go cx) (.node 12 (.go gd) (.node 8 (.go lH) (.node 6 (.go eW) (.node 4 (.go cj) .leaf .leaf) (.node 7 (.go hU) .leaf .leaf)) (.node 10 (.go gr) (.node 9 (.go gb) .leaf .leaf) .leaf)) (.node 15 (.go bu) (.node 14 (.go bG) (.node 13 (.go ke) .leaf .leaf) .leaf) (.node 17 (.go dB) (.node 16 (.go cC) .leaf .leaf) .leaf))) (.node 24 (.go j9) (.node 21 (.go ep) (.node 20 (.go bz) (.node 19 (.go eI) .leaf .leaf) .leaf) (.node 23 (.go mZ) (.node 22 (.go jj) .leaf .leaf) .leaf)) (.node 28 (.go eH) (.node 27 (.go gJ) (.node 25 (.go ko) .leaf .leaf) .leaf) (.node 30 (.go dy) (.node 29 (.go bD) .leaf .leaf) .leaf)))) (.node 43 (.go jk) (.node 37 (.go bq) (.node 34 (.go de) (.node 33 (.go dL) (.node 32 (.go bV) .leaf .leaf) .leaf) (.node 36 (.go lC) (.node 35 (.go cw) .leaf .leaf) .leaf)) (.node 40 (.go mY) (.node 39 (.go lI) (.node 38 (.go hZ) .leaf .leaf) .leaf) (.node 42 (.go jl) (.node 41 (.go m6) .leaf .leaf) .leaf))) (.node 49 (.go lG) (.node 46 (.go j8) (.node 45 (.go ib) (.node 44 (.go ia) .leaf .leaf) .leaf) (.node 48 (.go ig) (.node 47 (.go j7) .leaf .leaf) .leaf)) (.node 52 (.go dg) (.node 51 (.go cM) (.node 50 (.go gm) .leaf .leaf) .leaf) (.node 54 (.go dh) (.node 53 (.go bU) .leaf .leaf) .leaf))))) (.node 79 (.go cb) (.node 67 (.go lF) (.node 61 (.go ji) (.node 58 (.go dA) (.node 57 (.go eo) (.node 56 (.go dz) .leaf .leaf) .leaf) (.node 60 (.go dQ) (.node 59 (.go cd) .leaf .leaf) .leaf)) (.node 64 (.go lD) (.node 63 (.go hJ) (.node 62 (.go ka) .leaf .leaf) .leaf) (.node 66 (.go lE) (.node 65 (.go j5) .leaf .leaf) .leaf))) (.node 73 (.go gq) (.node 70 (.go bC) (.node 69 (.go cS) (.node 68 (.go dI) .leaf .leaf) .leaf) (.node 72 (.go aT) (.node 71 (.go pJ) .leaf .leaf) .leaf)) (.node 76 (.go aM) (.node 75 (.go j6) (.node 74 (.go db) .leaf .leaf) .leaf) (.node 78 (.go cB) (.node 77 (.go eg) .leaf .leaf) .leaf)))) (.node 91 (.go dP) (.node 85 (.go ei) (.node 82 (.go da) (.node 81 (.go dK) (.node 80 (.go eh) .leaf .leaf) .leaf) (.node 84 (.go fq) (.node 83 (.go dc) .leaf .leaf) .leaf)) (.node 88 (.go er) (.node 87 (.go fm) (.node 86 (.go fo) .leaf .leaf) .leaf) (.node 90 (.go et) (.node 89 (.go fi) .leaf .leaf) .leaf))) (.node 98 (.go cy) (.node 95 (.go bl) (.node 94 (.go cY) (.node 92 (.ext gy) .leaf .leaf) .leaf) (.node 97 (.go dN) (.node 96 (.go cR) .leaf .leaf) .leaf)) (.node 101 (.go kc) (.node 100 (.go dM) (.node 99 (.go bL) .leaf .leaf) .leaf) (.node 103 (.go bS) (.node 102 (.go dO) .leaf .leaf) .leaf))))))
def T : Nat -> Option iM := tree.find
theorem okT : ∀ f e, T f = some e -> KD Tryd.prog G f e := Bt.Dq (t := tree)
 ⟨⟨_, Tryd.func55, Z7⟩, ⟨⟨_, Tryd.func31, aav⟩, ⟨⟨_, Tryd.func18, aaH⟩, ⟨⟨_, Tryd.func12, aaN⟩, ⟨⟨_, Tryd.func8, ok8⟩, ⟨⟨_, Tryd.func6, ok6⟩, ⟨⟨_, Tryd.func4, ok4⟩, trivial, trivial⟩, ⟨⟨_, Tryd.func7, ok7⟩, trivial, trivial⟩⟩, ⟨⟨_, Tryd.func10, aaO⟩, ⟨⟨_, Tryd.func9, ok9⟩, trivial, trivial⟩, trivial⟩⟩, ⟨⟨_, Tryd.func15, aaK⟩, ⟨⟨_, Tryd.func14, aaL⟩, ⟨⟨_, Tryd.func13, aaM⟩, trivial, trivial⟩, trivial⟩, ⟨⟨_, Tryd.func17, aaI⟩, ⟨⟨_, Tryd.func16, aaJ⟩, trivial, trivial⟩, trivial⟩⟩⟩, ⟨⟨_, Tryd.func24, aaB⟩, ⟨⟨_, Tryd.func21, aaE⟩, ⟨⟨_, Tryd.func20, aaF⟩, ⟨⟨_, Tryd.func19, aaG⟩, trivial, trivial⟩, trivial⟩, ⟨⟨_, Tryd.func23, aaC⟩, ⟨⟨_, Tryd.func22, aaD⟩, trivial, trivial⟩, trivial⟩⟩, ⟨⟨_, Tryd.func28, aay⟩, ⟨⟨_, Tryd.func27, aaz⟩, ⟨⟨_, Tryd.func25, aaA⟩, trivial, trivial⟩, trivial⟩, ⟨⟨_, Tryd.func30, aaw⟩, ⟨⟨_, Tryd.func29, aax⟩, trivial, trivial⟩, trivial⟩⟩⟩⟩, ⟨⟨_, Tryd.func43, aaj⟩, ⟨⟨_, Tryd.func37, aap⟩, ⟨⟨_, Tryd.func34, aas⟩, ⟨⟨_, Tryd.func33, aat⟩, ⟨⟨_, Tryd.func32, aau⟩, trivial, trivial⟩, trivial⟩, ⟨⟨_, Tryd.func36, aaq⟩, ⟨⟨_, Tryd.func35, aar⟩, trivial, trivial⟩, trivial⟩⟩, ⟨⟨_, Tryd.func40, aam⟩, ⟨⟨_, Tryd.func39, aan⟩, ⟨⟨_, Tryd.func38, aao⟩, trivial, trivial⟩, trivial⟩, ⟨⟨_, Tryd.func42, aak⟩, ⟨⟨_, Tryd.func41, aal⟩, trivial, trivial⟩, trivial⟩⟩⟩, ⟨⟨_, Tryd.func49, aad⟩, ⟨⟨_, Tryd.func46, aag⟩, ⟨⟨_, Tryd.func45, aah⟩, ⟨⟨_, Tryd.func44, aai⟩, trivial, trivial⟩, trivial⟩, ⟨⟨_, Tryd.func48, aae⟩, ⟨⟨_, Tryd.func47, aaf⟩, trivial, trivial⟩, trivial⟩⟩, ⟨⟨_, Tryd.func52, aaa⟩, ⟨⟨_, Tryd.func51, aab⟩, ⟨⟨_, Tryd.func50, aac⟩, trivial, trivial⟩, trivial⟩, ⟨⟨_, Tryd.func54, Z8⟩, ⟨⟨_, Tryd.func53, Z9⟩, trivial, trivial⟩, trivial⟩⟩⟩⟩⟩, ⟨⟨_, Tryd.func79, ZJ⟩, ⟨⟨_, Tryd.func67, ZV⟩, ⟨⟨_, Tryd.func61, Z1⟩, ⟨⟨_, Tryd.func58, Z4⟩, ⟨⟨_, Tryd.func57, Z5⟩, ⟨⟨_, Tryd.func56, Z6⟩, trivial, trivial⟩, trivial⟩, ⟨⟨_, Tryd.func60, Z2⟩, ⟨⟨_, Tryd.func59, Z3⟩, trivial, trivial⟩, trivial⟩⟩, ⟨⟨_, Tryd.func64, ZY⟩, ⟨⟨_, Tryd.func63, ZZ⟩, ⟨⟨_, Tryd.func62, Z0⟩, trivial, trivial⟩, trivial⟩, ⟨⟨_, Tryd.func66, ZW⟩, ⟨⟨_, Tryd.func65, ZX⟩, trivial, trivial⟩, trivial⟩⟩⟩, ⟨⟨_, Tryd.func73, ZP⟩, ⟨⟨_, Tryd.func70, ZS⟩, ⟨⟨_, Tryd.func69, ZT⟩, ⟨⟨_, Tryd.func68, ZU⟩, trivial, trivial⟩, trivial⟩, ⟨⟨_, Tryd.func72, ZQ⟩, ⟨⟨_, Tryd.func71, ZR⟩, trivial, trivial⟩, trivial⟩⟩, ⟨⟨_, Tryd.func76, ZM⟩, ⟨⟨_, Tryd.func75, ZN⟩, ⟨⟨_, Tryd.func74, ZO⟩, trivial, trivial⟩, trivial⟩, ⟨⟨_, Tryd.func78, ZK⟩, ⟨⟨_, Tryd.func77, ZL⟩, trivial, trivial⟩, trivial⟩⟩⟩⟩, ⟨⟨_, Tryd.func91, Zx⟩, ⟨⟨_, Tryd.func85, ZD⟩, ⟨⟨_, Tryd.func82, ZG⟩, ⟨⟨_, Tryd.func81, ZH⟩, ⟨⟨_, Tryd.func80, ZI⟩, trivial, trivial⟩, trivial⟩, ⟨⟨_, Tryd.func84, ZE⟩, ⟨⟨_, Tryd.func83, ZF⟩, trivial, trivial⟩, trivial⟩⟩, ⟨⟨_, Tryd.func88, ZA⟩, ⟨⟨_, Tryd.func87, ZB⟩, ⟨⟨_, Tryd.func86, ZC⟩, trivial, trivial⟩, trivial⟩, ⟨⟨_, Tryd.func90, Zy⟩, ⟨⟨_, Tryd.func89, Zz⟩, trivial, trivial⟩, trivial⟩⟩⟩, ⟨⟨_, Tryd.func98, Zs⟩, ⟨⟨_, Tryd.func95, Zv⟩, ⟨⟨_, Tryd.func94, Zw⟩, ⟨F2 Tryd.func92 (by kernel_rfl) (by kernel_rfl) (by kernel_rfl) (by kernel_rfl), trivial, trivial⟩, trivial⟩, ⟨⟨_, Tryd.func97, Zt⟩, ⟨⟨_, Tryd.func96, Zu⟩, trivial, trivial⟩, trivial⟩⟩, ⟨⟨_, Tryd.func101, Xa⟩, ⟨⟨_, Tryd.func100, Xb⟩, ⟨⟨_, Tryd.func99, Zr⟩, trivial, trivial⟩, trivial⟩, ⟨⟨_, Tryd.func103, W8⟩, ⟨⟨_, Tryd.func102, W9⟩, trivial, trivial⟩, trivial⟩⟩⟩⟩⟩⟩
theorem at4 : T 4 = some (.go cj) := rfl
theorem at6 : T 6 = some (.go eW) := rfl
theorem at7 : T 7 = some (.go hU) := rfl
theorem at8 : T 8 = some (.go lH) := rfl
theorem at9 : T 9 = some (.go gb) := rfl
theorem adB : T 10 = some (.go gr) := rfl
theorem adA : T 12 = some (.go gd) := rfl
theorem adz : T 13 = some (.go ke) := rfl
theorem ady : T 14 = some (.go bG) := rfl
theorem adx : T 15 = some (.go bu) := rfl
theorem adw : T 16 = some (.go cC) := rfl
theorem adv : T 17 = some (.go dB) := rfl
theorem adu : T 18 = some (.go cx) := rfl
theorem adt : T 19 = some (.go eI) := rfl
theorem ads : T 20 = some (.go bz) := rfl
theorem adr : T 21 = some (.go ep) := rfl
theorem adq : T 22 = some (.go jj) := rfl
theorem adp : T 23 = some (.go mZ) := rfl
theorem ado : T 24 = some (.go j9) := rfl
theorem adn : T 25 = some (.go ko) := rfl
theorem adm : T 27 = some (.go gJ) := rfl
theorem adl : T 28 = some (.go eH) := rfl
theorem adk : T 29 = some (.go bD) := rfl
theorem adj : T 30 = some (.go dy) := rfl
theorem adi : T 31 = some (.go cN) := rfl
theorem adh : T 32 = some (.go bV) := rfl
theorem adg : T 33 = some (.go dL) := rfl
theorem adf : T 34 = some (.go de) := rfl
theorem ade : T 35 = some (.go cw) := rfl
theorem adb : T 36 = some (.go lC) := rfl
theorem ada : T 37 = some (.go bq) := rfl
theorem ac9 : T 38 = some (.go hZ) := rfl
theorem ac8 : T 39 = some (.go lI) := rfl
theorem ac7 : T 40 = some (.go mY) := rfl
theorem ac6 : T 41 = some (.go m6) := rfl
theorem ac5 : T 42 = some (.go jl) := rfl
theorem ac4 : T 43 = some (.go jk) := rfl
theorem ac3 : T 44 = some (.go ia) := rfl
theorem ac2 : T 45 = some (.go ib) := rfl
theorem ac1 : T 46 = some (.go j8) := rfl
theorem ac0 : T 47 = some (.go j7) := rfl
theorem acZ : T 48 = some (.go ig) := rfl
theorem acY : T 49 = some (.go lG) := rfl
theorem acX : T 50 = some (.go gm) := rfl
theorem acW : T 51 = some (.go cM) := rfl
theorem acV : T 52 = some (.go dg) := rfl
theorem acU : T 53 = some (.go bU) := rfl
theorem acT : T 54 = some (.go dh) := rfl
theorem acS : T 55 = some (.go dJ) := rfl
theorem acR : T 56 = some (.go dz) := rfl
theorem acQ : T 57 = some (.go eo) := rfl
theorem acP : T 58 = some (.go dA) := rfl
theorem acO : T 59 = some (.go cd) := rfl
theorem acN : T 60 = some (.go dQ) := rfl
theorem acM : T 61 = some (.go ji) := rfl
theorem acL : T 62 = some (.go ka) := rfl
theorem acK : T 63 = some (.go hJ) := rfl
theorem acJ : T 64 = some (.go lD) := rfl
theorem acI : T 65 = some (.go j5) := rfl
theorem acH : T 66 = some (.go lE) := rfl
theorem acG : T 67 = some (.go lF) := rfl
theorem acF : T 68 = some (.go dI) := rfl
theorem acE : T 69 = some (.go cS) := rfl
theorem acD : T 70 = some (.go bC) := rfl
theorem acC : T 71 = some (.go pJ) := rfl
theorem acB : T 72 = some (.go aT) := rfl
theorem acA : T 73 = some (.go gq) := rfl
theorem acz : T 74 = some (.go db) := rfl
theorem acy : T 75 = some (.go j6) := rfl
theorem acx : T 76 = some (.go aM) := rfl
theorem acw : T 77 = some (.go eg) := rfl
theorem acv : T 79 = some (.go cb) := rfl
theorem acu : T 80 = some (.go eh) := rfl
theorem acs : T 81 = some (.go dK) := rfl
theorem acr : T 82 = some (.go da) := rfl
theorem acq : T 83 = some (.go dc) := rfl
theorem acp : T 84 = some (.go fq) := rfl
theorem aco : T 85 = some (.go ei) := rfl
theorem acn : T 86 = some (.go fo) := rfl
theorem acm : T 87 = some (.go fm) := rfl
theorem ack : T 88 = some (.go er) := rfl
theorem acj : T 89 = some (.go fi) := rfl
theorem aci : T 90 = some (.go et) := rfl
theorem ach : T 91 = some (.go dP) := rfl
theorem acg : T 92 = some (.ext gy) := rfl
theorem acf : T 94 = some (.go cY) := rfl
theorem ace : T 95 = some (.go bl) := rfl
theorem acd : T 96 = some (.go cR) := rfl
theorem acb : T 97 = some (.go dN) := rfl
theorem aca : T 98 = some (.go cy) := rfl
theorem ab9 : T 99 = some (.go bL) := rfl
theorem Yy : T 100 = some (.go dM) := rfl
theorem Yx : T 101 = some (.go kc) := rfl
theorem Yw : T 102 = some (.go dO) := rfl
theorem Yv : T 103 = some (.go bS) := rfl
end
section
class Has (T : Nat -> Option iM) (f : Nat) (e : outParam iM) : Prop where
 has : T f = some e
def nb (n i : Nat) : Nat := n + i
def ext (m : Mem) (xs : List fM) : Mem := xs.foldl Mem.new m
theorem HF {m : Mem} {x : fM} : m.new x = ext m [x] := rfl
theorem Dr {m : Mem} {xs ys : List fM} : ext (ext m xs) ys = ext m (xs ++ ys) := by unfold ext; rw [List.foldl_append]
theorem dE {n i j : Nat} : nb (nb n i) j = nb n (i + j) := Nat.add_assoc n i j
theorem ax {m : Mem} {xs : List fM} : (ext m xs).next = nb m.next xs.length := by
 unfold ext nb
 induction xs generalizing m with
 | nil => rfl
 | cons x xs ih => rw [List.foldl_cons, ih]; show m.next + 1 + _ = _; rw [List.length_cons]; omega
theorem cq {m : Mem} {b : Nat} {x : fM} : (m.set b x).next = m.next := rfl
theorem jH {m : Mem} {x : fM} : (m.new x).next = m.next + 1 := rfl
theorem fw {m : Mem} {x : fM} {b : Nat} : (m.new x).get b = if b = m.next then x else m.get b := by
 unfold Mem.get Mem.new; simp only; rw [Tr.bY]; split <;> rfl
theorem bY {m : Mem} {x : fM} {b c : Nat} : (m.set c x).get b = if b = c then x else m.get b := by
 unfold Mem.get Mem.set; simp only; rw [Tr.bY]; split <;> rfl
theorem bM {m : Mem} {x : fM} {b : Nat} : (m.set b x).get b = x := by rw [bY, if_pos rfl]
theorem aB {m : Mem} {x : fM} {b c : Nat} (h : b ≠ c) : (m.set c x).get b = m.get b := by rw [bY, if_neg h]
theorem aG {m : Mem} {xs : List fM} {b : Nat} (h : b < m.next) : (ext m xs).get b = m.get b := by
 unfold ext
 induction xs generalizing m with
 | nil => rfl
 | cons x xs ih => rw [List.foldl_cons, ih (by rw [jH]; omega), fw, if_neg (by omega)]
theorem aC {m : Mem} {xs : List fM} {n i : Nat} (hn : m.next = n) (h : i < xs.length) : (ext m xs).get (nb n i) = xs[i]?.getD .dead := by
 subst hn;unfold ext nb
 induction xs generalizing m i with
 | nil => simp at h
 | cons x xs ih =>
  rw [List.foldl_cons]
  cases i with
  | zero =>
   have := aG (m := m.new x) (xs := xs) (b := m.next) (by rw [jH]; omega)
   unfold ext at this;rw [Nat.add_zero, this, fw, if_pos rfl]; rfl
  | succ i =>
   have := ih (m := m.new x) (i := i) (by simpa using h)
   rw [jH, show m.next + 1 + i = m.next + (i + 1) by omega] at this;rw [this]; rfl
def Au (m m' : Mem) : Prop := ∀ b, b < m.next -> m'.get b = m.get b
theorem EH {m : Mem} : Au m m := fun _ _ => rfl
theorem AU {m : Mem} {xs : List fM} : Au m (ext m xs) := fun _ h => aG h
def ldB (x : fM) (agg : Option Nat) (off : Nat) : Option EV := match x with
 | .cells cs _ _ _ => partOf agg cs off
 | _ => none
theorem wB {m : Mem} {agg : Option Nat} {b off : Nat} : m.load agg (.ptr b off) = ldB (m.get b) agg off := by
 simp only [Mem.load, ldB]; cases m.get b <;> rfl
theorem wG {cs : List EV} {e t : Nat} {ro : Bool} {agg : Option Nat} {off : Nat} : ldB (.cells cs e t ro) agg off = partOf agg cs off := rfl
theorem wo {cs : List EV} {off : Nat} : partOf none cs off = cs[off]? := rfl
theorem wm {cs : List EV} {off n : Nat} (h : off + n <= cs.length) : partOf (some n) cs off = some (.agg ((cs.drop off).take n)) := by
 show (bif (off + n).ble cs.length then some (EV.agg ((cs.drop off).take n)) else none) = _
 rw [BH h]; rfl
def Zn (m : Mem) (size b off : Nat) (vs : Option (List EV)) : Option Mem := match vs with
 | some vs => bif vs.length.beq size then m.write b off vs else none
 | none => none
theorem sJ {m : Mem} {size b off : Nat} {x : EV} : m.store size (.ptr b off) x = Zn m size b off x.cells := by
 simp only [Mem.store, Zn]; cases x.cells <;> rfl
theorem yG {m : Mem} {size b off : Nat} {vs : List EV} (h : vs.length = size) : Zn m size b off (some vs) = m.write b off vs := by
 show (bif vs.length.beq size then m.write b off vs else none) = _
 rw [h, dW]; rfl
def Zh (m : Mem) (b off : Nat) (vs : List EV) (x : fM) : Option Mem := match x with
 | .cells cs esz elem ro => bif ro then none else (jn cs off vs).map fun cs => m.set b (.cells cs esz elem ro)
 | _ => none
theorem ym {m : Mem} {b off : Nat} {vs : List EV} : m.write b off vs = Zh m b off vs (m.get b) := by simp only [Mem.write, Zh]; cases m.get b <;> rfl
theorem vB {m : Mem} {b off : Nat} {vs cs : List EV} {e t : Nat} (h : off + vs.length <= cs.length) : Zh m b off vs (.cells cs e t false) = some (m.set b (.cells (cs.take off ++ vs ++ cs.drop (off + vs.length)) e t false)) := by
 show (bif false then none else (jn cs off vs).map fun cs => m.set b (.cells cs e t false)) = _
 unfold jn; rw [BH h]; rfl
theorem xf {k : IntKind} {n : Int} : (EV.int k n).cells = some [.int k n] := rfl
theorem ud {b : Bool} : (EV.bool b).cells = some [.bool b] := rfl
theorem Ak {p : Prop} : (bo p).cells = some [bo p] := rfl
theorem w9 {s : List UInt8} : (EV.str s).cells = some [.str s] := rfl
theorem oQ : EV.bN.cells = some [.bN] := rfl
theorem xd {b o : Nat} : (EV.ptr b o).cells = some [.ptr b o] := rfl
theorem mh : EV.ae.cells = some [.ae] := rfl
theorem qS {b o l : Nat} {c : Option Nat} : (EV.slice b o l c).cells = some [.slice b o l c] := rfl
theorem oR : EV.bF.cells = some [.bF] := rfl
theorem xe {b : Nat} : (EV.map b).cells = some [.map b] := rfl
theorem nq : EV.aO.cells = some [.aO] := rfl
theorem ub {f : Nat} {x y : List EV} : (EV.func f x y).cells = some [.func f x y] := rfl
theorem ml : EV.aJ.cells = some [.aJ] := rfl
theorem qT {t : Nat} {v : EV} : (EV.iface t v).cells = some [.iface t v] := rfl
theorem xg {cs : List EV} : (EV.agg cs).cells = some cs := rfl
def NG (cs : List EV) (off size : Nat) (vs : Option (List EV)) (r : List (Nat × Nat × EV)) : Option (List EV) := match vs with
 | some vs => bif vs.length.beq size then match jn cs off vs with
   | some cs => fu cs r
   | none => none
  else none
 | none => none
theorem rY {cs : List EV} : fu cs [] = some cs := rfl
theorem rZ {cs : List EV} {off size : Nat} {v : EV} {r : List (Nat × Nat × EV)} : fu cs ((off, size, v) :: r) = NG cs off size v.cells r := by simp only [NG, fu]; cases v.cells <;> rfl
theorem pA {cs : List EV} {off size : Nat} {vs : List EV} {r : List (Nat × Nat × EV)} (h : vs.length = size) (h2 : off + vs.length <= cs.length) : NG cs off size (some vs) r = fu (cs.take off ++ vs ++ cs.drop (off + vs.length)) r := by
 show (bif vs.length.beq size then match jn cs off vs with | some cs => fu cs r | none => none else none) = _
 unfold jn; rw [h, dW, BH (by rw [<- h]; exact h2)]; rfl
def V9 (elem : Nat) (m : Mem) (vs : Option (List EV)) : Option R1 := match vs with
 | some cs => some (.val (.ptr (nb m.next 0) 0) (ext m [.cells cs cs.length elem false]))
 | none => none
theorem wU {ρ : aZ -> EV} {m : Mem} {elem : Nat} {x : aZ} : aF ρ (.box elem x) m = V9 elem m (ρ x).cells := by
 simp only [aF]; unfold V9; cases (ρ x).cells <;> rfl
theorem xh {elem : Nat} {m : Mem} {cs : List EV} : V9 elem m (some cs) = some (.val (.ptr (nb m.next 0) 0) (ext m [.cells cs cs.length elem false])) := rfl
theorem qO {ρ : aZ -> EV} {m : Mem} {elem : Nat} {zero : List EV} : aF ρ (.alloc elem zero) m = some (.val (.ptr (nb m.next 0) 0) (ext m [.cells zero zero.length elem false])) := rfl
theorem qD {ρ : aZ -> EV} {m : Mem} : aF ρ .uZ m = some (.val (.map (nb m.next 0)) (ext m [.map []])) := rfl
theorem Qu {α : Type} (x y : α) (p : List Bool) : ∀ t : Tr α, (t.put x p).put y p = t.put y p := by
 induction p with
 | nil => intro t; cases t <;> rfl
 | cons b p ih => intro t; cases t <;> cases b <;> simp [Tr.put, ih]
theorem put_comm {α : Type} (x y : α) (p : List Bool) : ∀ (q : List Bool) (t : Tr α), p ≠ q -> (t.put x p).put y q = (t.put y q).put x p := by
 induction p with
 | nil =>
  intro q t h
  cases q with
  | nil => exact absurd rfl h
  | cons c q => cases t <;> cases c <;> simp [Tr.put]
 | cons b p ih =>
  intro q t h
  cases q with
  | nil => cases t <;> cases b <;> simp [Tr.put]
  | cons c q =>
   by_cases RG : b = c
   ·subst RG
    have hpq : p ≠ q := fun e => h (by rw [e])
    cases t <;> cases b <;> simp [Tr.put, ih _ _ hpq]
   ·cases t <;> cases b <;> cases c <;> simp [Tr.put] at RG ⊢
theorem Td {m : Mem} {b : Nat} {x y : fM} (h : b < m.next) : (m.new y).set b x = (m.set b x).new y := by
 unfold Mem.set Mem.new Tr.set; simp only; rw [put_comm _ _ _ _ _ (fun e => by have := Jc e; omega)]
theorem HE {m : Mem} {x y : fM} : (m.new y).set m.next x = m.new x := by
 unfold Mem.set Mem.new Tr.set; simp only; rw [Qu]
theorem nz {m : Mem} {xs : List fM} {b : Nat} {x : fM} (h : b < m.next) : (ext m xs).set b x = ext (m.set b x) xs := by
 unfold ext
 induction xs generalizing m with
 | nil => rfl
 | cons y ys ih => rw [List.foldl_cons, ih (by rw [jH]; omega), Td h]; rfl
theorem pi {m : Mem} {xs : List fM} {n i : Nat} {x : fM} (hn : m.next = n) (h : i < xs.length) : (ext m xs).set (nb n i) x = ext m (xs.set i x) := by
 subst hn
 induction xs generalizing m i with
 | nil => simp at h
 | cons y ys ih =>
  cases i with
  | zero =>
   have := nz (m := m.new y) (xs := ys) (b := m.next) (x := x) (by rw [jH]; omega)
   rw [HE] at this;exact this
  | succ i =>
   have := ih (m := m.new y) (i := i) (by simpa using h)
   rw [jH] at this;unfold nb at this ⊢
   rw [show m.next + (i + 1) = m.next + 1 + i by omega];exact this
open Classical in
noncomputable def aaW (T : Nat -> Option iM) (f : Nat) : List EV -> Mem -> Option EV := fun args m => match run T f args m with
 | some (.ret v m') => if Flat v = true /\ Au m m' then some v else none
 | _ => none
end
section
theorem Ch (x : aZ) : cZ (.ab x) = 0 := rfl
theorem vZ (elem : Nat) (zero : List EV) : cZ (.alloc elem zero) = 1 := rfl
theorem Cn (elem : Nat) (x : aZ) : cZ (.box elem x) = 1 := rfl
theorem vY (zero : List EV) (parts : List (Nat × Nat × aZ)) : cZ (.build zero parts) = 0 := rfl
theorem sT (elem esz len : Nat) (zero : List EV) (parts : List (Nat × aZ)) : cZ (.bB elem esz len zero parts) = 1 := rfl
theorem vQ (size : Nat) (a x : aZ) : cZ (.store size a x) = 3 := rfl
theorem vT (x : aZ) : cZ (.cA x) = 0 := rfl
theorem Co (op : BinOp) (x y : aZ) : cZ (.bin op x y) = 0 := rfl
theorem Ho (neg : Bool) (t : su) (x y : aZ) : cZ (.eq neg t x y) = 0 := rfl
theorem Hn (op : UnOp) (x : aZ) : cZ (.un op x) = 0 := rfl
theorem vV (t : Nat) (x : aZ) : cZ (.iface t x) = 0 := rfl
theorem yJ (f : Nat) (a c : List aZ) : cZ (.BQ f a c) = 0 := rfl
theorem vU  : cZ (.uZ ) = 1 := rfl
theorem qb (elem esz : Nat) (zero : List EV) (len cap : aZ) : cZ (.lU elem esz zero len cap) = 1 := rfl
theorem vR (x : aZ) (lo hi : Option aZ) : cZ (.gh x lo hi) = 0 := rfl
theorem yH (esz : Nat) (x : aZ) (lo hi max : Option aZ) : cZ (.uP esz x lo hi max) = 3 := rfl
theorem vS (n esz : Nat) (x : aZ) (lo hi max : Option aZ) : cZ (.xz n esz x lo hi max) = 0 := rfl
theorem vX (off : Nat) (x : aZ) : cZ (.aj off x) = 0 := rfl
theorem Cl (agg : Option Nat) (off : Nat) (x : aZ) : cZ (.A5 agg off x) = 0 := rfl
theorem vW (esz : Nat) (x i : aZ) : cZ (.ee esz x i) = 0 := rfl
theorem oz (n esz : Nat) (x i : aZ) : cZ (.nH n esz x i) = 0 := rfl
theorem sP (x i : aZ) : cZ (.eD x i) = 0 := rfl
theorem sQ (n esz : Nat) (agg : Option Nat) (x i : aZ) : cZ (.u6 n esz agg x i) = 0 := rfl
theorem sL (kt : Nat) (zero : EV) (ok : Bool) (mp k : aZ) : cZ (.lookup kt zero ok mp k) = 3 := rfl
theorem sK (kt : Nat) (mp k x : aZ) : cZ (.pq kt mp k x) = 3 := rfl
theorem sR (kt : Nat) (mp k : aZ) : cZ (.delete kt mp k) = 3 := rfl
theorem sN (mp : aZ) : cZ (.ri mp) = 3 := rfl
theorem qa (t : Nat) (x : aZ) : cZ (.p6 t x) = 0 := rfl
theorem qc (x : aZ) (i : Nat) : cZ (.extract x i) = 0 := rfl
theorem Ck (x : aZ) : cZ (.len x) = 0 := rfl
theorem sM (x : aZ) : cZ (.cH x) = 0 := rfl
theorem sO (n : Nat) : cZ (.u5 n) = 0 := rfl
theorem Cm (x : aZ) : cZ (.cap x) = 0 := rfl
theorem Cj (args : List aZ) : cZ (.max args) = 0 := rfl
theorem Ci (args : List aZ) : cZ (.min args) = 0 := rfl
theorem sU (elem esz bytes : Nat) (s x : aZ) : cZ (.append elem esz bytes s x) = 3 := rfl
theorem yK (esz : Nat) (d s : aZ) : cZ (.copy esz d s) = 3 := rfl
theorem yI {x y z : aZ} : cZ (.pick x y z) = 0 := rfl
theorem sS {k : IntKind} {x : aZ} : cZ (.conv (.int k) x) = 0 := rfl
theorem qg {x : aZ} : cZ (.conv .same x) = 0 := rfl
theorem oA {e : Nat} {x : aZ} : cZ (.conv (.bytes e) x) = 1 := rfl
theorem qe {x : aZ} : cZ (.conv .text x) = 3 := rfl
def bump (m : Mem) (k : Nat) : Mem := ⟨m.next + k, m.gM⟩
theorem gF {m : Mem} {k b : Nat} : (bump m k).get b = m.get b := rfl
theorem br {m : Mem} {k : Nat} : (bump m k).next = nb m.next k := rfl
theorem yN {m : Mem} {k b : Nat} {x : fM} : (bump m k).set b x = bump (m.set b x) k := rfl
theorem wD {m : Mem} {k : Nat} {agg : Option Nat} {a : EV} : (bump m k).load agg a = m.load agg a := rfl
theorem MX {n i j : Nat} : nb n i < nb n j ↔ i < j := by unfold nb; omega
theorem HH {n i j : Nat} : nb n i = nb n j ↔ i = j := by unfold nb; omega
theorem MZ {b n i : Nat} (h : b < n) : b < nb n i := by unfold nb; omega
theorem qB {m : Mem} {xs : List fM} {n i j : Nat} (hn : m.next = nb n j) (h : j <= i) (h2 : i - j < xs.length) : (ext m xs).get (nb n i) = xs[i - j]?.getD .dead := by
 have := aC (m := m) (xs := xs) (n := nb n j) (i := i - j) hn h2
 rw [dE, show j + (i - j) = i by omega] at this; exact this
theorem qh {m : Mem} {xs : List fM} {n i j : Nat} {x : fM} (hn : m.next = nb n j) (h : j <= i) (h2 : i - j < xs.length) : (ext m xs).set (nb n i) x = ext m (xs.set (i - j) x) := by
 have := pi (m := m) (xs := xs) (n := nb n j) (i := i - j) (x := x) hn h2
 rw [dE, show j + (i - j) = i by omega] at this; exact this
theorem tu {m m' : Mem} {k : Nat} (h : Au m m') : Au m (bump m' k) := h
theorem LH {m m' : Mem} {xs : List fM} (h : Au m m') (hn : m.next <= m'.next) : Au m (ext m' xs) := fun c hc => by rw [aG (by omega)]; exact h c hc
theorem bH {n i : Nat} : n <= nb n i := by unfold nb; omega
mutual
def Told : EV -> Bool
 | .fz t _ els => !(t.beq 0) && Bg els
 | .fL _ _ _ _ => false
 | .func _ x y => kU x && kU y
 | .iface _ v => Told v
 | .agg x | .tuple x => kU x
 | _ => true
def kU : List EV -> Bool
 | [] => true
 | v :: x => Told v && kU x
def Bg : List (List EV) -> Bool
 | [] => true
 | v :: x => kU v && Bg x
end
mutual
theorem rE : ∀ v : EV, Told v = true -> EV.same v v = true
 | .undef, _ | .bN, _ | .ae, _ | .bF, _ | .aO, _ | .aJ, _ => rfl
 | .bool b, _ => by cases b <;> rfl
 | .int k n, _ => by
  have h1 : (b6 k).beq (b6 k) = true := Nat.beq_refl _
  have h2 : s4 n n = true := by cases n <;> exact Nat.beq_refl _
  simp only [EV.same, h1, cond_true, h2]
 | .str s, _ => by simp only [EV.same, fH, decide_true]
 | .ptr a i, _ => by simp only [EV.same, Nat.beq_refl, cond_true]
 | .slice a i n c, _ => by
  have h : yO c c = true := by cases c <;> simp [yO]
  simp only [EV.same, Nat.beq_refl, cond_true, h]
 | .map a, _ => by simp only [EV.same, Nat.beq_refl]
 | .func f x y, h => by
  simp only [Told, pL] at h;simp only [EV.same, Nat.beq_refl, cond_true, mJ x h.1, mJ y h.2]
 | .iface t v, h => by simp only [EV.same, Nat.beq_refl, cond_true, rE v (by simpa only [Told] using h)]
 | .agg x, h => by simp only [EV.same, mJ x (by simpa only [Told] using h)]
 | .tuple x, h => by simp only [EV.same, mJ x (by simpa only [Told] using h)]
 | .fz t e els, h => by
  simp only [Told, pL, Bool.not_eq_true'] at h;simp only [EV.same, h.1, cond_false, Nat.beq_refl, cond_true, Bm els h.2]
 | .fL _ _ _ _, h => by simp [Told] at h
theorem mJ : ∀ x : List EV, kU x = true -> EV.mz x x = true
 | [], _ => rfl
 | v :: x, h => by
  simp only [kU, pL] at h;simp only [EV.mz, rE v h.1, cond_true, mJ x h.2]
theorem Bm : ∀ x : List (List EV), Bg x = true -> EV.re x x = true
 | [], _ => rfl
 | v :: x, h => by
  simp only [Bg, pL] at h;simp only [EV.re, mJ v h.1, cond_true, Bm x h.2]
end
section
variable {T : Nat -> Option iM} {chk : List (Nat × Nat)} {B0 i : Nat} {l : List bd} {fr : Fr} {m : Mem} {sn : List (Nat × Mem)} {se : List Seen} {d : Option Nat}
theorem tG : exec T (.draw l chk) fr m = lj T chk m.next l 0 fr (bump m l.length) [] [] := rfl
theorem z5 : lj T chk B0 [] i fr m sn se = some (.norm fr m) := fZ.2 ⟨0, rfl⟩
def ul (o : Option EV) (k : EV -> Option Out) : Option Out := match o with
 | some v => k v
 | none => none
@[congr] theorem T9 {o o' : Option EV} {k : EV -> Option Out} (h : o = o') : ul o k = ul o' k := by rw [h]
theorem sG {v : EV} {k : EV -> Option Out} : ul (some v) k = k v := rfl
def CT (b : Bool) (o : Option Out) : Option Out := bif b then o else none
@[congr] theorem Wy {b b' : Bool} {o : Option Out} (h : b = b') : CT b o = CT b' o := by rw [h]
theorem jZ {o : Option Out} : CT true o = o := rfl
theorem A9 {op : lL} (h : cZ op = 0) : lj T chk B0 (⟨d, .val op, none⟩ :: l) i fr m sn se = gL (aF fr.eval op m) fun v _ => lj T chk B0 l (i + 1) (fr.put d v) m sn se := by
 refine dl fun r => ?_
 rw [fZ];simp only [dR, bm, h]
 cases aF fr.eval op m with
 | none => simp [gL]
 | some q => obtain ⟨v, m1⟩ := q; simp only [gL]; exact fZ.symm
theorem A8 {op : lL} (h : cZ op = 1) : lj T chk B0 (⟨d, .val op, none⟩ :: l) i fr m sn se = gL (aF fr.eval op ⟨B0 + i, m.gM⟩) fun v m1 => lj T chk B0 l (i + 1) (fr.put d v) ⟨m.next, m1.gM⟩ sn se := by
 refine dl fun r => ?_
 rw [fZ];simp only [dR, bm, h]
 cases aF fr.eval op ⟨B0 + i, m.gM⟩ with
 | none => simp [gL]
 | some q => obtain ⟨v, m1⟩ := q; simp only [gL]; exact fZ.symm
theorem Ih {op : lL} (h : cZ op = 3) : lj T chk B0 (⟨d, .val op, none⟩ :: l) i fr m sn se = gL (aF fr.eval op m) fun v m' => CT (bc chk i m' se) (lj T chk B0 l (i + 1) (fr.put d v) m' ((i, m) :: sn) se) := by
 refine dl fun r => ?_
 rw [fZ];simp only [dR, bm, h]
 cases aF fr.eval op m with
 | none => simp [gL]
 | some q =>
  obtain ⟨v, m1⟩ := q
  simp only [gL]
  cases bc chk i m1 se
  ·simp [CT]
  ·simp only [CT, cond_true]; exact fZ.symm
def Sz (a : EV) (x y : Option Out) : Option Out := bif GF a then x else y
@[congr] theorem Wx {a a' : EV} {x y : Option Out} (h : a = a') : Sz a x y = Sz a' x y := by rw [h]
theorem CS {b o : Nat} {x y : Option Out} : Sz (.ptr b o) x y = y := rfl
theorem zn {e i k : Nat} {els : List (List EV)} {x y : Option Out} : Sz (.fL e els i k) x y = x := rfl
theorem z7 {agg : Option Nat} {a : aZ} : lj T chk B0 (⟨d, .val (.load agg a), none⟩ :: l) i fr m sn se = ul (m.load agg (fr.eval a)) fun v => Sz (fr.eval a) (CT (dV chk i m.next sn) (lj T chk B0 l (i + 1) (fr.put d v) m sn se)) (CT (bK chk i agg (fr.eval a) v sn) (lj T chk B0 l (i + 1) (fr.put d v) m sn (⟨i, agg, fr.eval a, v⟩ :: se))) := by
 refine dl fun r => ?_
 rw [fZ];simp only [dR, bm, cZ]
 cases m.load agg (fr.eval a) with
 | none => simp [ul]
 | some v =>
  simp only [ul, Sz]
  cases GF (fr.eval a)
  ·simp only [cond_false]
   cases bK chk i agg (fr.eval a) v sn
   ·simp [CT]
   ·simp only [CT, cond_true]; exact fZ.symm
  ·simp only [cond_true]
   cases dV chk i m.next sn
   ·simp [CT]
   ·simp only [CT, cond_true]; exact fZ.symm
def rv (o : Option Fin) (k : EV -> Mem -> Option Out) : Option Out := match o with
 | some (.ret v m) => k v m
 | _ => none
@[congr] theorem Ud {o o' : Option Fin} {k : EV -> Mem -> Option Out} (h : o = o') : rv o k = rv o' k := by rw [h]
theorem vL {v : EV} {m : Mem} {k : EV -> Mem -> Option Out} : rv (some (.ret v m)) k = k v m := rfl
theorem Ac {x : aZ} {args : List aZ} : lj T chk B0 (⟨d, .call x args, none⟩ :: l) i fr m sn se = rv (AO T (fr.eval x) (args.map fr.eval) m) fun v m' => CT (bc chk i m' se) (lj T chk B0 l (i + 1) (fr.put d v) m' ((i, m) :: sn) se) := by
 refine dl fun r => ?_
 rw [fZ];simp only [dR, bm]
 cases hx : fr.eval x
 case func g a c =>
  simp only [fR, AO]
  constructor
  ·rintro ⟨k, h⟩
   cases hc : aW T k g (a ++ args.map fr.eval ++ c) m with
   | none => rw [hc] at h; cases h
   | some q =>
    rw [ng.2 ⟨k, hc⟩];simp only [hc] at h
    cases q with
    | ret v m1 =>
     simp only [rv]
     cases hk : bc chk i m1 se
     ·simp [hk] at h
     ·simp only [hk, cond_true] at h
      simp only [CT, cond_true]; exact fZ.2 ⟨k, h⟩
    | gO v m1 => simp at h
  ·intro h
   cases hc : run T g (a ++ args.map fr.eval ++ c) m with
   | none => rw [hc] at h; cases h
   | some q =>
    obtain ⟨k1, h1⟩ := ng.1 hc
    rw [hc] at h
    cases q with
    | ret v m1 =>
     simp only [rv] at h
     cases hk : bc chk i m1 se
     ·simp [hk, CT] at h
     ·simp only [hk, CT, cond_true] at h
      obtain ⟨k2, h2⟩ := fZ.1 h
      refine ⟨max k1 k2, ?_⟩
      have e1 := EA _ _ _ (Nat.le_max_left k1 k2) h1
      have e2 := Ju _ _ _ (Nat.le_max_right k1 k2) h2
      simp only at e1 e2
      simp only [e1, hk, cond_true]; exact e2
    | gO v m1 => cases h
 all_goals simp [fR, AO, rv]
def QM (i : Nat) (chk : List (Nat × Nat)) : Bool := chk.all fun p => p.1 != i
def MW (j : Nat) (chk : List (Nat × Nat)) : Bool := chk.all fun p => p.2 != j
theorem CI : QM i [] = true := rfl
theorem uX {a b : Nat} : QM i ((a, b) :: chk) = (a != i && QM i chk) := rfl
theorem CJ : MW i [] = true := rfl
theorem uY {a b : Nat} : MW i ((a, b) :: chk) = (b != i && MW i chk) := rfl
theorem za {j : Nat} : ∀ {chk : List (Nat × Nat)}, QM i chk = true -> bX i j chk = false
 | [], _ => rfl
 | (a, b) :: chk, h => by
  simp only [uX, pL, bne_iff_ne, ne_eq] at h;simp only [bX, j4 h.1, cond_false];exact za h.2
theorem zb {j : Nat} : ∀ {chk : List (Nat × Nat)}, MW j chk = true -> bX i j chk = false
 | [], _ => rfl
 | (a, b) :: chk, h => by
  simp only [uY, pL, bne_iff_ne, ne_eq] at h;simp only [bX, j4 h.1, cond_false];rw [zb h.2]; cases a.beq i <;> rfl
theorem I3 {agg : Option Nat} {a v : EV} (h : QM i chk = true) : ∀ sn, bK chk i agg a v sn = true
 | [] => rfl
 | (j, m1) :: sn => by simp only [bK, za h, cond_false]; exact I3 h sn
theorem MT {n : Nat} (h : QM i chk = true) : ∀ sn, dV chk i n sn = true
 | [] => rfl
 | (j, m1) :: sn => by simp only [dV, za h, cond_false]; exact MT h sn
theorem En {m : Mem} (h : MW i chk = true) : ∀ se, bc chk i m se = true
 | [] => rfl
 | x :: se => by simp only [bc, zb h, cond_false]; exact En h se
def KB (chk : List (Nat × Nat)) (se se' : List Seen) : Prop := ∀ j m, bc chk j m se = bc chk j m se'
def KA (chk : List (Nat × Nat)) (sn Ef : List (Nat × Mem)) : Prop := (∀ i agg a v, bK chk i agg a v sn = bK chk i agg a v Ef) /\ ∀ i n, dV chk i n sn = dV chk i n Ef
theorem KB.cons {se se' : List Seen} (h : KB chk se se') (x : Seen) : KB chk (x :: se) (x :: se') := fun j m => by simp only [bc, h j m]
theorem KA.cons {sn Ef : List (Nat × Mem)} (h : KA chk sn Ef) (x : Nat × Mem) : KA chk (x :: sn) (x :: Ef) := ⟨fun i agg a v => by obtain ⟨j, m⟩ := x; simp only [bK, h.1 i agg a v], fun i n => by obtain ⟨j, m⟩ := x; simp only [dV, h.2 i n]⟩
theorem BC {call : Call} : ∀ (l : List bd) (i : Nat) (fr : Fr) (m : Mem) (sn Ef : List (Nat × Mem)) (se se' : List Seen), KA chk sn Ef -> KB chk se se' -> dR call chk B0 l i fr m sn se = dR call chk B0 l i fr m Ef se'
 | [], i, fr, m, sn, Ef, se, se', _, _ => rfl
 | o :: r, i, fr, m, sn, Ef, se, se', h2, h1 => by
  have ih := fun i fr m sn Ef se se' h2 h1 => BC (call := call) r i fr m sn Ef se se' h2 h1
  simp only [dR]
  cases bm fr o.guard with
  | none => rfl
  | some b =>
  cases b with
  | false => exact ih _ _ _ _ _ _ _ h2 h1
  | true =>
   simp only
   cases o.op with
   | val op =>
    simp only
    split
    ·cases aF fr.eval op m with
     | none => rfl
     | some q => obtain ⟨v, m1⟩ := q; exact ih _ _ _ _ _ _ _ h2 h1
    ·cases aF fr.eval op ⟨B0 + i, m.gM⟩ with
     | none => rfl
     | some q => obtain ⟨v, m1⟩ := q; exact ih _ _ _ _ _ _ _ h2 h1
    ·split
     ·rename_i agg x _
      cases m.load agg (fr.eval x) with
      | none => rfl
      | some v =>
       simp only [h2.1 i agg (fr.eval x) v, h2.2 i m.next]
       cases GF (fr.eval x)
       ·simp only [cond_false]
        cases bK chk i agg (fr.eval x) v Ef
        ·rfl
        ·simp only [cond_true]; exact ih _ _ _ _ _ _ _ h2 (h1.cons _)
       ·simp only [cond_true]
        cases dV chk i m.next Ef
        ·rfl
        ·simp only [cond_true]; exact ih _ _ _ _ _ _ _ h2 h1
     ·rfl
    ·cases aF fr.eval op m with
     | none => rfl
     | some q =>
      obtain ⟨v, m1⟩ := q
      simp only [h1 i m1]
      cases bc chk i m1 se'
      ·rfl
      ·simp only [cond_true]; exact ih _ _ _ _ _ _ _ (h2.cons _) h1
   | call f args =>
    simp only
    cases fR call (fr.eval f) (args.map fr.eval) m with
    | none => rfl
    | some q =>
     cases q with
     | ret v m1 =>
      simp only [h1 i m1]
      cases bc chk i m1 se'
      ·rfl
      ·simp only [cond_true]; exact ih _ _ _ _ _ _ _ (h2.cons _) h1
     | gO v m1 => rfl
   | panic x => rfl
   | defer f x => rfl
theorem Kc {Ef : List (Nat × Mem)} {se' : List Seen} (h2 : KA chk sn Ef) (h1 : KB chk se se') : lj T chk B0 l i fr m sn se = lj T chk B0 l i fr m Ef se' := by
 unfold lj; congr 1; funext k; exact BC l i fr m sn Ef se se' h2 h1
theorem R2 {j : Nat} {agg : Option Nat} {a v : EV} (h : QM j chk = true) : lj T chk B0 l i fr m sn (⟨j, agg, a, v⟩ :: se) = lj T chk B0 l i fr m sn se :=
 Kc ⟨fun _ _ _ _ => rfl, fun _ _ => rfl⟩ fun k m => by simp only [bc, za h, cond_false]
theorem Kb {j : Nat} {m1 : Mem} (h : MW j chk = true) : lj T chk B0 l i fr m ((j, m1) :: sn) se = lj T chk B0 l i fr m sn se :=
 Kc ⟨fun i agg a v => by simp only [bK, zb h, cond_false], fun i n => by simp only [dV, zb h, cond_false]⟩ fun _ _ => rfl
theorem sg {agg : Option Nat} {a : aZ} (h : QM i chk = true) : lj T chk B0 (⟨d, .val (.load agg a), none⟩ :: l) i fr m sn se = ul (m.load agg (fr.eval a)) fun v => lj T chk B0 l (i + 1) (fr.put d v) m sn se := by
 rw [z7]; cases m.load agg (fr.eval a) with
 | none => rfl
 | some v => simp only [ul, I3 h, MT h, jZ, R2 h, Sz]; cases GF (fr.eval a) <;> rfl
theorem wY {agg : Option Nat} {a : aZ} (_h : QM i chk = false) : lj T chk B0 (⟨d, .val (.load agg a), none⟩ :: l) i fr m sn se = ul (m.load agg (fr.eval a)) fun v => Sz (fr.eval a) (CT (dV chk i m.next sn) (lj T chk B0 l (i + 1) (fr.put d v) m sn se)) (CT (bK chk i agg (fr.eval a) v sn) (lj T chk B0 l (i + 1) (fr.put d v) m sn (⟨i, agg, fr.eval a, v⟩ :: se))) := z7
theorem z0 {op : lL} (h : cZ op = 3) (h0 : MW i chk = true) : lj T chk B0 (⟨d, .val op, none⟩ :: l) i fr m sn se = gL (aF fr.eval op m) fun v m' => lj T chk B0 l (i + 1) (fr.put d v) m' sn se := by
 rw [Ih h]; cases aF fr.eval op m with
 | none => rfl
 | some q => obtain ⟨v, m1⟩ := q; simp only [gL, En h0, jZ, Kb h0]
theorem DB {op : lL} (h : cZ op = 3) (_h0 : MW i chk = false) : lj T chk B0 (⟨d, .val op, none⟩ :: l) i fr m sn se = gL (aF fr.eval op m) fun v m' => CT (bc chk i m' se) (lj T chk B0 l (i + 1) (fr.put d v) m' ((i, m) :: sn) se) := Ih h
theorem si {x : aZ} {args : List aZ} (h0 : MW i chk = true) : lj T chk B0 (⟨d, .call x args, none⟩ :: l) i fr m sn se = rv (AO T (fr.eval x) (args.map fr.eval) m) fun v m' => lj T chk B0 l (i + 1) (fr.put d v) m' sn se := by
 rw [Ac]; cases AO T (fr.eval x) (args.map fr.eval) m with
 | none => rfl
 | some q => cases q with
  | ret v m1 => simp only [rv, En h0, jZ, Kb h0]
  | gO v m1 => rfl
theorem wZ {x : aZ} {args : List aZ} (_h0 : MW i chk = false) : lj T chk B0 (⟨d, .call x args, none⟩ :: l) i fr m sn se = rv (AO T (fr.eval x) (args.map fr.eval) m) fun v m' => CT (bc chk i m' se) (lj T chk B0 l (i + 1) (fr.put d v) m' ((i, m) :: sn) se) := Ac
theorem kl {op : AD} {t : Nat} {w : Bool} : lj T chk B0 (⟨d, op, some (t, w)⟩ :: l) i fr m sn se = gE (fr.get t) w (lj T chk B0 (⟨d, op, none⟩ :: l) i fr m sn se) (lj T chk B0 l (i + 1) (fr.put d .undef) m sn se) := by
 cases h : fr.get t
 case bool b =>
  refine dl fun r => ?_
  rw [fZ];simp only [dR, bm, h, gE]
  cases hb : b == w
  ·simp only [cond_false]; exact fZ.symm
  ·simp only [cond_true]
   rw [fZ];simp only [dR, bm]
 case undef =>
  refine dl fun r => ?_
  rw [fZ];simp only [dR, bm, h, gE];exact fZ.symm
 all_goals
  refine dl fun r => ?_
  rw [fZ];simp only [dR, bm, h, reduceCtorEq, exists_const, gE]
def U0 (o : Option Fin) : Option R1 := match o with
 | some (.ret v m) => some (.val v m)
 | _ => none
theorem yQ {v : EV} {m : Mem} : U0 (some (.ret v m)) = some (.val v m) := rfl
theorem Qb {o : Option Fin} {k : EV -> Mem -> Option Out} : rv o k = gL (U0 o) k := by cases o with | none => rfl | some q => cases q <;> rfl
theorem DD {op : lL} {t : Nat} {w : Bool} (h : cZ op = 0) : lj T chk B0 (⟨d, .val op, some (t, w)⟩ :: l) i fr m sn se = gV (fr.get t) w m (aF fr.eval op m) fun v _ => lj T chk B0 l (i + 1) (fr.put d v) m sn se := by rw [kl, A9 h]; rfl
theorem DC {op : lL} {t : Nat} {w : Bool} (h : cZ op = 1) : lj T chk B0 (⟨d, .val op, some (t, w)⟩ :: l) i fr m sn se = gE (fr.get t) w (gL (aF fr.eval op ⟨B0 + i, m.gM⟩) fun v m1 => lj T chk B0 l (i + 1) (fr.put d v) ⟨m.next, m1.gM⟩ sn se) (lj T chk B0 l (i + 1) (fr.put d .undef) m sn se) := by rw [kl, A8 h]
theorem Ab {agg : Option Nat} {a : aZ} {t : Nat} {w : Bool} (h : QM i chk = true) : lj T chk B0 (⟨d, .val (.load agg a), some (t, w)⟩ :: l) i fr m sn se = gV (fr.get t) w m (gA m (m.load agg (fr.eval a))) fun v _ => lj T chk B0 l (i + 1) (fr.put d v) m sn se := by
 rw [kl, sg h]; unfold gV
 cases m.load agg (fr.eval a) <;> rfl
theorem Aa {agg : Option Nat} {a : aZ} {t : Nat} {w : Bool} (_h : QM i chk = false) : lj T chk B0 (⟨d, .val (.load agg a), some (t, w)⟩ :: l) i fr m sn se = gE (fr.get t) w (ul (m.load agg (fr.eval a)) fun v => Sz (fr.eval a) (CT (dV chk i m.next sn) (lj T chk B0 l (i + 1) (fr.put d v) m sn se)) (CT (bK chk i agg (fr.eval a) v sn) (lj T chk B0 l (i + 1) (fr.put d v) m sn (⟨i, agg, fr.eval a, v⟩ :: se)))) (lj T chk B0 l (i + 1) (fr.put d .undef) m sn se) := by rw [kl, z7]
theorem z9 {op : lL} {t : Nat} {w : Bool} (h : cZ op = 3) (h0 : MW i chk = true) : lj T chk B0 (⟨d, .val op, some (t, w)⟩ :: l) i fr m sn se = gV (fr.get t) w m (aF fr.eval op m) fun v m' => lj T chk B0 l (i + 1) (fr.put d v) m' sn se := by rw [kl, z0 h h0]; rfl
theorem z8 {op : lL} {t : Nat} {w : Bool} (h : cZ op = 3) (_h0 : MW i chk = false) : lj T chk B0 (⟨d, .val op, some (t, w)⟩ :: l) i fr m sn se = gE (fr.get t) w (gL (aF fr.eval op m) fun v m' => CT (bc chk i m' se) (lj T chk B0 l (i + 1) (fr.put d v) m' ((i, m) :: sn) se)) (lj T chk B0 l (i + 1) (fr.put d .undef) m sn se) := by rw [kl, Ih h]
theorem tT {x : aZ} {args : List aZ} {t : Nat} {w : Bool} (h0 : MW i chk = true) : lj T chk B0 (⟨d, .call x args, some (t, w)⟩ :: l) i fr m sn se = gV (fr.get t) w m (U0 (AO T (fr.eval x) (args.map fr.eval) m)) fun v m' => lj T chk B0 l (i + 1) (fr.put d v) m' sn se := by rw [kl, si h0, Qb]; rfl
theorem tS {x : aZ} {args : List aZ} {t : Nat} {w : Bool} (_h0 : MW i chk = false) : lj T chk B0 (⟨d, .call x args, some (t, w)⟩ :: l) i fr m sn se = gE (fr.get t) w (rv (AO T (fr.eval x) (args.map fr.eval) m) fun v m' => CT (bc chk i m' se) (lj T chk B0 l (i + 1) (fr.put d v) m' ((i, m) :: sn) se)) (lj T chk B0 l (i + 1) (fr.put d .undef) m sn se) := by rw [kl, Ac]
section
variable {p q : Prop} {x y : Option Out}
theorem Dc : gE (bo p) true x y = iF p x y := by by_cases h : p <;> simp [gE, bo, iF, h]
theorem Dd : gE (bo p) false x y = iF p y x := by by_cases h : p <;> simp [gE, bo, iF, h]
theorem Nt : gE (.bool true) true x y = x := rfl
theorem Nu : gE (.bool true) false x y = y := rfl
theorem Nw : gE (.bool false) true x y = y := rfl
theorem Nx : gE (.bool false) false x y = x := rfl
theorem zF {w : Bool} : gE .undef w x y = y := rfl
theorem C6 : gE (gv p (bo q)) true x y = iF (p /\ q) x y := by by_cases h : p <;> by_cases h' : q <;> simp [gE, bo, gv, iF, h, h']
theorem C7 : gE (gv p (bo q)) false x y = iF (p /\ ¬ q) x y := by by_cases h : p <;> by_cases h' : q <;> simp [gE, bo, gv, iF, h, h']
theorem C8 : gE (gv p (.bool true)) true x y = iF p x y := by by_cases h : p <;> simp [gE, gv, iF, h]
theorem C9 : gE (gv p (.bool true)) false x y = y := by by_cases h : p <;> simp [gE, gv, h]
theorem Da : gE (gv p (.bool false)) true x y = y := by by_cases h : p <;> simp [gE, gv, h]
theorem Db : gE (gv p (.bool false)) false x y = iF p x y := by by_cases h : p <;> simp [gE, gv, iF, h]
end
theorem DE {j : Nat} : bc chk j m [] = true := rfl
theorem Ah {j : Nat} {s : Seen} : bc chk j m (s :: se) = ((!bX s.i j chk || m.eL s.agg s.a s.v) && bc chk j m se) := by
 simp only [bc]; cases bX s.i j chk <;> simp
theorem yL {agg : Option Nat} {a v : EV} : bK chk i agg a v [] = true := rfl
theorem v8 {agg : Option Nat} {a v : EV} {j : Nat} {m1 : Mem} : bK chk i agg a v ((j, m1) :: sn) = ((!bX i j chk || m1.eL agg a v) && bK chk i agg a v sn) := by
 simp only [bK]; cases bX i j chk <;> simp
theorem CH {n : Nat} : dV chk i n [] = true := rfl
theorem y5 {n j : Nat} {m1 : Mem} : dV chk i n ((j, m1) :: sn) = ((!bX i j chk || m1.next.beq n) && dV chk i n sn) := by
 simp only [dV]; cases bX i j chk <;> cases m1.next.beq n <;> simp
theorem yX {j : Nat} : bX i j [] = false := rfl
theorem wq {j a b : Nat} : bX i j ((a, b) :: chk) = ((a == i && b == j) || bX i j chk) := by
 simp only [bX];have e : ∀ x y : Nat, x.beq y = (x == y) := fun x y => by
  by_cases h : x = y
  ·subst h; simp
  ·rw [j4 h]; simp [h]
 rw [e, e]
 cases a == i <;> cases b == j <;> simp
def Hm (o : Option EV) (v : EV) : Bool := match o with
 | some x => EV.same x v
 | none => false
theorem vP {agg : Option Nat} {a v : EV} : m.eL agg a v = Hm (m.load agg a) v := by simp only [Mem.eL, Hm]; cases m.load agg a <;> rfl
theorem nv {v : EV} (h : Told v = true) : Hm (some v) v = true := rE v h
theorem vH {b : Bool} : Told (.bool b) = true := rfl
theorem Cd {p : Prop} : Told (bo p) = true := rfl
theorem yx {k : IntKind} {n : Int} : Told (.int k n) = true := rfl
theorem yu {s : List UInt8} : Told (.str s) = true := rfl
theorem pX : Told .bN = true := rfl
theorem yv {b o : Nat} : Told (.ptr b o) = true := rfl
theorem na : Told .ae = true := rfl
theorem sC {b o l : Nat} {c : Option Nat} : Told (.slice b o l c) = true := rfl
theorem pY : Told .bF = true := rfl
theorem yw {b : Nat} : Told (.map b) = true := rfl
theorem ou : Told .aO = true := rfl
theorem nc : Told .aJ = true := rfl
theorem sA : Told .undef = true := rfl
theorem yy {x : List EV} : Told (.agg x) = kU x := by simp only [Told]
theorem sB {x : List EV} : Told (.tuple x) = kU x := by simp only [Told]
theorem sE {t : Nat} {v : EV} : Told (.iface t v) = Told v := by simp only [Told]
theorem vG {f : Nat} {x y : List EV} : Told (.func f x y) = (kU x && kU y) := by simp only [Told]
theorem vF : kU [] = true := rfl
theorem sy {v : EV} {x : List EV} : kU (v :: x) = (Told v && kU x) := by simp only [kU]
end
theorem Ib {fs : List (Option Nat × Nat × su)} {a b : List EV} : eO (.agg fs) (.agg a) (.agg b) = pE fs a b := rfl
def Fl (o r : Option Bool) : Option Bool := match o with
 | some true => r
 | o => o
def V7 (t : su) (x y : Option EV) (r : Option Bool) : Option Bool := match x, y with
 | some x, some y => Fl (eO t x y) r
 | _, _ => none
theorem Dv {a b : List EV} : pE [] a b = some true := rfl
theorem zZ {g : Option Nat} {off : Nat} {t : su} {r : List (Option Nat × Nat × su)} {a b : List EV} : pE ((g, off, t) :: r) a b = V7 t (partOf g a off) (partOf g b off) (pE r a b) := by
 simp only [pE, V7, Fl]
 cases partOf g a off <;> cases partOf g b off <;> rfl
theorem wW {t : su} {x y : EV} {r : Option Bool} : V7 t (some x) (some y) r = Fl (eO t x y) r := rfl
theorem xk {r : Option Bool} : Fl (some true) r = r := rfl
theorem uh {r : Option Bool} : Fl (some false) r = some false := rfl
theorem Iz {p : Prop} [Decidable p] : Fl (some (decide p)) (some true) = some (decide p) := by by_cases h : p <;> simp [Fl, h]
theorem IA {p : Prop} [Decidable p] : Fl (some (decide p)) (some false) = some false := by by_cases h : p <;> simp [Fl, h]
theorem Ar {p q : Prop} [Decidable p] [Decidable q] : Fl (some (decide p)) (some (decide q)) = some (decide (p /\ q)) := by by_cases h : p <;> by_cases h' : q <;> simp [Fl, h, h']
def Zp (o : Option EV) (r : Option (List EV)) : Option (List EV) := match o with
 | some v => r.map (v :: ·)
 | none => none
theorem yR {fr : Fr} {m : Mem} {t : Nat} {agg : Option Nat} {rs : List mq} : bP fr m (.cell t agg :: rs) = Zp (m.load agg (fr.get t)) (bP fr m rs) := by
 simp only [bP, zS, Zp]; cases m.load agg (fr.get t) <;> rfl
theorem yU {v : EV} {r : Option (List EV)} : Zp (some v) r = r.map (v :: ·) := rfl
theorem NM {b o : Nat} : eO (.aL 3) (.ptr b o) .bN = some false := rfl
theorem NO {b o : Nat} : eO (.aL 3) .bN (.ptr b o) = some false := rfl
theorem NP : eO (.aL 3) .bN .bN = some true := rfl
theorem NK {b o l : Nat} {c : Option Nat} : eO (.aL 4) (.slice b o l c) .ae = some false := rfl
theorem NN {b o l : Nat} {c : Option Nat} : eO (.aL 4) .ae (.slice b o l c) = some false := rfl
theorem Dx : eO (.aL 4) .ae .ae = some true := rfl
def aeH (m : Mem) (o : Option Fin) (v : EV) : Prop := ∃ m', o = some (.ret v m') /\ Au m m'
theorem Ap {p q : Prop} (h : p ↔ q) : bo p = bo q := by rw [propext h]
theorem T6 {p : Prop} (h : p) : EV.bool true = bo p := (eA h).symm
theorem sa {p : Prop} (h : ¬ p) : EV.bool false = bo p := (eU h).symm
def bsE (e esz : Nat) (m : Mem) (vs : Option (List EV)) : Option R1 := match vs with
 | some vs => bif vs.length.beq esz then some (.val (.slice (nb m.next 0) 0 1 (some 1)) (Ev.ext m [.cells vs esz e false])) else none
 | none => none
theorem vv {e esz : Nat} {m : Mem} {vs : List EV} (h : vs.length = esz) : bsE e esz m (some vs) = some (.val (.slice (nb m.next 0) 0 1 (some 1)) (Ev.ext m [.cells vs esz e false])) := by
 show (bif vs.length.beq esz then _ else _) = _
 rw [h, dW]; rfl
theorem oK {ρ : aZ -> EV} {m : Mem} {e esz : Nat} {zero : List EV} {x : aZ} (hz : zero.length = esz) : aF ρ (.bB e esz 1 zero [(0, x)]) m = bsE e esz m (ρ x).cells := by
 simp only [aF, List.map_cons, List.map_nil, rZ, Nat.zero_mul];have hc : eE 1 zero = zero := by simp [eE]
 rw [hc]
 cases hx : (ρ x).cells with
 | none => rfl
 | some vs =>
  by_cases hl : vs.length = esz
  ·rw [vv hl, pA hl (by omega)]
   simp only [rY, List.take_zero, List.nil_append, Nat.zero_add];rw [List.drop_eq_nil_of_le (by omega), List.append_nil]; rfl
  ·simp only [bsE, NG, j4 hl, cond_false]
theorem oL {ρ : aZ -> EV} {m : Mem} {e esz : Nat} {zero : List EV} : aF ρ (.bB e esz 0 zero []) m = some (.val (.slice (nb m.next 0) 0 0 (some 0)) (Ev.ext m [.cells [] esz e false])) := by
 simp only [aF, List.map_nil, rY, eE, List.replicate_zero, List.flatten_nil]; rfl
end
section
structure cK where
 ik : Nat -> Option Nat
 tag : Nat -> Option (Nat × Nat × Option Nat)
 gX : Nat -> Option fM
def cK.low (θ : cK) : cK := ⟨fun _ => none, fun _ => none, θ.gX⟩
mutual
inductive SV : cK -> EV -> EV -> Prop
 | undef {θ : cK} : SV θ .undef .undef
 | bool {θ : cK} (b : Bool) : SV θ (.bool b) (.bool b)
 | int {θ : cK} (k : IntKind) (n : Int) : SV θ (.int k n) (.int k n)
 | str {θ : cK} (s : List UInt8) : SV θ (.str s) (.str s)
 | bN {θ : cK} : SV θ .bN .bN
 | ptr {θ : cK} {b c off : Nat} (h : θ.ik b = some c) : SV θ (.ptr b off) (.ptr c off)
 | ae {θ : cK} : SV θ .ae .ae
 | slice {θ : cK} {b c off len : Nat} {cap : Option Nat} (h : θ.ik b = some c) : SV θ (.slice b off len cap) (.slice c off len cap)
 | bF {θ : cK} : SV θ .bF .bF
 | map {θ : cK} {b c : Nat} (h : θ.ik b = some c) : SV θ (.map b) (.map c)
 | aO {θ : cK} : SV θ .aO .aO
 | func {θ : cK} {f : Nat} {x y x' y' : List EV} (hx : dZ θ x x') (hy : dZ θ y y') : SV θ (.func f x y) (.func f x' y')
 | aJ {θ : cK} : SV θ .aJ .aJ
 | iface {θ : cK} {t : Nat} {v v' : EV} (h : SV θ v v') : SV θ (.iface t v) (.iface t v')
 | agg {θ : cK} {x x' : List EV} (h : dZ θ x x') : SV θ (.agg x) (.agg x')
 | tuple {θ : cK} {x x' : List EV} (h : dZ θ x x') : SV θ (.tuple x) (.tuple x')
 | fz {θ : cK} {t esz : Nat} {els : List (List EV)} {b off : Nat} {cap : Option Nat} (h : SR θ esz els b off) (ht : t = 0 \/ θ.tag t = some (b, off, cap)) (hc : ∀ c, cap = some c -> els.length <= c) : SV θ (.fz t esz els) (.slice b off els.length cap)
 | BY {θ : cK} {t esz b off : Nat} (ht : t = 0 \/ θ.tag t = some (b, off, some 0)) : SV θ (.fz t esz []) (.slice b off 0 (some 0))
 | fL {θ : cK} {esz : Nat} {els : List (List EV)} {b off i k o : Nat} (h : SR θ esz els b off) (hi : i < els.length) (ho : o = off + i * esz + k) : SV θ (.fL esz els i k) (.ptr b o)
inductive dZ : cK -> List EV -> List EV -> Prop
 | nil {θ : cK} : dZ θ [] []
 | cons {θ : cK} {v v' : EV} {x x' : List EV} (h : SV θ v v') (hs : dZ θ x x') : dZ θ (v :: x) (v' :: x')
inductive SR : cK -> Nat -> List (List EV) -> Nat -> Nat -> Prop
 | mk {θ : cK} {esz : Nat} {els : List (List EV)} {b off k : Nat} {cs : List EV} {ro : Bool} (hs : θ.gX b = some (.cells cs esz k ro)) (hl : ∀ el ∈ els, el.length = esz) (hn : off + els.length * esz <= cs.length)
   (hx : dZ θ.low els.flatten ((cs.drop off).take (els.length * esz))) : SR θ esz els b off
end
structure cK.Ext (θ θ' : cK) : Prop where
 ik : ∀ b c, θ.ik b = some c -> θ'.ik b = some c
 tag : ∀ t x, θ.tag t = some x -> θ'.tag t = some x
 gX : ∀ b B, θ.gX b = some B -> θ'.gX b = some B
theorem cK.Ext.refl (θ : cK) : cK.Ext θ θ := ⟨fun _ _ h => h, fun _ _ h => h, fun _ _ h => h⟩
theorem cK.Ext.trans {θ θ' θ'' : cK} (h : cK.Ext θ θ') (k : cK.Ext θ' θ'') : cK.Ext θ θ'' := ⟨fun b c e => k.ik b c (h.ik b c e), fun t x e => k.tag t x (h.tag t x e), fun b B e => k.gX b B (h.gX b B e)⟩
theorem cK.Ext.low {θ θ' : cK} (e : cK.Ext θ θ') : cK.Ext θ.low θ'.low := ⟨fun _ _ h => h, fun _ _ h => h, e.gX⟩
theorem cK.M4 (θ : cK) : cK.Ext θ.low θ := ⟨fun _ _ h => (by simp [cK.low] at h), fun _ _ h => (by simp [cK.low] at h), fun _ _ h => h⟩
mutual
theorem SV.ext : ∀ {θ θ' : cK}, cK.Ext θ θ' -> ∀ {v v' : EV}, SV θ v v' -> SV θ' v v'
 | _, _, _, _, _, .undef => .undef
 | _, _, _, _, _, .bool b => .bool b
 | _, _, _, _, _, .int k n => .int k n
 | _, _, _, _, _, .str s => .str s
 | _, _, _, _, _, .bN => .bN
 | _, _, e, _, _, .ptr h => .ptr (e.ik _ _ h)
 | _, _, _, _, _, .ae => .ae
 | _, _, e, _, _, .slice h => .slice (e.ik _ _ h)
 | _, _, _, _, _, .bF => .bF
 | _, _, e, _, _, .map h => .map (e.ik _ _ h)
 | _, _, _, _, _, .aO => .aO
 | _, _, e, _, _, .func hx hy => .func (dZ.ext e hx) (dZ.ext e hy)
 | _, _, _, _, _, .aJ => .aJ
 | _, _, e, _, _, .iface h => .iface (SV.ext e h)
 | _, _, e, _, _, .agg h => .agg (dZ.ext e h)
 | _, _, e, _, _, .tuple h => .tuple (dZ.ext e h)
 | _, _, e, _, _, .fz h ht hc => .fz (SR.ext e h) (ht.imp id (e.tag _ _)) hc
 | _, _, e, _, _, .BY ht => .BY (ht.imp id (e.tag _ _))
 | _, _, e, _, _, .fL h hi ho => .fL (SR.ext e h) hi ho
theorem dZ.ext : ∀ {θ θ' : cK}, cK.Ext θ θ' -> ∀ {v v' : List EV}, dZ θ v v' -> dZ θ' v v'
 | _, _, _, _, _, .nil => .nil
 | _, _, e, _, _, .cons h hs => .cons (SV.ext e h) (dZ.ext e hs)
theorem SR.ext : ∀ {θ θ' : cK}, cK.Ext θ θ' -> ∀ {esz : Nat} {els : List (List EV)} {b off : Nat}, SR θ esz els b off -> SR θ' esz els b off
 | _, _, e, _, _, _, _, .mk hs hl hn hx => .mk (e.gX _ _ hs) hl hn (dZ.ext e.low hx)
end
section
variable {θ : cK}
theorem dZ.length : ∀ {x x' : List EV}, dZ θ x x' -> x.length = x'.length
 | _, _, .nil => rfl
 | _, _, .cons _ hs => by simp [dZ.length hs]
theorem dZ.get : ∀ {x x' : List EV}, dZ θ x x' -> ∀ {i : Nat} {v : EV}, x[i]? = some v -> ∃ v', x'[i]? = some v' /\ SV θ v v'
 | _, _, .nil, i, v, h => by simp at h
 | _, _, .cons (v' := a') h0 hs, i, v, h => by
  cases i with
  | zero => simp at h; subst h; exact ⟨a', rfl, h0⟩
  | succ i => simp at h; obtain ⟨v', hv, hr⟩ := dZ.get hs h; exact ⟨v', by simpa using hv, hr⟩
theorem dZ.rf : ∀ {x x' : List EV}, x.length = x'.length -> (∀ (i : Nat) (v v' : EV), x[i]? = some v -> x'[i]? = some v' -> SV θ v v') -> dZ θ x x'
 | [], [], _, _ => .nil
 | [], _ :: _, h, _ => by simp at h
 | _ :: _, [], h, _ => by simp at h
 | a :: x, a' :: x', h, hg => .cons (hg 0 a a' rfl rfl) (dZ.rf (by simpa using h) fun i v v' hv rS => hg (i + 1) v v' (by simpa using hv) (by simpa using rS))
theorem dZ.append : ∀ {x y x' y' : List EV}, dZ θ x x' -> dZ θ y y' -> dZ θ (x ++ y) (x' ++ y')
 | _, _, _, _, .nil, h => h
 | _, _, _, _, .cons h hs, k => .cons h (dZ.append hs k)
theorem dZ.take {x x' : List EV} (h : dZ θ x x') (n : Nat) : dZ θ (x.take n) (x'.take n) := by
 refine dZ.rf (by simp [h.length]) fun i v v' hv rS => ?_
 rw [List.getElem?_take] at hv rS
 split at hv
 ·rename_i bg
  obtain ⟨u, hu, hr⟩ := h.get hv
  rw [if_pos bg, hu] at rS; cases rS; exact hr
 ·cases hv
theorem dZ.drop {x x' : List EV} (h : dZ θ x x') (n : Nat) : dZ θ (x.drop n) (x'.drop n) := by
 refine dZ.rf (by simp [h.length]) fun i v v' hv rS => ?_
 rw [List.getElem?_drop] at hv rS
 obtain ⟨u, hu, hr⟩ := h.get hv
 rw [hu] at rS; cases rS; exact hr
theorem dZ.map {α : Type} (f g : α -> EV) : ∀ {l : List α}, (∀ a ∈ l, SV θ (f a) (g a)) -> dZ θ (l.map f) (l.map g)
 | [], _ => .nil
 | a :: l, h => .cons (h a (by simp)) (dZ.map f g fun b hb => h b (by simp [hb]))
theorem dZ.replicate {v v' : EV} (h : SV θ v v') : ∀ n : Nat, dZ θ (List.replicate n v) (List.replicate n v')
 | 0 => .nil
 | n + 1 => .cons h (dZ.replicate h n)
mutual
theorem SV.of_flat : ∀ {v : EV}, Flat v = true -> SV θ v v
 | .undef, _ => .undef
 | .bool b, _ => .bool b
 | .int k n, _ => .int k n
 | .str s, _ => .str s
 | .bN, _ => .bN
 | .ptr _ _, h => by simp [Flat] at h
 | .ae, _ => .ae
 | .slice _ _ _ _, h => by simp [Flat] at h
 | .bF, _ => .bF
 | .map _, h => by simp [Flat] at h
 | .aO, _ => .aO
 | .func f x y, h => by simp only [Flat, pL] at h; exact .func (dZ.of_flat h.1) (dZ.of_flat h.2)
 | .aJ, _ => .aJ
 | .iface t v, h => .iface (SV.of_flat (by simpa only [Flat] using h))
 | .agg x, h => .agg (dZ.of_flat (by simpa only [Flat] using h))
 | .tuple x, h => .tuple (dZ.of_flat (by simpa only [Flat] using h))
 | .fz _ _ _, h => by simp [Flat] at h
 | .fL _ _ _ _, h => by simp [Flat] at h
theorem dZ.of_flat : ∀ {x : List EV}, fy x = true -> dZ θ x x
 | [], _ => .nil
 | v :: x, h => by simp only [fy, pL] at h; exact .cons (SV.of_flat h.1) (dZ.of_flat h.2)
end
mutual
theorem SV.flat : ∀ {v v' : EV}, SV θ v v' -> Flat v = true -> v' = v
 | _, _, .undef, _ | _, _, .bool _, _ | _, _, .int _ _, _ | _, _, .str _, _ | _, _, .bN, _ | _, _, .ae, _ | _, _, .bF, _ | _, _, .aO, _ | _, _, .aJ, _ => rfl
 | _, _, .ptr _, h => by simp [Flat] at h
 | _, _, .slice _, h => by simp [Flat] at h
 | _, _, .map _, h => by simp [Flat] at h
 | _, _, .func hx hy, h => by simp only [Flat, pL] at h; rw [dZ.flat hx h.1, dZ.flat hy h.2]
 | _, _, .iface hv, h => by rw [SV.flat hv (by simpa only [Flat] using h)]
 | _, _, .agg hx, h => by rw [dZ.flat hx (by simpa only [Flat] using h)]
 | _, _, .tuple hx, h => by rw [dZ.flat hx (by simpa only [Flat] using h)]
 | _, _, .fz _ _ _, h => by simp [Flat] at h
 | _, _, .BY _, h => by simp [Flat] at h
 | _, _, .fL _ _ _, h => by simp [Flat] at h
theorem dZ.flat : ∀ {x x' : List EV}, dZ θ x x' -> fy x = true -> x' = x
 | _, _, .nil, _ => rfl
 | _, _, .cons h hs, k => by simp only [fy, pL] at k; rw [SV.flat h k.1, dZ.flat hs k.2]
end
mutual
theorem SV.fn : ∀ {a b c : EV}, SV θ a b -> SV θ a c -> Told a = true -> b = c
 | _, _, _, .undef, h, _ => by cases h; rfl
 | _, _, _, .bool _, h, _ => by cases h; rfl
 | _, _, _, .int _ _, h, _ => by cases h; rfl
 | _, _, _, .str _, h, _ => by cases h; rfl
 | _, _, _, .bN, h, _ => by cases h; rfl
 | _, _, _, .ptr h, k, _ => by cases k with | ptr k => rw [h] at k; cases k; rfl
 | _, _, _, .ae, h, _ => by cases h; rfl
 | _, _, _, .slice h, k, _ => by cases k with | slice k => rw [h] at k; cases k; rfl
 | _, _, _, .bF, h, _ => by cases h; rfl
 | _, _, _, .map h, k, _ => by cases k with | map k => rw [h] at k; cases k; rfl
 | _, _, _, .aO, h, _ => by cases h; rfl
 | _, _, _, .func hx hy, k, t => by
  simp only [Told, pL] at t
  cases k with | func kx ky => rw [dZ.fn hx kx t.1, dZ.fn hy ky t.2]
 | _, _, _, .aJ, h, _ => by cases h; rfl
 | _, _, _, .iface h, k, t => by cases k with | iface k => rw [SV.fn h k (by simpa only [Told] using t)]
 | _, _, _, .agg h, k, t => by cases k with | agg k => rw [dZ.fn h k (by simpa only [Told] using t)]
 | _, _, _, .tuple h, k, t => by cases k with | tuple k => rw [dZ.fn h k (by simpa only [Told] using t)]
 | _, _, _, .fz _ ht _, k, t => by
  simp only [Told, pL, Bool.not_eq_true'] at t;have iJ := kh t.1
  cases k with
  | fz _ kt _ =>
   rcases ht with ht | ht
   ·exact absurd ht iJ
   ·rcases kt with kt | kt
    ·exact absurd kt iJ
    ·rw [ht] at kt; cases kt; rfl
  | BY kt =>
   rcases ht with ht | ht
   ·exact absurd ht iJ
   ·rcases kt with kt | kt
    ·exact absurd kt iJ
    ·rw [ht] at kt; cases kt; rfl
 | _, _, _, .BY ht, k, t => by
  simp only [Told, pL, Bool.not_eq_true'] at t;have iJ := kh t.1
  generalize hn : ([] : List (List EV)) = els at k
  cases k with
  | fz _ kt _ =>
   subst hn;rcases ht with ht | ht
   ·exact absurd ht iJ
   ·rcases kt with kt | kt
    ·exact absurd kt iJ
    ·rw [ht] at kt; cases kt; rfl
  | BY kt =>
   rcases ht with ht | ht
   ·exact absurd ht iJ
   ·rcases kt with kt | kt
    ·exact absurd kt iJ
    ·rw [ht] at kt; cases kt; rfl
 | _, _, _, .fL _ _ _, _, t => by simp [Told] at t
theorem dZ.fn : ∀ {a b c : List EV}, dZ θ a b -> dZ θ a c -> kU a = true -> b = c
 | _, _, _, .nil, h, _ => by cases h; rfl
 | _, _, _, .cons h hs, k, t => by
  simp only [kU, pL] at t
  cases k with | cons k ks => rw [SV.fn h k t.1, dZ.fn hs ks t.2]
end
mutual
theorem SV.told : ∀ {a b : EV}, SV θ a b -> Told b = true
 | _, _, .undef | _, _, .bool _ | _, _, .int _ _ | _, _, .str _ | _, _, .bN | _, _, .ptr _ | _, _, .ae | _, _, .slice _ | _, _, .bF | _, _, .map _ | _, _, .aO | _, _, .aJ | _, _, .fz _ _ _ | _, _, .BY _ | _, _, .fL _ _ _ => rfl
 | _, _, .func hx hy => by simp only [Told, dZ.told hx, dZ.told hy, Bool.and_self]
 | _, _, .iface h => by simp only [Told]; exact SV.told h
 | _, _, .agg h => by simp only [Told]; exact dZ.told h
 | _, _, .tuple h => by simp only [Told]; exact dZ.told h
theorem dZ.told : ∀ {a b : List EV}, dZ θ a b -> kU b = true
 | _, _, .nil => rfl
 | _, _, .cons h hs => by simp only [kU, SV.told h, dZ.told hs, Bool.and_self]
end
mutual
theorem sD : ∀ {a : EV}, EV.same a a = true -> Told a = true
 | .undef, _ | .bool _, _ | .int _ _, _ | .str _, _ | .bN, _ | .ptr _ _, _ | .ae, _ | .slice _ _ _ _, _ | .bF, _ | .map _, _ | .aO, _ | .aJ, _ => rfl
 | .func f x y, h => by
  simp only [EV.same, Nat.beq_refl, cond_true] at h
  cases hx : EV.mz x x <;> simp only [hx, cond_true, cond_false, rp] at h
  simp only [Told, iQ hx, iQ h, Bool.and_self]
 | .iface t v, h => by simp only [EV.same, Nat.beq_refl, cond_true] at h; simp only [Told]; exact sD h
 | .agg x, h => by simp only [EV.same] at h; simp only [Told]; exact iQ h
 | .tuple x, h => by simp only [EV.same] at h; simp only [Told]; exact iQ h
 | .fz t e els, h => by
  simp only [EV.same, Nat.beq_refl, cond_true] at h
  cases ht : t.beq 0 <;> simp only [ht, cond_true, cond_false, rp] at h
  simp only [Told, ht, Bool.not_false, Bool.true_and];exact ru h
 | .fL _ _ _ _, h => by simp [EV.same] at h
theorem iQ : ∀ {a : List EV}, EV.mz a a = true -> kU a = true
 | [], _ => rfl
 | v :: x, h => by
  simp only [EV.mz] at h
  cases hx : EV.same v v <;> simp only [hx, cond_true, cond_false, rp] at h
  simp only [kU, sD hx, iQ h, Bool.and_self]
theorem ru : ∀ {a : List (List EV)}, EV.re a a = true -> Bg a = true
 | [], _ => rfl
 | v :: x, h => by
  simp only [EV.re] at h
  cases hx : EV.mz v v <;> simp only [hx, cond_true, cond_false, rp] at h
  simp only [Bg, iQ hx, ru h, Bool.and_self]
end
theorem SV.same {a b a' b' : EV} (ha : SV θ a a') (hb : SV θ b b') (h : EV.same a b = true) : EV.same a' b' = true := by
 have e := Ct h
 subst e;rw [SV.fn ha hb (sD h)];exact rE _ hb.told
theorem SV.cells {v v' : EV} {cs : List EV} (h : SV θ v v') (hc : v.cells = some cs) : ∃ mf, v'.cells = some mf /\ dZ θ cs mf := by
 cases h <;> simp only [EV.cells, reduceCtorEq, bj] at hc <;> subst hc
 case agg h => exact ⟨_, rfl, h⟩
 case BY h => exact ⟨_, rfl, .cons (.BY h) .nil⟩
 all_goals exact ⟨_, rfl, .cons (by constructor <;> assumption) .nil⟩
theorem dZ.part {x x' : List EV} (h : dZ θ x x') {g : Option Nat} {off : Nat} {v : EV} (hp : partOf g x off = some v) : ∃ v', partOf g x' off = some v' /\ SV θ v v' := by
 cases g with
 | none => exact h.get hp
 | some n =>
  simp only [partOf] at hp ⊢
  rw [<- h.length]
  cases hb : (off + n).ble x.length <;> simp only [hb, cond_true, cond_false, reduceCtorEq, bj] at hp ⊢
  subst hp;exact ⟨_, rfl, .agg ((h.drop off).take n)⟩
theorem dZ.jn {x x' vs uI r : List EV} (h : dZ θ x x') (hv : dZ θ vs uI) {off : Nat} (hp : Ev.jn x off vs = some r) : ∃ r', Ev.jn x' off uI = some r' /\ dZ θ r r' := by
 unfold Ev.jn at hp ⊢
 rw [<- h.length, <- hv.length]
 cases hb : (off + vs.length).ble x.length <;> simp only [hb, cond_true, cond_false, reduceCtorEq, bj] at hp ⊢
 subst hp;exact ⟨_, rfl, ((h.take off).append hv).append (h.drop _)⟩
end
inductive nQ (θ : cK) : List (EV × EV) -> List (EV × EV) -> Prop
 | nil : nQ θ [] []
 | cons {k v k' v' : EV} {x x' : List (EV × EV)} (hk : SV θ k k') (hv : SV θ v v') (h : nQ θ x x') : nQ θ ((k, v) :: x) ((k', v') :: x')
theorem nQ.ext {θ θ' : cK} (e : cK.Ext θ θ') : ∀ {x x' : List (EV × EV)}, nQ θ x x' -> nQ θ' x x'
 | _, _, .nil => .nil
 | _, _, .cons hk hv h => .cons (hk.ext e) (hv.ext e) (nQ.ext e h)
def Mz (θ : cK) : fM -> fM -> Prop
 | .dead, _ => True
 | .cells cs e k ro, B => ∃ mf, B = .cells mf e k ro /\ dZ θ cs mf
 | .map es, B => ∃ rl, B = .map rl /\ nQ θ es rl
theorem Mz.ext {θ θ' : cK} (e : cK.Ext θ θ') {B B' : fM} (h : Mz θ B B') : Mz θ' B B' := by
 cases B with
 | dead => trivial
 | cells cs k t ro => obtain ⟨mf, h1, h2⟩ := h; exact ⟨mf, h1, h2.ext e⟩
 | map es => obtain ⟨rl, h1, h2⟩ := h; exact ⟨rl, h1, h2.ext e⟩
structure MemB (θ : cK) (m m' : Mem) : Prop where
 dj : ∀ b c, θ.ik b = some c -> Mz θ (m.get b) (m'.get c)
 cl : ∀ b, θ.ik b = none -> m.get b = .dead
structure MemS (θ : cK) (m m' : Mem) : Prop extends MemB θ m m' where
 gX : ∀ b B, θ.gX b = some B -> m'.get b = B
structure q9 (θ : cK) (n n' : Nat) : Prop where
 ik : ∀ b c, θ.ik b = some c -> b < n /\ c < n'
 inj : ∀ a b c, θ.ik a = some c -> θ.ik b = some c -> a = b
 off : ∀ b c, θ.ik b = some c -> θ.gX c = none
 gX : ∀ b B, θ.gX b = some B -> b < n'
theorem MemB.ext {θ θ' : cK} {m m' : Mem} (h : MemB θ m m') (e : cK.Ext θ θ') (hd : ∀ b c, θ.ik b = none -> θ'.ik b = some c -> m.get b = .dead) : MemB θ' m m' := by
 refine ⟨fun b c hb => ?_, fun b hb => ?_⟩
 ·cases hr : θ.ik b with
  | none => rw [h.cl b hr]; trivial
  | some d =>
   have := e.ik b d hr
   rw [hb] at this; cases this
   exact (h.dj b c hr).ext e
 ·cases hr : θ.ik b with
  | none => exact h.cl b hr
  | some d => rw [e.ik b d hr] at hb; cases hb
def cK.more (θ : cK) (b c : Nat) : cK := ⟨fun x => if x = b then some c else θ.ik x, θ.tag, θ.gX⟩
structure Av (θ : cK) (b c : Nat) : Prop where
 l : θ.ik b = none
 r : ∀ a, θ.ik a ≠ some c
 s : θ.gX c = none
theorem q9.fresh {θ : cK} {n n' : Nat} (h : q9 θ n n') {b c : Nat} (hb : n <= b) (hc : n' <= c) : Av θ b c := by
 refine ⟨?_, fun a ha => ?_, ?_⟩
 ·cases e : θ.ik b with
  | none => rfl
  | some d => have := (h.ik b d e).1; omega
 ·have := (h.ik a c ha).2; omega
 ·cases e : θ.gX c with
  | none => rfl
  | some d => have := h.gX c d e; omega
theorem Av.ext {θ : cK} {b c : Nat} (h : Av θ b c) : cK.Ext θ (θ.more b c) := by
 refine ⟨fun x y e => ?_, fun _ _ e => e, fun _ _ e => e⟩
 show (if x = b then some c else θ.ik x) = some y
 by_cases hx : x = b
 ·subst hx; rw [h.l] at e; cases e
 ·rw [if_neg hx]; exact e
theorem oE {θ : cK} {b c : Nat} : (θ.more b c).ik b = some c := if_pos rfl
theorem q9.more {θ : cK} {n n' b c : Nat} (h : q9 θ n n') (f : Av θ b c) {k k' : Nat} (hb : b < k) (hc : c < k') (hk : n <= k) (nS : n' <= k') : q9 (θ.more b c) k k' := by
 have ik : ∀ x y, (θ.more b c).ik x = some y -> (x = b /\ y = c) \/ θ.ik x = some y := by
  intro x y e
  have e' : (if x = b then some c else θ.ik x) = some y := e
  by_cases hx : x = b
  ·rw [if_pos hx] at e'; cases e'; exact .inl ⟨hx, rfl⟩
  ·rw [if_neg hx] at e'; exact .inr e'
 refine ⟨fun x y e => ?_, fun x y z e1 e2 => ?_, fun x y e => ?_, fun x B e => ?_⟩
 ·rcases ik x y e with ⟨rfl, rfl⟩ | e
  ·exact ⟨hb, hc⟩
  ·have := h.ik x y e; omega
 ·rcases ik x z e1 with ⟨rfl, rfl⟩ | e1 <;> rcases ik y _ e2 with ⟨h1, h2⟩ | e2
  ·exact h1.symm
  ·exact absurd e2 (f.r y)
  ·exact absurd e1 (h2 ▸ f.r x)
  ·exact h.inj x y z e1 e2
 ·rcases ik x y e with ⟨rfl, rfl⟩ | e
  ·exact f.s
  ·exact h.off x y e
 ·have := h.gX x B e; omega
theorem MemS.more {θ : cK} {m m' : Mem} {b c : Nat} (h : MemS θ m m') (f : Av θ b c) {B B' : fM} (hB : Mz (θ.more b c) B B') : MemS (θ.more b c) (Mem.new ⟨b, m.gM⟩ B) (Mem.new ⟨c, m'.gM⟩ B') := by
 have g1 : ∀ x, (Mem.new ⟨b, m.gM⟩ B).get x = if x = b then B else m.get x := fun x => fw
 have g2 : ∀ x, (Mem.new ⟨c, m'.gM⟩ B').get x = if x = c then B' else m'.get x := fun x => fw
 refine ⟨⟨fun x y e => ?_, fun x e => ?_⟩, fun x C e => ?_⟩
 ·have e' : (if x = b then some c else θ.ik x) = some y := e
  by_cases hx : x = b
  ·rw [if_pos hx] at e'; cases e'
   rw [g1, g2, if_pos hx, if_pos rfl]; exact hB
  ·rw [if_neg hx] at e'
   have hy : y ≠ c := fun q => f.r x (q ▸ e')
   rw [g1, g2, if_neg hx, if_neg hy]; exact (h.dj x y e').ext f.ext
 ·have e' : (if x = b then some c else θ.ik x) = none := e
  by_cases hx : x = b
  ·rw [if_pos hx] at e'; cases e'
  ·rw [if_neg hx] at e'; rw [g1, if_neg hx]; exact h.cl x e'
 ·have hx : x ≠ c := fun q => by
   have e' : θ.gX x = some C := e
   subst q; rw [f.s] at e'; cases e'
  rw [g2, if_neg hx]; exact h.gX x C e
theorem MemS.set {θ : cK} {m m' : Mem} {n n' b c : Nat} (h : MemS θ m m') (k : q9 θ n n') (hb : θ.ik b = some c) {B B' : fM} (hB : Mz θ B B') : MemS θ (m.set b B) (m'.set c B') := by
 refine ⟨⟨fun x y e => ?_, fun x e => ?_⟩, fun x C e => ?_⟩
 ·by_cases hx : x = b
  ·subst hx; rw [hb] at e; cases e
   rw [bM, bM]; exact hB
  ·have hy : y ≠ c := fun q => hx (k.inj x b c (q ▸ e) hb)
   rw [aB hx, aB hy]; exact h.dj x y e
 ·have hx : x ≠ b := fun q => by subst q; rw [hb] at e; cases e
  rw [aB hx]; exact h.cl x e
 ·have hx : x ≠ c := fun q => by subst q; rw [k.off b x hb] at e; cases e
  rw [aB hx]; exact h.gX x C e
end
section
def lr (l : List (List UInt8)) : List (List EV) := l.map fun s => [.str s]
def V4 (l : List (List UInt8)) : EV := .fL 1 [[.fz 0 1 (lr l)]] 0 0
def SN : EV -> EV
 | .ptr g 0 => match FZ g with
  | some l => V4 l
  | none => .ptr g 0
 | v => v
def Rf : EV -> Bool
 | .ptr g 0 => (FZ g).isSome
 | _ => false
def jQ : aZ -> aZ
 | .tmp t => .tmp t
 | .const v => .const (SN v)
def Zk (l : List Int) : fM := .cells (l.map (.int .u64)) 1 0 true
def mX (θ : cK) : Prop := (∀ g l, FZ g = some l -> SV θ (V4 l) (.ptr g 0)) /\ ∀ g l, tabl g = some l -> θ.gX g = some (Zk l)
theorem mX.ext {θ θ' : cK} (h : mX θ) (e : cK.Ext θ θ') : mX θ' := ⟨fun g l hg => (h.1 g l hg).ext e, fun g l hg => e.gX _ _ (h.2 g l hg)⟩
theorem SR.aaV {θ : cK} {esz : Nat} {els : List (List EV)} {b off : Nat} (h : SR θ esz els b off) : SR θ.low esz els b off := by
 cases h with | mk hs hl hn hx => exact .mk hs hl hn hx
theorem mX.down {θ θ' : cK} (h : mX θ) (e : cK.Ext θ.low θ') : mX θ' := by
 refine ⟨fun g l hg => ?_, fun g l hg => e.gX _ _ (h.2 g l hg)⟩
 have := h.1 g l hg
 unfold V4 at this ⊢
 cases this with | fL hr hi ho => exact .fL (hr.aaV.ext e) hi ho
structure gR (θ : cK) (m m' : Mem) : Prop extends MemS θ m m' where
 ok : q9 θ m.next m'.next
 FE : mX θ
theorem Gg {v : EV} (h : Flat v = true) : SN v = v := by
 cases v <;> first | rfl | (simp [Flat] at h)
theorem SM {θ : cK} (hg : mX θ) {v : EV} (h : (Flat v || Rf v) = true) : SV θ (SN v) v := by
 cases hf : Flat v with
 | true => rw [Gg hf]; exact SV.of_flat hf
 | false =>
  rw [hf, Bool.false_or] at h
  cases v with
  | ptr g off =>
   cases off with
   | zero =>
    simp only [Rf] at h
    cases RC : FZ g with
    | none => rw [RC] at h; cases h
    | some l => simp only [SN, RC]; exact hg.1 g l RC
   | succ n => simp [Rf] at h
  | _ => simp [Rf] at h
def lL.xp (f : aZ -> aZ) : lL -> lL
 | .ab x => .ab (f x)
 | .pick c a b => .pick (f c) (f a) (f b)
 | .alloc e z => .alloc e z
 | .box e x => .box e (f x)
 | .build z ps => .build z (ps.map fun p => (p.1, p.2.1, f p.2.2))
 | .bB e z n zr ps => .bB e z n zr (ps.map fun p => (p.1, f p.2))
 | .load a x => .load a (f x)
 | .store n a x => .store n (f a) (f x)
 | .cA x => .cA (f x)
 | .bin o x y => .bin o (f x) (f y)
 | .eq n t x y => .eq n t (f x) (f y)
 | .un o x => .un o (f x)
 | .conv c x => .conv c (f x)
 | .iface t x => .iface t (f x)
 | .BQ g a c => .BQ g (a.map f) (c.map f)
 | .uZ => .uZ
 | .lU e z zr l c => .lU e z zr (f l) (f c)
 | .gh x l h => .gh (f x) (l.map f) (h.map f)
 | .uP e x l h m => .uP e (f x) (l.map f) (h.map f) (m.map f)
 | .xz n e x l h m => .xz n e (f x) (l.map f) (h.map f) (m.map f)
 | .aj o x => .aj o (f x)
 | .A5 a o x => .A5 a o (f x)
 | .ee e x i => .ee e (f x) (f i)
 | .nH n e x i => .nH n e (f x) (f i)
 | .eD x i => .eD (f x) (f i)
 | .u6 n e a x i => .u6 n e a (f x) (f i)
 | .lookup k z o m x => .lookup k z o (f m) (f x)
 | .pq k m x y => .pq k (f m) (f x) (f y)
 | .delete k m x => .delete k (f m) (f x)
 | .ri m => .ri (f m)
 | .p6 t x => .p6 t (f x)
 | .extract x i => .extract (f x) i
 | .len x => .len (f x)
 | .cH x => .cH (f x)
 | .u5 n => .u5 n
 | .cap x => .cap (f x)
 | .max l => .max (l.map f)
 | .min l => .min (l.map f)
 | .append e z b s x => .append e z b (f s) (f x)
 | .copy e d s => .copy e (f d) (f s)
theorem Qh {f : aZ -> aZ} {op : lL} : cZ (op.xp f) = cZ op := by
 cases op with
 | conv c x => cases c <;> rfl
 | _ => rfl
theorem GV {ρ : aZ -> EV} {f : aZ -> aZ} {op : lL} {m : Mem} : aF ρ (op.xp f) m = aF (fun x => ρ (f x)) op m := by
 cases op with
 | uP e x l h mx =>
  simp only [lL.xp, aF, Option.map_map, Function.comp_def]
  cases mx <;> rfl
 | _ => first | rfl | (simp only [lL.xp, aF, List.map_map, Option.map_map, Function.comp_def])
theorem kO {α : Type} {f : α -> α} : ∀ {l : List α}, (∀ x ∈ l, f x = x) -> l.map f = l
 | [], _ => rfl
 | a :: l, h => by rw [List.map_cons, h a (by simp), kO fun x hx => h x (by simp [hx])]
theorem nB {f : aZ -> aZ} {o : Option aZ} (h : ∀ x ∈ Es o, f x = x) : o.map f = o := by
 cases o with
 | none => rfl
 | some x => rw [Option.map_some, h x (by simp [Es])]
theorem OW {f : aZ -> aZ} {op : lL} (h : ∀ x ∈ iS op, f x = x) : op.xp f = op := by
 cases op with
 | build z ps =>
  simp only [lL.xp];rw [kO fun p hp => by rw [h p.2.2 (by simp only [iS, List.mem_map]; exact ⟨p, hp, rfl⟩)]]
 | bB e z n zr ps =>
  simp only [lL.xp];rw [kO fun p hp => by rw [h p.2 (by simp only [iS, List.mem_map]; exact ⟨p, hp, rfl⟩)]]
 | BQ g a c =>
  simp only [lL.xp];rw [kO fun x hx => h x (by simp only [iS, uD]; exact .inl hx), kO fun x hx => h x (by simp only [iS, uD]; exact .inr hx)]
 | gh x l hh =>
  simp only [lL.xp];rw [h x (by simp [iS]), nB fun y hy => h y (by simp only [iS, o6, uD]; exact .inr (.inl hy)), nB fun y hy => h y (by simp only [iS, o6, uD]; exact .inr (.inr hy))]
 | uP e x l hh mm =>
  simp only [lL.xp];rw [h x (by simp [iS]), nB fun y hy => h y (by simp only [iS, o6, uD]; exact .inr (.inl hy)), nB fun y hy => h y (by simp only [iS, o6, uD]; exact .inr (.inr (.inl hy))), nB fun y hy => h y (by simp only [iS, o6, uD]; exact .inr (.inr (.inr hy)))]
 | xz n e x l hh mm =>
  simp only [lL.xp];rw [h x (by simp [iS]), nB fun y hy => h y (by simp only [iS, o6, uD]; exact .inr (.inl hy)), nB fun y hy => h y (by simp only [iS, o6, uD]; exact .inr (.inr (.inl hy))), nB fun y hy => h y (by simp only [iS, o6, uD]; exact .inr (.inr (.inr hy)))]
 | max l => simp only [lL.xp]; rw [kO fun x hx => h x (by simp only [iS]; exact hx)]
 | min l => simp only [lL.xp]; rw [kO fun x hx => h x (by simp only [iS]; exact hx)]
 | _ => simp only [iS, o6, List.not_mem_nil, or_false, forall_eq_or_imp, forall_eq] at h <;> simp only [lL.xp, h]
def AD.sub : AD -> AD
 | .val op => .val (op.xp jQ)
 | .call f xs => .call (jQ f) (xs.map jQ)
 | .panic x => .panic (jQ x)
 | .defer f xs => .defer (jQ f) (xs.map jQ)
def bd.sub (o : bd) : bd := ⟨o.dst, o.op.sub, o.guard⟩
def aE.sub : aE -> aE
 | .skip => .skip
 | .region ops => .region (ops.map bd.sub)
 | .draw ops chk => .draw (ops.map bd.sub) chk
 | .seq a b => .seq a.sub b.sub
 | .cond c a b => .cond (jQ c) a.sub b.sub
 | .block id a => .block id a.sub
 | .loop a => .loop a.sub
 | .exit id => .exit id
 | .ret => .ret
def az.sub (F : az) : az := ⟨F.ntmps, F.body.sub, F.results⟩
def Va : aZ -> Bool
 | .tmp _ => true
 | .const v => Flat v
def QN (x : AD) : Bool := (pd x).all Va
def rL : aE -> Bool
 | .region ops | .draw ops _ => ops.all fun o => QN o.op
 | .seq a b => rL a && rL b
 | .cond c a b => Va c && rL a && rL b
 | .block _ a | .loop a => rL a
 | _ => true
theorem Jk {x : aZ} (h : Va x = true) : jQ x = x := by
 cases x with
 | tmp t => rfl
 | const v => simp only [jQ, Gg (show Flat v = true from h)]
theorem ON {x : AD} (h : QN x = true) : x.sub = x := by
 have hx : ∀ y ∈ pd x, jQ y = y := fun y hy => Jk (List.all_eq_true.1 h y hy)
 cases x with
 | val op => simp only [AD.sub]; rw [OW hx]
 | call f xs =>
  simp only [AD.sub];rw [hx f (by simp [pd]), kO fun y hy => hx y (by simp [pd, hy])]
 | panic y => simp only [AD.sub]; rw [hx y (by simp [pd])]
 | defer f xs =>
  simp only [AD.sub];rw [hx f (by simp [pd]), kO fun y hy => hx y (by simp [pd, hy])]
theorem Gu {ops : List bd} (h : ops.all (fun o => QN o.op) = true) : ops.map bd.sub = ops :=
 kO fun o ho => by unfold bd.sub; rw [ON (List.all_eq_true.1 h o ho)]
theorem mN : ∀ {c : aE}, rL c = true -> c.sub = c
 | .skip, _ => rfl
 | .region ops, h => by simp only [aE.sub]; rw [Gu (by simpa only [rL] using h)]
 | .draw ops chk, h => by simp only [aE.sub]; rw [Gu (by simpa only [rL] using h)]
 | .seq a b, h => by simp only [rL, pL] at h; simp only [aE.sub]; rw [mN h.1, mN h.2]
 | .cond c a b, h => by simp only [rL, pL] at h; simp only [aE.sub]; rw [Jk h.1.1, mN h.1.2, mN h.2]
 | .block id a, h => by simp only [rL] at h; simp only [aE.sub]; rw [mN h]
 | .loop a, h => by simp only [rL] at h; simp only [aE.sub]; rw [mN h]
 | .exit id, _ => rfl
 | .ret, _ => rfl
end
section
def Br : aZ -> Bool
 | .tmp _ => true
 | .const v => Flat v || Rf v
def Li : lL -> Bool
 | .alloc _ z | .build z _ | .bB _ _ _ z _ | .lU _ _ z _ _ => fy z
 | .lookup _ z _ _ _ => Flat z
 | _ => true
def QF (op : lL) : Bool := (iS op).all Br && Li op
def yi (θ : cK) (ρ ρ' : aZ -> EV) : Prop := ∀ x, Br x = true -> SV θ (ρ x) (ρ' x)
def ID (θ : cK) (m m' : Mem) (v : EV) (m1 : Mem) (o : Option R1) : Prop :=
 ∃ v' fW, o = some (.val v' fW) /\
  ((SV θ v v' /\ MemS θ m1 fW /\ m1.next = m.next /\ fW.next = m'.next) \/
   (SV (θ.more m.next m'.next) v v' /\ MemS (θ.more m.next m'.next) m1 fW /\ m1.next = m.next + 1 /\ fW.next = m'.next + 1)) /\
  (∀ c, c ≠ m'.next -> (∀ b, θ.ik b ≠ some c) -> fW.get c = m'.get c)
section
variable {θ : cK} {m m' m1 : Mem} {v : EV} {o : Option R1} {n n' : Nat} {ρ ρ' : aZ -> EV}
theorem ID.here (hm : MemS θ m m') (h1 : m1 = m) {v' : EV} (hv : SV θ v v') : ID θ m m' v m1 (some (.val v' m')) := by
 subst h1; exact ⟨v', m', rfl, .inl ⟨hv, hm, rfl, rfl⟩, fun _ _ _ => rfl⟩
theorem ID.new (hm : MemS θ m m') (f : Av θ m.next m'.next) {B B' : fM} {v' : EV} (hB : Mz (θ.more m.next m'.next) B B') (hv : SV (θ.more m.next m'.next) v v') : ID θ m m' v (m.new B) (some (.val v' (m'.new B'))) :=
 ⟨v', _, rfl, .inr ⟨hv, hm.more f hB, rfl, rfl⟩, fun c hc _ => by rw [fw, if_neg hc]⟩
theorem TY {b : Bool} {v' : EV} (h : SV θ (.bool b) v') : v' = .bool b := by cases h; rfl
theorem Rg {k : IntKind} {i : Int} {v' : EV} (h : SV θ (.int k i) v') : v' = .int k i := by cases h; rfl
theorem zo {N i : Nat} {x x' : EV} (hx : SV θ x x') (h : idx N x = some i) : idx N x' = some i := by
 cases hx <;> first | exact h | simp [idx] at h
theorem fE {lo : Option aZ} (hl : ∀ x, lo = some x -> SV θ (ρ x) (ρ' x)) {d N i : Nat} (h : ay (lo.map ρ) d N = some i) : ay (lo.map ρ') d N = some i := by
 cases lo with
 | none => exact h
 | some x =>
  have hx := hl x rfl
  simp only [Option.map_some] at h ⊢
  generalize ρ x = a at hx h
  generalize ρ' x = a' at hx
  cases hx <;> first | exact h | simp [ay] at h
theorem EY : ∀ (ps : List (Nat × Nat × EV)) (W3 : List (Nat × Nat × EV)) (cs mf r : List EV), ps.map (fun p => (p.1, p.2.1)) = W3.map (fun p => (p.1, p.2.1)) -> dZ θ (ps.map (·.2.2)) (W3.map (·.2.2)) -> dZ θ cs mf -> fu cs ps = some r -> ∃ r', fu mf W3 = some r' /\ dZ θ r r'
 | [], [], cs, mf, r, _, _, mF, h => by simp only [fu, bj] at h ⊢; subst h; exact ⟨_, rfl, mF⟩
 | [], _ :: _, _, _, _, he, _, _, _ => by simp at he
 | _ :: _, [], _, _, _, he, _, _, _ => by simp at he
 | (off, size, v) :: ps, (ae5, adS, v') :: W3, cs, mf, r, he, hv, mF, h => by
  simp only [List.map_cons, List.cons.injEq, eQ] at he;obtain ⟨⟨rfl, rfl⟩, he⟩ := he
  cases hv with
  | cons hv yk =>
  simp only [fu] at h ⊢
  cases hc : v.cells with
  | none => simp [hc] at h
  | some vs =>
   obtain ⟨uI, XW, hs⟩ := hv.cells hc
   simp only [hc, XW, <- hs.length] at h ⊢
   cases hb : vs.length.beq size <;> simp only [hb, cond_true, cond_false, reduceCtorEq] at h ⊢
   cases hp : jn cs off vs with
   | none => simp [hp] at h
   | some q =>
    obtain ⟨q', hp', hq⟩ := mF.jn hs hp
    simp only [hp, hp'] at h ⊢
    exact EY ps W3 _ _ _ he yk hq h
theorem zP {z : List EV} (hz : fy z = true) : ∀ n : Nat, fy (eE n z) = true := by
 have app : ∀ a b : List EV, fy a = true -> fy b = true -> fy (a ++ b) = true := by
  intro a b ha hb
  induction a with
  | nil => exact hb
  | cons x a ih => simp only [fy, pL] at ha; simp only [List.cons_append, fy, ha.1, ih ha.2, Bool.and_self]
 intro n
 induction n with
 | zero => rfl
 | succ n ih => unfold eE at ih ⊢; rw [List.replicate_succ, List.flatten_cons]; exact app _ _ hz ih
theorem Q2 {esz i k : Nat} {els : List (List EV)} {a' : EV} (ha : SV θ (.fL esz els i k) a') {g : Option Nat} (h : m.load g (.fL esz els i k) = some v) : ∃ v', SV θ v v' /\ ∀ q : Mem, (∀ c B, θ.gX c = some B -> q.get c = B) -> q.load g a' = some v' := by
 cases ha with
 | @fL _ _ _ b off _ _ o hr hi ho =>
  simp only [Mem.load] at h
  cases hr with
  | @mk _ _ _ _ _ kk cs ro O9 hl hn Ts =>
  have hx := Ts.ext θ.M4
  rw [lp hi] at h;simp only at h
  have xY : els[i].length = esz := hl _ (BI hi)
  -- the WR cells, in the row
  have key : ∀ (L : List (List EV)) (i : Nat) (hi : i < L.length), (∀ el ∈ L, el.length = esz) -> (L.flatten.drop (i * esz)).take esz = L[i] := by
   intro L
   induction L with
   | nil => intro i hi; simp at hi
   | cons e L ih =>
    intro i hi hl
    have he : e.length = esz := hl e (by simp)
    cases i with
    | zero => simp [he]
    | succ i =>
     have := ih i (by simpa using hi) (fun el h => hl el (by simp [h]))
     rw [List.flatten_cons, Nat.succ_mul, Nat.add_comm, <- List.drop_drop, show (e ++ L.flatten).drop esz = L.flatten by rw [<- he]; simp]
     simpa using this
  have Tv : dZ θ els[i] ((cs.drop (off + i * esz)).take esz) := by
   have h1 := ((hx.drop (i * esz)).take esz)
   rw [key els i hi hl] at h1;have h2 : (((cs.drop off).take (els.length * esz)).drop (i * esz)).take esz = (cs.drop (off + i * esz)).take esz := by
    have : i * esz + esz <= els.length * esz := by rw [<- Nat.succ_mul]; exact Nat.mul_le_mul_right _ hi
    rw [List.drop_take, List.drop_drop, List.take_take, Nat.min_eq_left (by omega)]
   rw [h2] at h1; exact h1
  obtain ⟨v', hp, hv⟩ := Tv.part h
  refine ⟨v', hv, fun Q hQ => ?_⟩
  have xw := hQ _ _ O9
  simp only [Mem.load, xw];subst ho;have hlen : off + i * esz + esz <= cs.length := by
   have : i * esz + esz <= els.length * esz := by rw [<- Nat.succ_mul]; exact Nat.mul_le_mul_right _ hi
   omega
  cases g with
  | none =>
   simp only [partOf] at hp ⊢
   rw [List.getElem?_take] at hp
   split at hp
   ·rw [List.getElem?_drop] at hp; exact hp
   ·cases hp
  | some q =>
   simp only [partOf] at hp ⊢
   have SC : ((cs.drop (off + i * esz)).take esz).length = esz := by rw [List.length_take, uE]; omega
   rw [SC] at hp
   cases hb : (k + q).ble esz <;> simp only [hb, cond_true, cond_false, reduceCtorEq, bj] at hp
   have := rc hb
   rw [BH (show off + i * esz + k + q <= cs.length by omega)];simp only [cond_true, bj];rw [<- hp, List.drop_take, List.drop_drop, List.take_take, Nat.min_eq_left (by omega)]
theorem HQ (hm : MemB θ m m') {a a' : EV} (ha : SV θ a a') (hf : GF a = false) {g : Option Nat} (h : m.load g a = some v) : ∃ v', m'.load g a' = some v' /\ SV θ v v' := by
 cases ha <;> simp only [Mem.load, reduceCtorEq] at h
 case fL => simp [GF] at hf
 case ptr b c off hb =>
  have hB := hm.dj b c hb
  cases hg : m.get b with
  | dead => simp [hg] at h
  | map es => simp [hg] at h
  | cells cs e k ro =>
   rw [hg] at hB h;obtain ⟨mf, xw, hs⟩ := hB
   simp only [Mem.load, xw];exact hs.part h
theorem Jw (hm : MemS θ m m') {a a' : EV} (ha : SV θ a a') {g : Option Nat} (h : m.load g a = some v) : ∃ v', m'.load g a' = some v' /\ SV θ v v' := by
 cases hf : GF a with
 | false => exact HQ hm.toMemB ha hf h
 | true =>
  cases a <;> simp only [GF, rp] at hf
  obtain ⟨v', h1, h2⟩ := Q2 ha h
  exact ⟨v', h2 m' hm.gX, h1⟩
theorem Hv (hm : MemS θ m m') {b c : Nat} (hb : θ.ik b = some c) {off N : Nat} {xs : List EV} (h : m.row b off N = some xs) : ∃ FG, m'.row c off N = some FG /\ dZ θ xs FG := by
 by_cases h0 : N = 0
 ·subst h0; rw [Mem.nA] at h; cases h; exact ⟨_, Mem.nA, .nil⟩
 ·rw [Mem.qi h0] at h ⊢
  have hB := hm.dj b c hb
  unfold Mem.Hw at h ⊢
  cases hg : m.get b with
  | dead => simp [hg] at h
  | map es => simp [hg] at h
  | cells cs e k ro =>
   rw [hg] at hB;obtain ⟨mf, xw, hs⟩ := hB
   simp only [hg, xw, <- hs.length] at h ⊢
   cases hbb : (off + N).ble cs.length <;> simp only [hbb, cond_true, cond_false, reduceCtorEq, bj] at h ⊢
   subst h;exact ⟨_, rfl, (hs.drop off).take N⟩
theorem xK (hm : MemS θ m m') {x x' : EV} (hx : SV θ x x') {esz N : Nat} {xs : List EV} (h : m.source esz x = some (N, xs)) : ∃ FG, m'.source esz x' = some (N, FG) /\ dZ θ xs FG := by
 cases hx <;> simp only [Mem.source, reduceCtorEq] at h
 case str s =>
  refine ⟨xs, h, ?_⟩
  cases hb : esz.beq 1 <;> simp only [hb, cond_true, cond_false, reduceCtorEq, bj, eQ] at h
  rw [<- h.2];exact dZ.map _ _ fun a _ => .int _ _
 case ae => simp only [bj, eQ] at h; obtain ⟨rfl, rfl⟩ := h; exact ⟨[], rfl, .nil⟩
 case slice b c off len cap hb =>
  obtain ⟨r, hr, he⟩ := kr.1 h
  obtain ⟨r', u7, hs⟩ := Hv hm hb hr
  simp only [eQ] at he;obtain ⟨rfl, rfl⟩ := he
  exact ⟨r', by simp only [Mem.source, u7, Option.map_some], hs⟩
 case BY t e b off ht =>
  cases hb : e.beq esz <;> simp only [hb, cond_true, cond_false, reduceCtorEq, bj, eQ] at h
  obtain ⟨rfl, rfl⟩ := h
  refine ⟨[], ?_, .nil⟩
  simp only [Mem.source, Nat.zero_mul, Mem.nA, Option.map_some, List.length_nil]
 case fz t e els b off cap hc hr ht =>
  cases hb : e.beq esz <;> simp only [hb, cond_true, cond_false, reduceCtorEq, bj, eQ] at h
  obtain ⟨rfl, rfl⟩ := h
  obtain rfl := aV hb
  cases hr with
  | mk O9 hl hn Ts =>
  have hx := Ts.ext θ.M4
  rename_i cs ro
  refine ⟨(cs.drop off).take (els.length * e), ?_, hx⟩
  simp only [Mem.source];by_cases h0 : els.length * e = 0
  ·rw [h0, Mem.nA, List.take_zero]; rfl
  ·rw [Mem.qi h0, Mem.Hw, hm.gX _ _ O9]
   simp only [BH hn, cond_true, Option.map_some]
theorem AF (hm : MemS θ m m') (k : q9 θ n n') {b c : Nat} (hb : θ.ik b = some c) {off : Nat} {vs uI : List EV} (hv : dZ θ vs uI) (h : m.write b off vs = some m1) : ∃ fW, m'.write c off uI = some fW /\ MemS θ m1 fW /\ m1.next = m.next /\ fW.next = m'.next /\ ∀ d, d ≠ c -> fW.get d = m'.get d := by
 have hB := hm.dj b c hb
 unfold Mem.write at h ⊢
 cases hg : m.get b with
 | dead => simp [hg] at h
 | map es => simp [hg] at h
 | cells cs e t ro =>
  rw [hg] at hB;obtain ⟨mf, xw, hs⟩ := hB
  simp only [hg, xw] at h ⊢
  cases ro <;> simp only [cond_true, cond_false, reduceCtorEq] at h ⊢
  obtain ⟨r, hr, rfl⟩ := kr.1 h
  obtain ⟨r', u7, hq⟩ := hs.jn hv hr
  exact ⟨_, by rw [u7]; rfl, hm.set k hb ⟨r', rfl, hq⟩, rfl, rfl, fun d hd => aB hd⟩
theorem Ot (hm : MemS θ m m') (k : q9 θ n n') {size : Nat} {a a' x x' : EV} (ha : SV θ a a') (hx : SV θ x x') (h : m.store size a x = some m1) : ∃ fW, m'.store size a' x' = some fW /\ MemS θ m1 fW /\ m1.next = m.next /\ fW.next = m'.next /\ ∀ d, (∀ b, θ.ik b ≠ some d) -> fW.get d = m'.get d := by
 unfold Mem.store at h
 cases hc : x.cells with
 | none => rw [hc] at h; cases a <;> simp at h
 | some vs =>
  obtain ⟨uI, XW, hs⟩ := hx.cells hc
  rw [hc] at h
  cases ha <;> simp only [reduceCtorEq] at h
  case ptr b c off hb =>
   cases hl : vs.length.beq size <;> simp only [hl, cond_true, cond_false, reduceCtorEq] at h
   obtain ⟨fW, h1, h2, h3, h4, h5⟩ := AF hm k hb hs h
   refine ⟨fW, ?_, h2, h3, h4, fun d hd => h5 d fun e => hd b (e ▸ hb)⟩
   simp only [Mem.store, XW, <- hs.length, hl, cond_true]; exact h1
theorem Sc {op : BinOp} {x y : EV} (h : eG op x y = some v) : Flat x = true /\ Flat y = true /\ Flat v = true := by
 cases x <;> cases y <;> simp only [eG, reduceCtorEq] at h
 case int.int k a l b =>
  refine ⟨rfl, rfl, ?_⟩
  have sh : ∀ op, tJ op k a b = some v -> Flat v = true := by
   intro op h
   unfold tJ at h
   split at h
   ·cases h
   ·cases op <;> simp at h <;> subst h <;> rfl
  have it : ∀ op, (bif (b6 k).beq (b6 l) then nM op k a b else none) = some v -> Flat v = true := by
   intro op h
   cases hk : (b6 k).beq (b6 l) <;> simp only [hk, cond_true, cond_false, reduceCtorEq] at h
   cases op <;> simp only [nM, rk, Option.map_some, bj, reduceCtorEq] at h <;> first | (subst h; rfl) | (split at h <;> simp at h; subst h; rfl)
  cases op <;> first | exact sh _ h | exact it _ h
 case str.str a b =>
  refine ⟨rfl, rfl, ?_⟩
  cases op <;> simp only [reduceCtorEq, bj] at h <;> first | (subst h; rfl) | skip
  cases hb : (a.length + b.length).ble 4294967296 <;> simp only [hb, cond_true, cond_false, reduceCtorEq, bj] at h
  subst h; rfl
theorem SJ {op : UnOp} {x : EV} (h : E1 op x = some v) : Flat x = true /\ Flat v = true := by
 cases op <;> cases x <;> simp only [E1, reduceCtorEq, bj, rk, Option.map_some] at h <;> subst h <;> exact ⟨rfl, rfl⟩
theorem L6 {t : Nat} {x y x' y' : EV} (hx : SV θ x x') (hy : SV θ y y') {b : Bool} (h : dU t x y = some b) : dU t x' y' = some b := by
 cases hx <;> cases hy <;> first | exact h | (simp only [dU, reduceCtorEq] at h ⊢ <;> done) | (simp only [dU] at h ⊢; exact h)
theorem L5 {fs : List (Option Nat × Nat × su)} {x y : EV} {b : Bool} (h : eO (.agg fs) x y = some b) : ∃ a c, x = .agg a /\ y = .agg c /\ pE fs a c = some b := by
 rw [eO.eq_def] at h
 cases x <;> cases y <;> first | exact ⟨_, _, rfl, rfl, h⟩ | cases h
theorem N5 {a : List EV} {x' : EV} (h : SV θ (.agg a) x') : ∃ a', x' = .agg a' /\ dZ θ a a' := by
 cases h with | agg h => exact ⟨_, rfl, h⟩
mutual
theorem R0 : ∀ (t : su) {x y x' y' : EV}, SV θ x x' -> SV θ y y' -> ∀ {b : Bool}, eO t x y = some b -> eO t x' y' = some b
 | .aL t, _, _, _, _, hx, hy, b, h => by simp only [eO] at h ⊢; exact L6 hx hy h
 | .agg fs, _, _, _, _, hx, hy, b, h => by
  obtain ⟨a, c, rfl, rfl, h⟩ := L5 h
  obtain ⟨a', rfl, ha⟩ := N5 hx
  obtain ⟨c', rfl, hc⟩ := N5 hy
  simp only [eO];exact NH fs ha hc h
theorem NH : ∀ (fs : List (Option Nat × Nat × su)) {x y x' y' : List EV}, dZ θ x x' -> dZ θ y y' -> ∀ {b : Bool}, pE fs x y = some b -> pE fs x' y' = some b
 | [], _, _, _, _, _, _, _, h => by simp only [pE] at h ⊢; exact h
 | (g, off, t) :: r, x, y, x', y', hx, hy, b, h => by
  simp only [pE] at h ⊢
  cases hp : partOf g x off with
  | none => simp [hp] at h
  | some p =>
   cases hq : partOf g y off with
   | none => simp [hp, hq] at h
   | some q =>
    obtain ⟨p', hp', sp⟩ := hx.part hp
    obtain ⟨q', GK, sq⟩ := hy.part hq
    simp only [hp, hq, hp', GK] at h ⊢
    cases he : eO t p q with
    | none => simp [he] at h
    | some c =>
     rw [R0 t sp sq he]
     cases c
     ·simpa [he] using h
     ·simp only [he] at h ⊢; exact NH r hx hy h
end
theorem Fc : ∀ {xs : List EV} {s : List UInt8}, bytesOf xs = some s -> fy xs = true
 | [], _, _ => rfl
 | v :: xs, s, h => by
  unfold bytesOf at h
  split at h
  ·rename_i hh; cases hh
  ·rename_i hh; cases hh
   obtain ⟨r, hr, _⟩ := kr.1 h
   simp only [fy, Flat, Fc hr, Bool.and_self]
  ·cases h
theorem QX : ∀ {l : List EV}, uu l = some v -> fy l = true /\ Flat v = true := by
 have go : ∀ (k : IntKind) (l : List EV) (x : Int), lV k x l = some v -> fy l = true /\ Flat v = true := by
  intro k l
  induction l with
  | nil => intro x h; simp only [lV, bj] at h; subst h; exact ⟨rfl, rfl⟩
  | cons a l ih =>
   intro x h
   cases a <;> simp only [lV, reduceCtorEq] at h
   rename_i k' y
   cases hk : (b6 k).beq (b6 k') <;> simp only [hk, cond_true, cond_false, reduceCtorEq] at h
   obtain ⟨h1, h2⟩ := ih _ h
   exact ⟨by simp only [fy, Flat, h1, Bool.and_self], h2⟩
 intro l h
 cases l with
 | nil => simp [uu] at h
 | cons a l =>
  cases a <;> simp only [uu, reduceCtorEq] at h
  obtain ⟨h1, h2⟩ := go _ _ _ h
  exact ⟨by simp only [fy, Flat, h1, Bool.and_self], h2⟩
theorem QU : ∀ {l : List EV}, xG l = some v -> fy l = true /\ Flat v = true := by
 have go : ∀ (k : IntKind) (l : List EV) (x : Int), ni k x l = some v -> fy l = true /\ Flat v = true := by
  intro k l
  induction l with
  | nil => intro x h; simp only [ni, bj] at h; subst h; exact ⟨rfl, rfl⟩
  | cons a l ih =>
   intro x h
   cases a <;> simp only [ni, reduceCtorEq] at h
   rename_i k' y
   cases hk : (b6 k).beq (b6 k') <;> simp only [hk, cond_true, cond_false, reduceCtorEq] at h
   obtain ⟨h1, h2⟩ := ih _ h
   exact ⟨by simp only [fy, Flat, h1, Bool.and_self], h2⟩
 intro l h
 cases l with
 | nil => simp [xG] at h
 | cons a l =>
  cases a <;> simp only [xG, reduceCtorEq] at h
  obtain ⟨h1, h2⟩ := go _ _ _ h
  exact ⟨by simp only [fy, Flat, h1, Bool.and_self], h2⟩
theorem yi.list (hρ : yi θ ρ ρ') : ∀ {l : List aZ}, l.all Br = true -> dZ θ (l.map ρ) (l.map ρ')
 | [], _ => .nil
 | x :: l, h => by simp only [List.all_cons, pL] at h; exact .cons (hρ x h.1) (yi.list hρ h.2)
theorem oT {k : EV} (h : kY k ≠ 99) : Flat k = true := by cases k <;> first | rfl | exact absurd rfl h
theorem nF {kt : Nat} {k : EV} (h : l7 kt k = true) : kY k ≠ 99 := by
 cases k <;> simp only [l7, rp] at h <;> simp [kY]
 rename_i kk n; cases kk <;> simp [b6]
theorem v7 {k : EV} (hk : kY k ≠ 99) : ∀ {es rl : List (EV × EV)}, nQ θ es rl -> oB k es = true -> rl.map (·.1) = es.map (·.1) /\ oB k rl = true
 | _, _, .nil, _ => ⟨rfl, rfl⟩
 | _, _, .cons (k := a) ha hv hs, h => by
  simp only [oB] at h
  cases hb : (kY a).beq (kY k) <;> simp only [hb, cond_true, cond_false, rp] at h
  have hf : Flat a = true := oT (by rw [aV hb]; exact hk)
  have := ha.flat hf
  subst this;obtain ⟨h1, h2⟩ := v7 hk hs h
  exact ⟨by simp [h1], by simp only [oB, hb, cond_true, h2]⟩
theorem J2 {k : EV} : ∀ {es rl : List (EV × EV)}, nQ θ es rl -> rl.map (·.1) = es.map (·.1) -> (∀ v, find k es = some v -> ∃ v', find k rl = some v' /\ SV θ v v') /\ (find k es = none -> find k rl = none)
 | _, _, .nil, _ => ⟨fun v h => by simp [find] at h, fun _ => rfl⟩
 | _, _, .cons (k' := a) (v := w) (v' := w') ha hv hs, h => by
  simp only [List.map_cons, List.cons.injEq] at h;obtain ⟨rfl, h⟩ := h
  obtain ⟨h1, h2⟩ := J2 (k := k) hs h
  simp only [find]
  cases EV.same k a <;> simp only [cond_true, cond_false]
  ·exact ⟨h1, h2⟩
  ·exact ⟨fun v hh => by cases hh; exact ⟨w', rfl, hv⟩, fun hh => by cases hh⟩
theorem D3 {k k' x x' : EV} (hk : SV θ k k') (hx : SV θ x x') (he : k' = k) : ∀ {es rl : List (EV × EV)}, nQ θ es rl -> rl.map (·.1) = es.map (·.1) -> nQ θ (update k x es) (update k' x' rl)
 | _, _, .nil, _ => .cons hk hx .nil
 | _, _, .cons (k' := a) ha hv hs, h => by
  simp only [List.map_cons, List.cons.injEq] at h;obtain ⟨rfl, h⟩ := h
  have ih := D3 hk hx he hs h
  subst he;simp only [update]
  cases EV.same k' a <;> simp only [cond_true, cond_false]
  ·exact .cons ha hv ih
  ·exact .cons hk hx hs
theorem GW {k : EV} : ∀ {es rl : List (EV × EV)}, nQ θ es rl -> rl.map (·.1) = es.map (·.1) -> nQ θ (erase k es) (erase k rl)
 | _, _, .nil, _ => .nil
 | _, _, .cons (k' := a) ha hv hs, h => by
  simp only [List.map_cons, List.cons.injEq] at h;obtain ⟨rfl, h⟩ := h
  have ih := GW (k := k) hs h
  simp only [erase]
  cases EV.same k a <;> simp only [cond_true, cond_false]
  ·exact .cons ha hv ih
  ·exact hs
theorem nQ.len : ∀ {es rl : List (EV × EV)}, nQ θ es rl -> es.length = rl.length
 | _, _, .nil => rfl
 | _, _, .cons _ _ h => by simp [nQ.len h]
end
end
section
section
variable {θ : cK} {m m' m1 : Mem} {v : EV} {n n' : Nat} {ρ ρ' : aZ -> EV}
theorem iT {x : Option EV} (h : gA m x = some (.val v m1)) : x = some v /\ m1 = m := by
 unfold gA at h;obtain ⟨y, hy, he⟩ := kr.1 h
 cases he; exact ⟨hy, rfl⟩
theorem Tb {x : Option Mem} (h : ofM x = some (.val v m1)) : x = some m1 /\ v = .undef := by
 unfold ofM at h;obtain ⟨y, hy, he⟩ := kr.1 h
 cases he; exact ⟨hy, rfl⟩
theorem c6 {a : EV} {q : Mem} (h : some (R1.val a q) = some (R1.val v m1)) : a = v /\ q = m1 := by cases h; exact ⟨rfl, rfl⟩
theorem nP {lo : Option aZ} (h : (Es lo).all Br = true) (hρ : yi θ ρ ρ') : ∀ x, lo = some x -> SV θ (ρ x) (ρ' x) := by
 intro x e; subst e
 simp only [Es, List.all_cons, List.all_nil, Bool.and_true] at h;exact hρ x h
theorem vn {θ' : cK} {esz b c off len : Nat} {cap : Option Nat} {lo hi max : Option aZ} (hb : θ.ik b = some c) (mU : ∀ x, lo = some x -> SV θ (ρ x) (ρ' x)) (xv : ∀ x, hi = some x -> SV θ (ρ x) (ρ' x)) (Pc : ∀ x, max = some x -> SV θ (ρ x) (ρ' x))
  (h : ez esz b off len cap (lo.map ρ) (hi.map ρ) (max.map ρ) = some v) : ∃ v', ez esz c off len cap (lo.map ρ') (hi.map ρ') (max.map ρ') = some v' /\ SV θ v v' := by
 cases cap with
 | some cp =>
  simp only [ez] at h ⊢
  cases h1 : ay (max.map ρ) cp cp with
  | none => simp [h1] at h
  | some t =>
   rw [fE Pc h1]; simp only [h1] at h ⊢
   cases h2 : ay (hi.map ρ) len t with
   | none => simp [h2] at h
   | some q =>
    rw [fE xv h2]; simp only [h2] at h ⊢
    cases h3 : ay (lo.map ρ) 0 q with
    | none => simp [h3] at h
    | some l =>
     rw [fE mU h3]; simp only [h3, bj] at h ⊢
     subst h; exact ⟨_, rfl, .slice hb⟩
 | none =>
  cases max with
  | some mx =>
   simp only [ez, Option.map_some] at h ⊢
   cases h1 : ay (some (ρ mx)) len len with
   | none => simp [h1] at h
   | some t =>
    have FY : ay (some (ρ' mx)) len len = some t := fE (lo := some mx) Pc h1
    simp only [h1, FY] at h ⊢
    cases h2 : ay (hi.map ρ) len t with
    | none => simp [h2] at h
    | some q =>
     rw [fE xv h2]; simp only [h2] at h ⊢
     cases h3 : ay (lo.map ρ) 0 q with
     | none => simp [h3] at h
     | some l =>
      rw [fE mU h3]; simp only [h3, bj] at h ⊢
      subst h; exact ⟨_, rfl, .slice hb⟩
  | none =>
   simp only [ez, Option.map_none] at h ⊢
   cases h2 : ay (hi.map ρ) len len with
   | none => simp [h2] at h
   | some q =>
    rw [fE xv h2]; simp only [h2] at h ⊢
    cases h3 : ay (lo.map ρ) 0 q with
    | none => simp [h3] at h
    | some l =>
     rw [fE mU h3]; simp only [h3, bj] at h ⊢
     subst h; exact ⟨_, rfl, .slice hb⟩
theorem JZ {esz : Nat} : ∀ (L : List (List EV)) (l h : Nat), l <= h -> h <= L.length -> (∀ el ∈ L, el.length = esz) -> ((L.take h).drop l).flatten = (L.flatten.drop (l * esz)).take ((h - l) * esz) := by
 have tk : ∀ (L : List (List EV)) (h : Nat), (∀ el ∈ L, el.length = esz) -> (L.take h).flatten = L.flatten.take (h * esz) := by
  intro L
  induction L with
  | nil => intro h _; simp
  | cons e L ih =>
   intro h hl
   have he := hl e (by simp)
   cases h with
   | zero => simp
   | succ h => rw [List.take_succ_cons, List.flatten_cons, ih h (fun el q => hl el (by simp [q])), List.flatten_cons, Nat.succ_mul, Nat.add_comm, List.take_append, he, Gc (l := e) (by rw [he]; omega)]; simp
 have dp : ∀ (L : List (List EV)) (h : Nat), (∀ el ∈ L, el.length = esz) -> (L.drop h).flatten = L.flatten.drop (h * esz) := by
  intro L
  induction L with
  | nil => intro h _; simp
  | cons e L ih =>
   intro h hl
   have he := hl e (by simp)
   cases h with
   | zero => simp
   | succ h => rw [List.drop_succ_cons, ih h (fun el q => hl el (by simp [q])), List.flatten_cons, Nat.succ_mul, Nat.add_comm, <- List.drop_drop, show (e ++ L.flatten).drop esz = L.flatten by rw [<- he]; simp]
 intro L l h hlh hh hl
 rw [dp _ _ (fun el q => hl el (List.mem_of_mem_take q)), tk _ _ hl, List.drop_take, <- Nat.sub_mul]
theorem TM {esz t b off : Nat} {els : List (List EV)} {cap : Option Nat} (hx : SV θ (.fz t esz els) (.slice b off els.length cap)) (hm : MemS θ m m') {lo hi : Option aZ} (mU : ∀ x, lo = some x -> SV θ (ρ x) (ρ' x)) (xv : ∀ x, hi = some x -> SV θ (ρ x) (ρ' x)) {h l : Nat}
  (h1 : ay (hi.map ρ) els.length els.length = some h) (h2 : ay (lo.map ρ) 0 h = some l) (hh : h <= els.length) (hl : l <= h) :
  ∃ v' , (match cap with
   | some c => gA m' (ez esz b off els.length (some c) (lo.map ρ') (hi.map ρ') none)
   | none => match m'.get b with
    | .cells _ e _ _ => bif e.beq esz then gA m' (ez esz b off els.length none (lo.map ρ') (hi.map ρ') none) else none
    | _ => none) = some (.val v' m') /\ SV θ (.fz 0 esz ((els.take h).drop l)) v' := by
 have FY := fE xv h1
 have X5 := fE mU h2
 have hlen : ((els.take h).drop l).length = h - l := by rw [uE, List.length_take]; omega
 generalize rU : EV.slice b off els.length cap = y at hx
 cases hx with
 | BY ht =>
  cases rU
  simp only [List.length_nil] at h1 FY hh
  obtain rfl : h = 0 := by omega
  obtain rfl : l = 0 := by omega
  simp only [List.length_nil, ez, pH, FY, X5, gA, Option.map_some];refine ⟨_, rfl, ?_⟩
  simp only [Nat.beq_refl, cond_true, Nat.sub_self, List.take_nil, List.drop_nil];exact .BY (.inl rfl)
 | fz hr ht hc =>
  cases rU
  cases hr with
  | @mk _ _ _ _ _ k cs ro hs hle hn LO =>
  have PQ : dZ θ.low ((els.take h).drop l).flatten ((cs.drop (off + l * esz)).take (((els.take h).drop l).length * esz)) := by
   rw [hlen, JZ els l h hl hh hle];have q := (LO.drop (l * esz)).take ((h - l) * esz)
   have : l * esz + (h - l) * esz <= els.length * esz := by rw [<- Nat.add_mul]; exact Nat.mul_le_mul_right _ (by omega)
   rw [List.drop_take, List.drop_drop, List.take_take, Nat.min_eq_left (by omega)] at q;exact q
  have hn' : off + l * esz + ((els.take h).drop l).length * esz <= cs.length := by
   have : l * esz + (h - l) * esz <= els.length * esz := by rw [<- Nat.add_mul]; exact Nat.mul_le_mul_right _ (by omega)
   rw [hlen]; omega
  have hr : SR θ esz ((els.take h).drop l) b (off + l * esz) := .mk hs (fun el q => hle el (List.mem_of_mem_take (List.mem_of_mem_drop q))) hn' PQ
  cases cap with
  | some c =>
   have oY := hc c rfl
   have g1 : ay (hi.map ρ') els.length c = some h := by
    cases hi with
    | none => simp only [Option.map_none, ay, bj] at FY ⊢; exact FY
    | some x =>
     simp only [Option.map_some] at FY ⊢
     generalize ρ' x = w at FY
     unfold ay at FY ⊢
     split at FY
     ·rename_i e; cases e
     ·rename_i e; cases e
      rename_i i
      cases hb : i.ble els.length <;> simp only [hb, cond_true, cond_false, reduceCtorEq, bj] at FY
      have := rc hb
      subst FY
      simp only [BH (show i <= c by omega), cond_true]
     ·cases FY
   simp only [ez, pH, g1, X5, gA, Option.map_some];refine ⟨_, rfl, ?_⟩
   by_cases RF : c = l
   ·subst RF
    obtain rfl : h = c := by omega
    simp only [Nat.beq_refl, cond_true, Nat.sub_self];have : (els.take h).drop h = [] := List.eq_nil_of_length_eq_zero (by rw [hlen]; omega)
    rw [this]; exact .BY (.inl rfl)
   ·simp only [j4 RF, cond_false]
    have := SV.fz (t := 0) (cap := some (c - l)) hr (.inl rfl) (fun q e => by cases e; rw [hlen]; omega)
    rw [hlen] at this; exact this
  | none =>
   simp only [hm.gX _ _ hs, Nat.beq_refl, cond_true, ez, pH, FY, X5, gA, Option.map_some];refine ⟨_, rfl, ?_⟩
   have := SV.fz (t := 0) (cap := none) hr (.inl rfl) (fun q e => by cases e)
   rw [hlen] at this; exact this
theorem Ff {x : Option EV} {d nX i : Nat} (h : ay x d nX = some i) (hd : d <= nX) : i <= nX := by
 unfold ay at h
 split at h
 ·cases h; exact hd
 ·rename_i kk i'
  cases hb : i'.ble nX <;> simp only [hb, cond_true, cond_false, reduceCtorEq, bj] at h
  rw [<- h]; exact rc hb
 ·cases h
theorem Ms (hm : MemS θ m m') (k : q9 θ n n') (f : Av θ m.next m'.next) {elem esz : Nat} {s s' x x' : EV} (hs : SV θ s s') (hx : SV θ x x') (h : fV m elem esz s x = some (v, m1)) : ID θ m m' v m1 (xn (fV m' elem esz s' x')) := by
 unfold fV at h ⊢
 cases jM : m.source esz x with
 | none => simp [jM] at h
 | some q =>
  obtain ⟨N, xs⟩ := q
  obtain ⟨FG, JM, LO⟩ := xK hm hx jM
  simp only [jM, JM] at h ⊢
  cases h0 : N.beq 0 <;> simp only [h0, cond_true, cond_false] at h ⊢
  ·cases hs <;> simp only [reduceCtorEq] at h
   case ae =>
    cases hr : N.ble room <;> simp only [hr, cond_true, cond_false, reduceCtorEq, bj, eQ] at h
    obtain ⟨rfl, rfl⟩ := h
    exact ID.new hm f ⟨FG, rfl, LO.ext f.ext⟩ (.slice oE)
   case slice b c off len cap hb =>
    cases hr : (len + N).ble room <;> simp only [hr, cond_true, cond_false, reduceCtorEq] at h ⊢
    cases FP : m.row b off (len * esz) with
    | none => simp [FP] at h
    | some old =>
     obtain ⟨old', Xx, hold⟩ := Hv hm hb FP
     simp only [FP, Xx] at h ⊢
     cases cap with
     | some cp =>
      simp only at h ⊢
      cases hc : (len + N).ble cp <;> simp only [hc, cond_true, cond_false] at h ⊢
      ·simp only [bj, eQ] at h
       obtain ⟨rfl, rfl⟩ := h
       exact ID.new hm f ⟨_, rfl, (hold.append LO).ext f.ext⟩ (.slice oE)
      ·obtain ⟨m2, hw, he⟩ := kr.1 h
       simp only [eQ] at he;obtain ⟨rfl, rfl⟩ := he
       obtain ⟨Sw, Xr, h2, h3, h4, h5⟩ := AF hm k hb LO hw
       refine ⟨_, Sw, by simp only [Xr, Option.map_some, xn], .inl ⟨.slice hb, h2, h3, h4⟩, fun d _ hd => h5 d fun e => hd b (e ▸ hb)⟩
     | none =>
      simp only at h ⊢
      have hB := hm.dj b c hb
      cases hg : m.get b with
      | dead => simp [hg] at h
      | map es => simp [hg] at h
      | cells cs e t ro =>
       rw [hg] at hB;obtain ⟨mf, xw, _⟩ := hB
       cases ro with
       | true => simp [hg] at h
       | false =>
       simp only [hg, xw] at h ⊢
       cases he : e.beq esz <;> simp only [he, cond_true, cond_false, reduceCtorEq, bj, eQ] at h ⊢
       obtain ⟨rfl, rfl⟩ := h
       have hmo := hm.more f (B := .cells (old ++ xs) esz elem false) (B' := .cells (old' ++ FG) esz elem false) ⟨_, rfl, (hold.append LO).ext f.ext⟩
       have k2 := k.more f (k := max n (m.next + 1)) (k' := max n' (m'.next + 1)) (by omega) (by omega) (by omega) (by omega)
       refine ⟨_, _, rfl, .inr ⟨.slice oE, hmo.set k2 (f.ext.ik b c hb) (B := .dead) (B' := .dead) trivial, rfl, rfl⟩, fun d hd FW => ?_⟩
       have VQ : d ≠ c := fun q => FW b (q ▸ hb)
       rw [aB VQ, fw, if_neg hd]
  ·cases hs <;> simp only [reduceCtorEq, bj, eQ] at h
   case ae => obtain ⟨rfl, rfl⟩ := h; exact ID.here hm rfl .ae
   case slice hb => obtain ⟨rfl, rfl⟩ := h; exact ID.here hm rfl (.slice hb)
   case fz c a b => obtain ⟨rfl, rfl⟩ := h; exact ID.here hm rfl (.fz a b c)
   case BY ht => obtain ⟨rfl, rfl⟩ := h; exact ID.here hm rfl (.BY ht)
theorem R4 (hm : MemS θ m m') (k : q9 θ n n') {esz : Nat} {s s' x x' : EV} (hs : SV θ s s') (hx : SV θ x x') (h : ya m esz s x = some (v, m1)) : ID θ m m' v m1 (xn (ya m' esz s' x')) := by
 unfold ya at h ⊢
 cases hs <;> simp only [reduceCtorEq] at h
 case ae =>
  obtain ⟨q, hq, he⟩ := kr.1 h
  obtain ⟨FG, JM, _⟩ := xK hm hx hq
  simp only [eQ] at he;obtain ⟨rfl, rfl⟩ := he
  simp only [JM, Option.map_some];exact ID.here hm rfl (.int _ _)
 case slice b c off len cap hb =>
  cases jM : m.source esz x with
  | none => simp [jM] at h
  | some q =>
   obtain ⟨N, xs⟩ := q
   obtain ⟨FG, JM, LO⟩ := xK hm hx jM
   simp only [jM, JM] at h ⊢
   obtain ⟨m2, hw, he⟩ := kr.1 h
   simp only [eQ] at he;obtain ⟨rfl, rfl⟩ := he
   obtain ⟨Sw, Xr, h2, h3, h4, h5⟩ := AF hm k hb (LO.take _) hw
   exact ⟨_, Sw, by simp only [Xr, Option.map_some, xn], .inl ⟨.int _ _, h2, h3, h4⟩, fun d _ hd => h5 d fun e => hd b (e ▸ hb)⟩
theorem HB (hρ : yi θ ρ ρ') (hm : MemS θ m m') (k : q9 θ n n') (f : Av θ m.next m'.next) {op : lL} (eu : QF op = true) (h : aF ρ op m = some (.val v m1)) : ID θ m m' v m1 (aF ρ' op m') := by
 cases op <;> simp only [QF, iS, Li, List.all_cons, List.all_nil, List.all_append, Bool.and_true, Bool.true_and, pL] at eu <;> simp only [aF] at h ⊢
 case ab x => obtain ⟨rfl, rfl⟩ := c6 h; exact .here hm rfl (hρ x eu)
 case pick c a b =>
  have hc := hρ c eu.1
  generalize ρ c = y at hc h; generalize ρ' c = y' at hc
  cases hc <;> simp only [reduceCtorEq] at h ⊢
  rename_i t
  obtain ⟨rfl, rfl⟩ := c6 h
  cases t
  ·exact .here hm rfl (hρ b eu.2.2)
  ·exact .here hm rfl (hρ a eu.2.1)
 case alloc e z =>
  obtain ⟨rfl, rfl⟩ := c6 h
  exact .new hm f ⟨z, rfl, dZ.of_flat eu⟩ (.ptr oE)
 case box e x =>
  have hx := hρ x eu
  cases hc : (ρ x).cells with
  | none => simp [hc] at h
  | some cs =>
   obtain ⟨mf, XW, hs⟩ := hx.cells hc
   simp only [hc, XW] at h ⊢
   obtain ⟨rfl, rfl⟩ := c6 h
   rw [<- hs.length];exact .new hm f ⟨mf, rfl, hs.ext f.ext⟩ (.ptr oE)
 case build z ps =>
  obtain ⟨h1, rfl⟩ := iT h
  obtain ⟨r, hr, rfl⟩ := kr.1 h1
  have hp : dZ θ ((ps.map fun p => (p.1, p.2.1, ρ p.2.2)).map (·.2.2)) ((ps.map fun p => (p.1, p.2.1, ρ' p.2.2)).map (·.2.2)) := by
   have := yi.list hρ eu.1
   rw [List.map_map, List.map_map] at this;rw [List.map_map, List.map_map]; exact this
  obtain ⟨r', u7, hs⟩ := EY _ (ps.map fun p => (p.1, p.2.1, ρ' p.2.2)) _ _ _ (by simp [Function.comp_def]) hp (dZ.of_flat eu.2) hr
  simp only [u7, Option.map_some, gA];exact .here hm rfl (.agg hs)
 case bB e esz len z ps =>
  cases hr : fu (eE len z) (ps.map fun p => (p.1 * esz, esz, ρ p.2)) with
  | none => simp [hr] at h
  | some r =>
   have hp : dZ θ ((ps.map fun p => (p.1 * esz, esz, ρ p.2)).map (·.2.2)) ((ps.map fun p => (p.1 * esz, esz, ρ' p.2)).map (·.2.2)) := by
    have := yi.list hρ eu.1
    rw [List.map_map, List.map_map] at this;rw [List.map_map, List.map_map]; exact this
   obtain ⟨r', u7, hs⟩ := EY _ (ps.map fun p => (p.1 * esz, esz, ρ' p.2)) _ _ _ (by simp [Function.comp_def]) hp (dZ.of_flat (zP eu.2 len)) hr
   simp only [hr, u7] at h ⊢
   obtain ⟨rfl, rfl⟩ := c6 h
   exact .new hm f ⟨r', rfl, hs.ext f.ext⟩ (.slice oE)
 case load g a =>
  obtain ⟨h1, rfl⟩ := iT h
  obtain ⟨v', hl, hv⟩ := Jw hm (hρ a eu) h1
  simp only [hl, gA, Option.map_some];exact .here hm rfl hv
 case store size a x =>
  obtain ⟨h1, rfl⟩ := Tb h
  obtain ⟨fW, hs, h2, h3, h4, h5⟩ := Ot hm k (hρ a eu.1) (hρ x eu.2) h1
  exact ⟨_, fW, by simp only [hs, ofM, Option.map_some], .inl ⟨.undef, h2, h3, h4⟩, fun c _ hc => h5 c hc⟩
 case cA x =>
  have hx := hρ x eu
  generalize ρ x = y at hx h; generalize ρ' x = y' at hx
  cases hx <;> simp only [reduceCtorEq] at h ⊢ <;> obtain ⟨rfl, rfl⟩ := c6 h
  case ptr hb => exact .here hm rfl (.ptr hb)
  case func h1 h2 => exact .here hm rfl (.func h1 h2)
  case iface h1 => exact .here hm rfl (.iface h1)
  case fL h2 h3 h1 => exact .here hm rfl (.fL h1 h2 h3)
 case bin op x y =>
  obtain ⟨h1, rfl⟩ := iT h
  obtain ⟨f1, f2, f3⟩ := Sc h1
  rw [(hρ x eu.1).flat f1, (hρ y eu.2).flat f2, h1];exact .here hm rfl (SV.of_flat f3)
 case eq neg t x y =>
  obtain ⟨h1, rfl⟩ := iT h
  obtain ⟨b, hb, rfl⟩ := kr.1 h1
  rw [R0 t (hρ x eu.1) (hρ y eu.2) hb];exact .here hm rfl (.bool _)
 case un op x =>
  obtain ⟨h1, rfl⟩ := iT h
  obtain ⟨f1, f2⟩ := SJ h1
  rw [(hρ x eu).flat f1, h1];exact .here hm rfl (SV.of_flat f2)
 case conv c x =>
  have hx := hρ x eu
  unfold xn at h;obtain ⟨q, hq, he⟩ := kr.1 h
  obtain ⟨q1, q2⟩ := q
  cases he
  generalize ρ x = y at hx hq; generalize ρ' x = y' at hx
  cases c with
  | int kk =>
   cases hx <;> simp only [li, reduceCtorEq, bj, eQ] at hq ⊢
   obtain ⟨rfl, rfl⟩ := hq
   exact .here hm rfl (.int _ _)
  | same =>
   cases hx <;> simp only [li, reduceCtorEq, bj, eQ] at hq ⊢
   obtain ⟨rfl, rfl⟩ := hq
   exact .here hm rfl (.str _)
  | bytes e =>
   cases hx <;> simp only [li, reduceCtorEq, bj, eQ] at hq ⊢
   obtain ⟨rfl, rfl⟩ := hq
   exact .new hm f ⟨_, rfl, dZ.map _ _ fun a _ => .int _ _⟩ (.slice oE)
  | text =>
   cases hx <;> simp only [li, reduceCtorEq, bj, eQ] at hq ⊢
   case ae => obtain ⟨rfl, rfl⟩ := hq; exact .here hm rfl (.str _)
   case slice b c off len cap hb =>
    cases hr : m.row b off len with
    | none => simp [hr] at hq
    | some cs =>
     obtain ⟨mf, u7, hs⟩ := Hv hm hb hr
     simp only [hr, u7] at hq ⊢
     obtain ⟨s, rT, he⟩ := kr.1 hq
     cases he
     rw [hs.flat (Fc rT), rT];exact .here hm rfl (.str _)
 case iface t x => obtain ⟨rfl, rfl⟩ := c6 h; exact .here hm rfl (.iface (hρ x eu))
 case BQ g a c =>
  obtain ⟨rfl, rfl⟩ := c6 h
  exact .here hm rfl (.func (yi.list hρ eu.1) (yi.list hρ eu.2))
 case uZ =>
  obtain ⟨rfl, rfl⟩ := c6 h
  exact .new hm f ⟨[], rfl, .nil⟩ (.map oE)
 case lU e esz z len cap =>
  have hl := hρ len eu.1.1
  have hc := hρ cap eu.1.2
  generalize ρ len = a at hl h; generalize ρ' len = a' at hl
  generalize ρ cap = b at hc h; generalize ρ' cap = b' at hc
  split at h
  ·rename_i l c
   have := Rg hl; have := Rg hc; subst_vars
   simp only
   cases hb : (bif l.ble c then c.ble room else false) <;> simp only [hb, cond_true, cond_false, reduceCtorEq] at h ⊢
   obtain ⟨rfl, rfl⟩ := c6 h
   exact .new hm f ⟨_, rfl, dZ.of_flat (zP eu.2 c)⟩ (.slice oE)
  ·cases h
 case gh x lo hi =>
  have hx := hρ x eu.1
  have mU := nP eu.2.1 hρ
  have xv := nP eu.2.2 hρ
  generalize ρ x = y at hx h; generalize ρ' x = y' at hx
  cases hx <;> simp only [reduceCtorEq] at h ⊢
  rename_i s
  cases h1 : ay (hi.map ρ) s.length s.length with
  | none => simp [h1] at h
  | some q =>
   rw [fE xv h1]; simp only [h1] at h ⊢
   cases h2 : ay (lo.map ρ) 0 q with
   | none => simp [h2] at h
   | some l =>
    rw [fE mU h2]; simp only [h2] at h ⊢
    obtain ⟨rfl, rfl⟩ := c6 h
    exact .here hm rfl (.str _)
 case uP esz x lo hi mx =>
  have hx := hρ x eu.1
  have mU := nP eu.2.1 hρ
  have xv := nP eu.2.2.1 hρ
  have zy := nP eu.2.2.2 hρ
  generalize hy : ρ x = y at hx h; generalize YO : ρ' x = y' at hx
  have fzc : ∀ (t e : Nat) (els : List (List EV)) (b off : Nat) (cap : Option Nat), SV θ (.fz t e els) (.slice b off els.length cap) -> (match mx with
   | none => bif e.beq esz then match ay (hi.map ρ) els.length els.length with
     | some h => match ay (lo.map ρ) 0 h with
      | some l => some (R1.val (.fz 0 e ((els.take h).drop l)) m)
      | none => none
     | none => none
    else none
   | some _ => none) = some (.val v m1) -> ID θ m m' v m1 (match cap with
   | some c => gA m' (ez esz b off els.length (some c) (lo.map ρ') (hi.map ρ') (mx.map ρ'))
   | none => match m'.get b with
    | .cells _ e _ _ => bif e.beq esz then gA m' (ez esz b off els.length none (lo.map ρ') (hi.map ρ') (mx.map ρ')) else none
    | _ => none) := by
   intro t e els b off cap hsv hh
   cases mx with
   | some x => cases hh
   | none =>
    simp only at hh
    cases he : e.beq esz <;> simp only [he, cond_true, cond_false, reduceCtorEq] at hh
    obtain rfl := aV he
    cases h1 : ay (hi.map ρ) els.length els.length with
    | none => simp [h1] at hh
    | some q =>
     simp only [h1] at hh
     cases h2 : ay (lo.map ρ) 0 q with
     | none => simp [h2] at hh
     | some l =>
      simp only [h2] at hh;obtain ⟨rfl, rfl⟩ := c6 hh
      obtain ⟨v', e1, e2⟩ := TM hsv hm mU xv h1 h2 (Ff h1 (eX _)) (Ff h2 (kW _))
      rw [show (Option.map ρ' none : Option EV) = none from rfl, e1];exact .here hm rfl e2
  cases hx <;> (try simp only [reduceCtorEq] at h ⊢)
  case ae =>
   cases h1 : ay (mx.map ρ) 0 0 with
   | none => simp [h1] at h
   | some a =>
    cases h2 : ay (hi.map ρ) 0 0 with
    | none => simp [h1, h2] at h
    | some b =>
     cases h3 : ay (lo.map ρ) 0 0 with
     | none => simp [h1, h2, h3] at h
     | some c =>
      rw [fE zy h1, fE xv h2, fE mU h3];simp only [h1, h2, h3] at h ⊢
      obtain ⟨rfl, rfl⟩ := c6 h
      exact .here hm rfl .ae
  case slice b c off len cap hb =>
   cases cap with
   | some cp =>
    simp only at h ⊢
    obtain ⟨h1, rfl⟩ := iT h
    obtain ⟨v', e1, e2⟩ := vn (θ' := θ) hb mU xv zy h1
    rw [e1];exact .here hm rfl e2
   | none =>
    simp only at h ⊢
    have hB := hm.dj b c hb
    cases hg : m.get b with
    | dead => simp [hg] at h
    | map es => simp [hg] at h
    | cells cs e t ro =>
     rw [hg] at hB;obtain ⟨mf, xw, _⟩ := hB
     simp only [hg, xw] at h ⊢
     cases he : e.beq esz <;> simp only [he, cond_true, cond_false, reduceCtorEq] at h ⊢
     obtain ⟨h1, rfl⟩ := iT h
     obtain ⟨v', e1, e2⟩ := vn (θ' := θ) hb mU xv zy h1
     rw [e1];exact .here hm rfl e2
  case fz t e els b off cap h3 h1 h2 =>
   have := fzc t e els b off cap (.fz h1 h2 h3) h
   cases cap <;> exact this
  case BY t e b off ht =>
   exact fzc t e [] b off (some 0) (.BY ht) h
 case xz N esz x lo hi mx =>
  have hx := hρ x eu.1
  have mU := nP eu.2.1 hρ
  have xv := nP eu.2.2.1 hρ
  have zy := nP eu.2.2.2 hρ
  generalize ρ x = y at hx h; generalize ρ' x = y' at hx
  cases hx <;> simp only [reduceCtorEq] at h ⊢
  rename_i hb
  obtain ⟨h1, rfl⟩ := iT h
  obtain ⟨v', e1, e2⟩ := vn (θ' := θ) hb mU xv zy h1
  rw [e1];exact .here hm rfl e2
 case aj off x =>
  have hx := hρ x eu
  generalize ρ x = y at hx h; generalize ρ' x = y' at hx
  cases hx <;> simp only [reduceCtorEq] at h ⊢ <;> obtain ⟨rfl, rfl⟩ := c6 h
  case ptr hb => exact .here hm rfl (.ptr hb)
  case fL h2 h3 h1 => exact .here hm rfl (.fL h1 h2 (by omega))
 case A5 g off x =>
  have hx := hρ x eu
  generalize ρ x = y at hx h; generalize ρ' x = y' at hx
  cases hx <;> simp only [reduceCtorEq] at h ⊢
  rename_i hs
  obtain ⟨h1, rfl⟩ := iT h
  obtain ⟨v', e1, e2⟩ := hs.part h1
  rw [e1];exact .here hm rfl e2
 case ee esz x i =>
  have hx := hρ x eu.1
  have hi := hρ i eu.2
  generalize ρ x = y at hx h; generalize ρ' x = y' at hx
  cases hx <;> simp only [reduceCtorEq] at h ⊢
  case slice b c off len cap hb =>
   cases hj : idx len (ρ i) with
   | none => simp [hj] at h
   | some j =>
    rw [zo hi hj]; simp only [hj] at h ⊢
    obtain ⟨rfl, rfl⟩ := c6 h
    exact .here hm rfl (.ptr hb)
  case fz t e els b off cap hc hr ht =>
   cases he : e.beq esz <;> simp only [he, cond_true, cond_false, reduceCtorEq] at h
   obtain rfl := aV he
   cases hj : idx els.length (ρ i) with
   | none => simp [hj] at h
   | some j =>
    rw [zo hi hj]; simp only [hj] at h ⊢
    obtain ⟨rfl, rfl⟩ := c6 h
    refine .here hm rfl (.fL hr ?_ rfl)
    unfold idx at hj
    split at hj
    ·rename_i j' _
     cases hb : (j' + 1).ble els.length <;> simp only [hb, cond_true, cond_false, reduceCtorEq, bj] at hj
     subst hj; exact rc hb
    ·cases hj
  case BY t e b off ht =>
   cases he : e.beq esz <;> simp only [he, cond_true, cond_false, reduceCtorEq] at h
   cases hj : idx 0 (ρ i) with
   | none => simp [hj] at h
   | some j =>
    unfold idx at hj
    split at hj
    ·exact absurd (show (none : Option Nat) = some j from hj) (by simp)
    ·cases hj
 case nH N esz x i =>
  have hx := hρ x eu.1
  have hi := hρ i eu.2
  generalize ρ x = y at hx h; generalize ρ' x = y' at hx
  cases hx <;> simp only [reduceCtorEq] at h ⊢
  rename_i hb
  cases hj : idx N (ρ i) with
  | none => simp [hj] at h
  | some j =>
   rw [zo hi hj]; simp only [hj] at h ⊢
   obtain ⟨rfl, rfl⟩ := c6 h
   exact .here hm rfl (.ptr hb)
 case eD x i =>
  have hx := hρ x eu.1
  have hi := hρ i eu.2
  generalize ρ x = y at hx h; generalize ρ' x = y' at hx
  cases hx <;> simp only [reduceCtorEq] at h ⊢
  rename_i s
  cases hj : idx s.length (ρ i) with
  | none => simp [hj] at h
  | some j =>
   rw [zo hi hj]; simp only [hj] at h ⊢
   cases hs : s[j]? with
   | none => simp [hs] at h
   | some c =>
    simp only [hs] at h ⊢
    obtain ⟨rfl, rfl⟩ := c6 h
    exact .here hm rfl (.int _ _)
 case u6 N esz g x i =>
  have hx := hρ x eu.1
  have hi := hρ i eu.2
  generalize ρ x = y at hx h; generalize ρ' x = y' at hx
  cases hx <;> simp only [reduceCtorEq] at h ⊢
  rename_i hs
  cases hj : idx N (ρ i) with
  | none => simp [hj] at h
  | some j =>
   rw [zo hi hj]; simp only [hj] at h ⊢
   obtain ⟨h1, rfl⟩ := iT h
   obtain ⟨v', e1, e2⟩ := hs.part h1
   rw [e1];exact .here hm rfl e2
 case lookup kt z ok mp key =>
  have hx := hρ mp eu.1.1
  have hk := hρ key eu.1.2
  have hz : SV θ z z := SV.of_flat eu.2
  have hzk : SV θ (bif ok then .tuple [z, .bool false] else z) (bif ok then .tuple [z, .bool false] else z) := by
   cases ok
   ·exact hz
   ·exact .tuple (.cons hz (.cons (.bool _) .nil))
  generalize ρ mp = y at hx h; generalize ρ' mp = y' at hx
  cases hx <;> simp only [reduceCtorEq] at h ⊢
  case bF =>
   cases tz : l7 kt (ρ key) <;> simp only [tz, cond_true, cond_false, reduceCtorEq] at h
   rw [hk.flat (oT (nF tz)), tz];obtain ⟨rfl, rfl⟩ := c6 h
   exact .here hm rfl hzk
  case map b c hb =>
   have hB := hm.dj b c hb
   cases hg : m.get b with
   | dead => simp [hg] at h
   | cells cs e t ro => simp [hg] at h
   | map es =>
    rw [hg] at hB;obtain ⟨rl, xw, uF⟩ := hB
    simp only [hg, xw] at h ⊢
    cases Nk : iU kt (ρ key) es <;> simp only [Nk, cond_true, cond_false, reduceCtorEq] at h
    unfold iU at Nk
    cases tz : l7 kt (ρ key) <;> simp only [tz, cond_true, cond_false, rp] at Nk
    obtain ⟨g1, g2⟩ := v7 (nF tz) uF Nk
    obtain ⟨f1, f2⟩ := J2 (k := ρ key) uF g1
    rw [hk.flat (oT (nF tz))];simp only [iU, tz, g2, cond_true]
    cases hf : find (ρ key) es with
    | none =>
     rw [f2 hf]; simp only [hf] at h ⊢
     obtain ⟨rfl, rfl⟩ := c6 h
     exact .here hm rfl hzk
    | some w =>
     obtain ⟨w', e1, e2⟩ := f1 w hf
     rw [e1]; simp only [hf] at h ⊢
     obtain ⟨rfl, rfl⟩ := c6 h
     refine .here hm rfl ?_
     cases ok
     ·exact e2
     ·exact .tuple (.cons e2 (.cons (.bool _) .nil))
 case pq kt mp key x =>
  have hx := hρ mp eu.1
  have hk := hρ key eu.2.1
  have hv := hρ x eu.2.2
  generalize ρ mp = y at hx h; generalize ρ' mp = y' at hx
  cases hx <;> simp only [reduceCtorEq] at h ⊢
  case map b c hb =>
   have hB := hm.dj b c hb
   cases hg : m.get b with
   | dead => simp [hg] at h
   | cells cs e t ro => simp [hg] at h
   | map es =>
    rw [hg] at hB;obtain ⟨rl, xw, uF⟩ := hB
    simp only [hg, xw] at h ⊢
    cases Nk : iU kt (ρ key) es <;> simp only [Nk, cond_true, cond_false, reduceCtorEq] at h
    unfold iU at Nk
    cases tz : l7 kt (ρ key) <;> simp only [tz, cond_true, cond_false, rp] at Nk
    obtain ⟨g1, g2⟩ := v7 (nF tz) uF Nk
    have Rz := hk.flat (oT (nF tz))
    have hu := D3 hk hv Rz uF g1
    rw [Rz] at hu ⊢
    simp only [iU, tz, g2, cond_true];obtain ⟨rfl, rfl⟩ := c6 h
    exact ⟨_, _, rfl, .inl ⟨.undef, hm.set k hb ⟨_, rfl, hu⟩, rfl, rfl⟩, fun d _ hd => aB fun e => hd b (e ▸ hb)⟩
 case delete kt mp key =>
  have hx := hρ mp eu.1
  have hk := hρ key eu.2
  generalize ρ mp = y at hx h; generalize ρ' mp = y' at hx
  cases hx <;> simp only [reduceCtorEq] at h ⊢
  case bF =>
   cases tz : l7 kt (ρ key) <;> simp only [tz, cond_true, cond_false, reduceCtorEq] at h
   rw [hk.flat (oT (nF tz)), tz];obtain ⟨rfl, rfl⟩ := c6 h
   exact .here hm rfl (.tuple .nil)
  case map b c hb =>
   have hB := hm.dj b c hb
   cases hg : m.get b with
   | dead => simp [hg] at h
   | cells cs e t ro => simp [hg] at h
   | map es =>
    rw [hg] at hB;obtain ⟨rl, xw, uF⟩ := hB
    simp only [hg, xw] at h ⊢
    cases Nk : iU kt (ρ key) es <;> simp only [Nk, cond_true, cond_false, reduceCtorEq] at h
    unfold iU at Nk
    cases tz : l7 kt (ρ key) <;> simp only [tz, cond_true, cond_false, rp] at Nk
    obtain ⟨g1, g2⟩ := v7 (nF tz) uF Nk
    have Rz := hk.flat (oT (nF tz))
    rw [Rz];simp only [iU, tz, g2, cond_true];obtain ⟨rfl, rfl⟩ := c6 h
    exact ⟨_, _, rfl, .inl ⟨.tuple .nil, hm.set k hb ⟨_, rfl, GW uF g1⟩, rfl, rfl⟩, fun d _ hd => aB fun e => hd b (e ▸ hb)⟩
 case ri mp =>
  have hx := hρ mp eu
  generalize ρ mp = y at hx h; generalize ρ' mp = y' at hx
  cases hx <;> simp only [reduceCtorEq] at h ⊢
  case bF => obtain ⟨rfl, rfl⟩ := c6 h; exact .here hm rfl (.int _ _)
  case map b c hb =>
   have hB := hm.dj b c hb
   cases hg : m.get b with
   | dead => simp [hg] at h
   | cells cs e t ro => simp [hg] at h
   | map es =>
    rw [hg] at hB;obtain ⟨rl, xw, uF⟩ := hB
    simp only [hg, xw, uF.len] at h ⊢
    obtain ⟨rfl, rfl⟩ := c6 h
    exact .here hm rfl (.int _ _)
 case p6 t x =>
  have hx := hρ x eu
  generalize ρ x = y at hx h; generalize ρ' x = y' at hx
  cases hx <;> simp only [reduceCtorEq] at h ⊢
  rename_i u _ _ hs
  cases hb : t.beq u <;> simp only [hb, cond_true, cond_false, reduceCtorEq] at h ⊢
  obtain ⟨rfl, rfl⟩ := c6 h
  exact .here hm rfl hs
 case extract x i =>
  have hx := hρ x eu
  generalize ρ x = y at hx h; generalize ρ' x = y' at hx
  cases hx <;> simp only [reduceCtorEq] at h ⊢
  rename_i hs
  obtain ⟨h1, rfl⟩ := iT h
  obtain ⟨v', e1, e2⟩ := hs.get h1
  rw [e1];exact .here hm rfl e2
 case len x =>
  have hx := hρ x eu
  generalize ρ x = y at hx h; generalize ρ' x = y' at hx
  cases hx <;> simp only [reduceCtorEq] at h ⊢ <;> obtain ⟨rfl, rfl⟩ := c6 h <;> exact .here hm rfl (.int _ _)
 case cH x =>
  have hx := hρ x eu
  generalize ρ x = y at hx h; generalize ρ' x = y' at hx
  cases hx <;> simp only [reduceCtorEq] at h ⊢
  obtain ⟨rfl, rfl⟩ := c6 h; exact .here hm rfl (.int _ _)
 case u5 N => obtain ⟨rfl, rfl⟩ := c6 h; exact .here hm rfl (.int _ _)
 case cap x =>
  have hx := hρ x eu
  generalize ρ x = y at hx h; generalize ρ' x = y' at hx
  cases hx <;> (try simp only [reduceCtorEq] at h ⊢)
  case ae => obtain ⟨rfl, rfl⟩ := c6 h; exact .here hm rfl (.int _ _)
  case slice cap hb =>
   cases cap <;> simp only [reduceCtorEq] at h ⊢
   obtain ⟨rfl, rfl⟩ := c6 h; exact .here hm rfl (.int _ _)
 case max args =>
  obtain ⟨h1, rfl⟩ := iT h
  obtain ⟨f1, f2⟩ := QX h1
  rw [(yi.list hρ eu).flat f1, h1];exact .here hm rfl (SV.of_flat f2)
 case min args =>
  obtain ⟨h1, rfl⟩ := iT h
  obtain ⟨f1, f2⟩ := QU h1
  rw [(yi.list hρ eu).flat f1, h1];exact .here hm rfl (SV.of_flat f2)
 case append e esz by_ s x =>
  unfold xn at h;obtain ⟨q, hq, he⟩ := kr.1 h
  obtain ⟨q1, q2⟩ := q
  cases he
  exact Ms hm k f (hρ s eu.1) (hρ x eu.2) hq
 case copy esz d s =>
  unfold xn at h;obtain ⟨q, hq, he⟩ := kr.1 h
  obtain ⟨q1, q2⟩ := q
  cases he
  exact R4 hm k (hρ d eu.1) (hρ s eu.2) hq
end
end
end Go.Proofs.YtdiccmapankckaaDoor.Ev
