/- EvSym, EvExt, EvT, EvHeap, EvDrw, EvFz, EvSub, EvFzOp, EvFzOps. -/
import Derived.Laws.Externs
import Derived.Lib.Bytealg
import Derived.KernelRfl
import Derived.Test.YtdiccmapankckaaDoorMd
set_option linter.unusedSimpArgs false
set_option linter.unusedVariables false
set_option linter.unusedSectionVars false
set_option linter.defProp false
set_option maxRecDepth 20000
set_option maxHeartbeats 8000000
namespace Go.Proofs.YtdiccmapankckaaDoor.Ev
open Go
section
def pq : Fr := ⟨.leaf, []⟩
theorem lS (t : Nat) : pq.get t = .undef := by unfold Fr.get pq; simp only [Tr.zp]; rfl
theorem nC : pq.defers = [] := rfl
def K2 (b : Bool) (v r : EV) : EV := bif b then v else r
@[congr] theorem UZ {b b' : Bool} {v r : EV} (h : b = b') : K2 b v r = K2 b' v r := by rw [h]
theorem D9 {v r : EV} : K2 true v r = v := rfl
theorem u9 (fr : Fr) (d t : Nat) (v : EV) : (fr.set d v).get t = K2 (t == d) v (fr.get t) := by
 rw [Fr.bW];by_cases h : t = d
 ·simp [K2, h]
 ·simp [K2, h, beq_eq_false_iff_ne.2 h]
theorem Ea {v r : EV} : K2 false v r = r := rfl
def ab : List EV -> Nat -> Fr -> Fr
 | [], _, fr => fr
 | v :: r, i, fr => ab r (i + 1) (fr.set i v)
theorem Ag : ∀ (l : List EV) (i : Nat) (t : Tr EV), ab l i ⟨t, []⟩ = ⟨cK l i t, []⟩
 | [], i, t => rfl
 | v :: l, i, t => by simp only [ab, cK, Fr.set]; exact Ag l (i + 1) _
theorem uN (fr : Fr) (d : Nat) (v : EV) : fr.put (some d) v = fr.set d v := rfl
theorem uO (fr : Fr) (v : EV) : fr.put none v = fr := rfl
theorem o0 (fr : Fr) (d : Nat) (v : EV) : (fr.set d v).defers = fr.defers := rfl
theorem zG (fr : Fr) (t : Nat) : fr.eval (.tmp t) = fr.get t := rfl
theorem eval_const (fr : Fr) (v : EV) : fr.eval (.const v) = v := rfl
theorem wo (m : Mem) (v : EV) : gx m (some v) = some (.val v m) := rfl
theorem wq (m : Mem) (v : EV) : xf (some (v, m)) = some (.val v m) := rfl
theorem yU (m : Mem) : ofM (some m) = some (.val .undef m) := rfl
@[congr] theorem TW {o o' : Option R1} {k : EV -> Mem -> Option Out} (h : o = o') : gG o k = gG o' k := by rw [h]
@[congr] theorem T5 {o o' : Option Fin} {fr : Fr} {k : EV -> Mem -> Option Out} (h : o = o') : pS o fr k = pS o' fr k := by rw [h]
@[congr] theorem T3 {o o' : Option Out} {k : Fr -> Mem -> Option Out} (h : o = o') : l7 o k = l7 o' k := by rw [h]
theorem sA {v : EV} {m : Mem} {k : EV -> Mem -> Option Out} : gG (some (.val v m)) k = k v m := rfl
theorem vI {v : EV} {m : Mem} {fr : Fr} {k : EV -> Mem -> Option Out} : pS (some (.ret v m)) fr k = k v m := rfl
theorem sC {fr : Fr} {m : Mem} {k : Fr -> Mem -> Option Out} : l7 (some (.norm fr m)) k = k fr m := rfl
theorem vG {fr : Fr} {m : Mem} {k : Fr -> Mem -> Option Out} : l7 (some (.ret fr m)) k = some (.ret fr m) := rfl
theorem sD {id : Nat} {fr : Fr} {m : Mem} {k : Fr -> Mem -> Option Out} : l7 (some (.exit id fr m)) k = some (.exit id fr m) := rfl
theorem tc {id : Nat} {fr : Fr} {m : Mem} : pi id (some (.norm fr m)) = some (.norm fr m) := rfl
theorem wA {id : Nat} {fr : Fr} {m : Mem} : pi id (some (.ret fr m)) = some (.ret fr m) := rfl
def K0 (b : Bool) (x y : Option Out) : Option Out := bif b then x else y
@[congr] theorem UY {b b' : Bool} {x y : Option Out} (h : b = b') : K0 b x y = K0 b' x y := by rw [h]
theorem Hg {x y : Option Out} : K0 true x y = x := rfl
theorem Hh {x y : Option Out} : K0 false x y = y := rfl
theorem td {id j : Nat} {fr : Fr} {m : Mem} : pi id (some (.exit j fr m)) = K0 (j == id) (some (.norm fr m)) (some (.exit j fr m)) := by
 by_cases h : j = id
 ·subst h; simp [pi, K0]
 ·simp [pi, K0, jR h, beq_eq_false_iff_ne.2 h]
def pK (rs : List lX) (o : Option Out) : Option Fin := match o with
 | some (.norm fr m) | some (.ret fr m) => match fr.defers with
  | [] => (bN fr m rs).map fun vs => .ret (one vs) m
  | _ => none
 | some (.gI v fr m) => match fr.defers with
  | [] => some (.gI v m)
  | _ => none
 | _ => none
theorem Hp (F : au) (o : Option Out) : sV F o = pK F.results o := by cases o with | none => rfl | some o => cases o <;> rfl
theorem yK {rs : List lX} {fr : Fr} {m : Mem} : pK rs (some (.ret fr m)) = match fr.defers with | [] => (bN fr m rs).map fun vs => .ret (one vs) m | _ => none := rfl
theorem v9 {rs : List lX} {fr : Fr} {m : Mem} : pK rs (some (.norm fr m)) = match fr.defers with | [] => (bN fr m rs).map fun vs => .ret (one vs) m | _ => none := rfl
theorem yL {rs : List lX} {fr : Fr} {m : Mem} {v : EV} : pK rs (some (.gI v fr m)) = match fr.defers with | [] => some (.gI v m) | _ => none := rfl
theorem Cp {fr : Fr} {m : Mem} : bN fr m [] = some [] := rfl
theorem Co {fr : Fr} {m : Mem} {t : Nat} {rs : List lX} : bN fr m (.tmp t :: rs) = (bN fr m rs).map (fr.get t :: ·) := rfl
theorem Cw (v : EV) : one [v] = v := rfl
theorem Cu (v u : EV) (l : List EV) : one (v :: u :: l) = .tuple (v :: u :: l) := rfl
theorem Cy : one [] = .tuple [] := rfl
section
variable {k l : IntKind} {a b : Int}
def XC (k : IntKind) (x y : Int) : Int := k.wrap (BitVec.ofInt k.bits x &&& BitVec.ofInt k.bits y).toNat
def ior (k : IntKind) (x y : Int) : Int := k.wrap (BitVec.ofInt k.bits x ||| BitVec.ofInt k.bits y).toNat
def Xx (k : IntKind) (x y : Int) : Int := k.wrap (BitVec.ofInt k.bits x ^^^ BitVec.ofInt k.bits y).toNat
def Nb (k : IntKind) (x y : Int) : Int := k.wrap (BitVec.ofInt k.bits x &&& ~~~BitVec.ofInt k.bits y).toNat
theorem DH : ei .add (.int k a) (.int k b) = some (.int k (k.wrap (a + b))) := by simp only [ei, dR, cond_true, nF]
theorem Dy : ei .sub (.int k a) (.int k b) = some (.int k (k.wrap (a - b))) := by simp only [ei, dR, cond_true, nF]
theorem DB : ei .mul (.int k a) (.int k b) = some (.int k (k.wrap (a * b))) := by simp only [ei, dR, cond_true, nF]
theorem DA : ei .quo (.int k a) (.int k b) = if b = 0 then none else some (.int k (k.wrap (a.tdiv b))) := by simp only [ei, dR, cond_true, nF]
theorem Dz : ei .rem (.int k a) (.int k b) = if b = 0 then none else some (.int k (a.tmod b)) := by simp only [ei, dR, cond_true, nF]
theorem DG : ei .and (.int k a) (.int k b) = some (.int k (XC k a b)) := by simp only [ei, dR, cond_true, nF, qZ, Option.map_some, XC]
theorem Iu : ei .or (.int k a) (.int k b) = some (.int k (ior k a b)) := by simp only [ei, dR, cond_true, nF, qZ, Option.map_some, ior]
theorem Dx : ei .xor (.int k a) (.int k b) = some (.int k (Xx k a b)) := by simp only [ei, dR, cond_true, nF, qZ, Option.map_some, Xx]
theorem tZ : ei .andNot (.int k a) (.int k b) = some (.int k (Nb k a b)) := by simp only [ei, dR, cond_true, nF, qZ, Option.map_some, Nb]
theorem DC : ei .lss (.int k a) (.int k b) = some (.bool (decide (a < b))) := by simp only [ei, dR, cond_true, nF]
theorem DD : ei .leq (.int k a) (.int k b) = some (.bool (decide (a <= b))) := by simp only [ei, dR, cond_true, nF]
theorem DE : ei .gtr (.int k a) (.int k b) = some (.bool (decide (b < a))) := by simp only [ei, dR, cond_true, nF]
theorem DF : ei .geq (.int k a) (.int k b) = some (.bool (decide (b <= a))) := by simp only [ei, dR, cond_true, nF]
theorem N4 : ei .shl (.int k a) (.int l b) = if b < 0 then none else some (.int k (k.wrap (a * 2 ^ min b.toNat k.bits))) := by simp only [ei, tC]
theorem N3 : ei .shr (.int k a) (.int l b) = if b < 0 then none else some (.int k (a.fdiv (2 ^ min b.toNat k.bits))) := by simp only [ei, tC]
theorem qP (h1 : 0 <= b) (h2 : b < 64) : ei .shl (.int .i64 a) (.int l b) = some (.int .i64 (IntKind.i64.wrap (a * 2 ^ b.toNat))) := by
 rw [N4, if_neg (by omega), show IntKind.i64.bits = 64 from rfl, Nat.min_eq_left (by omega)]
theorem qN (h1 : 0 <= b) (h2 : b < 64) : ei .shr (.int .i64 a) (.int l b) = some (.int .i64 (a.fdiv (2 ^ b.toNat))) := by
 rw [N3, if_neg (by omega), show IntKind.i64.bits = 64 from rfl, Nat.min_eq_left (by omega)]
theorem qO (h1 : 0 <= b) (h2 : b < 64) : ei .shl (.int .u64 a) (.int l b) = some (.int .u64 (IntKind.u64.wrap (a * 2 ^ b.toNat))) := by
 rw [N4, if_neg (by omega), show IntKind.u64.bits = 64 from rfl, Nat.min_eq_left (by omega)]
theorem qM (h1 : 0 <= b) (h2 : b < 64) : ei .shr (.int .u64 a) (.int l b) = some (.int .u64 (a.fdiv (2 ^ b.toNat))) := by
 rw [N3, if_neg (by omega), show IntKind.u64.bits = 64 from rfl, Nat.min_eq_left (by omega)]
theorem TR {a b : List UInt8} : ei .add (.str a) (.str b) = bif (a.length + b.length).ble 4294967296 then some (.str (a ++ b)) else none := rfl
theorem eq_int : eL (.aG 1) (.int k a) (.int k b) = some (decide (a = b)) := by simp only [eL, dP, dR, cond_true]
theorem Ha : ES .neg (.int k a) = some (.int k (k.wrap (0 - a))) := rfl
theorem Il {m : Mem} : kY (.int l) m (.int k a) = some (.int l (l.wrap a), m) := rfl
end
theorem zI {ρ : aW -> EV} {m : Mem} (x : aW) : aB ρ (.aa x) m = some (.val (ρ x) m) := rfl
theorem tK {ρ : aW -> EV} {m : Mem} (zero : List EV) (parts : List (Nat × Nat × aW)) : aB ρ (.build zero parts) m = gx m ((fB zero (parts.map fun p => (p.1, p.2.1, ρ p.2.2))).map .agg) := rfl
theorem wJ {ρ : aW -> EV} {m : Mem} (agg : Option Nat) (a : aW) : aB ρ (.load agg a) m = gx m (m.load agg (ρ a)) := rfl
theorem tD {ρ : aW -> EV} {m : Mem} (size : Nat) (a x : aW) : aB ρ (.store size a x) m = ofM (m.store size (ρ a) (ρ x)) := rfl
theorem tH {ρ : aW -> EV} {m : Mem} (x : aW) : aB ρ (.cy x) m = match ρ x with
  | .ptr b off => some (.val (.ptr b off) m)
  | .func f a c => some (.val (.func f a c) m)
  | .iface t v => some (.val (.iface t v) m)
  | .fI e els i k => some (.val (.fI e els i k) m)
  | _ => none := rfl
theorem zN {ρ : aW -> EV} {m : Mem} (op : BinOp) (x y : aW) : aB ρ (.bin op x y) m = gx m (ei op (ρ x) (ρ y)) := rfl
theorem Dj {ρ : aW -> EV} {m : Mem} (neg : Bool) (t : sj) (x y : aW) : aB ρ (.eq neg t x y) m = gx m ((eL t (ρ x) (ρ y)).map fun b => .bool (neg ^^ b)) := rfl
theorem Di {ρ : aW -> EV} {m : Mem} (op : UnOp) (x : aW) : aB ρ (.un op x) m = gx m (ES op (ρ x)) := rfl
theorem wM {ρ : aW -> EV} {m : Mem} (c : Cv) (x : aW) : aB ρ (.conv c x) m = xf (kY c m (ρ x)) := rfl
theorem tI {ρ : aW -> EV} {m : Mem} (t : Nat) (x : aW) : aB ρ (.iface t x) m = some (.val (.iface t (ρ x)) m) := rfl
theorem wI {ρ : aW -> EV} {m : Mem} (f : Nat) (a c : List aW) : aB ρ (.BL f a c) m = some (.val (.func f (a.map ρ) (c.map ρ)) m) := rfl
theorem oz {ρ : aW -> EV} {m : Mem} (elem esz : Nat) (zero : List EV) (len cap : aW) : aB ρ (.lL elem esz zero len cap) m = match ρ len, ρ cap with
  | .int .i64 (.ofNat l), .int .i64 (.ofNat c) => bif (bif l.ble c then c.ble room else false) then
    some (.val (.slice m.next 0 l (some c)) (m.new (.cells (eD c zero) esz elem false))) else none
  | _, _ => none := rfl
theorem tE {ρ : aW -> EV} {m : Mem} (x : aW) (lo hi : Option aW) : aB ρ (.gd x lo hi) m = match ρ x with
  | .str s => match aw (hi.map ρ) s.length s.length with
   | some h => match aw (lo.map ρ) 0 h with
    | some l => some (.val (.str ((s.take h).drop l)) m)
    | none => none
   | none => none
  | _ => none := rfl
theorem tF {ρ : aW -> EV} {m : Mem} (n esz : Nat) (x : aW) (lo hi max : Option aW) : aB ρ (.xo n esz x lo hi max) m = match ρ x with
  | .ptr b off => gx m (ek esz b off n (some n) (lo.map ρ) (hi.map ρ) (max.map ρ))
  | _ => none := rfl
theorem tJ {ρ : aW -> EV} {m : Mem} (off : Nat) (x : aW) : aB ρ (.aj off x) m = match ρ x with
  | .ptr b o => some (.val (.ptr b (o + off)) m)
  | .fI e els i k => some (.val (.fI e els i (k + off)) m)
  | _ => none := rfl
theorem zL {ρ : aW -> EV} {m : Mem} (agg : Option Nat) (off : Nat) (x : aW) : aB ρ (.AX agg off x) m = match ρ x with
  | .agg cs => gx m (partOf agg cs off)
  | _ => none := rfl
theorem mX {ρ : aW -> EV} {m : Mem} (n esz : Nat) (x i : aW) : aB ρ (.ny n esz x i) m = match ρ x with
  | .ptr b off => match idx n (ρ i) with
   | some i => some (.val (.ptr b (off + i * esz)) m)
   | none => none
  | _ => none := rfl
theorem qA {ρ : aW -> EV} {m : Mem} (x i : aW) : aB ρ (.eu x i) m = match ρ x with
  | .str s => match idx s.length (ρ i) with
   | some i => match s[i]? with
    | some c => some (.val (.int .u8 (c.toNat : Int)) m)
    | none => none
   | none => none
  | _ => none := rfl
theorem qB {ρ : aW -> EV} {m : Mem} (n esz : Nat) (agg : Option Nat) (x i : aW) : aB ρ (.uY n esz agg x i) m = match ρ x with
  | .agg cs => match idx n (ρ i) with
   | some i => gx m (partOf agg cs (i * esz))
   | none => none
  | _ => none := rfl
theorem qv {ρ : aW -> EV} {m : Mem} (kt : Nat) (zero : EV) (ok : Bool) (mp k : aW) : aB ρ (.lookup kt zero ok mp k) m = match ρ mp with
  | .bz => bif lP kt (ρ k) then some (.val (bif ok then .tuple [zero, .bool false] else zero) m) else none
  | .map b => match m.get b with
   | .map es => bif iI kt (ρ k) es then
     match find (ρ k) es with
     | some v => some (.val (bif ok then .tuple [v, .bool true] else v) m)
     | none => some (.val (bif ok then .tuple [zero, .bool false] else zero) m)
    else none
   | _ => none
  | _ => none := rfl
theorem qu {ρ : aW -> EV} {m : Mem} (kt : Nat) (mp k x : aW) : aB ρ (.pg kt mp k x) m = match ρ mp with
  | .map b => match m.get b with
   | .map es => bif iI kt (ρ k) es then some (.val .undef (m.set b (.map (update (ρ k) (ρ x) es)))) else none
   | _ => none
  | _ => none := rfl
theorem qD {ρ : aW -> EV} {m : Mem} (kt : Nat) (mp k : aW) : aB ρ (.delete kt mp k) m = match ρ mp with
  | .bz => bif lP kt (ρ k) then some (.val (.tuple []) m) else none
  | .map b => match m.get b with
   | .map es => bif iI kt (ρ k) es then some (.val (.tuple []) (m.set b (.map (erase (ρ k) es)))) else none
   | _ => none
  | _ => none := rfl
theorem qx {ρ : aW -> EV} {m : Mem} (mp : aW) : aB ρ (.qX mp) m = match ρ mp with
  | .bz => some (.val (.int .i64 0) m)
  | .map b => match m.get b with
   | .map es => some (.val (.int .i64 (es.length : Int)) m)
   | _ => none
  | _ => none := rfl
theorem ow {ρ : aW -> EV} {m : Mem} (t : Nat) (x : aW) : aB ρ (.pT t x) m = match ρ x with
  | .iface u v => bif t.beq u then some (.val v m) else none
  | _ => none := rfl
theorem oA {ρ : aW -> EV} {m : Mem} (x : aW) (i : Nat) : aB ρ (.extract x i) m = match ρ x with
  | .tuple vs => gx m vs[i]?
  | _ => none := rfl
theorem qw {ρ : aW -> EV} {m : Mem} (x : aW) : aB ρ (.cD x) m = match ρ x with
  | .str s => some (.val (.int .i64 (s.length : Int)) m)
  | _ => none := rfl
theorem qy {ρ : aW -> EV} {m : Mem} (n : Nat) : aB ρ (.uX n) m = some (.val (.int .i64 (n : Int)) m) := rfl
theorem zM {ρ : aW -> EV} {m : Mem} (x : aW) : aB ρ (.cap x) m = match ρ x with
  | .ae => some (.val (.int .i64 0) m)
  | .slice _ _ _ (some c) => some (.val (.int .i64 (c : Int)) m)
  | _ => none := rfl
theorem zK {ρ : aW -> EV} {m : Mem} (args : List aW) : aB ρ (.max args) m = gx m (xy (args.map ρ)) := rfl
theorem zJ {ρ : aW -> EV} {m : Mem} (args : List aW) : aB ρ (.min args) m = gx m (xx (args.map ρ)) := rfl
theorem qE {ρ : aW -> EV} {m : Mem} (elem esz bytes : Nat) (s x : aW) : aB ρ (.append elem esz bytes s x) m = xf (fS m elem esz (ρ s) (ρ x)) := rfl
theorem wL {ρ : aW -> EV} {m : Mem} (esz : Nat) (d s : aW) : aB ρ (.copy esz d s) m = xf (xV m esz (ρ d) (ρ s)) := rfl
open Classical in
noncomputable def bo (p : Prop) : EV := .bool (decide p)
open Classical in
noncomputable def gv (p : Prop) (v : EV) : EV := if p then v else .undef
open Classical in
noncomputable def iF {α : Type} (p : Prop) (x y : α) : α := if p then x else y
theorem w9 {p : Prop} [h : Decidable p] : EV.bool (decide p) = bo p := by unfold bo; congr
theorem na {p : Prop} [h : Decidable p] : EV.bool (!decide p) = bo (¬ p) := by
 unfold bo; by_cases hp : p <;> simp [hp]
theorem gL : bo True = .bool true := by simp [bo]
theorem fT : bo False = .bool false := by simp [bo]
theorem eT {p : Prop} (h : p) : bo p = .bool true := by simp [bo, h]
theorem eU {p : Prop} (h : ¬ p) : bo p = .bool false := by simp [bo, h]
theorem CP {v : EV} : gv True v = v := by simp [gv]
theorem zn {v : EV} : gv False v = .undef := by simp [gv]
theorem AQ {α : Type} {p : Prop} (h : p) {x y : α} : iF p x y = x := by simp [iF, h]
theorem AR {α : Type} {p : Prop} (h : ¬ p) {x y : α} : iF p x y = y := by simp [iF, h]
@[congr] theorem XD {α : Type} {p p' : Prop} {x x' y y' : α} (h : p = p') (h1 : p' -> x = x') (h2 : ¬ p' -> y = y') : iF p x y = iF p' x' y' := by
 subst h; by_cases hp : p
 ·rw [AQ hp, AQ hp]; exact h1 hp
 ·rw [AR hp, AR hp]; exact h2 hp
def cE (v : EV) (x y : Option Out) : Option Out := match v with
 | .bool true => x
 | .bool false => y
 | _ => none
@[congr] theorem YH {v v' : EV} {x y : Option Out} (h : v = v') : cE v x y = cE v' x y := by rw [h]
theorem N0 {p : Prop} {x y : Option Out} : cE (bo p) x y = iF p x y := by by_cases h : p <;> simp [bo, iF, cE, h]
theorem TL {x y : Option Out} : cE (.bool true) x y = x := rfl
theorem TM {x y : Option Out} : cE (.bool false) x y = y := rfl
theorem tA {T : Nat -> Option iq} {c : aW} {a b : aE} {fr : Fr} {m : Mem} : exec T (.cond c a b) fr m = cE (fr.eval c) (exec T a fr m) (exec T b fr m) := by
 cases h : fr.eval c
 case bool t => rw [GL h]; cases t <;> rfl
 all_goals
  refine dh fun r => ?_
  rw [cj];simp only [ap, h, reduceCtorEq, exists_const, cE]
open Classical in
noncomputable def l6 (p : Prop) (m : Mem) (o : Option R1) (k : EV -> Mem -> Option Out) : Option Out := if p then gG o k else k .undef m
open Classical in
noncomputable def lZ (p : Prop) (fr : Fr) (m : Mem) (o : Option Fin) (k : EV -> Mem -> Option Out) : Option Out := if p then pS o fr k else k .undef m
@[congr] theorem TZ {p p' : Prop} {m : Mem} {o o' : Option R1} {k : EV -> Mem -> Option Out} (h : p = p') (ho : p' -> o = o') : l6 p m o k = l6 p' m o' k := by
 subst h; by_cases hp : p <;> simp only [l6, hp, if_true, if_false]; rw [ho hp]
@[congr] theorem TY {p p' : Prop} {fr : Fr} {m : Mem} {o o' : Option Fin} {k : EV -> Mem -> Option Out} (h : p = p') (ho : p' -> o = o') : lZ p fr m o k = lZ p' fr m o' k := by
 subst h; by_cases hp : p <;> simp only [lZ, hp, if_true, if_false]; rw [ho hp]
theorem vF {p : Prop} {m m' : Mem} {v : EV} {k : EV -> Mem -> Option Out} (he : p -> m' = m) : l6 p m (some (.val v m')) k = k (gv p v) m := by
 by_cases h : p
 ·rw [he h]; simp [l6, gv, gG, h]
 ·simp [l6, gv, h]
theorem vE {p : Prop} {fr : Fr} {m m' : Mem} {v : EV} {k : EV -> Mem -> Option Out} (he : p -> m' = m) : lZ p fr m (some (.ret v m')) k = k (gv p v) m := by
 by_cases h : p
 ·rw [he h]; simp [lZ, gv, pS, h]
 ·simp [lZ, gv, h]
def gE (v : EV) (w : Bool) (x y : Option Out) : Option Out := match v with
 | .bool b => bif b == w then x else y
 | .undef => y
 | _ => none
@[congr] theorem Ym {v v' : EV} {w : Bool} {x y : Option Out} (h : v = v') : gE v w x y = gE v' w x y := by rw [h]
def gV (v : EV) (w : Bool) (m : Mem) (o : Option R1) (k : EV -> Mem -> Option Out) : Option Out := gE v w (gG o k) (k .undef m)
def gC (v : EV) (w : Bool) (fr : Fr) (m : Mem) (o : Option Fin) (k : EV -> Mem -> Option Out) : Option Out := gE v w (pS o fr k) (k .undef m)
@[congr] theorem Yl {v v' : EV} {w : Bool} {m : Mem} {o : Option R1} {k : EV -> Mem -> Option Out} (h : v = v') : gV v w m o k = gV v' w m o k := by rw [h]
@[congr] theorem Yn {v v' : EV} {w : Bool} {fr : Fr} {m : Mem} {o : Option Fin} {k : EV -> Mem -> Option Out} (h : v = v') : gC v w fr m o k = gC v' w fr m o k := by rw [h]
section
variable {p q : Prop} {b : Bool} {w : Bool} {fr : Fr} {m : Mem} {o : Option R1} {c : Option Fin} {k : EV -> Mem -> Option Out}
theorem zq : gV .undef w m o k = k .undef m := rfl
theorem zu : gC .undef w fr m c k = k .undef m := rfl
theorem CW : gV (bo p) true m o k = l6 p m o k := by by_cases h : p <;> simp [gV, gE, bo, l6, h]
theorem CX : gV (bo p) false m o k = l6 (¬ p) m o k := by by_cases h : p <;> simp [gV, gE, bo, l6, h]
theorem Nn : gV (.bool true) true m o k = gG o k := rfl
theorem Np : gV (.bool true) false m o k = k .undef m := rfl
theorem Nq : gV (.bool false) true m o k = k .undef m := rfl
theorem Nr : gV (.bool false) false m o k = gG o k := rfl
theorem CQ : gV (gv p (bo q)) true m o k = l6 (p /\ q) m o k := by by_cases h : p <;> by_cases h' : q <;> simp [gV, gE, bo, gv, l6, h, h']
theorem CR : gV (gv p (bo q)) false m o k = l6 (p /\ ¬ q) m o k := by by_cases h : p <;> by_cases h' : q <;> simp [gV, gE, bo, gv, l6, h, h']
theorem CS : gV (gv p (.bool true)) true m o k = l6 p m o k := by by_cases h : p <;> simp [gV, gE, gv, l6, h]
theorem CT : gV (gv p (.bool true)) false m o k = k .undef m := by by_cases h : p <;> simp [gV, gE, gv, h]
theorem CU : gV (gv p (.bool false)) true m o k = k .undef m := by by_cases h : p <;> simp [gV, gE, gv, h]
theorem CV : gV (gv p (.bool false)) false m o k = l6 p m o k := by by_cases h : p <;> simp [gV, gE, gv, l6, h]
theorem Dc : gC (bo p) true fr m c k = lZ p fr m c k := by by_cases h : p <;> simp [gC, gE, bo, lZ, h]
theorem Dd : gC (bo p) false fr m c k = lZ (¬ p) fr m c k := by by_cases h : p <;> simp [gC, gE, bo, lZ, h]
theorem Nx : gC (.bool true) true fr m c k = pS c fr k := rfl
theorem Ny : gC (.bool true) false fr m c k = k .undef m := rfl
theorem Nz : gC (.bool false) true fr m c k = k .undef m := rfl
theorem NA : gC (.bool false) false fr m c k = pS c fr k := rfl
theorem C6 : gC (gv p (bo q)) true fr m c k = lZ (p /\ q) fr m c k := by by_cases h : p <;> by_cases h' : q <;> simp [gC, gE, bo, gv, lZ, h, h']
theorem C7 : gC (gv p (bo q)) false fr m c k = lZ (p /\ ¬ q) fr m c k := by by_cases h : p <;> by_cases h' : q <;> simp [gC, gE, bo, gv, lZ, h, h']
theorem C8 : gC (gv p (.bool true)) true fr m c k = lZ p fr m c k := by by_cases h : p <;> simp [gC, gE, gv, lZ, h]
theorem C9 : gC (gv p (.bool true)) false fr m c k = k .undef m := by by_cases h : p <;> simp [gC, gE, gv, h]
theorem Da : gC (gv p (.bool false)) true fr m c k = k .undef m := by by_cases h : p <;> simp [gC, gE, gv, h]
theorem Db : gC (gv p (.bool false)) false fr m c k = lZ p fr m c k := by by_cases h : p <;> simp [gC, gE, gv, lZ, h]
end
theorem uQ {T : Nat -> Option iq} {d : Option Nat} {op : Aq} {t : Nat} {w : Bool} {l : List ba} {fr : Fr} {m : Mem} :
  oq T (⟨d, op, some (t, w)⟩ :: l) fr m = gE (fr.get t) w (oq T (⟨d, op, none⟩ :: l) fr m) (oq T l (fr.put d .undef) m) := by
 cases h : fr.get t
 case bool b => rw [Le h]; rfl
 case undef =>
  refine dh fun r => ?_
  rw [gu];simp only [gR, bh, h, gE];exact gu.symm
 all_goals
  refine dh fun r => ?_
  rw [gu];simp only [gR, bh, h, reduceCtorEq, exists_const, gE]
theorem wm {T : Nat -> Option iq} {d : Option Nat} {op : lD} {t : Nat} {w : Bool} {l : List ba} {fr : Fr} {m : Mem} :
  oq T (⟨d, .val op, some (t, w)⟩ :: l) fr m = gV (fr.get t) w m (aB fr.eval op m) (fun v m => oq T l (fr.put d v) m) := by rw [uQ, rB]; rfl
noncomputable def AG (T : Nat -> Option iq) (f : EV) (args : List EV) (m : Mem) : Option Fin := match f with
 | .func g a c => run T g (a ++ args ++ c) m
 | _ => none
theorem oM {T : Nat -> Option iq} {g : Nat} {a c args : List EV} {m : Mem} : AG T (.func g a c) args m = run T g (a ++ args ++ c) m := rfl
theorem mw {T : Nat -> Option iq} {d : Option Nat} {x : aW} {args : List aW} {l : List ba} {fr : Fr} {m : Mem} :
  oq T (⟨d, .call x args, none⟩ :: l) fr m = pS (AG T (fr.eval x) (args.map fr.eval) m) fr fun v m => oq T l (fr.put d v) m := by
 refine dh fun r => ?_
 rw [gu];simp only [gR, bh]
 cases hx : fr.eval x
 case func g a c =>
  simp only [fP, AG]
  constructor
  ·rintro ⟨k, h⟩
   cases hc : aT T k g (a ++ args.map fr.eval ++ c) m with
   | none => rw [hc] at h; cases h
   | some q =>
    rw [mR.2 ⟨k, hc⟩];simp only [hc] at h
    cases q with
    | ret v m1 => exact gu.2 ⟨k, h⟩
    | gI v m1 => exact h
  ·intro h
   cases hc : run T g (a ++ args.map fr.eval ++ c) m with
   | none => rw [hc] at h; cases h
   | some q =>
    obtain ⟨k1, h1⟩ := mR.1 hc
    rw [hc] at h
    cases q with
    | ret v m1 =>
     simp only [pS] at h;obtain ⟨k2, h2⟩ := gu.1 h
     refine ⟨max k1 k2, ?_⟩
     have e1 := Em _ _ _ (Nat.le_max_left k1 k2) h1
     have e2 := Gu _ _ _ (Nat.le_max_right k1 k2) h2
     simp only at e1 e2
     rw [e1]; exact e2
    | gI v m1 => exact ⟨k1, by rw [h1]; exact h⟩
 all_goals simp [fP, AG, pS]
theorem qe {T : Nat -> Option iq} {d : Option Nat} {x : aW} {args : List aW} {t : Nat} {w : Bool} {l : List ba} {fr : Fr} {m : Mem} :
  oq T (⟨d, .call x args, some (t, w)⟩ :: l) fr m = gC (fr.get t) w fr m (AG T (fr.eval x) (args.map fr.eval) m) (fun v m => oq T l (fr.put d v) m) := by rw [uQ, mw]; rfl
def lf (c a b : EV) (m : Mem) : Option R1 := match c with
 | .bool t => some (.val (bif t then a else b) m)
 | _ => none
theorem tG {ρ : aW -> EV} {c x y : aW} {m : Mem} : aB ρ (.pick c x y) m = lf (ρ c) (ρ x) (ρ y) m := by
 simp only [aB]; unfold lf; cases ρ c <;> rfl
section
variable {p q r : Prop} {a b : EV} {m : Mem} {c d : Bool}
theorem yO : lf (bo p) (gv p (bo q)) (.bool false) m = some (.val (bo (p /\ q)) m) := by by_cases h : p <;> by_cases h' : q <;> simp [lf, gv, bo, h, h']
theorem sW : lf (bo p) (gv p (.bool true)) (.bool false) m = some (.val (bo p) m) := by by_cases h : p <;> simp [lf, gv, bo, h]
theorem sX : lf (bo p) (gv p (.bool false)) (.bool false) m = some (.val (.bool false) m) := by by_cases h : p <;> simp [lf, gv, bo, h]
theorem Cr (hr : r = ¬ p) : lf (bo p) (.bool true) (gv r (bo q)) m = some (.val (bo (p \/ q)) m) := by subst hr; by_cases h : p <;> by_cases h' : q <;> simp [lf, gv, bo, h, h']
theorem wa (hr : r = ¬ p) : lf (bo p) (.bool true) (gv r (.bool true)) m = some (.val (.bool true) m) := by subst hr; by_cases h : p <;> simp [lf, gv, bo, h]
theorem wb (hr : r = ¬ p) : lf (bo p) (.bool true) (gv r (.bool false)) m = some (.val (bo p) m) := by subst hr; by_cases h : p <;> simp [lf, gv, bo, h]
theorem we : lf (bo p) (bo q) (.bool false) m = some (.val (bo (p /\ q)) m) := by by_cases h : p <;> by_cases h' : q <;> simp [lf, bo, h, h']
theorem yN : lf (bo p) (.bool true) (bo q) m = some (.val (bo (p \/ q)) m) := by by_cases h : p <;> by_cases h' : q <;> simp [lf, bo, h, h']
theorem Hr : lf (.bool true) a b m = some (.val a m) := rfl
theorem Hs : lf (.bool false) a b m = some (.val b m) := rfl
end
theorem vz {p : Prop} : ES .not (bo p) = some (bo (¬ p)) := by by_cases h : p <;> simp [ES, bo, h]
theorem H9 {p q : Prop} : eL (.aG 0) (bo p) (bo q) = some (@decide (p = q) (Classical.propDecidable _)) := by by_cases h : p <;> by_cases h' : q <;> simp [eL, dP, bo, h, h']
theorem Dq {p : Prop} : eL (.aG 0) (bo p) (.bool true) = some (@decide p (Classical.propDecidable _)) := by by_cases h : p <;> simp [eL, dP, bo, h]
theorem Dr {p : Prop} : eL (.aG 0) (bo p) (.bool false) = some (@decide (¬ p) (Classical.propDecidable _)) := by by_cases h : p <;> simp [eL, dP, bo, h]
theorem Dm {p : Prop} : eL (.aG 0) (.bool true) (bo p) = some (@decide p (Classical.propDecidable _)) := by by_cases h : p <;> simp [eL, dP, bo, h]
theorem Dp {p : Prop} : eL (.aG 0) (.bool false) (bo p) = some (@decide (¬ p) (Classical.propDecidable _)) := by by_cases h : p <;> simp [eL, dP, bo, h]
theorem NJ : eL (.aG 0) (.bool true) (.bool true) = some true := rfl
theorem NU : eL (.aG 0) (.bool false) (.bool false) = some true := rfl
theorem NK : eL (.aG 0) (.bool true) (.bool false) = some false := rfl
theorem NS : eL (.aG 0) (.bool false) (.bool true) = some false := rfl
theorem yg : ES .not (.bool true) = some (.bool false) := rfl
theorem yh : ES .not (.bool false) = some (.bool true) := rfl
theorem H8 {a b : List UInt8} : eL (.aG 2) (.str a) (.str b) = some (decide (a = b)) := by simp only [eL, dP, dR, cond_true, fE]
theorem yq {p : Prop} {a b : Option Out} {k : Fr -> Mem -> Option Out} : l7 (iF p a b) k = iF p (l7 a k) (l7 b k) := by unfold iF; split <;> rfl
theorem za {id : Nat} {p : Prop} {a b : Option Out} : pi id (iF p a b) = iF p (pi id a) (pi id b) := by unfold iF; split <;> rfl
theorem yp {p : Prop} {a b : Option R1} {k : EV -> Mem -> Option Out} : gG (iF p a b) k = iF p (gG a k) (gG b k) := by unfold iF; split <;> rfl
theorem yr {p : Prop} {a b : Option Fin} {fr : Fr} {k : EV -> Mem -> Option Out} : pS (iF p a b) fr k = iF p (pS a fr k) (pS b fr k) := by unfold iF; split <;> rfl
theorem Cq {rs : List lX} {p : Prop} {a b : Option Out} : pK rs (iF p a b) = iF p (pK rs a) (pK rs b) := by unfold iF; split <;> rfl
theorem MD {T : Nat -> Option iq} {f : Nat} {F : au} (hf : T f = some (.go F)) {args : List EV} {m : Mem} (hn : args.length <= F.ntmps) : run T f args m = pK F.results (exec T F.body (ab args 0 pq) m) := by
 rw [Qm hf hn, Hp]; unfold pq; rw [Ag]
theorem b9 {n : Nat} {k : IntKind} {i : Nat} (h : i < n) : idx n (.int k (i : Int)) = some i := by
 have : (i + 1).ble n = true := Be h
 show (bif (i + 1).ble n then some i else none) = _
 rw [this]; rfl
theorem EB {n : Nat} {k : IntKind} (h : 0 < n) : idx n (.int k 0) = some 0 := b9 (i := 0) h
theorem pD {d n : Nat} : aw none d n = some d := rfl
theorem dM {d n i : Nat} {k : IntKind} (h : i <= n) : aw (some (.int k (i : Int))) d n = some i := by
 show (bif i.ble n then some i else none) = _
 rw [Be h]; rfl
theorem Rg (n : Int) : IntKind.i64.wrap n = if n % 18446744073709551616 >= 9223372036854775808 then n % 18446744073709551616 - 18446744073709551616 else n % 18446744073709551616 := by
 have e : IntKind.i64.wrap n = if (true && decide (n % 18446744073709551616 >= 9223372036854775808)) = true then n % 18446744073709551616 - 18446744073709551616 else n % 18446744073709551616 := rfl
 rw [e]; simp only [Bool.true_and, decide_eq_true_eq]
theorem My (n : Int) : IntKind.u8.wrap n = n % 256 := by
 have e : IntKind.u8.wrap n = if (false && decide (n % 256 >= 128)) = true then n % 256 - 256 else n % 256 := rfl
 rw [e]; simp
theorem wrap_i64 {n : Int} (h1 : -9223372036854775808 <= n) (h2 : n < 9223372036854775808) : IntKind.i64.wrap n = n := by
 rw [Rg]; split <;> omega
theorem told {T : Nat -> Option iq} {c : aE} {fr : Fr} {m : Mem} {X : Option Out} (hX : exec T c fr m = X) {α : Type} {o : α -> Out} {Q : α -> Prop} (h : ∃ x, exec T c fr m = some (o x) /\ Q x) : ∃ x, X = some (o x) /\ Q x := by
 rw [hX] at h; exact h
end
section
inductive Bt where
 | leaf
 | node (k : Nat) (e : iq) (l r : Bt)
def Bt.find : Bt -> Nat -> Option iq
 | .leaf, _ => none
 | .node k e l r, f => bif f.beq k then some e else bif f.blt k then l.find f else r.find f
def Bt.All (Q : Nat -> iq -> Prop) : Bt -> Prop
 | .leaf => True
 | .node k e l r => Q k e /\ l.All Q /\ r.All Q
theorem Bt.Dg {Q : Nat -> iq -> Prop} : ∀ {t : Bt}, t.All Q -> ∀ f e, t.find f = some e -> Q f e
 | .leaf, _, f, e, h => by simp [Bt.find] at h
 | .node k x l r, ⟨h0, hl, hr⟩, f, e, h => by
  simp only [Bt.find] at h
  cases hk : f.beq k with
  | true =>
   rw [aS hk];simp only [hk, cond_true, bf] at h;subst h; exact h0
  | false =>
   simp only [hk, cond_false] at h
   cases hb : f.blt k <;> simp only [hb, cond_true, cond_false] at h
   ·exact Bt.Dg hr f e h
   ·exact Bt.Dg hl f e h
def Zx : List EV -> Option EV
 | [.int .u64 (.ofNat x), .int .u64 (.ofNat y), .int .u64 (.ofNat c)] => bif c.ble 1 then some (.tuple [.int .u64 (.ofNat ((x + y + c) % 18446744073709551616)), .int .u64 (.ofNat ((x + y + c) / 18446744073709551616))]) else none
 | _ => none
def Zw : List EV -> Option EV
 | [.str s, .int .u8 c] => some (.int .i64 (Go.Lib.countByte s c.toNat.toUInt8))
 | _ => none
def gr : List EV -> Option EV
 | [.str s, .int .u8 c] => some (.int .i64 (Go.Lib.indexByte s c.toNat.toUInt8))
 | _ => none
theorem FX {P : Program} {G : List Nat} {f : Nat} {fn : Func} (hf : P.funcs[f]? = some fn) (XW : (fn.name == "runtime.NumGoroutine") = false) (hb : fn.body.isNone = true) (hn : Extern.findNext fn = none) (he : Extern.find fn = some Extern.BytealgIndexByte.indexByte) :
  KB P G f (.ext gr) := by
 intro base ρ m w args ay v _ hv h
 unfold gr at h
 split at h
 ·rename_i s c
  cases h
  obtain ⟨l⟩ := ay
  cases hv with
  | cons h1 hs =>
  cases hs with
  | cons h2 hs =>
  cases hs
  cases h2
  generalize hx : EV.str s = x at h1
  cases h1 <;> cases hx
  rename_i t
  refine ⟨_, ?_, .int _ _⟩
  rw [run_callFunc_extern hf XW hb hn he];have h := Go.Lib.run_indexByteString (P := P) t c w
  rw [h]; rfl
 ·cases h
def isTrue : Option Fin -> Bool
 | some (.ret (.bool true) _) => true
 | _ => false
theorem O7 {r : Option Fin} (h : isTrue r = true) : ∃ m, r = some (.ret (.bool true) m) := by
 unfold isTrue at h
 split at h
 ·exact ⟨_, rfl⟩
 ·cases h
def Mw : List EV -> Option EV
 | [] => some (.bool true)
 | _ => none
theorem Qk {T : Nat -> Option iq} {f : Nat} (hf : T f = some (.pure Mw)) {m : Mem} : run T f [] m = some (.ret (.bool true) m) := by rw [run_pure hf]; rfl
end
section
theorem mix : Tryd.prog.follows .mixedOrders = true := by kernel_rfl
theorem ltG : ∀ g, G.contains g = true -> g < 3 := fun g h => by simp [G] at h; try omega
abbrev gy : Nat := 92
def tree : Bt :=
 (.node 54 (.go dc) (.node 30 (.go dm) (.node 18 (.go cu) (.node 12 (.go gb) (.node 9 (.go fZ) (.node 6 (.go eY) (.node 5 (.go cC) .leaf .leaf) (.node 8 (.go lz) .leaf .leaf)) (.node 11 (.go dA) (.node 10 (.go ju) .leaf .leaf) .leaf)) (.node 15 (.go bl) (.node 14 (.go bB) (.node 13 (.go jW) .leaf .leaf) .leaf) (.node 17 (.go dv) (.node 16 (.go cA) .leaf .leaf) .leaf))) (.node 24 (.go jU) (.node 21 (.go ee) (.node 20 (.go bm) (.node 19 (.go ez) .leaf .leaf) .leaf) (.node 23 (.go mJ) (.node 22 (.go lu) .leaf .leaf) .leaf)) (.node 27 (.go gB) (.node 26 (.go fo) (.node 25 (.go j7) .leaf .leaf) .leaf) (.node 29 (.go bq) (.node 28 (.go ey) .leaf .leaf) .leaf)))) (.node 42 (.go iU) (.node 36 (.go oS) (.node 33 (.go dF) (.node 32 (.go bU) (.node 31 (.go cJ) .leaf .leaf) .leaf) (.node 35 (.go ct) (.node 34 (.go da) .leaf .leaf) .leaf)) (.node 39 (.go lA) (.node 38 (.go j6) (.node 37 (.go mI) .leaf .leaf) .leaf) (.node 41 (.go mL) (.node 40 (.go mH) .leaf .leaf) .leaf))) (.node 48 (.go gY) (.node 45 (.go gW) (.node 44 (.go gU) (.node 43 (.go iT) .leaf .leaf) .leaf) (.node 47 (.go jS) (.node 46 (.go jT) .leaf .leaf) .leaf)) (.node 51 (.go cH) (.node 50 (.go gl) (.node 49 (.go ly) .leaf .leaf) .leaf) (.node 53 (.go bT) (.node 52 (.go db) .leaf .leaf) .leaf))))) (.node 79 (.go ca) (.node 67 (.go lx) (.node 61 (.go lp) (.node 58 (.go dr) (.node 56 (.go dq) (.node 55 (.go dD) .leaf .leaf) (.node 57 (.go ed) .leaf .leaf)) (.node 60 (.go dK) (.node 59 (.go cb) .leaf .leaf) .leaf)) (.node 64 (.go oT) (.node 63 (.go lq) (.node 62 (.go mN) .leaf .leaf) .leaf) (.node 66 (.go lr) (.node 65 (.go mK) .leaf .leaf) .leaf))) (.node 73 (.go gp) (.node 70 (.go bp) (.node 69 (.go cM) (.node 68 (.go dC) .leaf .leaf) .leaf) (.node 72 (.go aQ) (.node 71 (.go pF) .leaf .leaf) .leaf)) (.node 76 (.go aH) (.node 75 (.go mM) (.node 74 (.go c8) .leaf .leaf) .leaf) (.node 78 (.go cz) (.node 77 (.go dW) .leaf .leaf) .leaf)))) (.node 91 (.go dJ) (.node 85 (.go dY) (.node 82 (.go c7) (.node 81 (.go dE) (.node 80 (.go dX) .leaf .leaf) .leaf) (.node 84 (.go fm) (.node 83 (.go c9) .leaf .leaf) .leaf)) (.node 88 (.go ef) (.node 87 (.go fh) (.node 86 (.go fi) .leaf .leaf) .leaf) (.node 90 (.go eg) (.node 89 (.go fg) .leaf .leaf) .leaf))) (.node 98 (.go cw) (.node 95 (.go bg) (.node 94 (.go cU) (.node 92 (.ext gr) .leaf .leaf) .leaf) (.node 97 (.go dH) (.node 96 (.go cL) .leaf .leaf) .leaf)) (.node 101 (.go jV) (.node 100 (.go dG) (.node 99 (.go bF) .leaf .leaf) .leaf) (.node 103 (.go bR) (.node 102 (.go dI) .leaf .leaf) .leaf))))))
def T : Nat -> Option iq := tree.find
theorem okT : ∀ f e, T f = some e -> KB Tryd.prog G f e := Bt.Dg (t := tree)
 ⟨⟨_, Tryd.func54, aar⟩, ⟨⟨_, Tryd.func30, aaP⟩, ⟨⟨_, Tryd.func18, aa1⟩, ⟨⟨_, Tryd.func12, aa7⟩, ⟨⟨_, Tryd.func9, ok9⟩, ⟨⟨_, Tryd.func6, ok6⟩, ⟨⟨_, Tryd.func5, ok5⟩, trivial, trivial⟩, ⟨⟨_, Tryd.func8, ok8⟩, trivial, trivial⟩⟩, ⟨⟨_, Tryd.func11, aa8⟩, ⟨⟨_, Tryd.func10, aa9⟩, trivial, trivial⟩, trivial⟩⟩, ⟨⟨_, Tryd.func15, aa4⟩, ⟨⟨_, Tryd.func14, aa5⟩, ⟨⟨_, Tryd.func13, aa6⟩, trivial, trivial⟩, trivial⟩, ⟨⟨_, Tryd.func17, aa2⟩, ⟨⟨_, Tryd.func16, aa3⟩, trivial, trivial⟩, trivial⟩⟩⟩, ⟨⟨_, Tryd.func24, aaV⟩, ⟨⟨_, Tryd.func21, aaY⟩, ⟨⟨_, Tryd.func20, aaZ⟩, ⟨⟨_, Tryd.func19, aa0⟩, trivial, trivial⟩, trivial⟩, ⟨⟨_, Tryd.func23, aaW⟩, ⟨⟨_, Tryd.func22, aaX⟩, trivial, trivial⟩, trivial⟩⟩, ⟨⟨_, Tryd.func27, aaS⟩, ⟨⟨_, Tryd.func26, aaT⟩, ⟨⟨_, Tryd.func25, aaU⟩, trivial, trivial⟩, trivial⟩, ⟨⟨_, Tryd.func29, aaQ⟩, ⟨⟨_, Tryd.func28, aaR⟩, trivial, trivial⟩, trivial⟩⟩⟩⟩, ⟨⟨_, Tryd.func42, aaD⟩, ⟨⟨_, Tryd.func36, aaJ⟩, ⟨⟨_, Tryd.func33, aaM⟩, ⟨⟨_, Tryd.func32, aaN⟩, ⟨⟨_, Tryd.func31, aaO⟩, trivial, trivial⟩, trivial⟩, ⟨⟨_, Tryd.func35, aaK⟩, ⟨⟨_, Tryd.func34, aaL⟩, trivial, trivial⟩, trivial⟩⟩, ⟨⟨_, Tryd.func39, aaG⟩, ⟨⟨_, Tryd.func38, aaH⟩, ⟨⟨_, Tryd.func37, aaI⟩, trivial, trivial⟩, trivial⟩, ⟨⟨_, Tryd.func41, aaE⟩, ⟨⟨_, Tryd.func40, aaF⟩, trivial, trivial⟩, trivial⟩⟩⟩, ⟨⟨_, Tryd.func48, aax⟩, ⟨⟨_, Tryd.func45, aaA⟩, ⟨⟨_, Tryd.func44, aaB⟩, ⟨⟨_, Tryd.func43, aaC⟩, trivial, trivial⟩, trivial⟩, ⟨⟨_, Tryd.func47, aay⟩, ⟨⟨_, Tryd.func46, aaz⟩, trivial, trivial⟩, trivial⟩⟩, ⟨⟨_, Tryd.func51, aau⟩, ⟨⟨_, Tryd.func50, aav⟩, ⟨⟨_, Tryd.func49, aaw⟩, trivial, trivial⟩, trivial⟩, ⟨⟨_, Tryd.func53, aas⟩, ⟨⟨_, Tryd.func52, aat⟩, trivial, trivial⟩, trivial⟩⟩⟩⟩⟩, ⟨⟨_, Tryd.func79, Z2⟩, ⟨⟨_, Tryd.func67, aae⟩, ⟨⟨_, Tryd.func61, aak⟩, ⟨⟨_, Tryd.func58, aan⟩, ⟨⟨_, Tryd.func56, aap⟩, ⟨⟨_, Tryd.func55, aaq⟩, trivial, trivial⟩, ⟨⟨_, Tryd.func57, aao⟩, trivial, trivial⟩⟩, ⟨⟨_, Tryd.func60, aal⟩, ⟨⟨_, Tryd.func59, aam⟩, trivial, trivial⟩, trivial⟩⟩, ⟨⟨_, Tryd.func64, aah⟩, ⟨⟨_, Tryd.func63, aai⟩, ⟨⟨_, Tryd.func62, aaj⟩, trivial, trivial⟩, trivial⟩, ⟨⟨_, Tryd.func66, aaf⟩, ⟨⟨_, Tryd.func65, aag⟩, trivial, trivial⟩, trivial⟩⟩⟩, ⟨⟨_, Tryd.func73, Z8⟩, ⟨⟨_, Tryd.func70, aab⟩, ⟨⟨_, Tryd.func69, aac⟩, ⟨⟨_, Tryd.func68, aad⟩, trivial, trivial⟩, trivial⟩, ⟨⟨_, Tryd.func72, Z9⟩, ⟨⟨_, Tryd.func71, aaa⟩, trivial, trivial⟩, trivial⟩⟩, ⟨⟨_, Tryd.func76, Z5⟩, ⟨⟨_, Tryd.func75, Z6⟩, ⟨⟨_, Tryd.func74, Z7⟩, trivial, trivial⟩, trivial⟩, ⟨⟨_, Tryd.func78, Z3⟩, ⟨⟨_, Tryd.func77, Z4⟩, trivial, trivial⟩, trivial⟩⟩⟩⟩, ⟨⟨_, Tryd.func91, ZQ⟩, ⟨⟨_, Tryd.func85, ZW⟩, ⟨⟨_, Tryd.func82, ZZ⟩, ⟨⟨_, Tryd.func81, Z0⟩, ⟨⟨_, Tryd.func80, Z1⟩, trivial, trivial⟩, trivial⟩, ⟨⟨_, Tryd.func84, ZX⟩, ⟨⟨_, Tryd.func83, ZY⟩, trivial, trivial⟩, trivial⟩⟩, ⟨⟨_, Tryd.func88, ZT⟩, ⟨⟨_, Tryd.func87, ZU⟩, ⟨⟨_, Tryd.func86, ZV⟩, trivial, trivial⟩, trivial⟩, ⟨⟨_, Tryd.func90, ZR⟩, ⟨⟨_, Tryd.func89, ZS⟩, trivial, trivial⟩, trivial⟩⟩⟩, ⟨⟨_, Tryd.func98, ZL⟩, ⟨⟨_, Tryd.func95, ZO⟩, ⟨⟨_, Tryd.func94, ZP⟩, ⟨FX Tryd.func92 (by kernel_rfl) (by kernel_rfl) (by kernel_rfl) (by kernel_rfl), trivial, trivial⟩, trivial⟩, ⟨⟨_, Tryd.func97, ZM⟩, ⟨⟨_, Tryd.func96, ZN⟩, trivial, trivial⟩, trivial⟩⟩, ⟨⟨_, Tryd.func101, Xp⟩, ⟨⟨_, Tryd.func100, Xq⟩, ⟨⟨_, Tryd.func99, ZK⟩, trivial, trivial⟩, trivial⟩, ⟨⟨_, Tryd.func103, Xn⟩, ⟨⟨_, Tryd.func102, Xo⟩, trivial, trivial⟩, trivial⟩⟩⟩⟩⟩⟩
theorem at5 : T 5 = some (.go cC) := rfl
theorem at6 : T 6 = some (.go eY) := rfl
theorem at8 : T 8 = some (.go lz) := rfl
theorem at9 : T 9 = some (.go fZ) := rfl
theorem adX : T 10 = some (.go ju) := rfl
theorem adW : T 11 = some (.go dA) := rfl
theorem adV : T 12 = some (.go gb) := rfl
theorem adU : T 13 = some (.go jW) := rfl
theorem adT : T 14 = some (.go bB) := rfl
theorem adS : T 15 = some (.go bl) := rfl
theorem adR : T 16 = some (.go cA) := rfl
theorem adQ : T 17 = some (.go dv) := rfl
theorem adP : T 18 = some (.go cu) := rfl
theorem adO : T 19 = some (.go ez) := rfl
theorem adN : T 20 = some (.go bm) := rfl
theorem adM : T 21 = some (.go ee) := rfl
theorem adL : T 22 = some (.go lu) := rfl
theorem adK : T 23 = some (.go mJ) := rfl
theorem adJ : T 24 = some (.go jU) := rfl
theorem adI : T 25 = some (.go j7) := rfl
theorem adH : T 26 = some (.go fo) := rfl
theorem adG : T 27 = some (.go gB) := rfl
theorem adF : T 28 = some (.go ey) := rfl
theorem adE : T 29 = some (.go bq) := rfl
theorem adD : T 30 = some (.go dm) := rfl
theorem adC : T 31 = some (.go cJ) := rfl
theorem adB : T 32 = some (.go bU) := rfl
theorem adA : T 33 = some (.go dF) := rfl
theorem adz : T 34 = some (.go da) := rfl
theorem ady : T 35 = some (.go ct) := rfl
theorem adx : T 36 = some (.go oS) := rfl
theorem adw : T 37 = some (.go mI) := rfl
theorem adv : T 38 = some (.go j6) := rfl
theorem adu : T 39 = some (.go lA) := rfl
theorem adt : T 40 = some (.go mH) := rfl
theorem ads : T 41 = some (.go mL) := rfl
theorem adr : T 42 = some (.go iU) := rfl
theorem adq : T 43 = some (.go iT) := rfl
theorem adp : T 44 = some (.go gU) := rfl
theorem ado : T 45 = some (.go gW) := rfl
theorem adn : T 46 = some (.go jT) := rfl
theorem adm : T 47 = some (.go jS) := rfl
theorem adl : T 48 = some (.go gY) := rfl
theorem adk : T 49 = some (.go ly) := rfl
theorem adj : T 50 = some (.go gl) := rfl
theorem adi : T 51 = some (.go cH) := rfl
theorem adh : T 52 = some (.go db) := rfl
theorem adg : T 53 = some (.go bT) := rfl
theorem adf : T 54 = some (.go dc) := rfl
theorem ade : T 55 = some (.go dD) := rfl
theorem adb : T 56 = some (.go dq) := rfl
theorem ada : T 57 = some (.go ed) := rfl
theorem ac9 : T 58 = some (.go dr) := rfl
theorem ac8 : T 59 = some (.go cb) := rfl
theorem ac7 : T 60 = some (.go dK) := rfl
theorem ac6 : T 61 = some (.go lp) := rfl
theorem ac5 : T 62 = some (.go mN) := rfl
theorem ac4 : T 63 = some (.go lq) := rfl
theorem ac3 : T 64 = some (.go oT) := rfl
theorem ac2 : T 65 = some (.go mK) := rfl
theorem ac1 : T 66 = some (.go lr) := rfl
theorem ac0 : T 67 = some (.go lx) := rfl
theorem acZ : T 68 = some (.go dC) := rfl
theorem acY : T 69 = some (.go cM) := rfl
theorem acX : T 70 = some (.go bp) := rfl
theorem acW : T 71 = some (.go pF) := rfl
theorem acV : T 72 = some (.go aQ) := rfl
theorem acU : T 73 = some (.go gp) := rfl
theorem acT : T 74 = some (.go c8) := rfl
theorem acS : T 75 = some (.go mM) := rfl
theorem acR : T 76 = some (.go aH) := rfl
theorem acQ : T 77 = some (.go dW) := rfl
theorem acP : T 79 = some (.go ca) := rfl
theorem acO : T 80 = some (.go dX) := rfl
theorem acN : T 81 = some (.go dE) := rfl
theorem acM : T 82 = some (.go c7) := rfl
theorem acL : T 83 = some (.go c9) := rfl
theorem acK : T 84 = some (.go fm) := rfl
theorem acJ : T 85 = some (.go dY) := rfl
theorem acI : T 86 = some (.go fi) := rfl
theorem acH : T 87 = some (.go fh) := rfl
theorem acG : T 88 = some (.go ef) := rfl
theorem acF : T 89 = some (.go fg) := rfl
theorem acE : T 90 = some (.go eg) := rfl
theorem acD : T 91 = some (.go dJ) := rfl
theorem acC : T 92 = some (.ext gr) := rfl
theorem acB : T 94 = some (.go cU) := rfl
theorem acA : T 95 = some (.go bg) := rfl
theorem acz : T 96 = some (.go cL) := rfl
theorem acy : T 97 = some (.go dH) := rfl
theorem acx : T 98 = some (.go cw) := rfl
theorem acw : T 99 = some (.go bF) := rfl
theorem YN : T 100 = some (.go dG) := rfl
theorem YM : T 101 = some (.go jV) := rfl
theorem YL : T 102 = some (.go dI) := rfl
theorem YK : T 103 = some (.go bR) := rfl
end
section
class Has (T : Nat -> Option iq) (f : Nat) (e : outParam iq) : Prop where
 has : T f = some e
def nb (n i : Nat) : Nat := n + i
def ext (m : Mem) (xs : List fK) : Mem := xs.foldl Mem.new m
theorem Hy {m : Mem} {x : fK} : m.new x = ext m [x] := rfl
theorem Dh {m : Mem} {xs ys : List fK} : ext (ext m xs) ys = ext m (xs ++ ys) := by unfold ext; rw [List.foldl_append]
theorem eV {n i j : Nat} : nb (nb n i) j = nb n (i + j) := Nat.add_assoc n i j
theorem aK {m : Mem} {xs : List fK} : (ext m xs).next = nb m.next xs.length := by
 unfold ext nb
 induction xs generalizing m with
 | nil => rfl
 | cons x xs ih => rw [List.foldl_cons, ih]; show m.next + 1 + _ = _; rw [List.length_cons]; omega
theorem cg {m : Mem} {b : Nat} {x : fK} : (m.set b x).next = m.next := rfl
theorem jl {m : Mem} {x : fK} : (m.new x).next = m.next + 1 := rfl
theorem fq {m : Mem} {x : fK} {b : Nat} : (m.new x).get b = if b = m.next then x else m.get b := by
 unfold Mem.get Mem.new; simp only; rw [Tr.bW]; split <;> rfl
theorem bW {m : Mem} {x : fK} {b c : Nat} : (m.set c x).get b = if b = c then x else m.get b := by
 unfold Mem.get Mem.set; simp only; rw [Tr.bW]; split <;> rfl
theorem bJ {m : Mem} {x : fK} {b : Nat} : (m.set b x).get b = x := by rw [bW, if_pos rfl]
theorem az {m : Mem} {x : fK} {b c : Nat} (h : b ≠ c) : (m.set c x).get b = m.get b := by rw [bW, if_neg h]
theorem aL {m : Mem} {xs : List fK} {b : Nat} (h : b < m.next) : (ext m xs).get b = m.get b := by
 unfold ext
 induction xs generalizing m with
 | nil => rfl
 | cons x xs ih => rw [List.foldl_cons, ih (by rw [jl]; omega), fq, if_neg (by omega)]
theorem aM {m : Mem} {xs : List fK} {n i : Nat} (hn : m.next = n) (h : i < xs.length) : (ext m xs).get (nb n i) = xs[i]?.getD .dead := by
 subst hn;unfold ext nb
 induction xs generalizing m i with
 | nil => simp at h
 | cons x xs ih =>
  rw [List.foldl_cons]
  cases i with
  | zero =>
   have := aL (m := m.new x) (xs := xs) (b := m.next) (by rw [jl]; omega)
   unfold ext at this;rw [Nat.add_zero, this, fq, if_pos rfl]; rfl
  | succ i =>
   have := ih (m := m.new x) (i := i) (by simpa using h)
   rw [jl, show m.next + 1 + i = m.next + (i + 1) by omega] at this;rw [this]; rfl
def Aj (m m' : Mem) : Prop := ∀ b, b < m.next -> m'.get b = m.get b
theorem Et {m : Mem} : Aj m m := fun _ _ => rfl
theorem AO {m : Mem} {xs : List fK} : Aj m (ext m xs) := fun _ h => aL h
def ldB (x : fK) (agg : Option Nat) (off : Nat) : Option EV := match x with
 | .cells cs _ _ _ => partOf agg cs off
 | _ => none
theorem wx {m : Mem} {agg : Option Nat} {b off : Nat} : m.load agg (.ptr b off) = ldB (m.get b) agg off := by
 simp only [Mem.load, ldB]; cases m.get b <;> rfl
theorem wC {cs : List EV} {e t : Nat} {ro : Bool} {agg : Option Nat} {off : Nat} : ldB (.cells cs e t ro) agg off = partOf agg cs off := rfl
theorem wh {cs : List EV} {off : Nat} : partOf none cs off = cs[off]? := rfl
theorem wg {cs : List EV} {off n : Nat} (h : off + n <= cs.length) : partOf (some n) cs off = some (.agg ((cs.drop off).take n)) := by
 show (bif (off + n).ble cs.length then some (EV.agg ((cs.drop off).take n)) else none) = _
 rw [Be h]; rfl
def ZF (m : Mem) (size b off : Nat) (vs : Option (List EV)) : Option Mem := match vs with
 | some vs => bif vs.length.beq size then m.write b off vs else none
 | none => none
theorem sE {m : Mem} {size b off : Nat} {x : EV} : m.store size (.ptr b off) x = ZF m size b off x.cells := by
 simp only [Mem.store, ZF]; cases x.cells <;> rfl
theorem yy {m : Mem} {size b off : Nat} {vs : List EV} (h : vs.length = size) : ZF m size b off (some vs) = m.write b off vs := by
 show (bif vs.length.beq size then m.write b off vs else none) = _
 rw [h, dR]; rfl
def Zy (m : Mem) (b off : Nat) (vs : List EV) (x : fK) : Option Mem := match x with
 | .cells cs esz elem ro => bif ro then none else (iW cs off vs).map fun cs => m.set b (.cells cs esz elem ro)
 | _ => none
theorem ye {m : Mem} {b off : Nat} {vs : List EV} : m.write b off vs = Zy m b off vs (m.get b) := by simp only [Mem.write, Zy]; cases m.get b <;> rfl
theorem vv {m : Mem} {b off : Nat} {vs cs : List EV} {e t : Nat} (h : off + vs.length <= cs.length) : Zy m b off vs (.cells cs e t false) = some (m.set b (.cells (cs.take off ++ vs ++ cs.drop (off + vs.length)) e t false)) := by
 show (bif false then none else (iW cs off vs).map fun cs => m.set b (.cells cs e t false)) = _
 unfold iW; rw [Be h]; rfl
theorem wZ {k : IntKind} {n : Int} : (EV.int k n).cells = some [.int k n] := rfl
theorem tX {b : Bool} : (EV.bool b).cells = some [.bool b] := rfl
theorem Ab {p : Prop} : (bo p).cells = some [bo p] := rfl
theorem wV {s : List UInt8} : (EV.str s).cells = some [.str s] := rfl
theorem oH : EV.bL.cells = some [.bL] := rfl
theorem wX {b o : Nat} : (EV.ptr b o).cells = some [.ptr b o] := rfl
theorem lU : EV.ae.cells = some [.ae] := rfl
theorem qJ {b o l : Nat} {c : Option Nat} : (EV.slice b o l c).cells = some [.slice b o l c] := rfl
theorem oI : EV.bz.cells = some [.bz] := rfl
theorem wY {b : Nat} : (EV.map b).cells = some [.map b] := rfl
theorem m6 : EV.aO.cells = some [.aO] := rfl
theorem tV {f : Nat} {x y : List EV} : (EV.func f x y).cells = some [.func f x y] := rfl
theorem lV : EV.aD.cells = some [.aD] := rfl
theorem qK {t : Nat} {v : EV} : (EV.iface t v).cells = some [.iface t v] := rfl
theorem w7 {cs : List EV} : (EV.agg cs).cells = some cs := rfl
def NG (cs : List EV) (off size : Nat) (vs : Option (List EV)) (r : List (Nat × Nat × EV)) : Option (List EV) := match vs with
 | some vs => bif vs.length.beq size then match iW cs off vs with
   | some cs => fB cs r
   | none => none
  else none
 | none => none
theorem rU {cs : List EV} : fB cs [] = some cs := rfl
theorem rV {cs : List EV} {off size : Nat} {v : EV} {r : List (Nat × Nat × EV)} : fB cs ((off, size, v) :: r) = NG cs off size v.cells r := by simp only [NG, fB]; cases v.cells <;> rfl
theorem pt {cs : List EV} {off size : Nat} {vs : List EV} {r : List (Nat × Nat × EV)} (h : vs.length = size) (h2 : off + vs.length <= cs.length) : NG cs off size (some vs) r = fB (cs.take off ++ vs ++ cs.drop (off + vs.length)) r := by
 show (bif vs.length.beq size then match iW cs off vs with | some cs => fB cs r | none => none else none) = _
 unfold iW; rw [h, dR, Be (by rw [<- h]; exact h2)]; rfl
def Wj (elem : Nat) (m : Mem) (vs : Option (List EV)) : Option R1 := match vs with
 | some cs => some (.val (.ptr (nb m.next 0) 0) (ext m [.cells cs cs.length elem false]))
 | none => none
theorem wN {ρ : aW -> EV} {m : Mem} {elem : Nat} {x : aW} : aB ρ (.box elem x) m = Wj elem m (ρ x).cells := by
 simp only [aB]; unfold Wj; cases (ρ x).cells <;> rfl
theorem w8 {elem : Nat} {m : Mem} {cs : List EV} : Wj elem m (some cs) = some (.val (.ptr (nb m.next 0) 0) (ext m [.cells cs cs.length elem false])) := rfl
theorem qF {ρ : aW -> EV} {m : Mem} {elem : Nat} {zero : List EV} : aB ρ (.alloc elem zero) m = some (.val (.ptr (nb m.next 0) 0) (ext m [.cells zero zero.length elem false])) := rfl
theorem qt {ρ : aW -> EV} {m : Mem} : aB ρ .uT m = some (.val (.map (nb m.next 0)) (ext m [.map []])) := rfl
theorem Qq {α : Type} (x y : α) (p : List Bool) : ∀ t : Tr α, (t.put x p).put y p = t.put y p := by
 induction p with
 | nil => intro t; cases t <;> rfl
 | cons b p ih => intro t; cases t <;> cases b <;> simp [Tr.put, ih]
theorem put_comm {α : Type} (x y : α) (p : List Bool) : ∀ (q : List Bool) (t : Tr α), p ≠ q -> (t.put x p).put y q = (t.put y q).put x p := by
 induction p with
 | nil =>
  intro q t h
  cases q with
  | nil => exact absurd rfl h
  | cons c q => cases t <;> cases c <;> simp [Tr.put]
 | cons b p ih =>
  intro q t h
  cases q with
  | nil => cases t <;> cases b <;> simp [Tr.put]
  | cons c q =>
   by_cases Rz : b = c
   ·subst Rz
    have hpq : p ≠ q := fun e => h (by rw [e])
    cases t <;> cases b <;> simp [Tr.put, ih _ _ hpq]
   ·cases t <;> cases b <;> cases c <;> simp [Tr.put] at Rz ⊢
theorem S2 {m : Mem} {b : Nat} {x y : fK} (h : b < m.next) : (m.new y).set b x = (m.set b x).new y := by
 unfold Mem.set Mem.new Tr.set; simp only; rw [put_comm _ _ _ _ _ (fun e => by have := Jc e; omega)]
theorem Hx {m : Mem} {x y : fK} : (m.new y).set m.next x = m.new x := by
 unfold Mem.set Mem.new Tr.set; simp only; rw [Qq]
theorem ni {m : Mem} {xs : List fK} {b : Nat} {x : fK} (h : b < m.next) : (ext m xs).set b x = ext (m.set b x) xs := by
 unfold ext
 induction xs generalizing m with
 | nil => rfl
 | cons y ys ih => rw [List.foldl_cons, ih (by rw [jl]; omega), S2 h]; rfl
theorem oZ {m : Mem} {xs : List fK} {n i : Nat} {x : fK} (hn : m.next = n) (h : i < xs.length) : (ext m xs).set (nb n i) x = ext m (xs.set i x) := by
 subst hn
 induction xs generalizing m i with
 | nil => simp at h
 | cons y ys ih =>
  cases i with
  | zero =>
   have := ni (m := m.new y) (xs := ys) (b := m.next) (x := x) (by rw [jl]; omega)
   rw [Hx] at this;exact this
  | succ i =>
   have := ih (m := m.new y) (i := i) (by simpa using h)
   rw [jl] at this;unfold nb at this ⊢
   rw [show m.next + (i + 1) = m.next + 1 + i by omega];exact this
open Classical in
noncomputable def abh (T : Nat -> Option iq) (f : Nat) : List EV -> Mem -> Option EV := fun args m => match run T f args m with
 | some (.ret v m') => if Flat v = true /\ Aj m m' then some v else none
 | _ => none
end
section
theorem Ca (x : aW) : cW (.aa x) = 0 := rfl
theorem vV (elem : Nat) (zero : List EV) : cW (.alloc elem zero) = 1 := rfl
theorem Cg (elem : Nat) (x : aW) : cW (.box elem x) = 1 := rfl
theorem vU (zero : List EV) (parts : List (Nat × Nat × aW)) : cW (.build zero parts) = 0 := rfl
theorem sO (elem esz len : Nat) (zero : List EV) (parts : List (Nat × aW)) : cW (.bt elem esz len zero parts) = 1 := rfl
theorem vM (size : Nat) (a x : aW) : cW (.store size a x) = 3 := rfl
theorem vP (x : aW) : cW (.cy x) = 0 := rfl
theorem Ch (op : BinOp) (x y : aW) : cW (.bin op x y) = 0 := rfl
theorem Hf (neg : Bool) (t : sj) (x y : aW) : cW (.eq neg t x y) = 0 := rfl
theorem He (op : UnOp) (x : aW) : cW (.un op x) = 0 := rfl
theorem vR (t : Nat) (x : aW) : cW (.iface t x) = 0 := rfl
theorem yB (f : Nat) (a c : List aW) : cW (.BL f a c) = 0 := rfl
theorem vQ  : cW (.uT ) = 1 := rfl
theorem pW (elem esz : Nat) (zero : List EV) (len cap : aW) : cW (.lL elem esz zero len cap) = 1 := rfl
theorem vN (x : aW) (lo hi : Option aW) : cW (.gd x lo hi) = 0 := rfl
theorem yz (esz : Nat) (x : aW) (lo hi max : Option aW) : cW (.uL esz x lo hi max) = 3 := rfl
theorem vO (n esz : Nat) (x : aW) (lo hi max : Option aW) : cW (.xo n esz x lo hi max) = 0 := rfl
theorem vT (off : Nat) (x : aW) : cW (.aj off x) = 0 := rfl
theorem Ce (agg : Option Nat) (off : Nat) (x : aW) : cW (.AX agg off x) = 0 := rfl
theorem vS (esz : Nat) (x i : aW) : cW (.cS esz x i) = 0 := rfl
theorem oh (n esz : Nat) (x i : aW) : cW (.ny n esz x i) = 0 := rfl
theorem sK (x i : aW) : cW (.eu x i) = 0 := rfl
theorem sL (n esz : Nat) (agg : Option Nat) (x i : aW) : cW (.uY n esz agg x i) = 0 := rfl
theorem sG (kt : Nat) (zero : EV) (ok : Bool) (mp k : aW) : cW (.lookup kt zero ok mp k) = 3 := rfl
theorem sF (kt : Nat) (mp k x : aW) : cW (.pg kt mp k x) = 3 := rfl
theorem sM (kt : Nat) (mp k : aW) : cW (.delete kt mp k) = 3 := rfl
theorem sI (mp : aW) : cW (.qX mp) = 3 := rfl
theorem pV (t : Nat) (x : aW) : cW (.pT t x) = 0 := rfl
theorem pX (x : aW) (i : Nat) : cW (.extract x i) = 0 := rfl
theorem Cd (x : aW) : cW (.len x) = 0 := rfl
theorem sH (x : aW) : cW (.cD x) = 0 := rfl
theorem sJ (n : Nat) : cW (.uX n) = 0 := rfl
theorem Cf (x : aW) : cW (.cap x) = 0 := rfl
theorem Cc (args : List aW) : cW (.max args) = 0 := rfl
theorem Cb (args : List aW) : cW (.min args) = 0 := rfl
theorem sP (elem esz bytes : Nat) (s x : aW) : cW (.append elem esz bytes s x) = 3 := rfl
theorem yC (esz : Nat) (d s : aW) : cW (.copy esz d s) = 3 := rfl
theorem yA {x y z : aW} : cW (.pick x y z) = 0 := rfl
theorem sN {k : IntKind} {x : aW} : cW (.conv (.int k) x) = 0 := rfl
theorem pZ {x : aW} : cW (.conv .same x) = 0 := rfl
theorem oi {e : Nat} {x : aW} : cW (.conv (.bytes e) x) = 1 := rfl
theorem pY {x : aW} : cW (.conv .text x) = 3 := rfl
def bump (m : Mem) (k : Nat) : Mem := ⟨m.next + k, m.gH⟩
theorem gA {m : Mem} {k b : Nat} : (bump m k).get b = m.get b := rfl
theorem bu {m : Mem} {k : Nat} : (bump m k).next = nb m.next k := rfl
theorem yG {m : Mem} {k b : Nat} {x : fK} : (bump m k).set b x = bump (m.set b x) k := rfl
theorem wz {m : Mem} {k : Nat} {agg : Option Nat} {a : EV} : (bump m k).load agg a = m.load agg a := rfl
theorem MT {n i j : Nat} : nb n i < nb n j ↔ i < j := by unfold nb; omega
theorem HB {n i j : Nat} : nb n i = nb n j ↔ i = j := by unfold nb; omega
theorem MV {b n i : Nat} (h : b < n) : b < nb n i := by unfold nb; omega
theorem qp {m : Mem} {xs : List fK} {n i j : Nat} (hn : m.next = nb n j) (h : j <= i) (h2 : i - j < xs.length) : (ext m xs).get (nb n i) = xs[i - j]?.getD .dead := by
 have := aM (m := m) (xs := xs) (n := nb n j) (i := i - j) hn h2
 rw [eV, show j + (i - j) = i by omega] at this; exact this
theorem p6 {m : Mem} {xs : List fK} {n i j : Nat} {x : fK} (hn : m.next = nb n j) (h : j <= i) (h2 : i - j < xs.length) : (ext m xs).set (nb n i) x = ext m (xs.set (i - j) x) := by
 have := oZ (m := m) (xs := xs) (n := nb n j) (i := i - j) (x := x) hn h2
 rw [eV, show j + (i - j) = i by omega] at this; exact this
theorem ti {m m' : Mem} {k : Nat} (h : Aj m m') : Aj m (bump m' k) := h
theorem LF {m m' : Mem} {xs : List fK} (h : Aj m m') (hn : m.next <= m'.next) : Aj m (ext m' xs) := fun c hc => by rw [aL (by omega)]; exact h c hc
theorem bI {n i : Nat} : n <= nb n i := by unfold nb; omega
mutual
def Told : EV -> Bool
 | .fz t _ els => !(t.beq 0) && Ba els
 | .fI _ _ _ _ => false
 | .func _ x y => kG x && kG y
 | .iface _ v => Told v
 | .agg x | .tuple x => kG x
 | _ => true
def kG : List EV -> Bool
 | [] => true
 | v :: x => Told v && kG x
def Ba : List (List EV) -> Bool
 | [] => true
 | v :: x => kG v && Ba x
end
mutual
theorem rq : ∀ v : EV, Told v = true -> EV.same v v = true
 | .undef, _ | .bL, _ | .ae, _ | .bz, _ | .aO, _ | .aD, _ => rfl
 | .bool b, _ => by cases b <;> rfl
 | .int k n, _ => by
  have h1 : (bZ k).beq (bZ k) = true := Nat.beq_refl _
  have h2 : sU n n = true := by cases n <;> exact Nat.beq_refl _
  simp only [EV.same, h1, cond_true, h2]
 | .str s, _ => by simp only [EV.same, fE, decide_true]
 | .ptr a i, _ => by simp only [EV.same, Nat.beq_refl, cond_true]
 | .slice a i n c, _ => by
  have h : yH c c = true := by cases c <;> simp [yH]
  simp only [EV.same, Nat.beq_refl, cond_true, h]
 | .map a, _ => by simp only [EV.same, Nat.beq_refl]
 | .func f x y, h => by
  simp only [Told, pI] at h;simp only [EV.same, Nat.beq_refl, cond_true, mr x h.1, mr y h.2]
 | .iface t v, h => by simp only [EV.same, Nat.beq_refl, cond_true, rq v (by simpa only [Told] using h)]
 | .agg x, h => by simp only [EV.same, mr x (by simpa only [Told] using h)]
 | .tuple x, h => by simp only [EV.same, mr x (by simpa only [Told] using h)]
 | .fz t e els, h => by
  simp only [Told, pI, Bool.not_eq_true'] at h;simp only [EV.same, h.1, cond_false, Nat.beq_refl, cond_true, Bj els h.2]
 | .fI _ _ _ _, h => by simp [Told] at h
theorem mr : ∀ x : List EV, kG x = true -> EV.ma x x = true
 | [], _ => rfl
 | v :: x, h => by
  simp only [kG, pI] at h;simp only [EV.ma, rq v h.1, cond_true, mr x h.2]
theorem Bj : ∀ x : List (List EV), Ba x = true -> EV.qT x x = true
 | [], _ => rfl
 | v :: x, h => by
  simp only [Ba, pI] at h;simp only [EV.qT, mr v h.1, cond_true, Bj x h.2]
end
section
variable {T : Nat -> Option iq} {chk : List (Nat × Nat)} {B0 i : Nat} {l : List ba} {fr : Fr} {m : Mem} {sn : List (Nat × Mem)} {se : List Seen} {d : Option Nat}
theorem tz : exec T (.draw l chk) fr m = kZ T chk m.next l 0 fr (bump m l.length) [] [] := rfl
theorem zR : kZ T chk B0 [] i fr m sn se = some (.norm fr m) := fY.2 ⟨0, rfl⟩
def ue (o : Option EV) (k : EV -> Option Out) : Option Out := match o with
 | some v => k v
 | none => none
@[congr] theorem TX {o o' : Option EV} {k : EV -> Option Out} (h : o = o') : ue o k = ue o' k := by rw [h]
theorem sB {v : EV} {k : EV -> Option Out} : ue (some v) k = k v := rfl
def CM (b : Bool) (o : Option Out) : Option Out := bif b then o else none
@[congr] theorem WL {b b' : Bool} {o : Option Out} (h : b = b') : CM b o = CM b' o := by rw [h]
theorem jO {o : Option Out} : CM true o = o := rfl
theorem A3 {op : lD} (h : cW op = 0) : kZ T chk B0 (⟨d, .val op, none⟩ :: l) i fr m sn se = gG (aB fr.eval op m) fun v _ => kZ T chk B0 l (i + 1) (fr.put d v) m sn se := by
 refine dh fun r => ?_
 rw [fY];simp only [dL, bh, h]
 cases aB fr.eval op m with
 | none => simp [gG]
 | some q => obtain ⟨v, m1⟩ := q; simp only [gG]; exact fY.symm
theorem A2 {op : lD} (h : cW op = 1) : kZ T chk B0 (⟨d, .val op, none⟩ :: l) i fr m sn se = gG (aB fr.eval op ⟨B0 + i, m.gH⟩) fun v m1 => kZ T chk B0 l (i + 1) (fr.put d v) ⟨m.next, m1.gH⟩ sn se := by
 refine dh fun r => ?_
 rw [fY];simp only [dL, bh, h]
 cases aB fr.eval op ⟨B0 + i, m.gH⟩ with
 | none => simp [gG]
 | some q => obtain ⟨v, m1⟩ := q; simp only [gG]; exact fY.symm
theorem Ig {op : lD} (h : cW op = 3) : kZ T chk B0 (⟨d, .val op, none⟩ :: l) i fr m sn se = gG (aB fr.eval op m) fun v m' => CM (aY chk i m' se) (kZ T chk B0 l (i + 1) (fr.put d v) m' ((i, m) :: sn) se) := by
 refine dh fun r => ?_
 rw [fY];simp only [dL, bh, h]
 cases aB fr.eval op m with
 | none => simp [gG]
 | some q =>
  obtain ⟨v, m1⟩ := q
  simp only [gG]
  cases aY chk i m1 se
  ·simp [CM]
  ·simp only [CM, cond_true]; exact fY.symm
def St (a : EV) (x y : Option Out) : Option Out := bif Gz a then x else y
@[congr] theorem WK {a a' : EV} {x y : Option Out} (h : a = a') : St a x y = St a' x y := by rw [h]
theorem CL {b o : Nat} {x y : Option Out} : St (.ptr b o) x y = y := rfl
theorem zf {e i k : Nat} {els : List (List EV)} {x y : Option Out} : St (.fI e els i k) x y = x := rfl
theorem zS {agg : Option Nat} {a : aW} : kZ T chk B0 (⟨d, .val (.load agg a), none⟩ :: l) i fr m sn se = ue (m.load agg (fr.eval a)) fun v => St (fr.eval a) (CM (dQ chk i m.next sn) (kZ T chk B0 l (i + 1) (fr.put d v) m sn se)) (CM (bE chk i agg (fr.eval a) v sn) (kZ T chk B0 l (i + 1) (fr.put d v) m sn (⟨i, agg, fr.eval a, v⟩ :: se))) := by
 refine dh fun r => ?_
 rw [fY];simp only [dL, bh, cW]
 cases m.load agg (fr.eval a) with
 | none => simp [ue]
 | some v =>
  simp only [ue, St]
  cases Gz (fr.eval a)
  ·simp only [cond_false]
   cases bE chk i agg (fr.eval a) v sn
   ·simp [CM]
   ·simp only [CM, cond_true]; exact fY.symm
  ·simp only [cond_true]
   cases dQ chk i m.next sn
   ·simp [CM]
   ·simp only [CM, cond_true]; exact fY.symm
def rj (o : Option Fin) (k : EV -> Mem -> Option Out) : Option Out := match o with
 | some (.ret v m) => k v m
 | _ => none
@[congr] theorem T4 {o o' : Option Fin} {k : EV -> Mem -> Option Out} (h : o = o') : rj o k = rj o' k := by rw [h]
theorem vH {v : EV} {m : Mem} {k : EV -> Mem -> Option Out} : rj (some (.ret v m)) k = k v m := rfl
theorem zX {x : aW} {args : List aW} : kZ T chk B0 (⟨d, .call x args, none⟩ :: l) i fr m sn se = rj (AG T (fr.eval x) (args.map fr.eval) m) fun v m' => CM (aY chk i m' se) (kZ T chk B0 l (i + 1) (fr.put d v) m' ((i, m) :: sn) se) := by
 refine dh fun r => ?_
 rw [fY];simp only [dL, bh]
 cases hx : fr.eval x
 case func g a c =>
  simp only [fP, AG]
  constructor
  ·rintro ⟨k, h⟩
   cases hc : aT T k g (a ++ args.map fr.eval ++ c) m with
   | none => rw [hc] at h; cases h
   | some q =>
    rw [mR.2 ⟨k, hc⟩];simp only [hc] at h
    cases q with
    | ret v m1 =>
     simp only [rj]
     cases hk : aY chk i m1 se
     ·simp [hk] at h
     ·simp only [hk, cond_true] at h
      simp only [CM, cond_true]; exact fY.2 ⟨k, h⟩
    | gI v m1 => simp at h
  ·intro h
   cases hc : run T g (a ++ args.map fr.eval ++ c) m with
   | none => rw [hc] at h; cases h
   | some q =>
    obtain ⟨k1, h1⟩ := mR.1 hc
    rw [hc] at h
    cases q with
    | ret v m1 =>
     simp only [rj] at h
     cases hk : aY chk i m1 se
     ·simp [hk, CM] at h
     ·simp only [hk, CM, cond_true] at h
      obtain ⟨k2, h2⟩ := fY.1 h
      refine ⟨max k1 k2, ?_⟩
      have e1 := Em _ _ _ (Nat.le_max_left k1 k2) h1
      have e2 := Ju _ _ _ (Nat.le_max_right k1 k2) h2
      simp only at e1 e2
      simp only [e1, hk, cond_true]; exact e2
    | gI v m1 => cases h
 all_goals simp [fP, AG, rj]
def QK (i : Nat) (chk : List (Nat × Nat)) : Bool := chk.all fun p => p.1 != i
def MR (j : Nat) (chk : List (Nat × Nat)) : Bool := chk.all fun p => p.2 != j
theorem CB : QK i [] = true := rfl
theorem uR {a b : Nat} : QK i ((a, b) :: chk) = (a != i && QK i chk) := rfl
theorem CC : MR i [] = true := rfl
theorem uS {a b : Nat} : MR i ((a, b) :: chk) = (b != i && MR i chk) := rfl
theorem yW {j : Nat} : ∀ {chk : List (Nat × Nat)}, QK i chk = true -> bV i j chk = false
 | [], _ => rfl
 | (a, b) :: chk, h => by
  simp only [uR, pI, bne_iff_ne, ne_eq] at h;simp only [bV, jR h.1, cond_false];exact yW h.2
theorem yX {j : Nat} : ∀ {chk : List (Nat × Nat)}, MR j chk = true -> bV i j chk = false
 | [], _ => rfl
 | (a, b) :: chk, h => by
  simp only [uS, pI, bne_iff_ne, ne_eq] at h;simp only [bV, jR h.1, cond_false];rw [yX h.2]; cases a.beq i <;> rfl
theorem I0 {agg : Option Nat} {a v : EV} (h : QK i chk = true) : ∀ sn, bE chk i agg a v sn = true
 | [] => rfl
 | (j, m1) :: sn => by simp only [bE, yW h, cond_false]; exact I0 h sn
theorem MO {n : Nat} (h : QK i chk = true) : ∀ sn, dQ chk i n sn = true
 | [] => rfl
 | (j, m1) :: sn => by simp only [dQ, yW h, cond_false]; exact MO h sn
theorem Ec {m : Mem} (h : MR i chk = true) : ∀ se, aY chk i m se = true
 | [] => rfl
 | x :: se => by simp only [aY, yX h, cond_false]; exact Ec h se
def Kz (chk : List (Nat × Nat)) (se se' : List Seen) : Prop := ∀ j m, aY chk j m se = aY chk j m se'
def Ky (chk : List (Nat × Nat)) (sn D5 : List (Nat × Mem)) : Prop := (∀ i agg a v, bE chk i agg a v sn = bE chk i agg a v D5) /\ ∀ i n, dQ chk i n sn = dQ chk i n D5
theorem Kz.cons {se se' : List Seen} (h : Kz chk se se') (x : Seen) : Kz chk (x :: se) (x :: se') := fun j m => by simp only [aY, h j m]
theorem Ky.cons {sn D5 : List (Nat × Mem)} (h : Ky chk sn D5) (x : Nat × Mem) : Ky chk (x :: sn) (x :: D5) := ⟨fun i agg a v => by obtain ⟨j, m⟩ := x; simp only [bE, h.1 i agg a v], fun i n => by obtain ⟨j, m⟩ := x; simp only [dQ, h.2 i n]⟩
theorem Bw {call : Call} : ∀ (l : List ba) (i : Nat) (fr : Fr) (m : Mem) (sn D5 : List (Nat × Mem)) (se se' : List Seen), Ky chk sn D5 -> Kz chk se se' -> dL call chk B0 l i fr m sn se = dL call chk B0 l i fr m D5 se'
 | [], i, fr, m, sn, D5, se, se', _, _ => rfl
 | o :: r, i, fr, m, sn, D5, se, se', h2, h1 => by
  have ih := fun i fr m sn D5 se se' h2 h1 => Bw (call := call) r i fr m sn D5 se se' h2 h1
  simp only [dL]
  cases bh fr o.guard with
  | none => rfl
  | some b =>
  cases b with
  | false => exact ih _ _ _ _ _ _ _ h2 h1
  | true =>
   simp only
   cases o.op with
   | val op =>
    simp only
    split
    ·cases aB fr.eval op m with
     | none => rfl
     | some q => obtain ⟨v, m1⟩ := q; exact ih _ _ _ _ _ _ _ h2 h1
    ·cases aB fr.eval op ⟨B0 + i, m.gH⟩ with
     | none => rfl
     | some q => obtain ⟨v, m1⟩ := q; exact ih _ _ _ _ _ _ _ h2 h1
    ·split
     ·rename_i agg x _
      cases m.load agg (fr.eval x) with
      | none => rfl
      | some v =>
       simp only [h2.1 i agg (fr.eval x) v, h2.2 i m.next]
       cases Gz (fr.eval x)
       ·simp only [cond_false]
        cases bE chk i agg (fr.eval x) v D5
        ·rfl
        ·simp only [cond_true]; exact ih _ _ _ _ _ _ _ h2 (h1.cons _)
       ·simp only [cond_true]
        cases dQ chk i m.next D5
        ·rfl
        ·simp only [cond_true]; exact ih _ _ _ _ _ _ _ h2 h1
     ·rfl
    ·cases aB fr.eval op m with
     | none => rfl
     | some q =>
      obtain ⟨v, m1⟩ := q
      simp only [h1 i m1]
      cases aY chk i m1 se'
      ·rfl
      ·simp only [cond_true]; exact ih _ _ _ _ _ _ _ (h2.cons _) h1
   | call f args =>
    simp only
    cases fP call (fr.eval f) (args.map fr.eval) m with
    | none => rfl
    | some q =>
     cases q with
     | ret v m1 =>
      simp only [h1 i m1]
      cases aY chk i m1 se'
      ·rfl
      ·simp only [cond_true]; exact ih _ _ _ _ _ _ _ (h2.cons _) h1
     | gI v m1 => rfl
   | panic x => rfl
   | defer f x => rfl
theorem J9 {D5 : List (Nat × Mem)} {se' : List Seen} (h2 : Ky chk sn D5) (h1 : Kz chk se se') : kZ T chk B0 l i fr m sn se = kZ T chk B0 l i fr m D5 se' := by
 unfold kZ; congr 1; funext k; exact Bw l i fr m sn D5 se se' h2 h1
theorem RW {j : Nat} {agg : Option Nat} {a v : EV} (h : QK j chk = true) : kZ T chk B0 l i fr m sn (⟨j, agg, a, v⟩ :: se) = kZ T chk B0 l i fr m sn se :=
 J9 ⟨fun _ _ _ _ => rfl, fun _ _ => rfl⟩ fun k m => by simp only [aY, yW h, cond_false]
theorem J8 {j : Nat} {m1 : Mem} (h : MR j chk = true) : kZ T chk B0 l i fr m ((j, m1) :: sn) se = kZ T chk B0 l i fr m sn se :=
 J9 ⟨fun i agg a v => by simp only [bE, yX h, cond_false], fun i n => by simp only [dQ, yX h, cond_false]⟩ fun _ _ => rfl
theorem rZ {agg : Option Nat} {a : aW} (h : QK i chk = true) : kZ T chk B0 (⟨d, .val (.load agg a), none⟩ :: l) i fr m sn se = ue (m.load agg (fr.eval a)) fun v => kZ T chk B0 l (i + 1) (fr.put d v) m sn se := by
 rw [zS]; cases m.load agg (fr.eval a) with
 | none => rfl
 | some v => simp only [ue, I0 h, MO h, jO, RW h, St]; cases Gz (fr.eval a) <;> rfl
theorem wR {agg : Option Nat} {a : aW} (_h : QK i chk = false) : kZ T chk B0 (⟨d, .val (.load agg a), none⟩ :: l) i fr m sn se = ue (m.load agg (fr.eval a)) fun v => St (fr.eval a) (CM (dQ chk i m.next sn) (kZ T chk B0 l (i + 1) (fr.put d v) m sn se)) (CM (bE chk i agg (fr.eval a) v sn) (kZ T chk B0 l (i + 1) (fr.put d v) m sn (⟨i, agg, fr.eval a, v⟩ :: se))) := zS
theorem zQ {op : lD} (h : cW op = 3) (h0 : MR i chk = true) : kZ T chk B0 (⟨d, .val op, none⟩ :: l) i fr m sn se = gG (aB fr.eval op m) fun v m' => kZ T chk B0 l (i + 1) (fr.put d v) m' sn se := by
 rw [Ig h]; cases aB fr.eval op m with
 | none => rfl
 | some q => obtain ⟨v, m1⟩ := q; simp only [gG, Ec h0, jO, J8 h0]
theorem Ds {op : lD} (h : cW op = 3) (_h0 : MR i chk = false) : kZ T chk B0 (⟨d, .val op, none⟩ :: l) i fr m sn se = gG (aB fr.eval op m) fun v m' => CM (aY chk i m' se) (kZ T chk B0 l (i + 1) (fr.put d v) m' ((i, m) :: sn) se) := Ig h
theorem sa {x : aW} {args : List aW} (h0 : MR i chk = true) : kZ T chk B0 (⟨d, .call x args, none⟩ :: l) i fr m sn se = rj (AG T (fr.eval x) (args.map fr.eval) m) fun v m' => kZ T chk B0 l (i + 1) (fr.put d v) m' sn se := by
 rw [zX]; cases AG T (fr.eval x) (args.map fr.eval) m with
 | none => rfl
 | some q => cases q with
  | ret v m1 => simp only [rj, Ec h0, jO, J8 h0]
  | gI v m1 => rfl
theorem wS {x : aW} {args : List aW} (_h0 : MR i chk = false) : kZ T chk B0 (⟨d, .call x args, none⟩ :: l) i fr m sn se = rj (AG T (fr.eval x) (args.map fr.eval) m) fun v m' => CM (aY chk i m' se) (kZ T chk B0 l (i + 1) (fr.put d v) m' ((i, m) :: sn) se) := zX
theorem j4 {op : Aq} {t : Nat} {w : Bool} : kZ T chk B0 (⟨d, op, some (t, w)⟩ :: l) i fr m sn se = gE (fr.get t) w (kZ T chk B0 (⟨d, op, none⟩ :: l) i fr m sn se) (kZ T chk B0 l (i + 1) (fr.put d .undef) m sn se) := by
 cases h : fr.get t
 case bool b =>
  refine dh fun r => ?_
  rw [fY];simp only [dL, bh, h, gE]
  cases hb : b == w
  ·simp only [cond_false]; exact fY.symm
  ·simp only [cond_true]
   rw [fY];simp only [dL, bh]
 case undef =>
  refine dh fun r => ?_
  rw [fY];simp only [dL, bh, h, gE];exact fY.symm
 all_goals
  refine dh fun r => ?_
  rw [fY];simp only [dL, bh, h, reduceCtorEq, exists_const, gE]
def U1 (o : Option Fin) : Option R1 := match o with
 | some (.ret v m) => some (.val v m)
 | _ => none
theorem yI {v : EV} {m : Mem} : U1 (some (.ret v m)) = some (.val v m) := rfl
theorem Qa {o : Option Fin} {k : EV -> Mem -> Option Out} : rj o k = gG (U1 o) k := by cases o with | none => rfl | some q => cases q <;> rfl
theorem Dv {op : lD} {t : Nat} {w : Bool} (h : cW op = 0) : kZ T chk B0 (⟨d, .val op, some (t, w)⟩ :: l) i fr m sn se = gV (fr.get t) w m (aB fr.eval op m) fun v _ => kZ T chk B0 l (i + 1) (fr.put d v) m sn se := by rw [j4, A3 h]; rfl
theorem Du {op : lD} {t : Nat} {w : Bool} (h : cW op = 1) : kZ T chk B0 (⟨d, .val op, some (t, w)⟩ :: l) i fr m sn se = gE (fr.get t) w (gG (aB fr.eval op ⟨B0 + i, m.gH⟩) fun v m1 => kZ T chk B0 l (i + 1) (fr.put d v) ⟨m.next, m1.gH⟩ sn se) (kZ T chk B0 l (i + 1) (fr.put d .undef) m sn se) := by rw [j4, A2 h]
theorem zW {agg : Option Nat} {a : aW} {t : Nat} {w : Bool} (h : QK i chk = true) : kZ T chk B0 (⟨d, .val (.load agg a), some (t, w)⟩ :: l) i fr m sn se = gV (fr.get t) w m (gx m (m.load agg (fr.eval a))) fun v _ => kZ T chk B0 l (i + 1) (fr.put d v) m sn se := by
 rw [j4, rZ h]; unfold gV
 cases m.load agg (fr.eval a) <;> rfl
theorem zV {agg : Option Nat} {a : aW} {t : Nat} {w : Bool} (_h : QK i chk = false) : kZ T chk B0 (⟨d, .val (.load agg a), some (t, w)⟩ :: l) i fr m sn se = gE (fr.get t) w (ue (m.load agg (fr.eval a)) fun v => St (fr.eval a) (CM (dQ chk i m.next sn) (kZ T chk B0 l (i + 1) (fr.put d v) m sn se)) (CM (bE chk i agg (fr.eval a) v sn) (kZ T chk B0 l (i + 1) (fr.put d v) m sn (⟨i, agg, fr.eval a, v⟩ :: se)))) (kZ T chk B0 l (i + 1) (fr.put d .undef) m sn se) := by rw [j4, zS]
theorem zU {op : lD} {t : Nat} {w : Bool} (h : cW op = 3) (h0 : MR i chk = true) : kZ T chk B0 (⟨d, .val op, some (t, w)⟩ :: l) i fr m sn se = gV (fr.get t) w m (aB fr.eval op m) fun v m' => kZ T chk B0 l (i + 1) (fr.put d v) m' sn se := by rw [j4, zQ h h0]; rfl
theorem zT {op : lD} {t : Nat} {w : Bool} (h : cW op = 3) (_h0 : MR i chk = false) : kZ T chk B0 (⟨d, .val op, some (t, w)⟩ :: l) i fr m sn se = gE (fr.get t) w (gG (aB fr.eval op m) fun v m' => CM (aY chk i m' se) (kZ T chk B0 l (i + 1) (fr.put d v) m' ((i, m) :: sn) se)) (kZ T chk B0 l (i + 1) (fr.put d .undef) m sn se) := by rw [j4, Ig h]
theorem tN {x : aW} {args : List aW} {t : Nat} {w : Bool} (h0 : MR i chk = true) : kZ T chk B0 (⟨d, .call x args, some (t, w)⟩ :: l) i fr m sn se = gV (fr.get t) w m (U1 (AG T (fr.eval x) (args.map fr.eval) m)) fun v m' => kZ T chk B0 l (i + 1) (fr.put d v) m' sn se := by rw [j4, sa h0, Qa]; rfl
theorem tM {x : aW} {args : List aW} {t : Nat} {w : Bool} (_h0 : MR i chk = false) : kZ T chk B0 (⟨d, .call x args, some (t, w)⟩ :: l) i fr m sn se = gE (fr.get t) w (rj (AG T (fr.eval x) (args.map fr.eval) m) fun v m' => CM (aY chk i m' se) (kZ T chk B0 l (i + 1) (fr.put d v) m' ((i, m) :: sn) se)) (kZ T chk B0 l (i + 1) (fr.put d .undef) m sn se) := by rw [j4, zX]
section
variable {p q : Prop} {x y : Option Out}
theorem C4 : gE (bo p) true x y = iF p x y := by by_cases h : p <;> simp [gE, bo, iF, h]
theorem C5 : gE (bo p) false x y = iF p y x := by by_cases h : p <;> simp [gE, bo, iF, h]
theorem Ns : gE (.bool true) true x y = x := rfl
theorem Nt : gE (.bool true) false x y = y := rfl
theorem Nu : gE (.bool false) true x y = y := rfl
theorem Nw : gE (.bool false) false x y = x := rfl
theorem zt {w : Bool} : gE .undef w x y = y := rfl
theorem CY : gE (gv p (bo q)) true x y = iF (p /\ q) x y := by by_cases h : p <;> by_cases h' : q <;> simp [gE, bo, gv, iF, h, h']
theorem CZ : gE (gv p (bo q)) false x y = iF (p /\ ¬ q) x y := by by_cases h : p <;> by_cases h' : q <;> simp [gE, bo, gv, iF, h, h']
theorem C0 : gE (gv p (.bool true)) true x y = iF p x y := by by_cases h : p <;> simp [gE, gv, iF, h]
theorem C1 : gE (gv p (.bool true)) false x y = y := by by_cases h : p <;> simp [gE, gv, h]
theorem C2 : gE (gv p (.bool false)) true x y = y := by by_cases h : p <;> simp [gE, gv, h]
theorem C3 : gE (gv p (.bool false)) false x y = iF p x y := by by_cases h : p <;> simp [gE, gv, iF, h]
end
theorem Dw {j : Nat} : aY chk j m [] = true := rfl
theorem z8 {j : Nat} {s : Seen} : aY chk j m (s :: se) = ((!bV s.i j chk || m.eI s.agg s.a s.v) && aY chk j m se) := by
 simp only [aY]; cases bV s.i j chk <;> simp
theorem yD {agg : Option Nat} {a v : EV} : bE chk i agg a v [] = true := rfl
theorem vX {agg : Option Nat} {a v : EV} {j : Nat} {m1 : Mem} : bE chk i agg a v ((j, m1) :: sn) = ((!bV i j chk || m1.eI agg a v) && bE chk i agg a v sn) := by
 simp only [bE]; cases bV i j chk <;> simp
theorem CA {n : Nat} : dQ chk i n [] = true := rfl
theorem yT {n j : Nat} {m1 : Mem} : dQ chk i n ((j, m1) :: sn) = ((!bV i j chk || m1.next.beq n) && dQ chk i n sn) := by
 simp only [dQ]; cases bV i j chk <;> cases m1.next.beq n <;> simp
theorem yP {j : Nat} : bV i j [] = false := rfl
theorem wi {j a b : Nat} : bV i j ((a, b) :: chk) = ((a == i && b == j) || bV i j chk) := by
 simp only [bV];have e : ∀ x y : Nat, x.beq y = (x == y) := fun x y => by
  by_cases h : x = y
  ·subst h; simp
  ·rw [jR h]; simp [h]
 rw [e, e]
 cases a == i <;> cases b == j <;> simp
def Hd (o : Option EV) (v : EV) : Bool := match o with
 | some x => EV.same x v
 | none => false
theorem vL {agg : Option Nat} {a v : EV} : m.eI agg a v = Hd (m.load agg a) v := by simp only [Mem.eI, Hd]; cases m.load agg a <;> rfl
theorem ng {v : EV} (h : Told v = true) : Hd (some v) v = true := rq v h
theorem vD {b : Bool} : Told (.bool b) = true := rfl
theorem B6 {p : Prop} : Told (bo p) = true := rfl
theorem yn {k : IntKind} {n : Int} : Told (.int k n) = true := rfl
theorem yk {s : List UInt8} : Told (.str s) = true := rfl
theorem pQ : Told .bL = true := rfl
theorem yl {b o : Nat} : Told (.ptr b o) = true := rfl
theorem mO : Told .ae = true := rfl
theorem su {b o l : Nat} {c : Option Nat} : Told (.slice b o l c) = true := rfl
theorem pR : Told .bz = true := rfl
theorem ym {b : Nat} : Told (.map b) = true := rfl
theorem od : Told .aO = true := rfl
theorem mP : Told .aD = true := rfl
theorem sr : Told .undef = true := rfl
theorem yo {x : List EV} : Told (.agg x) = kG x := by simp only [Told]
theorem ss {x : List EV} : Told (.tuple x) = kG x := by simp only [Told]
theorem sx {t : Nat} {v : EV} : Told (.iface t v) = Told v := by simp only [Told]
theorem vC {f : Nat} {x y : List EV} : Told (.func f x y) = (kG x && kG y) := by simp only [Told]
theorem vB : kG [] = true := rfl
theorem sm {v : EV} {x : List EV} : kG (v :: x) = (Told v && kG x) := by simp only [kG]
end
theorem Ia {fs : List (Option Nat × Nat × sj)} {a b : List EV} : eL (.agg fs) (.agg a) (.agg b) = pA fs a b := rfl
def Fe (o r : Option Bool) : Option Bool := match o with
 | some true => r
 | o => o
def Wh (t : sj) (x y : Option EV) (r : Option Bool) : Option Bool := match x, y with
 | some x, some y => Fe (eL t x y) r
 | _, _ => none
theorem Dl {a b : List EV} : pA [] a b = some true := rfl
theorem zP {g : Option Nat} {off : Nat} {t : sj} {r : List (Option Nat × Nat × sj)} {a b : List EV} : pA ((g, off, t) :: r) a b = Wh t (partOf g a off) (partOf g b off) (pA r a b) := by
 simp only [pA, Wh, Fe]
 cases partOf g a off <;> cases partOf g b off <;> rfl
theorem wP {t : sj} {x y : EV} {r : Option Bool} : Wh t (some x) (some y) r = Fe (eL t x y) r := rfl
theorem xc {r : Option Bool} : Fe (some true) r = r := rfl
theorem ub {r : Option Bool} : Fe (some false) r = some false := rfl
theorem Iy {p : Prop} [Decidable p] : Fe (some (decide p)) (some true) = some (decide p) := by by_cases h : p <;> simp [Fe, h]
theorem Iz {p : Prop} [Decidable p] : Fe (some (decide p)) (some false) = some false := by by_cases h : p <;> simp [Fe, h]
theorem Ah {p q : Prop} [Decidable p] [Decidable q] : Fe (some (decide p)) (some (decide q)) = some (decide (p /\ q)) := by by_cases h : p <;> by_cases h' : q <;> simp [Fe, h, h']
def ZH (o : Option EV) (r : Option (List EV)) : Option (List EV) := match o with
 | some v => r.map (v :: ·)
 | none => none
theorem yJ {fr : Fr} {m : Mem} {t : Nat} {agg : Option Nat} {rs : List lX} : bN fr m (.cell t agg :: rs) = ZH (m.load agg (fr.get t)) (bN fr m rs) := by
 simp only [bN, zH, ZH]; cases m.load agg (fr.get t) <;> rfl
theorem yM {v : EV} {r : Option (List EV)} : ZH (some v) r = r.map (v :: ·) := rfl
theorem NN {b o : Nat} : eL (.aG 3) (.ptr b o) .bL = some false := rfl
theorem NP {b o : Nat} : eL (.aG 3) .bL (.ptr b o) = some false := rfl
theorem NQ : eL (.aG 3) .bL .bL = some true := rfl
theorem NL {b o l : Nat} {c : Option Nat} : eL (.aG 4) (.slice b o l c) .ae = some false := rfl
theorem NO {b o l : Nat} {c : Option Nat} : eL (.aG 4) .ae (.slice b o l c) = some false := rfl
theorem Dn : eL (.aG 4) .ae .ae = some true := rfl
def aeT (m : Mem) (o : Option Fin) (v : EV) : Prop := ∃ m', o = some (.ret v m') /\ Aj m m'
theorem TQ {p q : Prop} (h : p ↔ q) : bo p = bo q := by rw [propext h]
theorem Yu {p : Prop} (h : ¬ p) : EV.bool false = bo p := (eU h).symm
def bsE (e esz : Nat) (m : Mem) (vs : Option (List EV)) : Option R1 := match vs with
 | some vs => bif vs.length.beq esz then some (.val (.slice (nb m.next 0) 0 1 (some 1)) (Ev.ext m [.cells vs esz e false])) else none
 | none => none
theorem vq {e esz : Nat} {m : Mem} {vs : List EV} (h : vs.length = esz) : bsE e esz m (some vs) = some (.val (.slice (nb m.next 0) 0 1 (some 1)) (Ev.ext m [.cells vs esz e false])) := by
 show (bif vs.length.beq esz then _ else _) = _
 rw [h, dR]; rfl
theorem oB {ρ : aW -> EV} {m : Mem} {e esz : Nat} {zero : List EV} {x : aW} (hz : zero.length = esz) : aB ρ (.bt e esz 1 zero [(0, x)]) m = bsE e esz m (ρ x).cells := by
 simp only [aB, List.map_cons, List.map_nil, rV, Nat.zero_mul];have hc : eD 1 zero = zero := by simp [eD]
 rw [hc]
 cases hx : (ρ x).cells with
 | none => rfl
 | some vs =>
  by_cases hl : vs.length = esz
  ·rw [vq hl, pt hl (by omega)]
   simp only [rU, List.take_zero, List.nil_append, Nat.zero_add];rw [List.drop_eq_nil_of_le (by omega), List.append_nil]; rfl
  ·simp only [bsE, NG, jR hl, cond_false]
theorem oC {ρ : aW -> EV} {m : Mem} {e esz : Nat} {zero : List EV} : aB ρ (.bt e esz 0 zero []) m = some (.val (.slice (nb m.next 0) 0 0 (some 0)) (Ev.ext m [.cells [] esz e false])) := by
 simp only [aB, List.map_nil, rU, eD, List.replicate_zero, List.flatten_nil]; rfl
end
section
structure cF where
 g9 : Nat -> Option Nat
 tag : Nat -> Option (Nat × Nat × Option Nat)
 gQ : Nat -> Option fK
def cF.low (θ : cF) : cF := ⟨fun _ => none, fun _ => none, θ.gQ⟩
mutual
inductive SV : cF -> EV -> EV -> Prop
 | undef {θ : cF} : SV θ .undef .undef
 | bool {θ : cF} (b : Bool) : SV θ (.bool b) (.bool b)
 | int {θ : cF} (k : IntKind) (n : Int) : SV θ (.int k n) (.int k n)
 | str {θ : cF} (s : List UInt8) : SV θ (.str s) (.str s)
 | bL {θ : cF} : SV θ .bL .bL
 | ptr {θ : cF} {b c off : Nat} (h : θ.g9 b = some c) : SV θ (.ptr b off) (.ptr c off)
 | ae {θ : cF} : SV θ .ae .ae
 | slice {θ : cF} {b c off len : Nat} {cap : Option Nat} (h : θ.g9 b = some c) : SV θ (.slice b off len cap) (.slice c off len cap)
 | bz {θ : cF} : SV θ .bz .bz
 | map {θ : cF} {b c : Nat} (h : θ.g9 b = some c) : SV θ (.map b) (.map c)
 | aO {θ : cF} : SV θ .aO .aO
 | func {θ : cF} {f : Nat} {x y x' y' : List EV} (hx : dT θ x x') (hy : dT θ y y') : SV θ (.func f x y) (.func f x' y')
 | aD {θ : cF} : SV θ .aD .aD
 | iface {θ : cF} {t : Nat} {v v' : EV} (h : SV θ v v') : SV θ (.iface t v) (.iface t v')
 | agg {θ : cF} {x x' : List EV} (h : dT θ x x') : SV θ (.agg x) (.agg x')
 | tuple {θ : cF} {x x' : List EV} (h : dT θ x x') : SV θ (.tuple x) (.tuple x')
 | fz {θ : cF} {t esz : Nat} {els : List (List EV)} {b off : Nat} {cap : Option Nat} (h : SR θ esz els b off) (ht : t = 0 \/ θ.tag t = some (b, off, cap)) (hc : ∀ c, cap = some c -> els.length <= c) : SV θ (.fz t esz els) (.slice b off els.length cap)
 | BR {θ : cF} {t esz b off : Nat} (ht : t = 0 \/ θ.tag t = some (b, off, some 0)) : SV θ (.fz t esz []) (.slice b off 0 (some 0))
 | fI {θ : cF} {esz : Nat} {els : List (List EV)} {b off i k o : Nat} (h : SR θ esz els b off) (hi : i < els.length) (ho : o = off + i * esz + k) : SV θ (.fI esz els i k) (.ptr b o)
inductive dT : cF -> List EV -> List EV -> Prop
 | nil {θ : cF} : dT θ [] []
 | cons {θ : cF} {v v' : EV} {x x' : List EV} (h : SV θ v v') (hs : dT θ x x') : dT θ (v :: x) (v' :: x')
inductive SR : cF -> Nat -> List (List EV) -> Nat -> Nat -> Prop
 | mk {θ : cF} {esz : Nat} {els : List (List EV)} {b off k : Nat} {cs : List EV} {ro : Bool} (hs : θ.gQ b = some (.cells cs esz k ro)) (hl : ∀ el ∈ els, el.length = esz) (hn : off + els.length * esz <= cs.length)
   (hx : dT θ.low els.flatten ((cs.drop off).take (els.length * esz))) : SR θ esz els b off
end
structure cF.Ext (θ θ' : cF) : Prop where
 g9 : ∀ b c, θ.g9 b = some c -> θ'.g9 b = some c
 tag : ∀ t x, θ.tag t = some x -> θ'.tag t = some x
 gQ : ∀ b B, θ.gQ b = some B -> θ'.gQ b = some B
theorem cF.Ext.refl (θ : cF) : cF.Ext θ θ := ⟨fun _ _ h => h, fun _ _ h => h, fun _ _ h => h⟩
theorem cF.Ext.trans {θ θ' θ'' : cF} (h : cF.Ext θ θ') (k : cF.Ext θ' θ'') : cF.Ext θ θ'' := ⟨fun b c e => k.g9 b c (h.g9 b c e), fun t x e => k.tag t x (h.tag t x e), fun b B e => k.gQ b B (h.gQ b B e)⟩
theorem cF.Ext.low {θ θ' : cF} (e : cF.Ext θ θ') : cF.Ext θ.low θ'.low := ⟨fun _ _ h => h, fun _ _ h => h, e.gQ⟩
theorem cF.MW (θ : cF) : cF.Ext θ.low θ := ⟨fun _ _ h => (by simp [cF.low] at h), fun _ _ h => (by simp [cF.low] at h), fun _ _ h => h⟩
mutual
theorem SV.ext : ∀ {θ θ' : cF}, cF.Ext θ θ' -> ∀ {v v' : EV}, SV θ v v' -> SV θ' v v'
 | _, _, _, _, _, .undef => .undef
 | _, _, _, _, _, .bool b => .bool b
 | _, _, _, _, _, .int k n => .int k n
 | _, _, _, _, _, .str s => .str s
 | _, _, _, _, _, .bL => .bL
 | _, _, e, _, _, .ptr h => .ptr (e.g9 _ _ h)
 | _, _, _, _, _, .ae => .ae
 | _, _, e, _, _, .slice h => .slice (e.g9 _ _ h)
 | _, _, _, _, _, .bz => .bz
 | _, _, e, _, _, .map h => .map (e.g9 _ _ h)
 | _, _, _, _, _, .aO => .aO
 | _, _, e, _, _, .func hx hy => .func (dT.ext e hx) (dT.ext e hy)
 | _, _, _, _, _, .aD => .aD
 | _, _, e, _, _, .iface h => .iface (SV.ext e h)
 | _, _, e, _, _, .agg h => .agg (dT.ext e h)
 | _, _, e, _, _, .tuple h => .tuple (dT.ext e h)
 | _, _, e, _, _, .fz h ht hc => .fz (SR.ext e h) (ht.imp id (e.tag _ _)) hc
 | _, _, e, _, _, .BR ht => .BR (ht.imp id (e.tag _ _))
 | _, _, e, _, _, .fI h hi ho => .fI (SR.ext e h) hi ho
theorem dT.ext : ∀ {θ θ' : cF}, cF.Ext θ θ' -> ∀ {v v' : List EV}, dT θ v v' -> dT θ' v v'
 | _, _, _, _, _, .nil => .nil
 | _, _, e, _, _, .cons h hs => .cons (SV.ext e h) (dT.ext e hs)
theorem SR.ext : ∀ {θ θ' : cF}, cF.Ext θ θ' -> ∀ {esz : Nat} {els : List (List EV)} {b off : Nat}, SR θ esz els b off -> SR θ' esz els b off
 | _, _, e, _, _, _, _, .mk hs hl hn hx => .mk (e.gQ _ _ hs) hl hn (dT.ext e.low hx)
end
section
variable {θ : cF}
theorem dT.length : ∀ {x x' : List EV}, dT θ x x' -> x.length = x'.length
 | _, _, .nil => rfl
 | _, _, .cons _ hs => by simp [dT.length hs]
theorem dT.get : ∀ {x x' : List EV}, dT θ x x' -> ∀ {i : Nat} {v : EV}, x[i]? = some v -> ∃ v', x'[i]? = some v' /\ SV θ v v'
 | _, _, .nil, i, v, h => by simp at h
 | _, _, .cons (v' := a') h0 hs, i, v, h => by
  cases i with
  | zero => simp at h; subst h; exact ⟨a', rfl, h0⟩
  | succ i => simp at h; obtain ⟨v', hv, hr⟩ := dT.get hs h; exact ⟨v', by simpa using hv, hr⟩
theorem dT.qU : ∀ {x x' : List EV}, x.length = x'.length -> (∀ (i : Nat) (v v' : EV), x[i]? = some v -> x'[i]? = some v' -> SV θ v v') -> dT θ x x'
 | [], [], _, _ => .nil
 | [], _ :: _, h, _ => by simp at h
 | _ :: _, [], h, _ => by simp at h
 | a :: x, a' :: x', h, hg => .cons (hg 0 a a' rfl rfl) (dT.qU (by simpa using h) fun i v v' hv rM => hg (i + 1) v v' (by simpa using hv) (by simpa using rM))
theorem dT.append : ∀ {x y x' y' : List EV}, dT θ x x' -> dT θ y y' -> dT θ (x ++ y) (x' ++ y')
 | _, _, _, _, .nil, h => h
 | _, _, _, _, .cons h hs, k => .cons h (dT.append hs k)
theorem dT.take {x x' : List EV} (h : dT θ x x') (n : Nat) : dT θ (x.take n) (x'.take n) := by
 refine dT.qU (by simp [h.length]) fun i v v' hv rM => ?_
 rw [List.getElem?_take] at hv rM
 split at hv
 ·rename_i bn
  obtain ⟨u, hu, hr⟩ := h.get hv
  rw [if_pos bn, hu] at rM; cases rM; exact hr
 ·cases hv
theorem dT.drop {x x' : List EV} (h : dT θ x x') (n : Nat) : dT θ (x.drop n) (x'.drop n) := by
 refine dT.qU (by simp [h.length]) fun i v v' hv rM => ?_
 rw [List.getElem?_drop] at hv rM
 obtain ⟨u, hu, hr⟩ := h.get hv
 rw [hu] at rM; cases rM; exact hr
theorem dT.map {α : Type} (f g : α -> EV) : ∀ {l : List α}, (∀ a ∈ l, SV θ (f a) (g a)) -> dT θ (l.map f) (l.map g)
 | [], _ => .nil
 | a :: l, h => .cons (h a (by simp)) (dT.map f g fun b hb => h b (by simp [hb]))
theorem dT.replicate {v v' : EV} (h : SV θ v v') : ∀ n : Nat, dT θ (List.replicate n v) (List.replicate n v')
 | 0 => .nil
 | n + 1 => .cons h (dT.replicate h n)
mutual
theorem SV.of_flat : ∀ {v : EV}, Flat v = true -> SV θ v v
 | .undef, _ => .undef
 | .bool b, _ => .bool b
 | .int k n, _ => .int k n
 | .str s, _ => .str s
 | .bL, _ => .bL
 | .ptr _ _, h => by simp [Flat] at h
 | .ae, _ => .ae
 | .slice _ _ _ _, h => by simp [Flat] at h
 | .bz, _ => .bz
 | .map _, h => by simp [Flat] at h
 | .aO, _ => .aO
 | .func f x y, h => by simp only [Flat, pI] at h; exact .func (dT.of_flat h.1) (dT.of_flat h.2)
 | .aD, _ => .aD
 | .iface t v, h => .iface (SV.of_flat (by simpa only [Flat] using h))
 | .agg x, h => .agg (dT.of_flat (by simpa only [Flat] using h))
 | .tuple x, h => .tuple (dT.of_flat (by simpa only [Flat] using h))
 | .fz _ _ _, h => by simp [Flat] at h
 | .fI _ _ _ _, h => by simp [Flat] at h
theorem dT.of_flat : ∀ {x : List EV}, fw x = true -> dT θ x x
 | [], _ => .nil
 | v :: x, h => by simp only [fw, pI] at h; exact .cons (SV.of_flat h.1) (dT.of_flat h.2)
end
mutual
theorem SV.flat : ∀ {v v' : EV}, SV θ v v' -> Flat v = true -> v' = v
 | _, _, .undef, _ | _, _, .bool _, _ | _, _, .int _ _, _ | _, _, .str _, _ | _, _, .bL, _ | _, _, .ae, _ | _, _, .bz, _ | _, _, .aO, _ | _, _, .aD, _ => rfl
 | _, _, .ptr _, h => by simp [Flat] at h
 | _, _, .slice _, h => by simp [Flat] at h
 | _, _, .map _, h => by simp [Flat] at h
 | _, _, .func hx hy, h => by simp only [Flat, pI] at h; rw [dT.flat hx h.1, dT.flat hy h.2]
 | _, _, .iface hv, h => by rw [SV.flat hv (by simpa only [Flat] using h)]
 | _, _, .agg hx, h => by rw [dT.flat hx (by simpa only [Flat] using h)]
 | _, _, .tuple hx, h => by rw [dT.flat hx (by simpa only [Flat] using h)]
 | _, _, .fz _ _ _, h => by simp [Flat] at h
 | _, _, .BR _, h => by simp [Flat] at h
 | _, _, .fI _ _ _, h => by simp [Flat] at h
theorem dT.flat : ∀ {x x' : List EV}, dT θ x x' -> fw x = true -> x' = x
 | _, _, .nil, _ => rfl
 | _, _, .cons h hs, k => by simp only [fw, pI] at k; rw [SV.flat h k.1, dT.flat hs k.2]
end
mutual
theorem SV.fn : ∀ {a b c : EV}, SV θ a b -> SV θ a c -> Told a = true -> b = c
 | _, _, _, .undef, h, _ => by cases h; rfl
 | _, _, _, .bool _, h, _ => by cases h; rfl
 | _, _, _, .int _ _, h, _ => by cases h; rfl
 | _, _, _, .str _, h, _ => by cases h; rfl
 | _, _, _, .bL, h, _ => by cases h; rfl
 | _, _, _, .ptr h, k, _ => by cases k with | ptr k => rw [h] at k; cases k; rfl
 | _, _, _, .ae, h, _ => by cases h; rfl
 | _, _, _, .slice h, k, _ => by cases k with | slice k => rw [h] at k; cases k; rfl
 | _, _, _, .bz, h, _ => by cases h; rfl
 | _, _, _, .map h, k, _ => by cases k with | map k => rw [h] at k; cases k; rfl
 | _, _, _, .aO, h, _ => by cases h; rfl
 | _, _, _, .func hx hy, k, t => by
  simp only [Told, pI] at t
  cases k with | func kx ky => rw [dT.fn hx kx t.1, dT.fn hy ky t.2]
 | _, _, _, .aD, h, _ => by cases h; rfl
 | _, _, _, .iface h, k, t => by cases k with | iface k => rw [SV.fn h k (by simpa only [Told] using t)]
 | _, _, _, .agg h, k, t => by cases k with | agg k => rw [dT.fn h k (by simpa only [Told] using t)]
 | _, _, _, .tuple h, k, t => by cases k with | tuple k => rw [dT.fn h k (by simpa only [Told] using t)]
 | _, _, _, .fz _ ht _, k, t => by
  simp only [Told, pI, Bool.not_eq_true'] at t;have iM := jZ t.1
  cases k with
  | fz _ kt _ =>
   rcases ht with ht | ht
   ·exact absurd ht iM
   ·rcases kt with kt | kt
    ·exact absurd kt iM
    ·rw [ht] at kt; cases kt; rfl
  | BR kt =>
   rcases ht with ht | ht
   ·exact absurd ht iM
   ·rcases kt with kt | kt
    ·exact absurd kt iM
    ·rw [ht] at kt; cases kt; rfl
 | _, _, _, .BR ht, k, t => by
  simp only [Told, pI, Bool.not_eq_true'] at t;have iM := jZ t.1
  generalize hn : ([] : List (List EV)) = els at k
  cases k with
  | fz _ kt _ =>
   subst hn;rcases ht with ht | ht
   ·exact absurd ht iM
   ·rcases kt with kt | kt
    ·exact absurd kt iM
    ·rw [ht] at kt; cases kt; rfl
  | BR kt =>
   rcases ht with ht | ht
   ·exact absurd ht iM
   ·rcases kt with kt | kt
    ·exact absurd kt iM
    ·rw [ht] at kt; cases kt; rfl
 | _, _, _, .fI _ _ _, _, t => by simp [Told] at t
theorem dT.fn : ∀ {a b c : List EV}, dT θ a b -> dT θ a c -> kG a = true -> b = c
 | _, _, _, .nil, h, _ => by cases h; rfl
 | _, _, _, .cons h hs, k, t => by
  simp only [kG, pI] at t
  cases k with | cons k ks => rw [SV.fn h k t.1, dT.fn hs ks t.2]
end
mutual
theorem SV.told : ∀ {a b : EV}, SV θ a b -> Told b = true
 | _, _, .undef | _, _, .bool _ | _, _, .int _ _ | _, _, .str _ | _, _, .bL | _, _, .ptr _ | _, _, .ae | _, _, .slice _ | _, _, .bz | _, _, .map _ | _, _, .aO | _, _, .aD | _, _, .fz _ _ _ | _, _, .BR _ | _, _, .fI _ _ _ => rfl
 | _, _, .func hx hy => by simp only [Told, dT.told hx, dT.told hy, Bool.and_self]
 | _, _, .iface h => by simp only [Told]; exact SV.told h
 | _, _, .agg h => by simp only [Told]; exact dT.told h
 | _, _, .tuple h => by simp only [Told]; exact dT.told h
theorem dT.told : ∀ {a b : List EV}, dT θ a b -> kG b = true
 | _, _, .nil => rfl
 | _, _, .cons h hs => by simp only [kG, SV.told h, dT.told hs, Bool.and_self]
end
mutual
theorem sv : ∀ {a : EV}, EV.same a a = true -> Told a = true
 | .undef, _ | .bool _, _ | .int _ _, _ | .str _, _ | .bL, _ | .ptr _ _, _ | .ae, _ | .slice _ _ _ _, _ | .bz, _ | .map _, _ | .aO, _ | .aD, _ => rfl
 | .func f x y, h => by
  simp only [EV.same, Nat.beq_refl, cond_true] at h
  cases hx : EV.ma x x <;> simp only [hx, cond_true, cond_false, re] at h
  simp only [Told, iz hx, iz h, Bool.and_self]
 | .iface t v, h => by simp only [EV.same, Nat.beq_refl, cond_true] at h; simp only [Told]; exact sv h
 | .agg x, h => by simp only [EV.same] at h; simp only [Told]; exact iz h
 | .tuple x, h => by simp only [EV.same] at h; simp only [Told]; exact iz h
 | .fz t e els, h => by
  simp only [EV.same, Nat.beq_refl, cond_true] at h
  cases ht : t.beq 0 <;> simp only [ht, cond_true, cond_false, re] at h
  simp only [Told, ht, Bool.not_false, Bool.true_and];exact ri h
 | .fI _ _ _ _, h => by simp [EV.same] at h
theorem iz : ∀ {a : List EV}, EV.ma a a = true -> kG a = true
 | [], _ => rfl
 | v :: x, h => by
  simp only [EV.ma] at h
  cases hx : EV.same v v <;> simp only [hx, cond_true, cond_false, re] at h
  simp only [kG, sv hx, iz h, Bool.and_self]
theorem ri : ∀ {a : List (List EV)}, EV.qT a a = true -> Ba a = true
 | [], _ => rfl
 | v :: x, h => by
  simp only [EV.qT] at h
  cases hx : EV.ma v v <;> simp only [hx, cond_true, cond_false, re] at h
  simp only [Ba, iz hx, ri h, Bool.and_self]
end
theorem SV.same {a b a' b' : EV} (ha : SV θ a a') (hb : SV θ b b') (h : EV.same a b = true) : EV.same a' b' = true := by
 have e := Cm h
 subst e;rw [SV.fn ha hb (sv h)];exact rq _ hb.told
theorem SV.cells {v v' : EV} {cs : List EV} (h : SV θ v v') (hc : v.cells = some cs) : ∃ lT, v'.cells = some lT /\ dT θ cs lT := by
 cases h <;> simp only [EV.cells, reduceCtorEq, bf] at hc <;> subst hc
 case agg h => exact ⟨_, rfl, h⟩
 case BR h => exact ⟨_, rfl, .cons (.BR h) .nil⟩
 all_goals exact ⟨_, rfl, .cons (by constructor <;> assumption) .nil⟩
theorem dT.part {x x' : List EV} (h : dT θ x x') {g : Option Nat} {off : Nat} {v : EV} (hp : partOf g x off = some v) : ∃ v', partOf g x' off = some v' /\ SV θ v v' := by
 cases g with
 | none => exact h.get hp
 | some n =>
  simp only [partOf] at hp ⊢
  rw [<- h.length]
  cases hb : (off + n).ble x.length <;> simp only [hb, cond_true, cond_false, reduceCtorEq, bf] at hp ⊢
  subst hp;exact ⟨_, rfl, .agg ((h.drop off).take n)⟩
theorem dT.iW {x x' vs uE r : List EV} (h : dT θ x x') (hv : dT θ vs uE) {off : Nat} (hp : Ev.iW x off vs = some r) : ∃ r', Ev.iW x' off uE = some r' /\ dT θ r r' := by
 unfold Ev.iW at hp ⊢
 rw [<- h.length, <- hv.length]
 cases hb : (off + vs.length).ble x.length <;> simp only [hb, cond_true, cond_false, reduceCtorEq, bf] at hp ⊢
 subst hp;exact ⟨_, rfl, ((h.take off).append hv).append (h.drop _)⟩
end
inductive nJ (θ : cF) : List (EV × EV) -> List (EV × EV) -> Prop
 | nil : nJ θ [] []
 | cons {k v k' v' : EV} {x x' : List (EV × EV)} (hk : SV θ k k') (hv : SV θ v v') (h : nJ θ x x') : nJ θ ((k, v) :: x) ((k', v') :: x')
theorem nJ.ext {θ θ' : cF} (e : cF.Ext θ θ') : ∀ {x x' : List (EV × EV)}, nJ θ x x' -> nJ θ' x x'
 | _, _, .nil => .nil
 | _, _, .cons hk hv h => .cons (hk.ext e) (hv.ext e) (nJ.ext e h)
def Mu (θ : cF) : fK -> fK -> Prop
 | .dead, _ => True
 | .cells cs e k ro, B => ∃ lT, B = .cells lT e k ro /\ dT θ cs lT
 | .map es, B => ∃ q9, B = .map q9 /\ nJ θ es q9
theorem Mu.ext {θ θ' : cF} (e : cF.Ext θ θ') {B B' : fK} (h : Mu θ B B') : Mu θ' B B' := by
 cases B with
 | dead => trivial
 | cells cs k t ro => obtain ⟨lT, h1, h2⟩ := h; exact ⟨lT, h1, h2.ext e⟩
 | map es => obtain ⟨q9, h1, h2⟩ := h; exact ⟨q9, h1, h2.ext e⟩
structure MemB (θ : cF) (m m' : Mem) : Prop where
 de : ∀ b c, θ.g9 b = some c -> Mu θ (m.get b) (m'.get c)
 cl : ∀ b, θ.g9 b = none -> m.get b = .dead
structure MemS (θ : cF) (m m' : Mem) : Prop extends MemB θ m m' where
 gQ : ∀ b B, θ.gQ b = some B -> m'.get b = B
structure qR (θ : cF) (n n' : Nat) : Prop where
 g9 : ∀ b c, θ.g9 b = some c -> b < n /\ c < n'
 inj : ∀ a b c, θ.g9 a = some c -> θ.g9 b = some c -> a = b
 off : ∀ b c, θ.g9 b = some c -> θ.gQ c = none
 gQ : ∀ b B, θ.gQ b = some B -> b < n'
theorem MemB.ext {θ θ' : cF} {m m' : Mem} (h : MemB θ m m') (e : cF.Ext θ θ') (hd : ∀ b c, θ.g9 b = none -> θ'.g9 b = some c -> m.get b = .dead) : MemB θ' m m' := by
 refine ⟨fun b c hb => ?_, fun b hb => ?_⟩
 ·cases hr : θ.g9 b with
  | none => rw [h.cl b hr]; trivial
  | some d =>
   have := e.g9 b d hr
   rw [hb] at this; cases this
   exact (h.de b c hr).ext e
 ·cases hr : θ.g9 b with
  | none => exact h.cl b hr
  | some d => rw [e.g9 b d hr] at hb; cases hb
def cF.more (θ : cF) (b c : Nat) : cF := ⟨fun x => if x = b then some c else θ.g9 x, θ.tag, θ.gQ⟩
structure Ak (θ : cF) (b c : Nat) : Prop where
 l : θ.g9 b = none
 r : ∀ a, θ.g9 a ≠ some c
 s : θ.gQ c = none
theorem qR.fresh {θ : cF} {n n' : Nat} (h : qR θ n n') {b c : Nat} (hb : n <= b) (hc : n' <= c) : Ak θ b c := by
 refine ⟨?_, fun a ha => ?_, ?_⟩
 ·cases e : θ.g9 b with
  | none => rfl
  | some d => have := (h.g9 b d e).1; omega
 ·have := (h.g9 a c ha).2; omega
 ·cases e : θ.gQ c with
  | none => rfl
  | some d => have := h.gQ c d e; omega
theorem Ak.ext {θ : cF} {b c : Nat} (h : Ak θ b c) : cF.Ext θ (θ.more b c) := by
 refine ⟨fun x y e => ?_, fun _ _ e => e, fun _ _ e => e⟩
 show (if x = b then some c else θ.g9 x) = some y
 by_cases hx : x = b
 ·subst hx; rw [h.l] at e; cases e
 ·rw [if_neg hx]; exact e
theorem ot {θ : cF} {b c : Nat} : (θ.more b c).g9 b = some c := if_pos rfl
theorem qR.more {θ : cF} {n n' b c : Nat} (h : qR θ n n') (f : Ak θ b c) {k k' : Nat} (hb : b < k) (hc : c < k') (hk : n <= k) (oP : n' <= k') : qR (θ.more b c) k k' := by
 have g9 : ∀ x y, (θ.more b c).g9 x = some y -> (x = b /\ y = c) \/ θ.g9 x = some y := by
  intro x y e
  have e' : (if x = b then some c else θ.g9 x) = some y := e
  by_cases hx : x = b
  ·rw [if_pos hx] at e'; cases e'; exact .inl ⟨hx, rfl⟩
  ·rw [if_neg hx] at e'; exact .inr e'
 refine ⟨fun x y e => ?_, fun x y z e1 e2 => ?_, fun x y e => ?_, fun x B e => ?_⟩
 ·rcases g9 x y e with ⟨rfl, rfl⟩ | e
  ·exact ⟨hb, hc⟩
  ·have := h.g9 x y e; omega
 ·rcases g9 x z e1 with ⟨rfl, rfl⟩ | e1 <;> rcases g9 y _ e2 with ⟨h1, h2⟩ | e2
  ·exact h1.symm
  ·exact absurd e2 (f.r y)
  ·exact absurd e1 (h2 ▸ f.r x)
  ·exact h.inj x y z e1 e2
 ·rcases g9 x y e with ⟨rfl, rfl⟩ | e
  ·exact f.s
  ·exact h.off x y e
 ·have := h.gQ x B e; omega
theorem MemS.more {θ : cF} {m m' : Mem} {b c : Nat} (h : MemS θ m m') (f : Ak θ b c) {B B' : fK} (hB : Mu (θ.more b c) B B') : MemS (θ.more b c) (Mem.new ⟨b, m.gH⟩ B) (Mem.new ⟨c, m'.gH⟩ B') := by
 have g1 : ∀ x, (Mem.new ⟨b, m.gH⟩ B).get x = if x = b then B else m.get x := fun x => fq
 have g2 : ∀ x, (Mem.new ⟨c, m'.gH⟩ B').get x = if x = c then B' else m'.get x := fun x => fq
 refine ⟨⟨fun x y e => ?_, fun x e => ?_⟩, fun x C e => ?_⟩
 ·have e' : (if x = b then some c else θ.g9 x) = some y := e
  by_cases hx : x = b
  ·rw [if_pos hx] at e'; cases e'
   rw [g1, g2, if_pos hx, if_pos rfl]; exact hB
  ·rw [if_neg hx] at e'
   have hy : y ≠ c := fun q => f.r x (q ▸ e')
   rw [g1, g2, if_neg hx, if_neg hy]; exact (h.de x y e').ext f.ext
 ·have e' : (if x = b then some c else θ.g9 x) = none := e
  by_cases hx : x = b
  ·rw [if_pos hx] at e'; cases e'
  ·rw [if_neg hx] at e'; rw [g1, if_neg hx]; exact h.cl x e'
 ·have hx : x ≠ c := fun q => by
   have e' : θ.gQ x = some C := e
   subst q; rw [f.s] at e'; cases e'
  rw [g2, if_neg hx]; exact h.gQ x C e
theorem MemS.set {θ : cF} {m m' : Mem} {n n' b c : Nat} (h : MemS θ m m') (k : qR θ n n') (hb : θ.g9 b = some c) {B B' : fK} (hB : Mu θ B B') : MemS θ (m.set b B) (m'.set c B') := by
 refine ⟨⟨fun x y e => ?_, fun x e => ?_⟩, fun x C e => ?_⟩
 ·by_cases hx : x = b
  ·subst hx; rw [hb] at e; cases e
   rw [bJ, bJ]; exact hB
  ·have hy : y ≠ c := fun q => hx (k.inj x b c (q ▸ e) hb)
   rw [az hx, az hy]; exact h.de x y e
 ·have hx : x ≠ b := fun q => by subst q; rw [hb] at e; cases e
  rw [az hx]; exact h.cl x e
 ·have hx : x ≠ c := fun q => by subst q; rw [k.off b x hb] at e; cases e
  rw [az hx]; exact h.gQ x C e
end
section
def lc (l : List (List UInt8)) : List (List EV) := l.map fun s => [.str s]
def Wd (l : List (List UInt8)) : EV := .fI 1 [[.fz 0 1 (lc l)]] 0 0
def SF : EV -> EV
 | .ptr g 0 => match FW g with
  | some l => Wd l
  | none => .ptr g 0
 | v => v
def Rc : EV -> Bool
 | .ptr g 0 => (FW g).isSome
 | _ => false
def jE : aW -> aW
 | .tmp t => .tmp t
 | .const v => .const (SF v)
def ZC (l : List Int) : fK := .cells (l.map (.int .u64)) 1 0 true
def mG (θ : cF) : Prop := (∀ g l, FW g = some l -> SV θ (Wd l) (.ptr g 0)) /\ ∀ g l, tabl g = some l -> θ.gQ g = some (ZC l)
theorem mG.ext {θ θ' : cF} (h : mG θ) (e : cF.Ext θ θ') : mG θ' := ⟨fun g l hg => (h.1 g l hg).ext e, fun g l hg => e.gQ _ _ (h.2 g l hg)⟩
theorem SR.abg {θ : cF} {esz : Nat} {els : List (List EV)} {b off : Nat} (h : SR θ esz els b off) : SR θ.low esz els b off := by
 cases h with | mk hs hl hn hx => exact .mk hs hl hn hx
theorem mG.down {θ θ' : cF} (h : mG θ) (e : cF.Ext θ.low θ') : mG θ' := by
 refine ⟨fun g l hg => ?_, fun g l hg => e.gQ _ _ (h.2 g l hg)⟩
 have := h.1 g l hg
 unfold Wd at this ⊢
 cases this with | fI hr hi ho => exact .fI (hr.abg.ext e) hi ho
structure gM (θ : cF) (m m' : Mem) : Prop extends MemS θ m m' where
 ok : qR θ m.next m'.next
 Fy : mG θ
theorem Ge {v : EV} (h : Flat v = true) : SF v = v := by
 cases v <;> first | rfl | (simp [Flat] at h)
theorem SE {θ : cF} (hg : mG θ) {v : EV} (h : (Flat v || Rc v) = true) : SV θ (SF v) v := by
 cases hf : Flat v with
 | true => rw [Ge hf]; exact SV.of_flat hf
 | false =>
  rw [hf, Bool.false_or] at h
  cases v with
  | ptr g off =>
   cases off with
   | zero =>
    simp only [Rc] at h
    cases Rw : FW g with
    | none => rw [Rw] at h; cases h
    | some l => simp only [SF, Rw]; exact hg.1 g l Rw
   | succ n => simp [Rc] at h
  | _ => simp [Rc] at h
def lD.xh (f : aW -> aW) : lD -> lD
 | .aa x => .aa (f x)
 | .pick c a b => .pick (f c) (f a) (f b)
 | .alloc e z => .alloc e z
 | .box e x => .box e (f x)
 | .build z ps => .build z (ps.map fun p => (p.1, p.2.1, f p.2.2))
 | .bt e z n zr ps => .bt e z n zr (ps.map fun p => (p.1, f p.2))
 | .load a x => .load a (f x)
 | .store n a x => .store n (f a) (f x)
 | .cy x => .cy (f x)
 | .bin o x y => .bin o (f x) (f y)
 | .eq n t x y => .eq n t (f x) (f y)
 | .un o x => .un o (f x)
 | .conv c x => .conv c (f x)
 | .iface t x => .iface t (f x)
 | .BL g a c => .BL g (a.map f) (c.map f)
 | .uT => .uT
 | .lL e z zr l c => .lL e z zr (f l) (f c)
 | .gd x l h => .gd (f x) (l.map f) (h.map f)
 | .uL e x l h m => .uL e (f x) (l.map f) (h.map f) (m.map f)
 | .xo n e x l h m => .xo n e (f x) (l.map f) (h.map f) (m.map f)
 | .aj o x => .aj o (f x)
 | .AX a o x => .AX a o (f x)
 | .cS e x i => .cS e (f x) (f i)
 | .ny n e x i => .ny n e (f x) (f i)
 | .eu x i => .eu (f x) (f i)
 | .uY n e a x i => .uY n e a (f x) (f i)
 | .lookup k z o m x => .lookup k z o (f m) (f x)
 | .pg k m x y => .pg k (f m) (f x) (f y)
 | .delete k m x => .delete k (f m) (f x)
 | .qX m => .qX (f m)
 | .pT t x => .pT t (f x)
 | .extract x i => .extract (f x) i
 | .len x => .len (f x)
 | .cD x => .cD (f x)
 | .uX n => .uX n
 | .cap x => .cap (f x)
 | .max l => .max (l.map f)
 | .min l => .min (l.map f)
 | .append e z b s x => .append e z b (f s) (f x)
 | .copy e d s => .copy e (f d) (f s)
theorem Qg {f : aW -> aW} {op : lD} : cW (op.xh f) = cW op := by
 cases op with
 | conv c x => cases c <;> rfl
 | _ => rfl
theorem GM {ρ : aW -> EV} {f : aW -> aW} {op : lD} {m : Mem} : aB ρ (op.xh f) m = aB (fun x => ρ (f x)) op m := by
 cases op with
 | uL e x l h mx =>
  simp only [lD.xh, aB, Option.map_map, Function.comp_def]
  cases mx <;> rfl
 | _ => first | rfl | (simp only [lD.xh, aB, List.map_map, Option.map_map, Function.comp_def])
theorem kB {α : Type} {f : α -> α} : ∀ {l : List α}, (∀ x ∈ l, f x = x) -> l.map f = l
 | [], _ => rfl
 | a :: l, h => by rw [List.map_cons, h a (by simp), kB fun x hx => h x (by simp [hx])]
theorem nk {f : aW -> aW} {o : Option aW} (h : ∀ x ∈ Eg o, f x = x) : o.map f = o := by
 cases o with
 | none => rfl
 | some x => rw [Option.map_some, h x (by simp [Eg])]
theorem OX {f : aW -> aW} {op : lD} (h : ∀ x ∈ iA op, f x = x) : op.xh f = op := by
 cases op with
 | build z ps =>
  simp only [lD.xh];rw [kB fun p hp => by rw [h p.2.2 (by simp only [iA, List.mem_map]; exact ⟨p, hp, rfl⟩)]]
 | bt e z n zr ps =>
  simp only [lD.xh];rw [kB fun p hp => by rw [h p.2 (by simp only [iA, List.mem_map]; exact ⟨p, hp, rfl⟩)]]
 | BL g a c =>
  simp only [lD.xh];rw [kB fun x hx => h x (by simp only [iA, yb]; exact .inl hx), kB fun x hx => h x (by simp only [iA, yb]; exact .inr hx)]
 | gd x l hh =>
  simp only [lD.xh];rw [h x (by simp [iA]), nk fun y hy => h y (by simp only [iA, oU, yb]; exact .inr (.inl hy)), nk fun y hy => h y (by simp only [iA, oU, yb]; exact .inr (.inr hy))]
 | uL e x l hh mm =>
  simp only [lD.xh];rw [h x (by simp [iA]), nk fun y hy => h y (by simp only [iA, oU, yb]; exact .inr (.inl hy)), nk fun y hy => h y (by simp only [iA, oU, yb]; exact .inr (.inr (.inl hy))), nk fun y hy => h y (by simp only [iA, oU, yb]; exact .inr (.inr (.inr hy)))]
 | xo n e x l hh mm =>
  simp only [lD.xh];rw [h x (by simp [iA]), nk fun y hy => h y (by simp only [iA, oU, yb]; exact .inr (.inl hy)), nk fun y hy => h y (by simp only [iA, oU, yb]; exact .inr (.inr (.inl hy))), nk fun y hy => h y (by simp only [iA, oU, yb]; exact .inr (.inr (.inr hy)))]
 | max l => simp only [lD.xh]; rw [kB fun x hx => h x (by simp only [iA]; exact hx)]
 | min l => simp only [lD.xh]; rw [kB fun x hx => h x (by simp only [iA]; exact hx)]
 | _ => simp only [iA, oU, List.not_mem_nil, or_false, forall_eq_or_imp, forall_eq] at h <;> simp only [lD.xh, h]
def Aq.sub : Aq -> Aq
 | .val op => .val (op.xh jE)
 | .call f xs => .call (jE f) (xs.map jE)
 | .panic x => .panic (jE x)
 | .defer f xs => .defer (jE f) (xs.map jE)
def ba.sub (o : ba) : ba := ⟨o.dst, o.op.sub, o.guard⟩
def aE.sub : aE -> aE
 | .skip => .skip
 | .region ops => .region (ops.map ba.sub)
 | .draw ops chk => .draw (ops.map ba.sub) chk
 | .seq a b => .seq a.sub b.sub
 | .cond c a b => .cond (jE c) a.sub b.sub
 | .block id a => .block id a.sub
 | .loop a => .loop a.sub
 | .exit id => .exit id
 | .ret => .ret
def au.sub (F : au) : au := ⟨F.ntmps, F.body.sub, F.results⟩
def Va : aW -> Bool
 | .tmp _ => true
 | .const v => Flat v
def QL (x : Aq) : Bool := (oV x).all Va
def rD : aE -> Bool
 | .region ops | .draw ops _ => ops.all fun o => QL o.op
 | .seq a b => rD a && rD b
 | .cond c a b => Va c && rD a && rD b
 | .block _ a | .loop a => rD a
 | _ => true
theorem Jm {x : aW} (h : Va x = true) : jE x = x := by
 cases x with
 | tmp t => rfl
 | const v => simp only [jE, Ge (show Flat v = true from h)]
theorem OP {x : Aq} (h : QL x = true) : x.sub = x := by
 have hx : ∀ y ∈ oV x, jE y = y := fun y hy => Jm (List.all_eq_true.1 h y hy)
 cases x with
 | val op => simp only [Aq.sub]; rw [OX hx]
 | call f xs =>
  simp only [Aq.sub];rw [hx f (by simp [oV]), kB fun y hy => hx y (by simp [oV, hy])]
 | panic y => simp only [Aq.sub]; rw [hx y (by simp [oV])]
 | defer f xs =>
  simp only [Aq.sub];rw [hx f (by simp [oV]), kB fun y hy => hx y (by simp [oV, hy])]
theorem Gq {ops : List ba} (h : ops.all (fun o => QL o.op) = true) : ops.map ba.sub = ops :=
 kB fun o ho => by unfold ba.sub; rw [OP (List.all_eq_true.1 h o ho)]
theorem my : ∀ {c : aE}, rD c = true -> c.sub = c
 | .skip, _ => rfl
 | .region ops, h => by simp only [aE.sub]; rw [Gq (by simpa only [rD] using h)]
 | .draw ops chk, h => by simp only [aE.sub]; rw [Gq (by simpa only [rD] using h)]
 | .seq a b, h => by simp only [rD, pI] at h; simp only [aE.sub]; rw [my h.1, my h.2]
 | .cond c a b, h => by simp only [rD, pI] at h; simp only [aE.sub]; rw [Jm h.1.1, my h.1.2, my h.2]
 | .block id a, h => by simp only [rD] at h; simp only [aE.sub]; rw [my h]
 | .loop a, h => by simp only [rD] at h; simp only [aE.sub]; rw [my h]
 | .exit id, _ => rfl
 | .ret, _ => rfl
end
section
def Bn : aW -> Bool
 | .tmp _ => true
 | .const v => Flat v || Rc v
def Lh : lD -> Bool
 | .alloc _ z | .build z _ | .bt _ _ _ z _ | .lL _ _ z _ _ => fw z
 | .lookup _ z _ _ _ => Flat z
 | _ => true
def QC (op : lD) : Bool := (iA op).all Bn && Lh op
def ya (θ : cF) (ρ ρ' : aW -> EV) : Prop := ∀ x, Bn x = true -> SV θ (ρ x) (ρ' x)
def IC (θ : cF) (m m' : Mem) (v : EV) (m1 : Mem) (o : Option R1) : Prop :=
 ∃ v' fU, o = some (.val v' fU) /\
  ((SV θ v v' /\ MemS θ m1 fU /\ m1.next = m.next /\ fU.next = m'.next) \/
   (SV (θ.more m.next m'.next) v v' /\ MemS (θ.more m.next m'.next) m1 fU /\ m1.next = m.next + 1 /\ fU.next = m'.next + 1)) /\
  (∀ c, c ≠ m'.next -> (∀ b, θ.g9 b ≠ some c) -> fU.get c = m'.get c)
section
variable {θ : cF} {m m' m1 : Mem} {v : EV} {o : Option R1} {n n' : Nat} {ρ ρ' : aW -> EV}
theorem IC.here (hm : MemS θ m m') (h1 : m1 = m) {v' : EV} (hv : SV θ v v') : IC θ m m' v m1 (some (.val v' m')) := by
 subst h1; exact ⟨v', m', rfl, .inl ⟨hv, hm, rfl, rfl⟩, fun _ _ _ => rfl⟩
theorem IC.new (hm : MemS θ m m') (f : Ak θ m.next m'.next) {B B' : fK} {v' : EV} (hB : Mu (θ.more m.next m'.next) B B') (hv : SV (θ.more m.next m'.next) v v') : IC θ m m' v (m.new B) (some (.val v' (m'.new B'))) :=
 ⟨v', _, rfl, .inr ⟨hv, hm.more f hB, rfl, rfl⟩, fun c hc _ => by rw [fq, if_neg hc]⟩
theorem TN {b : Bool} {v' : EV} (h : SV θ (.bool b) v') : v' = .bool b := by cases h; rfl
theorem Rf {k : IntKind} {i : Int} {v' : EV} (h : SV θ (.int k i) v') : v' = .int k i := by cases h; rfl
theorem zg {N i : Nat} {x x' : EV} (hx : SV θ x x') (h : idx N x = some i) : idx N x' = some i := by
 cases hx <;> first | exact h | simp [idx] at h
theorem fC {lo : Option aW} (hl : ∀ x, lo = some x -> SV θ (ρ x) (ρ' x)) {d N i : Nat} (h : aw (lo.map ρ) d N = some i) : aw (lo.map ρ') d N = some i := by
 cases lo with
 | none => exact h
 | some x =>
  have hx := hl x rfl
  simp only [Option.map_some] at h ⊢
  generalize ρ x = a at hx h
  generalize ρ' x = a' at hx
  cases hx <;> first | exact h | simp [aw] at h
theorem EQ : ∀ (ps : List (Nat × Nat × EV)) (Xi : List (Nat × Nat × EV)) (cs lT r : List EV), ps.map (fun p => (p.1, p.2.1)) = Xi.map (fun p => (p.1, p.2.1)) -> dT θ (ps.map (·.2.2)) (Xi.map (·.2.2)) -> dT θ cs lT -> fB cs ps = some r -> ∃ r', fB lT Xi = some r' /\ dT θ r r'
 | [], [], cs, lT, r, _, _, mg, h => by simp only [fB, bf] at h ⊢; subst h; exact ⟨_, rfl, mg⟩
 | [], _ :: _, _, _, _, he, _, _, _ => by simp at he
 | _ :: _, [], _, _, _, he, _, _, _ => by simp at he
 | (off, size, v) :: ps, (afh, aed, v') :: Xi, cs, lT, r, he, hv, mg, h => by
  simp only [List.map_cons, List.cons.injEq, eO] at he;obtain ⟨⟨rfl, rfl⟩, he⟩ := he
  cases hv with
  | cons hv yd =>
  simp only [fB] at h ⊢
  cases hc : v.cells with
  | none => simp [hc] at h
  | some vs =>
   obtain ⟨uE, Yb, hs⟩ := hv.cells hc
   simp only [hc, Yb, <- hs.length] at h ⊢
   cases hb : vs.length.beq size <;> simp only [hb, cond_true, cond_false, reduceCtorEq] at h ⊢
   cases hp : iW cs off vs with
   | none => simp [hp] at h
   | some q =>
    obtain ⟨q', hp', hq⟩ := mg.iW hs hp
    simp only [hp, hp'] at h ⊢
    exact EQ ps Xi _ _ _ he yd hq h
theorem zE {z : List EV} (hz : fw z = true) : ∀ n : Nat, fw (eD n z) = true := by
 have app : ∀ a b : List EV, fw a = true -> fw b = true -> fw (a ++ b) = true := by
  intro a b ha hb
  induction a with
  | nil => exact hb
  | cons x a ih => simp only [fw, pI] at ha; simp only [List.cons_append, fw, ha.1, ih ha.2, Bool.and_self]
 intro n
 induction n with
 | zero => rfl
 | succ n ih => unfold eD at ih ⊢; rw [List.replicate_succ, List.flatten_cons]; exact app _ _ hz ih
theorem Q0 {esz i k : Nat} {els : List (List EV)} {a' : EV} (ha : SV θ (.fI esz els i k) a') {g : Option Nat} (h : m.load g (.fI esz els i k) = some v) : ∃ v', SV θ v v' /\ ∀ q : Mem, (∀ c B, θ.gQ c = some B -> q.get c = B) -> q.load g a' = some v' := by
 cases ha with
 | @fI _ _ _ b off _ _ o hr hi ho =>
  simp only [Mem.load] at h
  cases hr with
  | @mk _ _ _ _ _ kk cs ro Pa hl hn Te =>
  have hx := Te.ext θ.MW
  rw [nc hi] at h;simp only at h
  have EI : els[i].length = esz := hl _ (Mv hi)
  -- the W5 cells, in the row
  have key : ∀ (L : List (List EV)) (i : Nat) (hi : i < L.length), (∀ el ∈ L, el.length = esz) -> (L.flatten.drop (i * esz)).take esz = L[i] := by
   intro L
   induction L with
   | nil => intro i hi; simp at hi
   | cons e L ih =>
    intro i hi hl
    have he : e.length = esz := hl e (by simp)
    cases i with
    | zero => simp [he]
    | succ i =>
     have := ih i (by simpa using hi) (fun el h => hl el (by simp [h]))
     rw [List.flatten_cons, Nat.succ_mul, Nat.add_comm, <- List.drop_drop, show (e ++ L.flatten).drop esz = L.flatten by rw [<- he]; simp]
     simpa using this
  have Tg : dT θ els[i] ((cs.drop (off + i * esz)).take esz) := by
   have h1 := ((hx.drop (i * esz)).take esz)
   rw [key els i hi hl] at h1;have h2 : (((cs.drop off).take (els.length * esz)).drop (i * esz)).take esz = (cs.drop (off + i * esz)).take esz := by
    have : i * esz + esz <= els.length * esz := by rw [<- Nat.succ_mul]; exact Nat.mul_le_mul_right _ hi
    rw [List.drop_take, List.drop_drop, List.take_take, Nat.min_eq_left (by omega)]
   rw [h2] at h1; exact h1
  obtain ⟨v', hp, hv⟩ := Tg.part h
  refine ⟨v', hv, fun Q hQ => ?_⟩
  have uA := hQ _ _ Pa
  simp only [Mem.load, uA];subst ho;have hlen : off + i * esz + esz <= cs.length := by
   have : i * esz + esz <= els.length * esz := by rw [<- Nat.succ_mul]; exact Nat.mul_le_mul_right _ hi
   omega
  cases g with
  | none =>
   simp only [partOf] at hp ⊢
   rw [List.getElem?_take] at hp
   split at hp
   ·rw [List.getElem?_drop] at hp; exact hp
   ·cases hp
  | some q =>
   simp only [partOf] at hp ⊢
   have Pe : ((cs.drop (off + i * esz)).take esz).length = esz := by rw [List.length_take, uy]; omega
   rw [Pe] at hp
   cases hb : (k + q).ble esz <;> simp only [hb, cond_true, cond_false, reduceCtorEq, bf] at hp
   have := qS hb
   rw [Be (show off + i * esz + k + q <= cs.length by omega)];simp only [cond_true, bf];rw [<- hp, List.drop_take, List.drop_drop, List.take_take, Nat.min_eq_left (by omega)]
theorem HK (hm : MemB θ m m') {a a' : EV} (ha : SV θ a a') (hf : Gz a = false) {g : Option Nat} (h : m.load g a = some v) : ∃ v', m'.load g a' = some v' /\ SV θ v v' := by
 cases ha <;> simp only [Mem.load, reduceCtorEq] at h
 case fI => simp [Gz] at hf
 case ptr b c off hb =>
  have hB := hm.de b c hb
  cases hg : m.get b with
  | dead => simp [hg] at h
  | map es => simp [hg] at h
  | cells cs e k ro =>
   rw [hg] at hB h;obtain ⟨lT, uA, hs⟩ := hB
   simp only [Mem.load, uA];exact hs.part h
theorem Jw (hm : MemS θ m m') {a a' : EV} (ha : SV θ a a') {g : Option Nat} (h : m.load g a = some v) : ∃ v', m'.load g a' = some v' /\ SV θ v v' := by
 cases hf : Gz a with
 | false => exact HK hm.toMemB ha hf h
 | true =>
  cases a <;> simp only [Gz, re] at hf
  obtain ⟨v', h1, h2⟩ := Q0 ha h
  exact ⟨v', h2 m' hm.gQ, h1⟩
theorem Hn (hm : MemS θ m m') {b c : Nat} (hb : θ.g9 b = some c) {off N : Nat} {xs : List EV} (h : m.row b off N = some xs) : ∃ FB, m'.row c off N = some FB /\ dT θ xs FB := by
 by_cases h0 : N = 0
 ·subst h0; rw [Mem.nj] at h; cases h; exact ⟨_, Mem.nj, .nil⟩
 ·rw [Mem.p7 h0] at h ⊢
  have hB := hm.de b c hb
  unfold Mem.Ho at h ⊢
  cases hg : m.get b with
  | dead => simp [hg] at h
  | map es => simp [hg] at h
  | cells cs e k ro =>
   rw [hg] at hB;obtain ⟨lT, uA, hs⟩ := hB
   simp only [hg, uA, <- hs.length] at h ⊢
   cases hbb : (off + N).ble cs.length <;> simp only [hbb, cond_true, cond_false, reduceCtorEq, bf] at h ⊢
   subst h;exact ⟨_, rfl, (hs.drop off).take N⟩
theorem xC (hm : MemS θ m m') {x x' : EV} (hx : SV θ x x') {esz N : Nat} {xs : List EV} (h : m.source esz x = some (N, xs)) : ∃ FB, m'.source esz x' = some (N, FB) /\ dT θ xs FB := by
 cases hx <;> simp only [Mem.source, reduceCtorEq] at h
 case str s =>
  refine ⟨xs, h, ?_⟩
  cases hb : esz.beq 1 <;> simp only [hb, cond_true, cond_false, reduceCtorEq, bf, eO] at h
  rw [<- h.2];exact dT.map _ _ fun a _ => .int _ _
 case ae => simp only [bf, eO] at h; obtain ⟨rfl, rfl⟩ := h; exact ⟨[], rfl, .nil⟩
 case slice b c off len cap hb =>
  obtain ⟨r, hr, he⟩ := j8.1 h
  obtain ⟨r', uZ, hs⟩ := Hn hm hb hr
  simp only [eO] at he;obtain ⟨rfl, rfl⟩ := he
  exact ⟨r', by simp only [Mem.source, uZ, Option.map_some], hs⟩
 case BR t e b off ht =>
  cases hb : e.beq esz <;> simp only [hb, cond_true, cond_false, reduceCtorEq, bf, eO] at h
  obtain ⟨rfl, rfl⟩ := h
  refine ⟨[], ?_, .nil⟩
  simp only [Mem.source, Nat.zero_mul, Mem.nj, Option.map_some, List.length_nil]
 case fz t e els b off cap hc hr ht =>
  cases hb : e.beq esz <;> simp only [hb, cond_true, cond_false, reduceCtorEq, bf, eO] at h
  obtain ⟨rfl, rfl⟩ := h
  obtain rfl := aS hb
  cases hr with
  | mk Pa hl hn Te =>
  have hx := Te.ext θ.MW
  rename_i cs ro
  refine ⟨(cs.drop off).take (els.length * e), ?_, hx⟩
  simp only [Mem.source];by_cases h0 : els.length * e = 0
  ·rw [h0, Mem.nj, List.take_zero]; rfl
  ·rw [Mem.p7 h0, Mem.Ho, hm.gQ _ _ Pa]
   simp only [Be hn, cond_true, Option.map_some]
theorem Au (hm : MemS θ m m') (k : qR θ n n') {b c : Nat} (hb : θ.g9 b = some c) {off : Nat} {vs uE : List EV} (hv : dT θ vs uE) (h : m.write b off vs = some m1) : ∃ fU, m'.write c off uE = some fU /\ MemS θ m1 fU /\ m1.next = m.next /\ fU.next = m'.next /\ ∀ d, d ≠ c -> fU.get d = m'.get d := by
 have hB := hm.de b c hb
 unfold Mem.write at h ⊢
 cases hg : m.get b with
 | dead => simp [hg] at h
 | map es => simp [hg] at h
 | cells cs e t ro =>
  rw [hg] at hB;obtain ⟨lT, uA, hs⟩ := hB
  simp only [hg, uA] at h ⊢
  cases ro <;> simp only [cond_true, cond_false, reduceCtorEq] at h ⊢
  obtain ⟨r, hr, rfl⟩ := j8.1 h
  obtain ⟨r', uZ, hq⟩ := hs.iW hv hr
  exact ⟨_, by rw [uZ]; rfl, hm.set k hb ⟨r', rfl, hq⟩, rfl, rfl, fun d hd => az hd⟩
theorem Ov (hm : MemS θ m m') (k : qR θ n n') {size : Nat} {a a' x x' : EV} (ha : SV θ a a') (hx : SV θ x x') (h : m.store size a x = some m1) : ∃ fU, m'.store size a' x' = some fU /\ MemS θ m1 fU /\ m1.next = m.next /\ fU.next = m'.next /\ ∀ d, (∀ b, θ.g9 b ≠ some d) -> fU.get d = m'.get d := by
 unfold Mem.store at h
 cases hc : x.cells with
 | none => rw [hc] at h; cases a <;> simp at h
 | some vs =>
  obtain ⟨uE, Yb, hs⟩ := hx.cells hc
  rw [hc] at h
  cases ha <;> simp only [reduceCtorEq] at h
  case ptr b c off hb =>
   cases hl : vs.length.beq size <;> simp only [hl, cond_true, cond_false, reduceCtorEq] at h
   obtain ⟨fU, h1, h2, h3, h4, h5⟩ := Au hm k hb hs h
   refine ⟨fU, ?_, h2, h3, h4, fun d hd => h5 d fun e => hd b (e ▸ hb)⟩
   simp only [Mem.store, Yb, <- hs.length, hl, cond_true]; exact h1
theorem R7 {op : BinOp} {x y : EV} (h : ei op x y = some v) : Flat x = true /\ Flat y = true /\ Flat v = true := by
 cases x <;> cases y <;> simp only [ei, reduceCtorEq] at h
 case int.int k a l b =>
  refine ⟨rfl, rfl, ?_⟩
  have sh : ∀ op, tC op k a b = some v -> Flat v = true := by
   intro op h
   unfold tC at h
   split at h
   ·cases h
   ·cases op <;> simp at h <;> subst h <;> rfl
  have it : ∀ op, (bif (bZ k).beq (bZ l) then nF op k a b else none) = some v -> Flat v = true := by
   intro op h
   cases hk : (bZ k).beq (bZ l) <;> simp only [hk, cond_true, cond_false, reduceCtorEq] at h
   cases op <;> simp only [nF, qZ, Option.map_some, bf, reduceCtorEq] at h <;> first | (subst h; rfl) | (split at h <;> simp at h; subst h; rfl)
  cases op <;> first | exact sh _ h | exact it _ h
 case str.str a b =>
  refine ⟨rfl, rfl, ?_⟩
  cases op <;> simp only [reduceCtorEq, bf] at h <;> first | (subst h; rfl) | skip
  cases hb : (a.length + b.length).ble 4294967296 <;> simp only [hb, cond_true, cond_false, reduceCtorEq, bf] at h
  subst h; rfl
theorem SB {op : UnOp} {x : EV} (h : ES op x = some v) : Flat x = true /\ Flat v = true := by
 cases op <;> cases x <;> simp only [ES, reduceCtorEq, bf, qZ, Option.map_some] at h <;> subst h <;> exact ⟨rfl, rfl⟩
theorem LZ {t : Nat} {x y x' y' : EV} (hx : SV θ x x') (hy : SV θ y y') {b : Bool} (h : dP t x y = some b) : dP t x' y' = some b := by
 cases hx <;> cases hy <;> first | exact h | (simp only [dP, reduceCtorEq] at h ⊢ <;> done) | (simp only [dP] at h ⊢; exact h)
theorem LY {fs : List (Option Nat × Nat × sj)} {x y : EV} {b : Bool} (h : eL (.agg fs) x y = some b) : ∃ a c, x = .agg a /\ y = .agg c /\ pA fs a c = some b := by
 rw [eL.eq_def] at h
 cases x <;> cases y <;> first | exact ⟨_, _, rfl, rfl, h⟩ | cases h
theorem N6 {a : List EV} {x' : EV} (h : SV θ (.agg a) x') : ∃ a', x' = .agg a' /\ dT θ a a' := by
 cases h with | agg h => exact ⟨_, rfl, h⟩
mutual
theorem RV : ∀ (t : sj) {x y x' y' : EV}, SV θ x x' -> SV θ y y' -> ∀ {b : Bool}, eL t x y = some b -> eL t x' y' = some b
 | .aG t, _, _, _, _, hx, hy, b, h => by simp only [eL] at h ⊢; exact LZ hx hy h
 | .agg fs, _, _, _, _, hx, hy, b, h => by
  obtain ⟨a, c, rfl, rfl, h⟩ := LY h
  obtain ⟨a', rfl, ha⟩ := N6 hx
  obtain ⟨c', rfl, hc⟩ := N6 hy
  simp only [eL];exact NI fs ha hc h
theorem NI : ∀ (fs : List (Option Nat × Nat × sj)) {x y x' y' : List EV}, dT θ x x' -> dT θ y y' -> ∀ {b : Bool}, pA fs x y = some b -> pA fs x' y' = some b
 | [], _, _, _, _, _, _, _, h => by simp only [pA] at h ⊢; exact h
 | (g, off, t) :: r, x, y, x', y', hx, hy, b, h => by
  simp only [pA] at h ⊢
  cases hp : partOf g x off with
  | none => simp [hp] at h
  | some p =>
   cases hq : partOf g y off with
   | none => simp [hp, hq] at h
   | some q =>
    obtain ⟨p', hp', sp⟩ := hx.part hp
    obtain ⟨q', GC, sq⟩ := hy.part hq
    simp only [hp, hq, hp', GC] at h ⊢
    cases he : eL t p q with
    | none => simp [he] at h
    | some c =>
     rw [RV t sp sq he]
     cases c
     ·simpa [he] using h
     ·simp only [he] at h ⊢; exact NI r hx hy h
end
theorem E5 : ∀ {xs : List EV} {s : List UInt8}, bytesOf xs = some s -> fw xs = true
 | [], _, _ => rfl
 | v :: xs, s, h => by
  unfold bytesOf at h
  split at h
  ·rename_i hh; cases hh
  ·rename_i hh; cases hh
   obtain ⟨r, hr, _⟩ := j8.1 h
   simp only [fw, Flat, E5 hr, Bool.and_self]
  ·cases h
theorem QV : ∀ {l : List EV}, xy l = some v -> fw l = true /\ Flat v = true := by
 have go : ∀ (k : IntKind) (l : List EV) (x : Int), mU k x l = some v -> fw l = true /\ Flat v = true := by
  intro k l
  induction l with
  | nil => intro x h; simp only [mU, bf] at h; subst h; exact ⟨rfl, rfl⟩
  | cons a l ih =>
   intro x h
   cases a <;> simp only [mU, reduceCtorEq] at h
   rename_i k' y
   cases hk : (bZ k).beq (bZ k') <;> simp only [hk, cond_true, cond_false, reduceCtorEq] at h
   obtain ⟨h1, h2⟩ := ih _ h
   exact ⟨by simp only [fw, Flat, h1, Bool.and_self], h2⟩
 intro l h
 cases l with
 | nil => simp [xy] at h
 | cons a l =>
  cases a <;> simp only [xy, reduceCtorEq] at h
  obtain ⟨h1, h2⟩ := go _ _ _ h
  exact ⟨by simp only [fw, Flat, h1, Bool.and_self], h2⟩
theorem QS : ∀ {l : List EV}, xx l = some v -> fw l = true /\ Flat v = true := by
 have go : ∀ (k : IntKind) (l : List EV) (x : Int), mT k x l = some v -> fw l = true /\ Flat v = true := by
  intro k l
  induction l with
  | nil => intro x h; simp only [mT, bf] at h; subst h; exact ⟨rfl, rfl⟩
  | cons a l ih =>
   intro x h
   cases a <;> simp only [mT, reduceCtorEq] at h
   rename_i k' y
   cases hk : (bZ k).beq (bZ k') <;> simp only [hk, cond_true, cond_false, reduceCtorEq] at h
   obtain ⟨h1, h2⟩ := ih _ h
   exact ⟨by simp only [fw, Flat, h1, Bool.and_self], h2⟩
 intro l h
 cases l with
 | nil => simp [xx] at h
 | cons a l =>
  cases a <;> simp only [xx, reduceCtorEq] at h
  obtain ⟨h1, h2⟩ := go _ _ _ h
  exact ⟨by simp only [fw, Flat, h1, Bool.and_self], h2⟩
theorem ya.list (hρ : ya θ ρ ρ') : ∀ {l : List aW}, l.all Bn = true -> dT θ (l.map ρ) (l.map ρ')
 | [], _ => .nil
 | x :: l, h => by simp only [List.all_cons, pI] at h; exact .cons (hρ x h.1) (ya.list hρ h.2)
theorem oL {k : EV} (h : kM k ≠ 99) : Flat k = true := by cases k <;> first | rfl | exact absurd rfl h
theorem nv {kt : Nat} {k : EV} (h : lP kt k = true) : kM k ≠ 99 := by
 cases k <;> simp only [lP, re] at h <;> simp [kM]
 rename_i kk n; cases kk <;> simp [bZ]
theorem vW {k : EV} (hk : kM k ≠ 99) : ∀ {es q9 : List (EV × EV)}, nJ θ es q9 -> oj k es = true -> q9.map (·.1) = es.map (·.1) /\ oj k q9 = true
 | _, _, .nil, _ => ⟨rfl, rfl⟩
 | _, _, .cons (k := a) ha hv hs, h => by
  simp only [oj] at h
  cases hb : (kM a).beq (kM k) <;> simp only [hb, cond_true, cond_false, re] at h
  have hf : Flat a = true := oL (by rw [aS hb]; exact hk)
  have := ha.flat hf
  subst this;obtain ⟨h1, h2⟩ := vW hk hs h
  exact ⟨by simp [h1], by simp only [oj, hb, cond_true, h2]⟩
theorem JX {k : EV} : ∀ {es q9 : List (EV × EV)}, nJ θ es q9 -> q9.map (·.1) = es.map (·.1) -> (∀ v, find k es = some v -> ∃ v', find k q9 = some v' /\ SV θ v v') /\ (find k es = none -> find k q9 = none)
 | _, _, .nil, _ => ⟨fun v h => by simp [find] at h, fun _ => rfl⟩
 | _, _, .cons (k' := a) (v := w) (v' := w') ha hv hs, h => by
  simp only [List.map_cons, List.cons.injEq] at h;obtain ⟨rfl, h⟩ := h
  obtain ⟨h1, h2⟩ := JX (k := k) hs h
  simp only [find]
  cases EV.same k a <;> simp only [cond_true, cond_false]
  ·exact ⟨h1, h2⟩
  ·exact ⟨fun v hh => by cases hh; exact ⟨w', rfl, hv⟩, fun hh => by cases hh⟩
theorem DS {k k' x x' : EV} (hk : SV θ k k') (hx : SV θ x x') (he : k' = k) : ∀ {es q9 : List (EV × EV)}, nJ θ es q9 -> q9.map (·.1) = es.map (·.1) -> nJ θ (update k x es) (update k' x' q9)
 | _, _, .nil, _ => .cons hk hx .nil
 | _, _, .cons (k' := a) ha hv hs, h => by
  simp only [List.map_cons, List.cons.injEq] at h;obtain ⟨rfl, h⟩ := h
  have ih := DS hk hx he hs h
  subst he;simp only [update]
  cases EV.same k' a <;> simp only [cond_true, cond_false]
  ·exact .cons ha hv ih
  ·exact .cons hk hx hs
theorem GN {k : EV} : ∀ {es q9 : List (EV × EV)}, nJ θ es q9 -> q9.map (·.1) = es.map (·.1) -> nJ θ (erase k es) (erase k q9)
 | _, _, .nil, _ => .nil
 | _, _, .cons (k' := a) ha hv hs, h => by
  simp only [List.map_cons, List.cons.injEq] at h;obtain ⟨rfl, h⟩ := h
  have ih := GN (k := k) hs h
  simp only [erase]
  cases EV.same k a <;> simp only [cond_true, cond_false]
  ·exact .cons ha hv ih
  ·exact hs
theorem nJ.len : ∀ {es q9 : List (EV × EV)}, nJ θ es q9 -> es.length = q9.length
 | _, _, .nil => rfl
 | _, _, .cons _ _ h => by simp [nJ.len h]
end
end
section
section
variable {θ : cF} {m m' m1 : Mem} {v : EV} {n n' : Nat} {ρ ρ' : aW -> EV}
theorem iB {x : Option EV} (h : gx m x = some (.val v m1)) : x = some v /\ m1 = m := by
 unfold gx at h;obtain ⟨y, hy, he⟩ := j8.1 h
 cases he; exact ⟨hy, rfl⟩
theorem SZ {x : Option Mem} (h : ofM x = some (.val v m1)) : x = some m1 /\ v = .undef := by
 unfold ofM at h;obtain ⟨y, hy, he⟩ := j8.1 h
 cases he; exact ⟨hy, rfl⟩
theorem cX {a : EV} {q : Mem} (h : some (R1.val a q) = some (R1.val v m1)) : a = v /\ q = m1 := by cases h; exact ⟨rfl, rfl⟩
theorem nI {lo : Option aW} (h : (Eg lo).all Bn = true) (hρ : ya θ ρ ρ') : ∀ x, lo = some x -> SV θ (ρ x) (ρ' x) := by
 intro x e; subst e
 simp only [Eg, List.all_cons, List.all_nil, Bool.and_true] at h;exact hρ x h
theorem vf {θ' : cF} {esz b c off len : Nat} {cap : Option Nat} {lo hi max : Option aW} (hb : θ.g9 b = some c) (qm : ∀ x, lo = some x -> SV θ (ρ x) (ρ' x)) (xk : ∀ x, hi = some x -> SV θ (ρ x) (ρ' x)) (Tn : ∀ x, max = some x -> SV θ (ρ x) (ρ' x))
  (h : ek esz b off len cap (lo.map ρ) (hi.map ρ) (max.map ρ) = some v) : ∃ v', ek esz c off len cap (lo.map ρ') (hi.map ρ') (max.map ρ') = some v' /\ SV θ v v' := by
 cases cap with
 | some cp =>
  simp only [ek] at h ⊢
  cases h1 : aw (max.map ρ) cp cp with
  | none => simp [h1] at h
  | some t =>
   rw [fC Tn h1]; simp only [h1] at h ⊢
   cases h2 : aw (hi.map ρ) len t with
   | none => simp [h2] at h
   | some q =>
    rw [fC xk h2]; simp only [h2] at h ⊢
    cases h3 : aw (lo.map ρ) 0 q with
    | none => simp [h3] at h
    | some l =>
     rw [fC qm h3]; simp only [h3, bf] at h ⊢
     subst h; exact ⟨_, rfl, .slice hb⟩
 | none =>
  cases max with
  | some mx =>
   simp only [ek, Option.map_some] at h ⊢
   cases h1 : aw (some (ρ mx)) len len with
   | none => simp [h1] at h
   | some t =>
    have FV : aw (some (ρ' mx)) len len = some t := fC (lo := some mx) Tn h1
    simp only [h1, FV] at h ⊢
    cases h2 : aw (hi.map ρ) len t with
    | none => simp [h2] at h
    | some q =>
     rw [fC xk h2]; simp only [h2] at h ⊢
     cases h3 : aw (lo.map ρ) 0 q with
     | none => simp [h3] at h
     | some l =>
      rw [fC qm h3]; simp only [h3, bf] at h ⊢
      subst h; exact ⟨_, rfl, .slice hb⟩
  | none =>
   simp only [ek, Option.map_none] at h ⊢
   cases h2 : aw (hi.map ρ) len len with
   | none => simp [h2] at h
   | some q =>
    rw [fC xk h2]; simp only [h2] at h ⊢
    cases h3 : aw (lo.map ρ) 0 q with
    | none => simp [h3] at h
    | some l =>
     rw [fC qm h3]; simp only [h3, bf] at h ⊢
     subst h; exact ⟨_, rfl, .slice hb⟩
theorem JU {esz : Nat} : ∀ (L : List (List EV)) (l h : Nat), l <= h -> h <= L.length -> (∀ el ∈ L, el.length = esz) -> ((L.take h).drop l).flatten = (L.flatten.drop (l * esz)).take ((h - l) * esz) := by
 have tk : ∀ (L : List (List EV)) (h : Nat), (∀ el ∈ L, el.length = esz) -> (L.take h).flatten = L.flatten.take (h * esz) := by
  intro L
  induction L with
  | nil => intro h _; simp
  | cons e L ih =>
   intro h hl
   have he := hl e (by simp)
   cases h with
   | zero => simp
   | succ h => rw [List.take_succ_cons, List.flatten_cons, ih h (fun el q => hl el (by simp [q])), List.flatten_cons, Nat.succ_mul, Nat.add_comm, List.take_append, he, PX (l := e) (by rw [he]; omega)]; simp
 have dp : ∀ (L : List (List EV)) (h : Nat), (∀ el ∈ L, el.length = esz) -> (L.drop h).flatten = L.flatten.drop (h * esz) := by
  intro L
  induction L with
  | nil => intro h _; simp
  | cons e L ih =>
   intro h hl
   have he := hl e (by simp)
   cases h with
   | zero => simp
   | succ h => rw [List.drop_succ_cons, ih h (fun el q => hl el (by simp [q])), List.flatten_cons, Nat.succ_mul, Nat.add_comm, <- List.drop_drop, show (e ++ L.flatten).drop esz = L.flatten by rw [<- he]; simp]
 intro L l h hlh hh hl
 rw [dp _ _ (fun el q => hl el (List.mem_of_mem_take q)), tk _ _ hl, List.drop_take, <- Nat.sub_mul]
theorem Tz {esz t b off : Nat} {els : List (List EV)} {cap : Option Nat} (hx : SV θ (.fz t esz els) (.slice b off els.length cap)) (hm : MemS θ m m') {lo hi : Option aW} (qm : ∀ x, lo = some x -> SV θ (ρ x) (ρ' x)) (xk : ∀ x, hi = some x -> SV θ (ρ x) (ρ' x)) {h l : Nat}
  (h1 : aw (hi.map ρ) els.length els.length = some h) (h2 : aw (lo.map ρ) 0 h = some l) (hh : h <= els.length) (hl : l <= h) :
  ∃ v' , (match cap with
   | some c => gx m' (ek esz b off els.length (some c) (lo.map ρ') (hi.map ρ') none)
   | none => match m'.get b with
    | .cells _ e _ _ => bif e.beq esz then gx m' (ek esz b off els.length none (lo.map ρ') (hi.map ρ') none) else none
    | _ => none) = some (.val v' m') /\ SV θ (.fz 0 esz ((els.take h).drop l)) v' := by
 have FV := fC xk h1
 have Yk := fC qm h2
 have hlen : ((els.take h).drop l).length = h - l := by rw [uy, List.length_take]; omega
 generalize rP : EV.slice b off els.length cap = y at hx
 cases hx with
 | BR ht =>
  cases rP
  simp only [List.length_nil] at h1 FV hh
  obtain rfl : h = 0 := by omega
  obtain rfl : l = 0 := by omega
  simp only [List.length_nil, ek, pD, FV, Yk, gx, Option.map_some];refine ⟨_, rfl, ?_⟩
  simp only [Nat.beq_refl, cond_true, Nat.sub_self, List.take_nil, List.drop_nil];exact .BR (.inl rfl)
 | fz hr ht hc =>
  cases rP
  cases hr with
  | @mk _ _ _ _ _ k cs ro hs hle hn PQ =>
  have Nc : dT θ.low ((els.take h).drop l).flatten ((cs.drop (off + l * esz)).take (((els.take h).drop l).length * esz)) := by
   rw [hlen, JU els l h hl hh hle];have q := (PQ.drop (l * esz)).take ((h - l) * esz)
   have : l * esz + (h - l) * esz <= els.length * esz := by rw [<- Nat.add_mul]; exact Nat.mul_le_mul_right _ (by omega)
   rw [List.drop_take, List.drop_drop, List.take_take, Nat.min_eq_left (by omega)] at q;exact q
  have hn' : off + l * esz + ((els.take h).drop l).length * esz <= cs.length := by
   have : l * esz + (h - l) * esz <= els.length * esz := by rw [<- Nat.add_mul]; exact Nat.mul_le_mul_right _ (by omega)
   rw [hlen]; omega
  have hr : SR θ esz ((els.take h).drop l) b (off + l * esz) := .mk hs (fun el q => hle el (List.mem_of_mem_take (List.mem_of_mem_drop q))) hn' Nc
  cases cap with
  | some c =>
   have oQ := hc c rfl
   have g1 : aw (hi.map ρ') els.length c = some h := by
    cases hi with
    | none => simp only [Option.map_none, aw, bf] at FV ⊢; exact FV
    | some x =>
     simp only [Option.map_some] at FV ⊢
     generalize ρ' x = w at FV
     unfold aw at FV ⊢
     split at FV
     ·rename_i e; cases e
     ·rename_i e; cases e
      rename_i i
      cases hb : i.ble els.length <;> simp only [hb, cond_true, cond_false, reduceCtorEq, bf] at FV
      have := qS hb
      subst FV
      simp only [Be (show i <= c by omega), cond_true]
     ·cases FV
   simp only [ek, pD, g1, Yk, gx, Option.map_some];refine ⟨_, rfl, ?_⟩
   by_cases Ry : c = l
   ·subst Ry
    obtain rfl : h = c := by omega
    simp only [Nat.beq_refl, cond_true, Nat.sub_self];have : (els.take h).drop h = [] := List.eq_nil_of_length_eq_zero (by rw [hlen]; omega)
    rw [this]; exact .BR (.inl rfl)
   ·simp only [jR Ry, cond_false]
    have := SV.fz (t := 0) (cap := some (c - l)) hr (.inl rfl) (fun q e => by cases e; rw [hlen]; omega)
    rw [hlen] at this; exact this
  | none =>
   simp only [hm.gQ _ _ hs, Nat.beq_refl, cond_true, ek, pD, FV, Yk, gx, Option.map_some];refine ⟨_, rfl, ?_⟩
   have := SV.fz (t := 0) (cap := none) hr (.inl rfl) (fun q e => by cases e)
   rw [hlen] at this; exact this
theorem E7 {x : Option EV} {d nu i : Nat} (h : aw x d nu = some i) (hd : d <= nu) : i <= nu := by
 unfold aw at h
 split at h
 ·cases h; exact hd
 ·rename_i kk i'
  cases hb : i'.ble nu <;> simp only [hb, cond_true, cond_false, reduceCtorEq, bf] at h
  rw [<- h]; exact qS hb
 ·cases h
theorem Mn (hm : MemS θ m m') (k : qR θ n n') (f : Ak θ m.next m'.next) {elem esz : Nat} {s s' x x' : EV} (hs : SV θ s s') (hx : SV θ x x') (h : fS m elem esz s x = some (v, m1)) : IC θ m m' v m1 (xf (fS m' elem esz s' x')) := by
 unfold fS at h ⊢
 cases jx : m.source esz x with
 | none => simp [jx] at h
 | some q =>
  obtain ⟨N, xs⟩ := q
  obtain ⟨FB, JJ, PQ⟩ := xC hm hx jx
  simp only [jx, JJ] at h ⊢
  cases h0 : N.beq 0 <;> simp only [h0, cond_true, cond_false] at h ⊢
  ·cases hs <;> simp only [reduceCtorEq] at h
   case ae =>
    cases hr : N.ble room <;> simp only [hr, cond_true, cond_false, reduceCtorEq, bf, eO] at h
    obtain ⟨rfl, rfl⟩ := h
    exact IC.new hm f ⟨FB, rfl, PQ.ext f.ext⟩ (.slice ot)
   case slice b c off len cap hb =>
    cases hr : (len + N).ble room <;> simp only [hr, cond_true, cond_false, reduceCtorEq] at h ⊢
    cases FN : m.row b off (len * esz) with
    | none => simp [FN] at h
    | some old =>
     obtain ⟨old', XN, hold⟩ := Hn hm hb FN
     simp only [FN, XN] at h ⊢
     cases cap with
     | some cp =>
      simp only at h ⊢
      cases hc : (len + N).ble cp <;> simp only [hc, cond_true, cond_false] at h ⊢
      ·simp only [bf, eO] at h
       obtain ⟨rfl, rfl⟩ := h
       exact IC.new hm f ⟨_, rfl, (hold.append PQ).ext f.ext⟩ (.slice ot)
      ·obtain ⟨m2, hw, he⟩ := j8.1 h
       simp only [eO] at he;obtain ⟨rfl, rfl⟩ := he
       obtain ⟨Sr, XI, h2, h3, h4, h5⟩ := Au hm k hb PQ hw
       refine ⟨_, Sr, by simp only [XI, Option.map_some, xf], .inl ⟨.slice hb, h2, h3, h4⟩, fun d _ hd => h5 d fun e => hd b (e ▸ hb)⟩
     | none =>
      simp only at h ⊢
      have hB := hm.de b c hb
      cases hg : m.get b with
      | dead => simp [hg] at h
      | map es => simp [hg] at h
      | cells cs e t ro =>
       rw [hg] at hB;obtain ⟨lT, uA, _⟩ := hB
       cases ro with
       | true => simp [hg] at h
       | false =>
       simp only [hg, uA] at h ⊢
       cases he : e.beq esz <;> simp only [he, cond_true, cond_false, reduceCtorEq, bf, eO] at h ⊢
       obtain ⟨rfl, rfl⟩ := h
       have hmo := hm.more f (B := .cells (old ++ xs) esz elem false) (B' := .cells (old' ++ FB) esz elem false) ⟨_, rfl, (hold.append PQ).ext f.ext⟩
       have k2 := k.more f (k := max n (m.next + 1)) (k' := max n' (m'.next + 1)) (by omega) (by omega) (by omega) (by omega)
       refine ⟨_, _, rfl, .inr ⟨.slice ot, hmo.set k2 (f.ext.g9 b c hb) (B := .dead) (B' := .dead) trivial, rfl, rfl⟩, fun d hd FT => ?_⟩
       have V1 : d ≠ c := fun q => FT b (q ▸ hb)
       rw [az V1, fq, if_neg hd]
  ·cases hs <;> simp only [reduceCtorEq, bf, eO] at h
   case ae => obtain ⟨rfl, rfl⟩ := h; exact IC.here hm rfl .ae
   case slice hb => obtain ⟨rfl, rfl⟩ := h; exact IC.here hm rfl (.slice hb)
   case fz c a b => obtain ⟨rfl, rfl⟩ := h; exact IC.here hm rfl (.fz a b c)
   case BR ht => obtain ⟨rfl, rfl⟩ := h; exact IC.here hm rfl (.BR ht)
theorem RY (hm : MemS θ m m') (k : qR θ n n') {esz : Nat} {s s' x x' : EV} (hs : SV θ s s') (hx : SV θ x x') (h : xV m esz s x = some (v, m1)) : IC θ m m' v m1 (xf (xV m' esz s' x')) := by
 unfold xV at h ⊢
 cases hs <;> simp only [reduceCtorEq] at h
 case ae =>
  obtain ⟨q, hq, he⟩ := j8.1 h
  obtain ⟨FB, JJ, _⟩ := xC hm hx hq
  simp only [eO] at he;obtain ⟨rfl, rfl⟩ := he
  simp only [JJ, Option.map_some];exact IC.here hm rfl (.int _ _)
 case slice b c off len cap hb =>
  cases jx : m.source esz x with
  | none => simp [jx] at h
  | some q =>
   obtain ⟨N, xs⟩ := q
   obtain ⟨FB, JJ, PQ⟩ := xC hm hx jx
   simp only [jx, JJ] at h ⊢
   obtain ⟨m2, hw, he⟩ := j8.1 h
   simp only [eO] at he;obtain ⟨rfl, rfl⟩ := he
   obtain ⟨Sr, XI, h2, h3, h4, h5⟩ := Au hm k hb (PQ.take _) hw
   exact ⟨_, Sr, by simp only [XI, Option.map_some, xf], .inl ⟨.int _ _, h2, h3, h4⟩, fun d _ hd => h5 d fun e => hd b (e ▸ hb)⟩
theorem Hu (hρ : ya θ ρ ρ') (hm : MemS θ m m') (k : qR θ n n') (f : Ak θ m.next m'.next) {op : lD} (eh : QC op = true) (h : aB ρ op m = some (.val v m1)) : IC θ m m' v m1 (aB ρ' op m') := by
 cases op <;> simp only [QC, iA, Lh, List.all_cons, List.all_nil, List.all_append, Bool.and_true, Bool.true_and, pI] at eh <;> simp only [aB] at h ⊢
 case aa x => obtain ⟨rfl, rfl⟩ := cX h; exact .here hm rfl (hρ x eh)
 case pick c a b =>
  have hc := hρ c eh.1
  generalize ρ c = y at hc h; generalize ρ' c = y' at hc
  cases hc <;> simp only [reduceCtorEq] at h ⊢
  rename_i t
  obtain ⟨rfl, rfl⟩ := cX h
  cases t
  ·exact .here hm rfl (hρ b eh.2.2)
  ·exact .here hm rfl (hρ a eh.2.1)
 case alloc e z =>
  obtain ⟨rfl, rfl⟩ := cX h
  exact .new hm f ⟨z, rfl, dT.of_flat eh⟩ (.ptr ot)
 case box e x =>
  have hx := hρ x eh
  cases hc : (ρ x).cells with
  | none => simp [hc] at h
  | some cs =>
   obtain ⟨lT, Yb, hs⟩ := hx.cells hc
   simp only [hc, Yb] at h ⊢
   obtain ⟨rfl, rfl⟩ := cX h
   rw [<- hs.length];exact .new hm f ⟨lT, rfl, hs.ext f.ext⟩ (.ptr ot)
 case build z ps =>
  obtain ⟨h1, rfl⟩ := iB h
  obtain ⟨r, hr, rfl⟩ := j8.1 h1
  have hp : dT θ ((ps.map fun p => (p.1, p.2.1, ρ p.2.2)).map (·.2.2)) ((ps.map fun p => (p.1, p.2.1, ρ' p.2.2)).map (·.2.2)) := by
   have := ya.list hρ eh.1
   rw [List.map_map, List.map_map] at this;rw [List.map_map, List.map_map]; exact this
  obtain ⟨r', uZ, hs⟩ := EQ _ (ps.map fun p => (p.1, p.2.1, ρ' p.2.2)) _ _ _ (by simp [Function.comp_def]) hp (dT.of_flat eh.2) hr
  simp only [uZ, Option.map_some, gx];exact .here hm rfl (.agg hs)
 case bt e esz len z ps =>
  cases hr : fB (eD len z) (ps.map fun p => (p.1 * esz, esz, ρ p.2)) with
  | none => simp [hr] at h
  | some r =>
   have hp : dT θ ((ps.map fun p => (p.1 * esz, esz, ρ p.2)).map (·.2.2)) ((ps.map fun p => (p.1 * esz, esz, ρ' p.2)).map (·.2.2)) := by
    have := ya.list hρ eh.1
    rw [List.map_map, List.map_map] at this;rw [List.map_map, List.map_map]; exact this
   obtain ⟨r', uZ, hs⟩ := EQ _ (ps.map fun p => (p.1 * esz, esz, ρ' p.2)) _ _ _ (by simp [Function.comp_def]) hp (dT.of_flat (zE eh.2 len)) hr
   simp only [hr, uZ] at h ⊢
   obtain ⟨rfl, rfl⟩ := cX h
   exact .new hm f ⟨r', rfl, hs.ext f.ext⟩ (.slice ot)
 case load g a =>
  obtain ⟨h1, rfl⟩ := iB h
  obtain ⟨v', hl, hv⟩ := Jw hm (hρ a eh) h1
  simp only [hl, gx, Option.map_some];exact .here hm rfl hv
 case store size a x =>
  obtain ⟨h1, rfl⟩ := SZ h
  obtain ⟨fU, hs, h2, h3, h4, h5⟩ := Ov hm k (hρ a eh.1) (hρ x eh.2) h1
  exact ⟨_, fU, by simp only [hs, ofM, Option.map_some], .inl ⟨.undef, h2, h3, h4⟩, fun c _ hc => h5 c hc⟩
 case cy x =>
  have hx := hρ x eh
  generalize ρ x = y at hx h; generalize ρ' x = y' at hx
  cases hx <;> simp only [reduceCtorEq] at h ⊢ <;> obtain ⟨rfl, rfl⟩ := cX h
  case ptr hb => exact .here hm rfl (.ptr hb)
  case func h1 h2 => exact .here hm rfl (.func h1 h2)
  case iface h1 => exact .here hm rfl (.iface h1)
  case fI h2 h3 h1 => exact .here hm rfl (.fI h1 h2 h3)
 case bin op x y =>
  obtain ⟨h1, rfl⟩ := iB h
  obtain ⟨f1, f2, f3⟩ := R7 h1
  rw [(hρ x eh.1).flat f1, (hρ y eh.2).flat f2, h1];exact .here hm rfl (SV.of_flat f3)
 case eq neg t x y =>
  obtain ⟨h1, rfl⟩ := iB h
  obtain ⟨b, hb, rfl⟩ := j8.1 h1
  rw [RV t (hρ x eh.1) (hρ y eh.2) hb];exact .here hm rfl (.bool _)
 case un op x =>
  obtain ⟨h1, rfl⟩ := iB h
  obtain ⟨f1, f2⟩ := SB h1
  rw [(hρ x eh).flat f1, h1];exact .here hm rfl (SV.of_flat f2)
 case conv c x =>
  have hx := hρ x eh
  unfold xf at h;obtain ⟨q, hq, he⟩ := j8.1 h
  obtain ⟨q1, q2⟩ := q
  cases he
  generalize ρ x = y at hx hq; generalize ρ' x = y' at hx
  cases c with
  | int kk =>
   cases hx <;> simp only [kY, reduceCtorEq, bf, eO] at hq ⊢
   obtain ⟨rfl, rfl⟩ := hq
   exact .here hm rfl (.int _ _)
  | same =>
   cases hx <;> simp only [kY, reduceCtorEq, bf, eO] at hq ⊢
   obtain ⟨rfl, rfl⟩ := hq
   exact .here hm rfl (.str _)
  | bytes e =>
   cases hx <;> simp only [kY, reduceCtorEq, bf, eO] at hq ⊢
   obtain ⟨rfl, rfl⟩ := hq
   exact .new hm f ⟨_, rfl, dT.map _ _ fun a _ => .int _ _⟩ (.slice ot)
  | text =>
   cases hx <;> simp only [kY, reduceCtorEq, bf, eO] at hq ⊢
   case ae => obtain ⟨rfl, rfl⟩ := hq; exact .here hm rfl (.str _)
   case slice b c off len cap hb =>
    cases hr : m.row b off len with
    | none => simp [hr] at hq
    | some cs =>
     obtain ⟨lT, uZ, hs⟩ := Hn hm hb hr
     simp only [hr, uZ] at hq ⊢
     obtain ⟨s, rN, he⟩ := j8.1 hq
     cases he
     rw [hs.flat (E5 rN), rN];exact .here hm rfl (.str _)
 case iface t x => obtain ⟨rfl, rfl⟩ := cX h; exact .here hm rfl (.iface (hρ x eh))
 case BL g a c =>
  obtain ⟨rfl, rfl⟩ := cX h
  exact .here hm rfl (.func (ya.list hρ eh.1) (ya.list hρ eh.2))
 case uT =>
  obtain ⟨rfl, rfl⟩ := cX h
  exact .new hm f ⟨[], rfl, .nil⟩ (.map ot)
 case lL e esz z len cap =>
  have hl := hρ len eh.1.1
  have hc := hρ cap eh.1.2
  generalize ρ len = a at hl h; generalize ρ' len = a' at hl
  generalize ρ cap = b at hc h; generalize ρ' cap = b' at hc
  split at h
  ·rename_i l c
   have := Rf hl; have := Rf hc; subst_vars
   simp only
   cases hb : (bif l.ble c then c.ble room else false) <;> simp only [hb, cond_true, cond_false, reduceCtorEq] at h ⊢
   obtain ⟨rfl, rfl⟩ := cX h
   exact .new hm f ⟨_, rfl, dT.of_flat (zE eh.2 c)⟩ (.slice ot)
  ·cases h
 case gd x lo hi =>
  have hx := hρ x eh.1
  have qm := nI eh.2.1 hρ
  have xk := nI eh.2.2 hρ
  generalize ρ x = y at hx h; generalize ρ' x = y' at hx
  cases hx <;> simp only [reduceCtorEq] at h ⊢
  rename_i s
  cases h1 : aw (hi.map ρ) s.length s.length with
  | none => simp [h1] at h
  | some q =>
   rw [fC xk h1]; simp only [h1] at h ⊢
   cases h2 : aw (lo.map ρ) 0 q with
   | none => simp [h2] at h
   | some l =>
    rw [fC qm h2]; simp only [h2] at h ⊢
    obtain ⟨rfl, rfl⟩ := cX h
    exact .here hm rfl (.str _)
 case uL esz x lo hi mx =>
  have hx := hρ x eh.1
  have qm := nI eh.2.1 hρ
  have xk := nI eh.2.2.1 hρ
  have AS := nI eh.2.2.2 hρ
  generalize hy : ρ x = y at hx h; generalize Y5 : ρ' x = y' at hx
  have fzc : ∀ (t e : Nat) (els : List (List EV)) (b off : Nat) (cap : Option Nat), SV θ (.fz t e els) (.slice b off els.length cap) -> (match mx with
   | none => bif e.beq esz then match aw (hi.map ρ) els.length els.length with
     | some h => match aw (lo.map ρ) 0 h with
      | some l => some (R1.val (.fz 0 e ((els.take h).drop l)) m)
      | none => none
     | none => none
    else none
   | some _ => none) = some (.val v m1) -> IC θ m m' v m1 (match cap with
   | some c => gx m' (ek esz b off els.length (some c) (lo.map ρ') (hi.map ρ') (mx.map ρ'))
   | none => match m'.get b with
    | .cells _ e _ _ => bif e.beq esz then gx m' (ek esz b off els.length none (lo.map ρ') (hi.map ρ') (mx.map ρ')) else none
    | _ => none) := by
   intro t e els b off cap hsv hh
   cases mx with
   | some x => cases hh
   | none =>
    simp only at hh
    cases he : e.beq esz <;> simp only [he, cond_true, cond_false, reduceCtorEq] at hh
    obtain rfl := aS he
    cases h1 : aw (hi.map ρ) els.length els.length with
    | none => simp [h1] at hh
    | some q =>
     simp only [h1] at hh
     cases h2 : aw (lo.map ρ) 0 q with
     | none => simp [h2] at hh
     | some l =>
      simp only [h2] at hh;obtain ⟨rfl, rfl⟩ := cX hh
      obtain ⟨v', e1, e2⟩ := Tz hsv hm qm xk h1 h2 (E7 h1 (fy _)) (E7 h2 (ml _))
      rw [show (Option.map ρ' none : Option EV) = none from rfl, e1];exact .here hm rfl e2
  cases hx <;> (try simp only [reduceCtorEq] at h ⊢)
  case ae =>
   cases h1 : aw (mx.map ρ) 0 0 with
   | none => simp [h1] at h
   | some a =>
    cases h2 : aw (hi.map ρ) 0 0 with
    | none => simp [h1, h2] at h
    | some b =>
     cases h3 : aw (lo.map ρ) 0 0 with
     | none => simp [h1, h2, h3] at h
     | some c =>
      rw [fC AS h1, fC xk h2, fC qm h3];simp only [h1, h2, h3] at h ⊢
      obtain ⟨rfl, rfl⟩ := cX h
      exact .here hm rfl .ae
  case slice b c off len cap hb =>
   cases cap with
   | some cp =>
    simp only at h ⊢
    obtain ⟨h1, rfl⟩ := iB h
    obtain ⟨v', e1, e2⟩ := vf (θ' := θ) hb qm xk AS h1
    rw [e1];exact .here hm rfl e2
   | none =>
    simp only at h ⊢
    have hB := hm.de b c hb
    cases hg : m.get b with
    | dead => simp [hg] at h
    | map es => simp [hg] at h
    | cells cs e t ro =>
     rw [hg] at hB;obtain ⟨lT, uA, _⟩ := hB
     simp only [hg, uA] at h ⊢
     cases he : e.beq esz <;> simp only [he, cond_true, cond_false, reduceCtorEq] at h ⊢
     obtain ⟨h1, rfl⟩ := iB h
     obtain ⟨v', e1, e2⟩ := vf (θ' := θ) hb qm xk AS h1
     rw [e1];exact .here hm rfl e2
  case fz t e els b off cap h3 h1 h2 =>
   have := fzc t e els b off cap (.fz h1 h2 h3) h
   cases cap <;> exact this
  case BR t e b off ht =>
   exact fzc t e [] b off (some 0) (.BR ht) h
 case xo N esz x lo hi mx =>
  have hx := hρ x eh.1
  have qm := nI eh.2.1 hρ
  have xk := nI eh.2.2.1 hρ
  have AS := nI eh.2.2.2 hρ
  generalize ρ x = y at hx h; generalize ρ' x = y' at hx
  cases hx <;> simp only [reduceCtorEq] at h ⊢
  rename_i hb
  obtain ⟨h1, rfl⟩ := iB h
  obtain ⟨v', e1, e2⟩ := vf (θ' := θ) hb qm xk AS h1
  rw [e1];exact .here hm rfl e2
 case aj off x =>
  have hx := hρ x eh
  generalize ρ x = y at hx h; generalize ρ' x = y' at hx
  cases hx <;> simp only [reduceCtorEq] at h ⊢ <;> obtain ⟨rfl, rfl⟩ := cX h
  case ptr hb => exact .here hm rfl (.ptr hb)
  case fI h2 h3 h1 => exact .here hm rfl (.fI h1 h2 (by omega))
 case AX g off x =>
  have hx := hρ x eh
  generalize ρ x = y at hx h; generalize ρ' x = y' at hx
  cases hx <;> simp only [reduceCtorEq] at h ⊢
  rename_i hs
  obtain ⟨h1, rfl⟩ := iB h
  obtain ⟨v', e1, e2⟩ := hs.part h1
  rw [e1];exact .here hm rfl e2
 case cS esz x i =>
  have hx := hρ x eh.1
  have hi := hρ i eh.2
  generalize ρ x = y at hx h; generalize ρ' x = y' at hx
  cases hx <;> simp only [reduceCtorEq] at h ⊢
  case slice b c off len cap hb =>
   cases hj : idx len (ρ i) with
   | none => simp [hj] at h
   | some j =>
    rw [zg hi hj]; simp only [hj] at h ⊢
    obtain ⟨rfl, rfl⟩ := cX h
    exact .here hm rfl (.ptr hb)
  case fz t e els b off cap hc hr ht =>
   cases he : e.beq esz <;> simp only [he, cond_true, cond_false, reduceCtorEq] at h
   obtain rfl := aS he
   cases hj : idx els.length (ρ i) with
   | none => simp [hj] at h
   | some j =>
    rw [zg hi hj]; simp only [hj] at h ⊢
    obtain ⟨rfl, rfl⟩ := cX h
    refine .here hm rfl (.fI hr ?_ rfl)
    unfold idx at hj
    split at hj
    ·rename_i j' _
     cases hb : (j' + 1).ble els.length <;> simp only [hb, cond_true, cond_false, reduceCtorEq, bf] at hj
     subst hj; exact qS hb
    ·cases hj
  case BR t e b off ht =>
   cases he : e.beq esz <;> simp only [he, cond_true, cond_false, reduceCtorEq] at h
   cases hj : idx 0 (ρ i) with
   | none => simp [hj] at h
   | some j =>
    unfold idx at hj
    split at hj
    ·exact absurd (show (none : Option Nat) = some j from hj) (by simp)
    ·cases hj
 case ny N esz x i =>
  have hx := hρ x eh.1
  have hi := hρ i eh.2
  generalize ρ x = y at hx h; generalize ρ' x = y' at hx
  cases hx <;> simp only [reduceCtorEq] at h ⊢
  rename_i hb
  cases hj : idx N (ρ i) with
  | none => simp [hj] at h
  | some j =>
   rw [zg hi hj]; simp only [hj] at h ⊢
   obtain ⟨rfl, rfl⟩ := cX h
   exact .here hm rfl (.ptr hb)
 case eu x i =>
  have hx := hρ x eh.1
  have hi := hρ i eh.2
  generalize ρ x = y at hx h; generalize ρ' x = y' at hx
  cases hx <;> simp only [reduceCtorEq] at h ⊢
  rename_i s
  cases hj : idx s.length (ρ i) with
  | none => simp [hj] at h
  | some j =>
   rw [zg hi hj]; simp only [hj] at h ⊢
   cases hs : s[j]? with
   | none => simp [hs] at h
   | some c =>
    simp only [hs] at h ⊢
    obtain ⟨rfl, rfl⟩ := cX h
    exact .here hm rfl (.int _ _)
 case uY N esz g x i =>
  have hx := hρ x eh.1
  have hi := hρ i eh.2
  generalize ρ x = y at hx h; generalize ρ' x = y' at hx
  cases hx <;> simp only [reduceCtorEq] at h ⊢
  rename_i hs
  cases hj : idx N (ρ i) with
  | none => simp [hj] at h
  | some j =>
   rw [zg hi hj]; simp only [hj] at h ⊢
   obtain ⟨h1, rfl⟩ := iB h
   obtain ⟨v', e1, e2⟩ := hs.part h1
   rw [e1];exact .here hm rfl e2
 case lookup kt z ok mp key =>
  have hx := hρ mp eh.1.1
  have hk := hρ key eh.1.2
  have hz : SV θ z z := SV.of_flat eh.2
  have hzk : SV θ (bif ok then .tuple [z, .bool false] else z) (bif ok then .tuple [z, .bool false] else z) := by
   cases ok
   ·exact hz
   ·exact .tuple (.cons hz (.cons (.bool _) .nil))
  generalize ρ mp = y at hx h; generalize ρ' mp = y' at hx
  cases hx <;> simp only [reduceCtorEq] at h ⊢
  case bz =>
   cases rO : lP kt (ρ key) <;> simp only [rO, cond_true, cond_false, reduceCtorEq] at h
   rw [hk.flat (oL (nv rO)), rO];obtain ⟨rfl, rfl⟩ := cX h
   exact .here hm rfl hzk
  case map b c hb =>
   have hB := hm.de b c hb
   cases hg : m.get b with
   | dead => simp [hg] at h
   | cells cs e t ro => simp [hg] at h
   | map es =>
    rw [hg] at hB;obtain ⟨q9, uA, uB⟩ := hB
    simp only [hg, uA] at h ⊢
    cases Nh : iI kt (ρ key) es <;> simp only [Nh, cond_true, cond_false, reduceCtorEq] at h
    unfold iI at Nh
    cases rO : lP kt (ρ key) <;> simp only [rO, cond_true, cond_false, re] at Nh
    obtain ⟨g1, g2⟩ := vW (nv rO) uB Nh
    obtain ⟨f1, f2⟩ := JX (k := ρ key) uB g1
    rw [hk.flat (oL (nv rO))];simp only [iI, rO, g2, cond_true]
    cases hf : find (ρ key) es with
    | none =>
     rw [f2 hf]; simp only [hf] at h ⊢
     obtain ⟨rfl, rfl⟩ := cX h
     exact .here hm rfl hzk
    | some w =>
     obtain ⟨w', e1, e2⟩ := f1 w hf
     rw [e1]; simp only [hf] at h ⊢
     obtain ⟨rfl, rfl⟩ := cX h
     refine .here hm rfl ?_
     cases ok
     ·exact e2
     ·exact .tuple (.cons e2 (.cons (.bool _) .nil))
 case pg kt mp key x =>
  have hx := hρ mp eh.1
  have hk := hρ key eh.2.1
  have hv := hρ x eh.2.2
  generalize ρ mp = y at hx h; generalize ρ' mp = y' at hx
  cases hx <;> simp only [reduceCtorEq] at h ⊢
  case map b c hb =>
   have hB := hm.de b c hb
   cases hg : m.get b with
   | dead => simp [hg] at h
   | cells cs e t ro => simp [hg] at h
   | map es =>
    rw [hg] at hB;obtain ⟨q9, uA, uB⟩ := hB
    simp only [hg, uA] at h ⊢
    cases Nh : iI kt (ρ key) es <;> simp only [Nh, cond_true, cond_false, reduceCtorEq] at h
    unfold iI at Nh
    cases rO : lP kt (ρ key) <;> simp only [rO, cond_true, cond_false, re] at Nh
    obtain ⟨g1, g2⟩ := vW (nv rO) uB Nh
    have Sx := hk.flat (oL (nv rO))
    have hu := DS hk hv Sx uB g1
    rw [Sx] at hu ⊢
    simp only [iI, rO, g2, cond_true];obtain ⟨rfl, rfl⟩ := cX h
    exact ⟨_, _, rfl, .inl ⟨.undef, hm.set k hb ⟨_, rfl, hu⟩, rfl, rfl⟩, fun d _ hd => az fun e => hd b (e ▸ hb)⟩
 case delete kt mp key =>
  have hx := hρ mp eh.1
  have hk := hρ key eh.2
  generalize ρ mp = y at hx h; generalize ρ' mp = y' at hx
  cases hx <;> simp only [reduceCtorEq] at h ⊢
  case bz =>
   cases rO : lP kt (ρ key) <;> simp only [rO, cond_true, cond_false, reduceCtorEq] at h
   rw [hk.flat (oL (nv rO)), rO];obtain ⟨rfl, rfl⟩ := cX h
   exact .here hm rfl (.tuple .nil)
  case map b c hb =>
   have hB := hm.de b c hb
   cases hg : m.get b with
   | dead => simp [hg] at h
   | cells cs e t ro => simp [hg] at h
   | map es =>
    rw [hg] at hB;obtain ⟨q9, uA, uB⟩ := hB
    simp only [hg, uA] at h ⊢
    cases Nh : iI kt (ρ key) es <;> simp only [Nh, cond_true, cond_false, reduceCtorEq] at h
    unfold iI at Nh
    cases rO : lP kt (ρ key) <;> simp only [rO, cond_true, cond_false, re] at Nh
    obtain ⟨g1, g2⟩ := vW (nv rO) uB Nh
    have Sx := hk.flat (oL (nv rO))
    rw [Sx];simp only [iI, rO, g2, cond_true];obtain ⟨rfl, rfl⟩ := cX h
    exact ⟨_, _, rfl, .inl ⟨.tuple .nil, hm.set k hb ⟨_, rfl, GN uB g1⟩, rfl, rfl⟩, fun d _ hd => az fun e => hd b (e ▸ hb)⟩
 case qX mp =>
  have hx := hρ mp eh
  generalize ρ mp = y at hx h; generalize ρ' mp = y' at hx
  cases hx <;> simp only [reduceCtorEq] at h ⊢
  case bz => obtain ⟨rfl, rfl⟩ := cX h; exact .here hm rfl (.int _ _)
  case map b c hb =>
   have hB := hm.de b c hb
   cases hg : m.get b with
   | dead => simp [hg] at h
   | cells cs e t ro => simp [hg] at h
   | map es =>
    rw [hg] at hB;obtain ⟨q9, uA, uB⟩ := hB
    simp only [hg, uA, uB.len] at h ⊢
    obtain ⟨rfl, rfl⟩ := cX h
    exact .here hm rfl (.int _ _)
 case pT t x =>
  have hx := hρ x eh
  generalize ρ x = y at hx h; generalize ρ' x = y' at hx
  cases hx <;> simp only [reduceCtorEq] at h ⊢
  rename_i u _ _ hs
  cases hb : t.beq u <;> simp only [hb, cond_true, cond_false, reduceCtorEq] at h ⊢
  obtain ⟨rfl, rfl⟩ := cX h
  exact .here hm rfl hs
 case extract x i =>
  have hx := hρ x eh
  generalize ρ x = y at hx h; generalize ρ' x = y' at hx
  cases hx <;> simp only [reduceCtorEq] at h ⊢
  rename_i hs
  obtain ⟨h1, rfl⟩ := iB h
  obtain ⟨v', e1, e2⟩ := hs.get h1
  rw [e1];exact .here hm rfl e2
 case len x =>
  have hx := hρ x eh
  generalize ρ x = y at hx h; generalize ρ' x = y' at hx
  cases hx <;> simp only [reduceCtorEq] at h ⊢ <;> obtain ⟨rfl, rfl⟩ := cX h <;> exact .here hm rfl (.int _ _)
 case cD x =>
  have hx := hρ x eh
  generalize ρ x = y at hx h; generalize ρ' x = y' at hx
  cases hx <;> simp only [reduceCtorEq] at h ⊢
  obtain ⟨rfl, rfl⟩ := cX h; exact .here hm rfl (.int _ _)
 case uX N => obtain ⟨rfl, rfl⟩ := cX h; exact .here hm rfl (.int _ _)
 case cap x =>
  have hx := hρ x eh
  generalize ρ x = y at hx h; generalize ρ' x = y' at hx
  cases hx <;> (try simp only [reduceCtorEq] at h ⊢)
  case ae => obtain ⟨rfl, rfl⟩ := cX h; exact .here hm rfl (.int _ _)
  case slice cap hb =>
   cases cap <;> simp only [reduceCtorEq] at h ⊢
   obtain ⟨rfl, rfl⟩ := cX h; exact .here hm rfl (.int _ _)
 case max args =>
  obtain ⟨h1, rfl⟩ := iB h
  obtain ⟨f1, f2⟩ := QV h1
  rw [(ya.list hρ eh).flat f1, h1];exact .here hm rfl (SV.of_flat f2)
 case min args =>
  obtain ⟨h1, rfl⟩ := iB h
  obtain ⟨f1, f2⟩ := QS h1
  rw [(ya.list hρ eh).flat f1, h1];exact .here hm rfl (SV.of_flat f2)
 case append e esz by_ s x =>
  unfold xf at h;obtain ⟨q, hq, he⟩ := j8.1 h
  obtain ⟨q1, q2⟩ := q
  cases he
  exact Mn hm k f (hρ s eh.1) (hρ x eh.2) hq
 case copy esz d s =>
  unfold xf at h;obtain ⟨q, hq, he⟩ := j8.1 h
  obtain ⟨q1, q2⟩ := q
  cases he
  exact RY hm k (hρ d eh.1) (hρ s eh.2) hq
end
end
end Go.Proofs.YtdiccmapankckaaDoor.Ev
