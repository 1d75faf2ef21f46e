/- EvTab, EvCore, EvRun, EvComp, EvRel, EvMem, EvGlo, EvGl, EvOpA, EvOpB, EvOpC, EvOpD, EvOpE, EvOpF. -/
import GoSem.Dispatch
import Derived.Calls
import Derived.Laws.Sem
import Derived.Laws.World
import Derived.Laws.Entries
import Derived.KernelRfl
set_option linter.unusedSimpArgs false
set_option linter.unusedVariables false
set_option linter.unusedSectionVars false
set_option linter.defProp false
set_option maxRecDepth 20000
set_option maxHeartbeats 8000000
namespace Go.Proofs.YtblcomejcahkdaaDoor.Ev
open Go
abbrev aQ := @Option.some.injEq
abbrev fG := @Option.map_eq_some_iff
abbrev ij := @List.getElem?_eq_getElem
abbrev kj := @Prod.mk.injEq
abbrev kO := @List.getElem?_eq_some_iff
abbrev kE := @List.length_append
abbrev ee := @Nat.le_refl
abbrev ve := @Nat.lt_of_lt_of_le
abbrev lk := @Nat.le_of_ble_eq_true
abbrev pF := @Nat.zero_le
abbrev lm := @Bool.false_eq_true
abbrev kD := @Bool.and_eq_true
abbrev zqm := @Option.some.inj
abbrev sj := @Classical.byContradiction
abbrev rB := @List.getElem?_append_left
abbrev qJ := @List.getElem?_append_right
abbrev rA := @List.mem_cons_of_mem
abbrev Lv := @List.length_drop
abbrev xu := @List.mem_singleton
abbrev lj := @List.mem_cons
abbrev vn := @Nat.le_trans
abbrev qI := @List.take_of_length_le
abbrev nY := @List.mem_append
abbrev oU := @List.getElem_mem
abbrev lJ := @Nat.ble_eq_true_of_le
section
theorem gf {a b : Nat} (h : a ≠ b) : a.beq b = false := by
 cases e : a.beq b
 ·rfl
 ·exact absurd (Nat.eq_of_beq_eq_true e) h
theorem aB {a b : Nat} (h : a.beq b = true) : a = b := Nat.eq_of_beq_eq_true h
theorem gw {a b : Nat} (h : a.beq b = false) : a ≠ b := by
 rintro rfl
 rw [Nat.beq_refl] at h
 cases h
theorem cd (a : Nat) : a.beq a = true := Nat.beq_refl a
def lA : Nat -> Nat -> List Bool
 | 0, _ => []
 | f + 1, k => bif k.beq 0 then [] else bif (k % 2).beq 1 then true :: lA f (k / 2) else false :: lA f (k / 2 - 1)
def path (k : Nat) : List Bool := lA k k
theorem zB : ∀ (f g k l : Nat), k <= f -> l <= g -> lA f k = lA g l -> k = l := by
 intro f
 induction f with
 | zero =>
  intro g k l hk hl h
  obtain rfl : k = 0 := by omega
  cases g with
  | zero => omega
  | succ g =>
   simp only [lA] at h;by_cases e : l = 0
   ·exact e.symm
   ·have e1 : l.beq 0 = false := gf e
    rw [e1] at h
    cases e2 : (l % 2).beq 1 <;> simp [e2] at h
 | succ f ih =>
  intro g k l hk hl h
  cases g with
  | zero =>
   obtain rfl : l = 0 := by omega
   simp only [lA] at h;by_cases e : k = 0
   ·exact e
   ·have e1 : k.beq 0 = false := gf e
    rw [e1] at h
    cases e2 : (k % 2).beq 1 <;> simp [e2] at h
  | succ g =>
   simp only [lA] at h;by_cases e : k = 0
   ·by_cases e' : l = 0
    ·omega
    ·have e1 : l.beq 0 = false := gf e'
     rw [e1] at h;subst e
     cases e2 : (l % 2).beq 1 <;> simp [e2] at h
   ·have e1 : k.beq 0 = false := gf e
    rw [e1] at h;by_cases e' : l = 0
    ·subst e'
     cases e2 : (k % 2).beq 1 <;> simp [e2] at h
    ·have e1' : l.beq 0 = false := gf e'
     rw [e1'] at h
     cases e2 : (k % 2).beq 1 <;> cases TW : (l % 2).beq 1 <;> simp [e2, TW] at h
     ·have := gw e2
      have := gw TW
      have := ih g _ _ (by omega) (by omega) h
      omega
     ·have := aB e2
      have := aB TW
      have := ih g _ _ (by omega) (by omega) h
      omega
theorem zA {k l : Nat} (h : path k = path l) : k = l := zB _ _ _ _ (ee _) (ee _) h
inductive Tr (α : Type) where
 | leaf
 | node (v : Option α) (l r : Tr α)
def Tr.at {α : Type} : Tr α -> List Bool -> Option α
 | .leaf, _ => none
 | .node v _ _, [] => v
 | .node _ l r, b :: p => bif b then r.at p else l.at p
def Tr.put {α : Type} (x : α) : List Bool -> Tr α -> Tr α
 | [], .leaf => .node (some x) .leaf .leaf
 | [], .node _ l r => .node (some x) l r
 | b :: p, .leaf => bif b then .node none .leaf (Tr.put x p .leaf) else .node none (Tr.put x p .leaf) .leaf
 | b :: p, .node v l r => bif b then .node v l (Tr.put x p r) else .node v (Tr.put x p l) r
theorem Tr.Bg {α : Type} (x : α) (p : List Bool) : ∀ t : Tr α, (t.put x p).at p = some x := by
 induction p with
 | nil => intro t; cases t <;> rfl
 | cons b p ih => intro t; cases t <;> cases b <;> simp [Tr.put, Tr.at, ih]
theorem Tr.Hu {α : Type} (x : α) (p : List Bool) : ∀ (q : List Bool) (t : Tr α), p ≠ q -> (t.put x p).at q = t.at q := by
 induction p with
 | nil =>
  intro q t h
  cases q with
  | nil => exact absurd rfl h
  | cons c q => cases t <;> cases c <;> simp [Tr.put, Tr.at]
 | cons b p ih =>
  intro q t h
  cases q with
  | nil => cases t <;> cases b <;> simp [Tr.put, Tr.at]
  | cons c q =>
   cases t <;> cases b <;> cases c <;> simp [Tr.put, Tr.at] <;> (first | (rw [ih _ _ (fun e => h (by rw [e]))]; try rfl) | skip)
def Tr.get {α : Type} (t : Tr α) (k : Nat) : Option α := t.at (path k)
def Tr.set {α : Type} (t : Tr α) (k : Nat) (x : α) : Tr α := t.put x (path k)
theorem Tr.ba {α : Type} (t : Tr α) (k l : Nat) (x : α) : (t.set k x).get l = if l = k then some x else t.get l := by
 unfold Tr.get Tr.set;by_cases h : l = k
 ·subst h; rw [if_pos rfl, Tr.Bg]
 ·rw [if_neg h, Tr.Hu _ _ _ _ (fun e => h (zA e).symm)]
theorem Tr.ql {α : Type} (k : Nat) : (Tr.leaf : Tr α).get k = none := by
 unfold Tr.get; cases path k <;> rfl
end
section
inductive EV where
 | undef
 | bool (b : Bool)
 | int (k : IntKind) (n : Int)
 | str (s : List UInt8)
 | bb
 | ptr (b off : Nat)
 | aa
 | slice (b off len : Nat) (cap : Option Nat)
 | aS
 | map (b : Nat)
 | aR
 | func (f : Nat) (first captured : List EV)
 | aq
 | iface (t : Nat) (v : EV)
 | agg (cs : List EV)
 | tuple (vs : List EV)
 | fz (t esz : Nat) (els : List (List EV))   -- a row H5 stays cM it is: with its elements (t: Rm one; 0: not told)
 | dl (esz : Nat) (els : List (List EV)) (i k : Nat)   -- a cell of YY a row: TV i, cell k
def pQ : Option Nat -> Option Nat -> Bool
 | none, none => true
 | some a, some b => a.beq b
 | _, _ => false
def gu : List UInt8 -> List UInt8 -> Bool
 | [], [] => true
 | a :: x, b :: y => bif a.toNat.beq b.toNat then gu x y else false
 | _, _ => false
def mD : Int -> Int -> Bool
 | .ofNat a, .ofNat b => a.beq b
 | .negSucc a, .negSucc b => a.beq b
 | _, _ => false
def bf : IntKind -> Nat
 | .i8 => 0 | .i16 => 1 | .i32 => 2 | .i64 => 3 | .u8 => 4 | .u16 => 5 | .u32 => 6 | .u64 => 7
mutual
def EV.same : EV -> EV -> Bool
 | .undef, .undef | .bb, .bb | .aa, .aa | .aS, .aS | .aR, .aR | .aq, .aq => true
 | .bool a, .bool b => a == b
 | .int k a, .int l b => bif (bf k).beq (bf l) then mD a b else false
 | .str a, .str b => gu a b
 | .ptr a i, .ptr b j => bif a.beq b then i.beq j else false
 | .slice a i n c, .slice b j m d => bif a.beq b then bif i.beq j then bif n.beq m then pQ c d else false else false else false
 | .map a, .map b => a.beq b
 | .func f a c, .func g b d => bif f.beq g then bif EV.gO a b then EV.gO c d else false else false
 | .iface t v, .iface u w => bif t.beq u then EV.same v w else false
 | .agg a, .agg b => EV.gO a b
 | .tuple a, .tuple b => EV.gO a b
 | .fz t e a, .fz u f b => bif t.beq 0 then false else bif t.beq u then bif e.beq f then EV.lK a b else false else false
 | _, _ => false
def EV.gO : List EV -> List EV -> Bool
 | [], [] => true
 | a :: x, b :: y => bif EV.same a b then EV.gO x y else false
 | _, _ => false
def EV.lK : List (List EV) -> List (List EV) -> Bool
 | [], [] => true
 | a :: x, b :: y => bif EV.gO a b then EV.lK x y else false
 | _, _ => false
end
inductive cY where
 | dead
 | cells (cs : List EV) (esz : Nat) (elem : Nat) (ro : Bool)
 | map (es : List (EV × EV))
structure Mem where
 next : Nat
 kl : Tr cY
def Mem.get (m : Mem) (b : Nat) : cY := (m.kl.get b).getD .dead
def Mem.set (m : Mem) (b : Nat) (x : cY) : Mem := ⟨m.next, m.kl.set b x⟩
def Mem.new (m : Mem) (x : cY) : Mem := ⟨m.next + 1, m.kl.set m.next x⟩
def EV.cells : EV -> Option (List EV)
 | .undef | .tuple _ => none
 | .agg cs => some cs
 | v => some [v]
def partOf (agg : Option Nat) (cs : List EV) (off : Nat) : Option EV :=
 match agg with
 | none => cs[off]?
 | some n => bif (off + n).ble cs.length then some (.agg ((cs.drop off).take n)) else none
def eG (cs : List EV) (off : Nat) (vs : List EV) : Option (List EV) :=
 bif (off + vs.length).ble cs.length then some (cs.take off ++ vs ++ cs.drop (off + vs.length)) else none
def Mem.load (m : Mem) (agg : Option Nat) : EV -> Option EV
 | .ptr b off => match m.get b with
  | .cells cs _ _ _ => partOf agg cs off
  | _ => none
 | .dl _ els i k => match els[i]? with
  | some el => partOf agg el k
  | none => none
 | _ => none
def Mem.tG (m : Mem) (b off n : Nat) : Option (List EV) :=
 match m.get b with
 | .cells cs _ _ _ => bif (off + n).ble cs.length then some ((cs.drop off).take n) else none
 | _ => none
def Mem.row (m : Mem) (b off n : Nat) : Option (List EV) := bif n.beq 0 then some [] else m.tG b off n
theorem Mem.jG {m : Mem} {b off n : Nat} (h : n ≠ 0) : m.row b off n = m.tG b off n := by unfold Mem.row; rw [gf h]; rfl
theorem Mem.jN {m : Mem} {b off : Nat} : m.row b off 0 = some [] := rfl
def Mem.write (m : Mem) (b off : Nat) (vs : List EV) : Option Mem :=
 match m.get b with
 | .cells cs esz elem ro => bif ro then none else (eG cs off vs).map fun cs => m.set b (.cells cs esz elem ro)
 | _ => none
def Mem.store (m : Mem) (size : Nat) (a x : EV) : Option Mem :=
 match a, x.cells with
 | .ptr b off, some vs => bif vs.length.beq size then m.write b off vs else none
 | _, _ => none
inductive aD where
 | tmp (t : Nat)
 | const (v : EV)
inductive mw where
 | ax (k : Nat)   -- 0 XI, 1 whole number, 2 string, 3 pointer, 4 slice, 5 map, 6 SX, 7 interface
 | agg (fields : List (Option Nat × Nat × mw))
inductive Cv where
 | int (k : IntKind)
 | same
 | bytes (elem : Nat)
 | text
inductive iR where
 | ab (x : aD)
 | pick (c a b : aD)
 | alloc (elem : Nat) (zero : List EV)
 | box (elem : Nat) (x : aD)
 | build (zero : List EV) (parts : List (Nat × Nat × aD))
 | aU (elem esz len : Nat) (zero : List EV) (parts : List (Nat × aD))
 | load (agg : Option Nat) (a : aD)
 | store (size : Nat) (a x : aD)
 | kn (x : aD)
 | bin (op : BinOp) (x y : aD)
 | eq (neg : Bool) (t : mw) (x y : aD)
 | un (op : UnOp) (x : aD)
 | conv (c : Cv) (x : aD)
 | iface (t : Nat) (x : aD)
 | tX (f : Nat) (first captured : List aD)
 | nz
 | gy (elem esz : Nat) (zero : List EV) (len cap : aD)
 | mW (x : aD) (lo hi : Option aD)
 | lp (esz : Nat) (x : aD) (lo hi max : Option aD)
 | kU (n esz : Nat) (x : aD) (lo hi max : Option aD)
 | ak (off : Nat) (x : aD)
 | OX (agg : Option Nat) (off : Nat) (x : aD)
 | ay (esz : Nat) (x i : aD)
 | c7 (n esz : Nat) (x i : aD)
 | cO (x i : aD)
 | nF (n esz : Nat) (agg : Option Nat) (x i : aD)
 | lookup (kt : Nat) (zero : EV) (ok : Bool) (m k : aD)
 | kY (kt : Nat) (m k x : aD)
 | delete (kt : Nat) (m k : aD)
 | lP (m : aD)
 | ly (t : Nat) (x : aD)
 | extract (x : aD) (i : Nat)
 | len (x : aD)
 | eH (x : aD)
 | nB (n : Nat)
 | cap (x : aD)
 | max (args : List aD)
 | min (args : List aD)
 | append (elem esz bytes : Nat) (s x : aD)
 | copy (esz : Nat) (d s : aD)
inductive qH where
 | val (op : iR)
 | call (f : aD) (args : List aD)
 | panic (x : aD)
 | defer (f : aD) (args : List aD)
def bM : iR -> Nat
 | .alloc _ _ | .box _ _ | .aU _ _ _ _ _ | .nz | .gy _ _ _ _ _ | .conv (.bytes _) _ => 1
 | .load _ _ => 2
 | .store _ _ _ | .conv .text _ | .lookup _ _ _ _ _ | .kY _ _ _ _ | .delete _ _ _ | .lP _ | .append _ _ _ _ _ | .copy _ _ _ | .lp _ _ _ _ _ => 3
 | _ => 0
def sort : qH -> Nat
 | .val op => bM op
 | _ => 3
def tL : Option aD -> List aD
 | none => []
 | some x => [x]
def eY : iR -> List aD
 | .ab x | .box _ x | .load _ x | .kn x | .un _ x | .conv _ x | .iface _ x | .ak _ x | .OX _ _ x | .lP x | .ly _ x | .extract x _ | .len x | .eH x | .cap x => [x]
 | .pick c a b => [c, a, b]
 | .alloc _ _ | .nz | .nB _ => []
 | .build _ ps => ps.map fun p => p.2.2
 | .aU _ _ _ _ ps => ps.map fun p => p.2
 | .store _ a x | .bin _ a x | .eq _ _ a x | .gy _ _ _ a x | .ay _ a x | .c7 _ _ a x | .cO a x | .nF _ _ _ a x | .lookup _ _ _ a x | .delete _ a x | .append _ _ _ a x | .copy _ a x => [a, x]
 | .tX _ a c => a ++ c
 | .mW x l h => x :: (tL l ++ tL h)
 | .lp _ x l h m | .kU _ _ x l h m => x :: (tL l ++ (tL h ++ tL m))
 | .kY _ m k x => [m, k, x]
 | .max xs | .min xs => xs
def kP : qH -> List aD
 | .val op => eY op
 | .call f xs | .defer f xs => f :: xs
 | .panic x => [x]
def tmpsOf : List aD -> List Nat
 | [] => []
 | .tmp t :: r => t :: tmpsOf r
 | .const _ :: r => tmpsOf r
structure aF where
 dst : Option Nat
 op : qH
 guard : Option (Nat × Bool)   -- TY QM, and what it qX be
inductive au where
 | skip
 | region (ops : List aF)
 | draw (ops : List aF) (chk : List (Nat × Nat))
 | seq (a b : au)
 | cond (c : aD) (a b : au)
 | block (id : Nat) (a : au)
 | loop (a : au)
 | exit (id : Nat)
 | ret
inductive jd where
 | tmp (t : Nat)
 | cell (t : Nat) (agg : Option Nat)
structure ar where
 ntmps : Nat
 body : au
 results : List jd
structure Fr where
 tmps : Tr EV
 defers : List (Nat × List EV)
def Fr.get (fr : Fr) (t : Nat) : EV := (fr.tmps.get t).getD .undef
def Fr.set (fr : Fr) (t : Nat) (v : EV) : Fr := ⟨fr.tmps.set t v, fr.defers⟩
def Fr.put (fr : Fr) (d : Option Nat) (v : EV) : Fr := match d with | some t => fr.set t v | none => fr
def Fr.eval (fr : Fr) : aD -> EV
 | .tmp t => fr.get t
 | .const v => v
def lR (op : BinOp) (k : IntKind) (x y : Int) : Option Int :=
 let a := BitVec.ofInt k.bits x
 let b := BitVec.ofInt k.bits y
 match op with
 | .and => some (k.wrap (a &&& b).toNat)
 | .or => some (k.wrap (a ||| b).toNat)
 | .xor => some (k.wrap (a ^^^ b).toNat)
 | .andNot => some (k.wrap (a &&& ~~~b).toNat)
 | _ => none
def jZ (op : BinOp) (k : IntKind) (x y : Int) : Option EV :=
 match op with
 | .add => some (.int k (k.wrap (x + y)))
 | .sub => some (.int k (k.wrap (x - y)))
 | .mul => some (.int k (k.wrap (x * y)))
 | .quo => if y = 0 then none else some (.int k (k.wrap (x.tdiv y)))
 | .rem => if y = 0 then none else some (.int k (x.tmod y))
 | .and | .or | .xor | .andNot => (lR op k x y).map (.int k)
 | .eql => some (.bool (decide (x = y)))
 | .neq => some (.bool (!decide (x = y)))
 | .lss => some (.bool (decide (x < y)))
 | .leq => some (.bool (decide (x <= y)))
 | .gtr => some (.bool (decide (y < x)))
 | .geq => some (.bool (decide (y <= x)))
 | .shl | .shr => none
def mQ (op : BinOp) (k : IntKind) (x y : Int) : Option EV :=
 if y < 0 then none else
 match op with
 | .shl => some (.int k (k.wrap (x * 2 ^ min y.toNat k.bits)))
 | .shr => some (.int k (x.fdiv (2 ^ min y.toNat k.bits)))
 | _ => none
def aV (op : BinOp) (x y : EV) : Option EV :=
 match x, y with
 | .int k a, .int l b => match op with
  | .shl | .shr => mQ op k a b
  | _ => bif (bf k).beq (bf l) then jZ op k a b else none
 | .str a, .str b => match op with
  | .add => bif (a.length + b.length).ble 4294967296 then some (.str (a ++ b)) else none
  | .eql => some (.bool (gu a b))
  | .neq => some (.bool (!gu a b))
  | _ => none
 | _, _ => none
def ca (t : Nat) : EV -> EV -> Option Bool
 | .int k a, .int l b => bif t.beq 1 then bif (bf k).beq (bf l) then some (decide (a = b)) else none else none
 | .bool a, .bool b => bif t.beq 0 then some (a == b) else none
 | .str a, .str b => bif t.beq 2 then some (gu a b) else none
 | .bb, .bb => bif t.beq 3 then some true else none
 | .bb, .ptr _ _ | .ptr _ _, .bb => bif t.beq 3 then some false else none
 | .aa, .aa => bif t.beq 4 then some true else none
 | .aa, .slice _ _ _ _ | .slice _ _ _ _, .aa => bif t.beq 4 then some false else none
 | .aa, .fz _ _ _ | .fz _ _ _, .aa => bif t.beq 4 then some false else none
 | .aS, .aS => bif t.beq 5 then some true else none
 | .aS, .map _ | .map _, .aS => bif t.beq 5 then some false else none
 | .aR, .aR => bif t.beq 6 then some true else none
 | .aR, .func _ _ _ | .func _ _ _, .aR => bif t.beq 6 then some false else none
 | .aq, .iface _ _ | .iface _ _, .aq => bif t.beq 7 then some false else none
 | _, _ => none
mutual
def cL : mw -> EV -> EV -> Option Bool
 | .ax t, x, y => ca t x y
 | .agg fs, .agg a, .agg b => lf fs a b
 | _, _, _ => none
def lf : List (Option Nat × Nat × mw) -> List EV -> List EV -> Option Bool
 | [], _, _ => some true
 | (g, off, t) :: r, a, b => match partOf g a off, partOf g b off with
  | some x, some y => match cL t x y with
   | some true => lf r a b
   | o => o
  | _, _ => none
end
def uF (op : UnOp) (x : EV) : Option EV :=
 match op, x with
 | .neg, .int k n => some (.int k (k.wrap (0 - n)))
 | .xor, .int k n => (lR .xor k (if k.signed then -1 else k.max) n).map (.int k)
 | .not, .bool b => some (.bool (!b))
 | _, _ => none
def bytesOf : List EV -> Option (List UInt8)
 | [] => some []
 | .int .u8 n :: r => (bytesOf r).map (UInt8.ofNat n.toNat :: ·)
 | _ => none
def fA (c : Cv) (m : Mem) (x : EV) : Option (EV × Mem) :=
 match c, x with
 | .int k, .int _ n => some (.int k (k.wrap n), m)
 | .same, .str s => some (.str s, m)
 | .bytes e, .str s => some (.slice m.next 0 s.length none, m.new (.cells (s.map fun b => .int .u8 (b.toNat : Int)) 1 e false))
 | .text, .aa => some (.str [], m)
 | .text, .slice b off n _ => match m.row b off n with
  | some cs => (bytesOf cs).map fun s => (.str s, m)
  | none => none
 | _, _ => none
def aw (x : Option EV) (N0 qY : Nat) : Option Nat :=
 match x with
 | none => some N0
 | some (.int _ (.ofNat i)) => bif i.ble qY then some i else none
 | _ => none
def b9 (esz b off len : Nat) (cap : Option Nat) (lo hi max : Option EV) : Option EV :=
 match cap with
 | some c => match aw max c c with
  | some t => match aw hi len t with
   | some h => match aw lo 0 h with
    | some l => some (.slice b (bif t.beq l then off else off + l * esz) (h - l) (some (t - l)))
    | none => none
   | none => none
  | none => none
 | none => match max with
  | some _ => match aw max len len with
   | some t => match aw hi len t with
    | some h => match aw lo 0 h with
     | some l => some (.slice b (bif t.beq l then off else off + l * esz) (h - l) (some (t - l)))
     | none => none
    | none => none
   | none => none
  | none => match aw hi len len with
   | some h => match aw lo 0 h with
    | some l => some (.slice b (off + l * esz) (h - l) none)
    | none => none
   | none => none
def find (k : EV) : List (EV × EV) -> Option EV
 | [] => none
 | (l, v) :: r => bif EV.same k l then some v else find k r
def update (k v : EV) : List (EV × EV) -> List (EV × EV)
 | [] => [(k, v)]
 | (l, w) :: r => bif EV.same k l then (k, v) :: r else (l, w) :: update k v r
def erase (k : EV) : List (EV × EV) -> List (EV × EV)
 | [] => []
 | (l, w) :: r => bif EV.same k l then r else (l, w) :: erase k r
def iX (kt : Nat) : EV -> Bool
 | .int _ _ => kt.beq 2
 | .str _ => kt.beq 1
 | .bool _ => kt.beq 0
 | _ => false
def hJ : EV -> Nat
 | .int k _ => 2 + bf k | .str _ => 1 | .bool _ => 0 | _ => 99
def kp (k : EV) : List (EV × EV) -> Bool
 | [] => true
 | e :: r => bif (hJ e.1).beq (hJ k) then kp k r else false
def e7 (kt : Nat) (k : EV) (es : List (EV × EV)) : Bool := bif iX kt k then kp k es else false
def cU (cs : List EV) : List (Nat × Nat × EV) -> Option (List EV)
 | [] => some cs
 | (off, size, v) :: r => match v.cells with
  | some vs => bif vs.length.beq size then match eG cs off vs with
    | some cs => cU cs r
    | none => none
   else none
  | none => none
def cH (n : Nat) (zero : List EV) : List EV := (List.replicate n zero).flatten
def Mem.source (m : Mem) (esz : Nat) : EV -> Option (Nat × List EV)
 | .aa => some (0, [])
 | .slice b off n _ => (m.row b off (n * esz)).map fun cs => (n, cs)
 | .str s => bif esz.beq 1 then some (s.length, s.map fun b => .int .u8 (b.toNat : Int)) else none
 | .fz _ e els => bif e.beq esz then some (els.length, els.flatten) else none
 | _ => none
def room : Nat := 1073741824
def eu (m : Mem) (elem esz : Nat) (s x : EV) : Option (EV × Mem) :=
 match m.source esz x with
 | none => none
 | some (n, xs) =>
  bif n.beq 0 then
   match s with
   | .aa => some (.aa, m)
   | .slice b off len cap => some (.slice b off len cap, m)
   | .fz t e els => some (.fz t e els, m)
   | _ => none
  else match s with
  | .aa => bif n.ble room then some (.slice m.next 0 n none, m.new (.cells xs esz elem false)) else none
  | .slice b off len cap =>
   bif (len + n).ble room then
    match m.row b off (len * esz) with
    | none => none
    | some old => match cap with
     | some c => bif (len + n).ble c then (m.write b (off + len * esz) xs).map fun m => (.slice b off (len + n) (some c), m)
       else some (.slice m.next 0 (len + n) none, m.new (.cells (old ++ xs) esz elem false))
     | none => match m.get b with
      | .cells _ e _ false => bif e.beq esz then some (.slice m.next 0 (len + n) none, (m.new (.cells (old ++ xs) esz elem false)).set b .dead) else none
      | _ => none
   else none
  | _ => none
def pn (m : Mem) (esz : Nat) (d s : EV) : Option (EV × Mem) :=
 match d with
 | .aa => (m.source esz s).map fun _ => (.int .i64 0, m)
 | .slice b off len _ => match m.source esz s with
  | none => none
  | some (n, xs) => (m.write b off (xs.take (min n len * esz))).map fun m => (.int .i64 (min n len : Nat), m)
 | _ => none
def gZ (k : IntKind) (x : Int) : List EV -> Option EV
 | [] => some (.int k x)
 | .int l y :: r => bif (bf k).beq (bf l) then gZ k (if y > x then y else x) r else none
 | _ => none
def ku (k : IntKind) (x : Int) : List EV -> Option EV
 | [] => some (.int k x)
 | .int l y :: r => bif (bf k).beq (bf l) then ku k (if y < x then y else x) r else none
 | _ => none
def lH : List EV -> Option EV
 | .int k x :: r => gZ k x r
 | _ => none
def sc : List EV -> Option EV
 | .int k x :: r => ku k x r
 | _ => none
inductive R1 where
 | val (v : EV) (m : Mem)
def dQ (m : Mem) (x : Option EV) : Option R1 := x.map fun v => .val v m
def oq (x : Option (EV × Mem)) : Option R1 := x.map fun p => .val p.1 p.2
def ofM (x : Option Mem) : Option R1 := x.map fun m => .val .undef m
def idx (n : Nat) : EV -> Option Nat
 | .int _ (.ofNat i) => bif (i + 1).ble n then some i else none
 | _ => none
def ap (ρ : aD -> EV) (op : iR) (m : Mem) : Option R1 :=
 match op with
 | .ab x => some (.val (ρ x) m)
 | .pick c a b => match ρ c with | .bool t => some (.val (bif t then ρ a else ρ b) m) | _ => none
 | .alloc elem zero => some (.val (.ptr m.next 0) (m.new (.cells zero zero.length elem false)))
 | .box elem x => match (ρ x).cells with
  | some cs => some (.val (.ptr m.next 0) (m.new (.cells cs cs.length elem false)))
  | none => none
 | .build zero parts => dQ m ((cU zero (parts.map fun p => (p.1, p.2.1, ρ p.2.2))).map .agg)
 | .aU elem esz len zero parts => match cU (cH len zero) (parts.map fun p => (p.1 * esz, esz, ρ p.2)) with
  | some cs => some (.val (.slice m.next 0 len (some len)) (m.new (.cells cs esz elem false)))
  | none => none
 | .load agg a => dQ m (m.load agg (ρ a))
 | .store size a x => ofM (m.store size (ρ a) (ρ x))
 | .kn x => match ρ x with
  | .ptr b off => some (.val (.ptr b off) m)
  | .func f a c => some (.val (.func f a c) m)
  | .iface t v => some (.val (.iface t v) m)
  | .dl e els i k => some (.val (.dl e els i k) m)
  | _ => none
 | .bin op x y => dQ m (aV op (ρ x) (ρ y))
 | .eq neg t x y => dQ m ((cL t (ρ x) (ρ y)).map fun b => .bool (neg ^^ b))
 | .un op x => dQ m (uF op (ρ x))
 | .conv c x => oq (fA c m (ρ x))
 | .iface t x => some (.val (.iface t (ρ x)) m)
 | .tX f a c => some (.val (.func f (a.map ρ) (c.map ρ)) m)
 | .nz => some (.val (.map m.next) (m.new (.map [])))
 | .gy elem esz zero len cap => match ρ len, ρ cap with
  | .int .i64 (.ofNat l), .int .i64 (.ofNat c) => bif (bif l.ble c then c.ble room else false) then
    some (.val (.slice m.next 0 l (some c)) (m.new (.cells (cH c zero) esz elem false))) else none
  | _, _ => none
 | .mW x lo hi => match ρ x with
  | .str s => match aw (hi.map ρ) s.length s.length with
   | some h => match aw (lo.map ρ) 0 h with
    | some l => some (.val (.str ((s.take h).drop l)) m)
    | none => none
   | none => none
  | _ => none
 | .lp esz x lo hi max => match ρ x with
  | .aa => match aw (max.map ρ) 0 0, aw (hi.map ρ) 0 0, aw (lo.map ρ) 0 0 with
   | some _, some _, some _ => some (.val .aa m)
   | _, _, _ => none
  | .slice b off len (some c) => dQ m (b9 esz b off len (some c) (lo.map ρ) (hi.map ρ) (max.map ρ))
  | .slice b off len none => match m.get b with
   | .cells _ e _ _ => bif e.beq esz then dQ m (b9 esz b off len none (lo.map ρ) (hi.map ρ) (max.map ρ)) else none
   | _ => none
  | .fz _ e els => match max with
   | none => bif e.beq esz then
     match aw (hi.map ρ) els.length els.length with
     | some h => match aw (lo.map ρ) 0 h with
      | some l => some (.val (.fz 0 e ((els.take h).drop l)) m)
      | none => none
     | none => none
    else none
   | some _ => none
  | _ => none
 | .kU n esz x lo hi max => match ρ x with
  | .ptr b off => dQ m (b9 esz b off n (some n) (lo.map ρ) (hi.map ρ) (max.map ρ))
  | _ => none
 | .ak off x => match ρ x with
  | .ptr b o => some (.val (.ptr b (o + off)) m)
  | .dl e els i k => some (.val (.dl e els i (k + off)) m)
  | _ => none
 | .OX agg off x => match ρ x with
  | .agg cs => dQ m (partOf agg cs off)
  | _ => none
 | .ay esz x i => match ρ x with
  | .slice b off len _ => match idx len (ρ i) with
   | some i => some (.val (.ptr b (off + i * esz)) m)
   | none => none
  | .fz _ e els => bif e.beq esz then match idx els.length (ρ i) with
    | some i => some (.val (.dl e els i 0) m)
    | none => none
   else none
  | _ => none
 | .c7 n esz x i => match ρ x with
  | .ptr b off => match idx n (ρ i) with
   | some i => some (.val (.ptr b (off + i * esz)) m)
   | none => none
  | _ => none
 | .cO x i => match ρ x with
  | .str s => match idx s.length (ρ i) with
   | some i => match s[i]? with
    | some c => some (.val (.int .u8 (c.toNat : Int)) m)
    | none => none
   | none => none
  | _ => none
 | .nF n esz agg x i => match ρ x with
  | .agg cs => match idx n (ρ i) with
   | some i => dQ m (partOf agg cs (i * esz))
   | none => none
  | _ => none
 | .lookup kt zero ok mp k => match ρ mp with
  | .aS => bif iX kt (ρ k) then some (.val (bif ok then .tuple [zero, .bool false] else zero) m) else none
  | .map b => match m.get b with
   | .map es => bif e7 kt (ρ k) es then
     match find (ρ k) es with
     | some v => some (.val (bif ok then .tuple [v, .bool true] else v) m)
     | none => some (.val (bif ok then .tuple [zero, .bool false] else zero) m)
    else none
   | _ => none
  | _ => none
 | .kY kt mp k x => match ρ mp with
  | .map b => match m.get b with
   | .map es => bif e7 kt (ρ k) es then some (.val .undef (m.set b (.map (update (ρ k) (ρ x) es)))) else none
   | _ => none
  | _ => none
 | .delete kt mp k => match ρ mp with
  | .aS => bif iX kt (ρ k) then some (.val (.tuple []) m) else none
  | .map b => match m.get b with
   | .map es => bif e7 kt (ρ k) es then some (.val (.tuple []) (m.set b (.map (erase (ρ k) es)))) else none
   | _ => none
  | _ => none
 | .lP mp => match ρ mp with
  | .aS => some (.val (.int .i64 0) m)
  | .map b => match m.get b with
   | .map es => some (.val (.int .i64 (es.length : Int)) m)
   | _ => none
  | _ => none
 | .ly t x => match ρ x with
  | .iface u v => bif t.beq u then some (.val v m) else none
  | _ => none
 | .extract x i => match ρ x with
  | .tuple vs => dQ m vs[i]?
  | _ => none
 | .eH x => match ρ x with
  | .str s => some (.val (.int .i64 (s.length : Int)) m)
  | _ => none
 | .len x => match ρ x with
  | .aa => some (.val (.int .i64 0) m)
  | .slice _ _ n _ => some (.val (.int .i64 (n : Int)) m)
  | .fz _ _ els => some (.val (.int .i64 (els.length : Int)) m)
  | _ => none
 | .nB n => some (.val (.int .i64 (n : Int)) m)
 | .cap x => match ρ x with
  | .aa => some (.val (.int .i64 0) m)
  | .slice _ _ _ (some c) => some (.val (.int .i64 (c : Int)) m)
  | _ => none
 | .max args => dQ m (lH (args.map ρ))
 | .min args => dQ m (sc (args.map ρ))
 | .append elem esz _ s x => oq (eu m elem esz (ρ s) (ρ x))
 | .copy esz d s => oq (pn m esz (ρ d) (ρ s))
end
section
inductive Fin where
 | ret (v : EV) (m : Mem)
 | dZ (v : EV) (m : Mem)
inductive Out where
 | norm (fr : Fr) (m : Mem)
 | exit (id : Nat) (fr : Fr) (m : Mem)
 | ret (fr : Fr) (m : Mem)
 | dZ (v : EV) (fr : Fr) (m : Mem)
abbrev Call := Nat -> List EV -> Mem -> Option Fin
def aG (fr : Fr) : Option (Nat × Bool) -> Option Bool
 | none => some true
 | some (t, w) => match fr.get t with
  | .bool b => some (b == w)
  | .undef => some false
  | _ => none
def dy (call : Call) (f : EV) (args : List EV) (m : Mem) : Option Fin :=
 match f with
 | .func g a c => call g (a ++ args ++ c) m
 | _ => none
def et (call : Call) : List aF -> Fr -> Mem -> Option Out
 | [], fr, m => some (.norm fr m)
 | o :: r, fr, m =>
  match aG fr o.guard with
  | some true => match o.op with
   | .val op => match ap fr.eval op m with
    | some (.val v m) => et call r (fr.put o.dst v) m
    | none => none
   | .call f args => match dy call (fr.eval f) (args.map fr.eval) m with
    | some (.ret v m) => et call r (fr.put o.dst v) m
    | some (.dZ v m) => some (.dZ v fr m)
    | none => none
   | .panic x => match fr.eval x with
    | .iface t v => some (.dZ (.iface t v) fr m)
    | _ => none
   | .defer f args => match fr.eval f with
    | .func g x y => et call r (Fr.put ⟨fr.tmps, (g, x ++ args.map fr.eval ++ y) :: fr.defers⟩ o.dst .undef) m
    | _ => none
  | some false => et call r (fr.put o.dst .undef) m
  | none => none
structure Seen where
 i : Nat
 agg : Option Nat
 a : EV
 v : EV
def aZ (i j : Nat) : List (Nat × Nat) -> Bool
 | [] => false
 | (a, b) :: r => bif a.beq i then bif b.beq j then true else aZ i j r else aZ i j r
def Mem.cJ (m : Mem) (agg : Option Nat) (a v : EV) : Bool :=
 match m.load agg a with
 | some x => EV.same x v
 | none => false
def aE (chk : List (Nat × Nat)) (j : Nat) (m : Mem) : List Seen -> Bool
 | [] => true
 | s :: r => bif aZ s.i j chk then (bif m.cJ s.agg s.a s.v then aE chk j m r else false) else aE chk j m r
def aT (chk : List (Nat × Nat)) (i : Nat) (agg : Option Nat) (a v : EV) : List (Nat × Mem) -> Bool
 | [] => true
 | (j, m) :: r => bif aZ i j chk then (bif m.cJ agg a v then aT chk i agg a v r else false) else aT chk i agg a v r
def cb (chk : List (Nat × Nat)) (i n : Nat) : List (Nat × Mem) -> Bool
 | [] => true
 | (j, m) :: r => bif aZ i j chk then (bif m.next.beq n then cb chk i n r else false) else cb chk i n r
def wK : EV -> Bool
 | .dl _ _ _ _ => true
 | _ => false
def b6 (call : Call) (chk : List (Nat × Nat)) (B0 : Nat) : List aF -> Nat -> Fr -> Mem -> List (Nat × Mem) -> List Seen -> Option Out
 | [], _, fr, m, _, _ => some (.norm fr m)
 | o :: r, i, fr, m, fH, seen =>
  match aG fr o.guard with
  | some true => match o.op with
   | .val op => match bM op with
    | 0 => match ap fr.eval op m with
     | some (.val v _) => b6 call chk B0 r (i + 1) (fr.put o.dst v) m fH seen
     | none => none
    | 1 => match ap fr.eval op ⟨B0 + i, m.kl⟩ with
     | some (.val v m1) => b6 call chk B0 r (i + 1) (fr.put o.dst v) ⟨m.next, m1.kl⟩ fH seen
     | none => none
    | 2 => match op with
     | .load agg a => match m.load agg (fr.eval a) with
      | some v => bif wK (fr.eval a) then
        (bif cb chk i m.next fH then b6 call chk B0 r (i + 1) (fr.put o.dst v) m fH seen else none)
       else bif aT chk i agg (fr.eval a) v fH then
        b6 call chk B0 r (i + 1) (fr.put o.dst v) m fH (⟨i, agg, fr.eval a, v⟩ :: seen) else none
      | none => none
     | _ => none
    | _ => match ap fr.eval op m with
     | some (.val v m') => bif aE chk i m' seen then b6 call chk B0 r (i + 1) (fr.put o.dst v) m' ((i, m) :: fH) seen else none
     | none => none
   | .call f args => match dy call (fr.eval f) (args.map fr.eval) m with
    | some (.ret v m') => bif aE chk i m' seen then b6 call chk B0 r (i + 1) (fr.put o.dst v) m' ((i, m) :: fH) seen else none
    | _ => none
   | _ => none
  | some false => b6 call chk B0 r (i + 1) (fr.put o.dst .undef) m fH seen
  | none => none
def iter (body : Fr -> Mem -> Option Out) : Nat -> Fr -> Mem -> Option Out
 | 0, _, _ => none
 | n + 1, fr, m => match body fr m with
  | some (.norm fr m) => iter body n fr m
  | o => o
def ah (call : Call) (n : Nat) : au -> Fr -> Mem -> Option Out
 | .skip, fr, m => some (.norm fr m)
 | .region ops, fr, m => et call ops fr m
 | .draw ops chk, fr, m => b6 call chk m.next ops 0 fr ⟨m.next + ops.length, m.kl⟩ [] []
 | .seq a b, fr, m => match ah call n a fr m with
  | some (.norm fr m) => ah call n b fr m
  | o => o
 | .cond c a b, fr, m => match fr.eval c with
  | .bool t => bif t then ah call n a fr m else ah call n b fr m
  | _ => none
 | .block id a, fr, m => match ah call n a fr m with
  | some (.exit j fr m) => bif j.beq id then some (.norm fr m) else some (.exit j fr m)
  | o => o
 | .loop a, fr, m => iter (ah call n a) n fr m
 | .exit id, fr, m => some (.exit id fr m)
 | .ret, fr, m => some (.ret fr m)
def qp (fr : Fr) (m : Mem) : jd -> Option EV
 | .tmp t => some (fr.get t)
 | .cell t agg => m.load agg (fr.get t)
def aX (fr : Fr) (m : Mem) : List jd -> Option (List EV)
 | [] => some []
 | r :: rs => match qp fr m r with
  | some v => (aX fr m rs).map (v :: ·)
  | none => none
def one (vs : List EV) : EV := match vs with | [v] => v | vs => .tuple vs
def bO : List EV -> Nat -> Tr EV -> Tr EV
 | [], _, t => t
 | v :: r, i, t => bO r (i + 1) (t.set i v)
inductive fg where
 | go (F : ar)
 | ext (g : List EV -> Option EV)
 | pure (g : List EV -> Option EV)   -- its blocks YI its own, and YI Rf
 | spec (g : List EV -> Mem -> Option Fin)   -- cM it is known to be
 | EK (F : ar) (D : List (Nat × Option Nat × ar))   -- with calls H5 wait for its end; XJ code by number, and where the panic is put H5 is asked for first
def cf (call : Call) (n : Nat) (F : ar) (args : List EV) (m : Mem) : Option Fin :=
 bif args.length.ble F.ntmps then match ah call n F.body ⟨bO args 0 .leaf, []⟩ m with
 | some (.norm fr m) => match fr.defers with
  | [] => (aX fr m F.results).map fun vs => .ret (one vs) m
  | _ => none
 | some (.ret fr m) => match fr.defers with
  | [] => (aX fr m F.results).map fun vs => .ret (one vs) m
  | _ => none
 | some (.dZ v fr m) => match fr.defers with
  | [] => some (.dZ v m)
  | _ => none
 | _ => none
 else none
def jq (g : Nat) : List (Nat × Option Nat × ar) -> Option (Option Nat × ar)
 | [] => none
 | (h, b, F) :: r => bif h.beq g then some (b, F) else jq g r
def dj (call : Call) (n : Nat) (d : Nat) (F : ar) (args : List EV) (u : Option EV) (m : Mem) : Option Mem :=
 bif args.length.ble F.ntmps then match ah call n F.body (Fr.set ⟨bO args 0 .leaf, []⟩ d (u.getD .aq)) m with
 | some (.norm fr m) => match fr.defers with
  | [] => (aX fr m F.results).map fun _ => m
  | _ => none
 | some (.ret fr m) => match fr.defers with
  | [] => (aX fr m F.results).map fun _ => m
  | _ => none
 | _ => none
 else none
def bK (call : Call) (n : Nat) (rs : List jd) (D : List (Nat × Option Nat × ar)) (fr : Fr) : List (Nat × List EV) -> Option EV -> Mem -> Option Fin
 | [], none, m => (aX fr m rs).map fun vs => .ret (one vs) m
 | [], some v, m => some (.dZ v m)
 | (g, args) :: ds, u, m => match jq g D with
  | some (some d, F) => match dj call n d F args u m with
   | some m => bK call n rs D fr ds none m
   | none => none
  | some (none, F) => match cf call n F args m with
   | some (.ret _ m) => bK call n rs D fr ds u m
   | some (.dZ v m) => match u with
    | none => bK call n rs D fr ds (some v) m
    | some _ => none
   | none => none
  | none => none
def fC (call : Call) (n : Nat) (F : ar) (D : List (Nat × Option Nat × ar)) (args : List EV) (m : Mem) : Option Fin :=
 bif args.length.ble F.ntmps then match ah call n F.body ⟨bO args 0 .leaf, []⟩ m with
 | some (.norm fr m) => bK call n F.results D fr fr.defers none m
 | some (.ret fr m) => bK call n F.results D fr fr.defers none m
 | some (.dZ v fr m) => bK call n F.results D fr fr.defers (some v) m
 | _ => none
 else none
def fc (call : Call) (n : Nat) (e : fg) (args : List EV) (m : Mem) : Option Fin :=
 match e with
 | .go F => cf call n F args m
 | .ext g => (g args).map fun v => .ret v m
 | .pure g => (g args).map fun v => .ret v m
 | .spec g => g args m
 | .EK F D => fC call n F D args m
def aC (T : Nat -> Option fg) : Nat -> Call
 | 0, _, _, _ => none
 | n + 1, f, args, m => match T f with
  | some e => fc (aC T n) n e args m
  | none => none
end
section
def EF : EV -> Bool
 | .undef | .agg _ | .tuple _ => false
 | _ => true
def cV : Nat -> Value -> Option EV
 | 0, _ => none
 | n + 1, v => match v with
  | .bool b => some (.bool b)
  | .int k x => some (.int k x)
  | .string s => some (.str s.data.toList)
  | .pointer none => some .bb
  | .slice none 0 0 => some .aa
  | .map none => some .aS
  | .nilFunc => some .aR
  | .nilIface => some .aq
  | .func (.func f) a c => match a.toList.mapM (cV n), c.toList.mapM (cV n) with
   | some x, some y => some (.func f x y)
   | _, _ => none
  | .iface t x => (cV n x).map (.iface t)
  | .agg cs => match cs.toList.mapM (cV n) with
   | some x => bif x.all EF then some (.agg x) else none
   | none => none
  | .tuple vs => (vs.toList.mapM (cV n)).map .tuple
  | _ => none
def cR (G : List Nat) : Operand -> Option aD
 | .tmp t => some (.tmp t)
 | .const v => (cV 30 v).map .const
 | .global g => bif G.contains g then some (.const (.ptr g 0)) else none
 | .func f => some (.const (.func f [] []))
def qz (G : List Nat) (xs : List Operand) : Option (List aD) := xs.mapM (cR G)
def A2 (G : List Nat) : Option Operand -> Option (Option aD)
 | none => some none
 | some x => (cR G x).map some
section
variable (P : Program) (G : List Nat)
def pv (t : TypeId) : Option (Option Nat) :=
 match P.underlying t, P.info? t with
 | some (.struct _), some i | some (.array _ _), some i => some (some i.size)
 | some _, some _ => some none
 | _, _ => none
def dJ (t : TypeId) : Option Nat := (P.info? t).map (·.size)
def xj (t : TypeId) : Option EV := ((P.info? t).bind (·.zero)).bind (cV 30)
def kf (t : TypeId) : Option (List EV) := (xj P t).bind EV.cells
def j3 : Nat -> TypeId -> Option mw
 | 0, _ => none
 | n + 1, t => match P.underlying t with
  | some .bool => some (.ax 0)
  | some (.int _) => some (.ax 1)
  | some .string => some (.ax 2)
  | some (.pointer _) => some (.ax 3)
  | some (.slice _) => some (.ax 4)
  | some (.map _ _) => some (.ax 5)
  | some (.func _ _ _) => some (.ax 6)
  | some (.interface _) => some (.ax 7)
  | some (.struct fs) =>
   bif P.stoodInHeld t then none else
   (fs.toList.mapM fun (f : Field) => match pv P f.type, j3 n f.type with
    | some g, some e => bif f.name != "_" then some (g, f.offset, e) else none
    | _, _ => none).map .agg
  | _ => none
def Dz (places : Nat -> Option (Nat × Nat)) (parts : List (Nat × Operand)) : Option (List (Nat × Nat × aD)) :=
 parts.mapM fun p => match places p.1, cR G p.2 with
  | some (o, s), some x => some (o, s, x)
  | _, _ => none
def yE (t : TypeId) : Option Nat :=
 match P.underlying t with
 | some .bool => some 0
 | some .string => some 1
 | some (.int _) => some 2
 | _ => none
def DV (t : TypeId) : Option TypeId := match P.underlying t with | some (.slice e) => some e | _ => none
def Ow (t : TypeId) : Bool := match P.underlying t with | some (.slice _) | some .string => true | _ => false
def nS (b : Builtin) (argTypes : List TypeId) (args : List aD) : Option iR :=
 match b, argTypes, args with
 | .len, [t], [x] => match P.underlying t with
  | some .string => some (.eH x)
  | some (.slice _) => some (.len x)
  | some (.array n _) => some (.nB n)
  | some (.map _ _) => some (.lP x)
  | _ => none
 | .cap, [t], [x] => match P.underlying t with
  | some (.slice _) => some (.cap x)
  | _ => none
 | .max, _, args => some (.max args)
 | .min, _, args => some (.min args)
 | .append, [t, u], [s, x] => (DV P t).bind fun e => (bif Ow P u then some () else none).bind fun _ => (P.info? e).bind fun i => (kf P e).bind fun z =>
   (bif z.length.beq i.size then some () else none).bind fun _ => bif i.bytes.ble 65536 then some (.append e i.size i.bytes s x) else none
 | .copy, [t, _], [d, s] => match P.underlying t with
  | some (.slice e) => match dJ P e with
   | some n => some (.copy n d s)
   | none => none
  | _ => none
 | .delete, [t, _], [m, k] => match P.underlying t with
  | some (.map kt _) => (yE P kt).map fun c => .delete c m k
  | _ => none
 | _, _, _ => none
def nr (t : TypeId) : Option TypeId := match P.underlying t with | some (.slice e) => some e | _ => none
def qN (t : TypeId) : Option (Nat × TypeId) := match P.underlying t with | some (.array n e) => some (n, e) | _ => none
def pK (t : TypeId) : Option (Array Field) := match P.underlying t with | some (.struct fs) => some fs | _ => none
def Bu (t : TypeId) : Option (TypeId × TypeId) := match P.underlying t with | some (.map k e) => some (k, e) | _ => none
def ls (t : TypeId) : Option Unit := match P.underlying t with | some .string => some () | _ => none
def HR (t : TypeId) : Option IntKind := match P.underlying t with | some (.int k) => some k | _ => none
def Bv (t : TypeId) : Option Unit := match P.underlying t with | some (.interface _) => some () | _ => none
def tc (t : TypeId) : Option Unit := match P.underlying t with | some (.interface _) => none | some _ => some () | none => none
def qX (b : Bool) : Option Unit := bif b then some () else none
def O3 (neg : Bool) (t : TypeId) (x y : aD) : Option iR :=
 bif P.eqGuardType P.depth t then (Bv P t).map fun _ => .eq neg (.ax 7) x y else (j3 P 20 t).map fun e => .eq neg e x y
def Lh (x y : Option iR) : Option iR := match x with | some r => some r | none => y
def O2 (o : Oper) : Option iR :=
 match o.op with
 | .move x => (cR G x).map .ab
 | .assign x => (cR G x).map .ab
 | .pick c a b => (cR G c).bind fun c => (cR G a).bind fun a => (cR G b).map fun b => .pick c a b
 | .alloc e => (kf P e).map (.alloc e)
 | .box e x => (cR G x).map (.box e)
 | .build t parts => (kf P t).bind fun z => Lh
   ((pK P t).bind fun fs => (qX (fs.toList.all fun f => (dJ P f.type).isSome)).bind fun _ => (Dz G (fun i => (fs[i]?).bind fun f => (dJ P f.type).map fun s => (f.offset, s)) parts.toList).map (.build z))
   ((qN P t).bind fun q => (dJ P q.2).bind fun s => (Dz G (fun i => some (i * s, s)) parts.toList).map (.build z))
 | .buildSlice t len parts => (nr P t).bind fun e => (dJ P e).bind fun s => (kf P e).bind fun z => (parts.toList.mapM (fun p => (cR G p.2).map fun x => (p.1, x))).bind fun ps =>
   (qX (z.length.beq s)).bind fun _ => (qX ((len * s).ble 16777216)).map fun _ => .aU e s len z ps
 | .load t a => (pv P t).bind fun g => (cR G a).map fun a => .load g a
 | .store t a x => (dJ P t).bind fun s => (cR G a).bind fun a => (cR G x).map fun x => .store s a x
 | .nilCheck x => (cR G x).map .kn
 | .binOp op t x y _ => (cR G x).bind fun x => (cR G y).bind fun y => match op with
   | .eql => O3 P false t x y
   | .neq => O3 P true t x y
   | op => some (.bin op x y)
 | .unOp op _ x => (cR G x).map (.un op)
 | .convert s d x => (cR G x).bind fun x => Lh
   ((tc P s).bind fun _ => (HR P d).map fun k => .conv (.int k) x)
   (Lh ((ls P s).bind fun _ => (ls P d).map fun _ => .conv .same x)
   (Lh ((ls P s).bind fun _ => (nr P d).bind fun e => (HR P e).bind fun k => (qX ((bf k).beq 4)).map fun _ => .conv (.bytes e) x)
    ((nr P s).bind fun e => (ls P d).bind fun _ => (HR P e).bind fun k => (qX ((bf k).beq 4)).map fun _ => .conv .text x)))
 | .makeInterface t x => (tc P t).bind fun _ => (cR G x).map (.iface t)
 | .makeFunc (.func f) a c => (qz G a.toList).bind fun a => (qz G c.toList).map fun c => .tX f a c
 | .makeMap t none => (Bu P t).map fun _ => .nz
 | .makeMap t (some (.const (.int _ _))) => (Bu P t).map fun _ => .nz
 | .makeSlice t l c => (nr P t).bind fun e => (P.info? e).bind fun i => (kf P e).bind fun z => (cR G l).bind fun l => (cR G c).bind fun c =>
   (qX (z.length.beq i.size)).bind fun _ => (qX (i.bytes.ble 65536)).map fun _ => .gy e i.size z l c
 | .slice t x lo hi mx => (qX (!(mx.isSome && hi.isNone))).bind fun _ => (cR G x).bind fun x => (A2 G lo).bind fun lo => (A2 G hi).bind fun hi => (A2 G mx).bind fun mx => Lh
   ((qN P t).bind fun q => (dJ P q.2).map fun s => .kU q.1 s x lo hi mx)
   (Lh ((nr P t).bind fun e => (dJ P e).map fun s => .lp s x lo hi mx)
    ((ls P t).bind fun _ => (qX mx.isNone).map fun _ => .mW x lo hi))
 | .fieldAddr s x f => (pK P s).bind fun fs => (cR G x).bind fun x => (fs[f]?).bind fun f => (dJ P f.type).bind fun s => (qX (Nat.ble 1 s)).map fun _ => .ak f.offset x
 | .field s x f => (pK P s).bind fun fs => (cR G x).bind fun x => (fs[f]?).bind fun f => (pv P f.type).map fun g => .OX g f.offset x
 | .indexAddr t x i => (cR G x).bind fun x => (cR G i).bind fun i => Lh
   ((nr P t).bind fun e => (dJ P e).map fun s => .ay s x i)
   ((qN P t).bind fun q => (dJ P q.2).map fun s => .c7 q.1 s x i)
 | .index t x i => (cR G x).bind fun x => (cR G i).bind fun i => Lh
   ((ls P t).map fun _ => .cO x i)
   ((qN P t).bind fun q => (dJ P q.2).bind fun s => (pv P q.2).map fun g => .nF q.1 s g x i)
 | .lookup t m k ok => (Bu P t).bind fun q => (yE P q.1).bind fun c => (xj P q.2).bind fun z => (cR G m).bind fun m => (cR G k).map fun k => .lookup c z ok m k
 | .mapUpdate t m k x => (Bu P t).bind fun q => (yE P q.1).bind fun c => (cR G m).bind fun m => (cR G k).bind fun k => (cR G x).map fun x => .kY c m k x
 | .insert t m k x => (Bu P t).bind fun q => (yE P q.1).bind fun c => (cR G m).bind fun m => (cR G k).bind fun k => (cR G x).map fun x => .kY c m k x
 | .typeAssert x _ t false => (tc P t).bind fun _ => (cR G x).map (.ly t)
 | .extract x i => (cR G x).map fun x => .extract x i
 | .call c => (qz G c.args.toList).bind fun a => match c.callee with
  | .builtin b => nS P b c.argTypes.toList a
  | _ => none
 | _ => none
def uO (o : Oper) : Option qH :=
 match o.op with
 | .call ⟨.value f, xs, _⟩ => (qz G xs.toList).bind fun a => (cR G f).map fun f => .call f a
 | .defer ⟨.value f, xs, _⟩ => (qz G xs.toList).bind fun a => (cR G f).map fun f => .defer f a
 | .panic x => (cR G x).map .panic
 | _ => (O2 P G o).map .val
def OZ (n : Nat) : Option Nat -> Bool
 | some d => Nat.ble (d + 1) n
 | none => true
def na (n : Nat) (ops : Array Oper) (o : Oper) : Option aF :=
 match uO P G o with
 | none => none
 | some op => bif OZ n o.dst then
   match o.guard with
   | none => some ⟨o.dst, op, none⟩
   | some (j, w) => match (ops[j]?).bind (·.dst) with
    | some t => some ⟨o.dst, op, some (t, w)⟩
    | none => none
  else none
def dr (e : Edge) : Bool := match e.ground with | .textOnly _ | .gcOnly _ => false | _ => true
def cX : List Oper -> List (List Nat) -> List (List Nat)
 | [], acc => acc
 | o :: r, acc => cX r (acc ++ [(o.after.toList.filter dr).flatMap fun e => e.on :: acc.getD e.on []])
def qZ (sH : List Nat) : List Edge -> Nat
 | [] => 0
 | e :: r => bif dr e then (2 ^ e.on ||| sH.getD e.on 0) ||| qZ sH r else qZ sH r
def zV : List Oper -> List Nat -> List Nat
 | [], acc => acc
 | o :: r, acc => zV r (acc ++ [qZ acc o.after.toList])
def named (o : aF) : List Nat :=
 o.dst.toList ++ tmpsOf (kP o.op) ++ (match o.guard with | some (t, _) => [t] | none => [])
def nJ : List Oper -> Nat -> Bool
 | [], _ => true
 | o :: r, i => (o.after.toList.all fun e => !dr e || Nat.ble (e.on + 1) i) && nJ r (i + 1)
def D8 (n : Nat) : List (Nat × Nat) := (List.range n).flatMap fun j => (List.range j).map fun i => (i, j)
def mn (ops : List Oper) (is : List aF) : Option (List (Nat × Nat)) :=
 let Zd := zV ops []
 let open_ := (D8 is.length).filter fun (i, j) => !(Zd.getD j 0).testBit i
 let at_ (i : Nat) : Nat := ((is[i]?).map fun o => sort o.op).getD 3
 let nm (i : Nat) : List Nat := ((is[i]?).map named).getD []
 let dst (i : Nat) : Option Nat := (is[i]?).bind (·.dst)
 bif nJ ops 0 && open_.all fun (i, j) => !(at_ i == 3 && at_ j == 3) &&
   (match dst i with | some t => !(nm j).contains t | none => true) && (match dst j with | some t => !(nm i).contains t | none => true)
 then some (open_.flatMap fun (i, j) => bif at_ i == 2 && at_ j == 3 then [(i, j)] else bif at_ i == 3 && at_ j == 2 then [(j, i)] else [])
 else none
def dK (n : Nat) : Code -> Option au
 | .skip => some .skip
 | .region _ ops false => (ops.toList.mapM (na P G n ops)).map .region
 | .region _ ops true => match ops.toList.mapM (na P G n ops) with
  | some is => (mn ops.toList is).map (.draw is)
  | none => none
 | .seq a b => match dK n a, dK n b with
  | some a, some b => some (.seq a b)
  | _, _ => none
 | .cond c a b => match cR G c, dK n a, dK n b with
  | some c, some a, some b => some (.cond c a b)
  | _, _, _ => none
 | .block id a => (dK n a).map (.block id)
 | .loop a => (dK n a).map .loop
 | .exit id => some (.exit id)
 | .ret => some .ret
 | .scope a => dK n a
 | .label _ => some .skip
 | _ => none
def Ep (o : Oper) : Bool := match o.op, o.guard with
 | .call ⟨.builtin .recover, xs, _⟩, none => xs.isEmpty
 | _, _ => false
def fe (n : Nat) : Code -> Option (Nat × au)
 | .region _ ops false => match ops.toList with
  | o :: r => bif Ep o then match o.dst with
    | some d => bif Nat.ble (d + 1) n then (r.mapM (na P G n ops)).map fun is => (d, .region is) else none
    | none => none
   else none
  | [] => none
 | .seq a b => match fe n a, dK P G n b with
  | some (d, a), some b => some (d, .seq a b)
  | _, _ => none
 | _ => none
def qy : ResultVar -> Option jd
 | .tmp t => some (.tmp t)
 | .cell a t => (pv P t).map (.cell a)
def b7 (f : Func) : Option ar :=
 match f.body with
 | none => none
 | some c => bif f.name == "runtime.NumGoroutine" then none else match dK P G f.ntmps c, f.results.toList.mapM (qy P) with
  | some b, some r => some ⟨f.ntmps, b, r⟩
  | _, _ => none
def EN (f : Func) : Option (Nat × ar) :=
 match f.body with
 | none => none
 | some c => bif f.name == "runtime.NumGoroutine" then none else match fe P G f.ntmps c, f.results.toList.mapM (qy P) with
  | some (d, b), some r => some (d, ⟨f.ntmps, b, r⟩)
  | _, _ => none
end
def I3 (P : Program) (G : List Nat) (n : Nat) : Code -> List String
 | .region _ ops d => (ops.toList.filter fun o => (na P G n ops o).isNone).map (fun o => o.pos ++ " op") ++
   (match ops.toList.mapM (na P G n ops) with | some is => if d && (mn ops.toList is).isNone then ["an open order " ++ ((ops[0]?).map (·.pos)).getD ""] else [] | none => [])
 | .seq a b | .cond _ a b => I3 P G n a ++ I3 P G n b
 | .block _ a | .loop a | .scope a => I3 P G n a
 | .skip | .exit _ | .ret | .label _ => []
 | .goto _ => ["goto"]
 | .rangeFunc .. => ["rangeFunc"]
 | .refuse w => ["refuse " ++ w]
end
section
structure Loc where
 bT : Nat
 off : Nat
 total : Nat
 esz : Nat
 ro : Bool
abbrev Ren := Nat -> Option Loc
mutual
inductive VR (ρ : Ren) : EV -> Value -> Prop
 | undef : VR ρ .undef undef
 | bool (b : Bool) : VR ρ (.bool b) (.bool b)
 | int (k : IntKind) (n : Int) : VR ρ (.int k n) (.int k n)
 | str (s : ByteArray) : VR ρ (.str s.data.toList) (.string s)
 | bb : VR ρ .bb (.pointer none)
 | ptr {b off : Nat} {L : Loc} (h : ρ b = some L) : VR ρ (.ptr b off) (.pointer (some ⟨L.bT, L.off + off, none⟩))
 | aa : VR ρ .aa (.slice none 0 0)
 | slice {b off len c o : Nat} {L : Loc} (h : ρ b = some L) (hc : len <= c) (ho : 0 < len -> o = L.off + off) (hr : L.ro = false -> o + c * L.esz <= L.total) :
   VR ρ (.slice b off len none) (.slice (some ⟨L.bT, o, none⟩) len c)
 | dD {b off : Nat} {a : Addr} : VR ρ (.slice b off 0 (some 0)) (.slice (some a) 0 0)
 | cT {b off len c o : Nat} {L : Loc} (h : ρ b = some L) (hc : len <= c) (ho : 0 < c -> o = L.off + off) : VR ρ (.slice b off len (some c)) (.slice (some ⟨L.bT, o, none⟩) len c)
 | aS : VR ρ .aS (.map none)
 | map {b : Nat} {L : Loc} (h : ρ b = some L) : VR ρ (.map b) (.map (some L.bT))
 | aR : VR ρ .aR .nilFunc
 | func {f : Nat} {x y : List EV} {x' y' : List Value} (hx : cS ρ x x') (hy : cS ρ y y') : VR ρ (.func f x y) (.func (.func f) ⟨x'⟩ ⟨y'⟩)
 | aq : VR ρ .aq .nilIface
 | iface {t : Nat} {v : EV} {v' : Value} (h : VR ρ v v') : VR ρ (.iface t v) (.iface t v')
 | agg {x : List EV} {x' : List Value} (h : cS ρ x x') (hf : ∀ c ∈ x', c.oneCell' = true) : VR ρ (.agg x) (.agg ⟨x'⟩)
 | tuple {x : List EV} {x' : List Value} (h : cS ρ x x') : VR ρ (.tuple x) (.tuple ⟨x'⟩)
inductive cS (ρ : Ren) : List EV -> List Value -> Prop
 | nil : cS ρ [] []
 | cons {v : EV} {v' : Value} {x : List EV} {x' : List Value} (h : VR ρ v v') (hs : cS ρ x x') : cS ρ (v :: x) (v' :: x')
end
def Ext (ρ ρ' : Ren) : Prop := ∀ b L, ρ b = some L -> ρ' b = some L
theorem Ext.refl (ρ : Ren) : Ext ρ ρ := fun _ _ h => h
theorem Ext.trans {ρ ρ' XE : Ren} (h : Ext ρ ρ') (h' : Ext ρ' XE) : Ext ρ XE := fun b L e => h' b L (h b L e)
mutual
theorem VR.ext {ρ ρ' : Ren} (e : Ext ρ ρ') : ∀ {v : EV} {v' : Value}, VR ρ v v' -> VR ρ' v v'
 | _, _, .undef => .undef
 | _, _, .bool b => .bool b
 | _, _, .int k n => .int k n
 | _, _, .str s => .str s
 | _, _, .bb => .bb
 | _, _, .ptr h => .ptr (e _ _ h)
 | _, _, .aa => .aa
 | _, _, .slice h hc ho hr => .slice (e _ _ h) hc ho hr
 | _, _, .cT h hc ho => .cT (e _ _ h) hc ho
 | _, _, .dD => .dD
 | _, _, .aS => .aS
 | _, _, .map h => .map (e _ _ h)
 | _, _, .aR => .aR
 | _, _, .func hx hy => .func (cS.ext e hx) (cS.ext e hy)
 | _, _, .aq => .aq
 | _, _, .iface h => .iface (VR.ext e h)
 | _, _, .agg h hf => .agg (cS.ext e h) hf
 | _, _, .tuple h => .tuple (cS.ext e h)
theorem cS.ext {ρ ρ' : Ren} (e : Ext ρ ρ') : ∀ {x : List EV} {x' : List Value}, cS ρ x x' -> cS ρ' x x'
 | _, _, .nil => .nil
 | _, _, .cons h hs => .cons (VR.ext e h) (cS.ext e hs)
end
theorem cS.length {ρ : Ren} : ∀ {x : List EV} {x' : List Value}, cS ρ x x' -> x.length = x'.length
 | _, _, .nil => rfl
 | _, _, .cons _ hs => by simp [cS.length hs]
theorem cS.get {ρ : Ren} : ∀ {x : List EV} {x' : List Value}, cS ρ x x' -> ∀ (i : Nat) (v : EV), x[i]? = some v -> ∃ v', x'[i]? = some v' /\ VR ρ v v'
 | _, _, .nil, i, v, h => by simp at h
 | _, _, .cons (v := a) (v' := a') h0 hs, i, v, h => by
  cases i with
  | zero => simp at h; subst h; exact ⟨a', rfl, h0⟩
  | succ i => simp at h; obtain ⟨v', hv, hr⟩ := hs.get i v h; exact ⟨v', by simpa using hv, hr⟩
theorem cS.lM {ρ : Ren} : ∀ {x : List EV} {x' : List Value}, x.length = x'.length -> (∀ (i : Nat) (v : EV) (v' : Value), x[i]? = some v -> x'[i]? = some v' -> VR ρ v v') -> cS ρ x x'
 | [], [], _, _ => .nil
 | [], _ :: _, h, _ => by simp at h
 | _ :: _, [], h, _ => by simp at h
 | a :: x, a' :: x', h, hg => .cons (hg 0 a a' rfl rfl) (cS.lM (by simpa using h) fun i v v' hv ll => hg (i + 1) v v' (by simpa using hv) (by simpa using ll))
theorem cS.append {ρ : Ren} : ∀ {x y : List EV} {x' y' : List Value}, cS ρ x x' -> cS ρ y y' -> cS ρ (x ++ y) (x' ++ y')
 | _, _, _, _, .nil, h => h
 | _, _, _, _, .cons h hs, k => .cons h (hs.append k)
theorem cS.take {ρ : Ren} {x : List EV} {x' : List Value} (h : cS ρ x x') (n : Nat) : cS ρ (x.take n) (x'.take n) := by
 refine cS.lM (by simp [h.length]) fun i v v' hv ll => ?_
 rw [List.getElem?_take] at hv ll
 split at hv
 ·obtain ⟨u, hu, hr⟩ := h.get i v hv
  rename_i aP
  rw [if_pos aP] at ll
  rw [hu] at ll; cases ll; exact hr
 ·cases hv
theorem cS.drop {ρ : Ren} {x : List EV} {x' : List Value} (h : cS ρ x x') (n : Nat) : cS ρ (x.drop n) (x'.drop n) := by
 refine cS.lM (by simp [h.length]) fun i v v' hv ll => ?_
 rw [List.getElem?_drop] at hv ll
 obtain ⟨u, hu, hr⟩ := h.get _ v hv
 rw [hu] at ll; cases ll; exact hr
theorem cS.xP {ρ : Ren} {α β : Type} (f : α -> EV) (g : β -> Value) {R : α -> β -> Prop} (Yr : ∀ a b, R a b -> VR ρ (f a) (g b)) : ∀ {l : List α} {l' : List β}, l.length = l'.length -> (∀ (i : Nat) (a : α) (b : β), l[i]? = some a -> l'[i]? = some b -> R a b) -> cS ρ (l.map f) (l'.map g)
 | [], [], _, _ => .nil
 | [], _ :: _, h, _ => by simp at h
 | _ :: _, [], h, _ => by simp at h
 | a :: x, a' :: x', h, hg => .cons (Yr _ _ (hg 0 a a' rfl rfl)) (cS.xP f g Yr (by simpa using h) fun i v v' hv ll => hg (i + 1) v v' (by simpa using hv) (by simpa using ll))
def Live (m : Mem) (b : Nat) : Prop := m.get b ≠ .dead
def Hy (fz : Nat × Nat) (n : Nat) : Prop := ∀ i, i < n -> ¬ (fz.1 <= i /\ i < fz.2)
def QK (ρ : Ren) (e : EV × EV) (d : MapEntry) : Prop := VR ρ e.1 d.key /\ VR ρ e.2 d.val
def ru (base : Nat) (ρ : Ren) (B : cY) (L : Loc) (w : World) : Prop :=
 match B with
 | .dead => True
 | .cells cs esz _ ro => ∃ arr e fz, w.heap[L.bT]? = some (.cells arr e fz) /\ arr.size = L.total /\ L.esz = esz /\ L.ro = ro /\ L.off + cs.length <= L.total /\
   (∀ (i : Nat) (v : EV), cs[i]? = some v -> ∃ v', arr[L.off + i]? = some v' /\ VR ρ v v' /\ v'.oneCell' = true) /\
   (ro = false -> base <= L.bT /\ Hy fz arr.size) /\ (ro = true -> L.bT < base)
 | .map es => ∃ ds c, w.heap[L.bT]? = some (.map ds c) /\ es.length = ds.size /\ (∀ (i : Nat) (e : EV × EV) (d : MapEntry), es[i]? = some e -> ds[i]? = some d -> QK ρ e d) /\ base <= L.bT /\ L.ro = false
structure R (base : Nat) (ρ : Ren) (m : Mem) (w : World) : Prop where
 lt : ∀ b L, ρ b = some L -> b < m.next
 bT : ∀ b L, ρ b = some L -> ru base ρ (m.get b) L w
 inj : ∀ b c L L', ρ b = some L -> ρ c = some L' -> Live m b -> Live m c -> L.ro = false -> L.bT = L'.bT -> b = c
 base : base <= w.heap.size
 clean : ∀ b, m.next <= b -> m.get b = .dead
def Cb (ρ : Ren) (m : Mem) (i : Nat) : Prop := ∃ b L, ρ b = some L /\ Live m b /\ L.ro = false /\ L.bT = i
structure Step (ρ : Ren) (m : Mem) (w : World) (ρ' : Ren) (m' : Mem) (w' : World) : Prop where
 ext : Ext ρ ρ'
 new : ∀ b, ρ b = none -> ρ' b ≠ none -> m.next <= b
 next : m.next <= m'.next
 same : ∀ b, b < m.next -> ρ b = none -> m'.get b = m.get b
 dead : ∀ b, b < m.next -> m.get b = .dead -> m'.get b = .dead
 size : w.heap.size <= w'.heap.size
 Cb : ∀ i, i < w.heap.size -> Cb ρ' m' i -> Cb ρ m i
 kept : ∀ i, i < w.heap.size -> ¬ Ev.Cb ρ m i -> w'.heap[i]? = w.heap[i]?
 os : w'.os = w.os
 tape : w'.tape = w.tape
 output : w'.output = w.output
theorem Step.refl (ρ : Ren) (m : Mem) (w : World) : Step ρ m w ρ m w :=
 ⟨.refl ρ, fun _ h h' => absurd h h', ee _, fun _ _ _ => rfl, fun _ _ h => h, ee _, fun _ _ h => h, fun _ _ _ => rfl, rfl, rfl, rfl⟩
theorem Step.trans {ρ ρ1 ρ2 : Ren} {m m1 m2 : Mem} {w w1 w2 : World} (h : Step ρ m w ρ1 m1 w1) (k : Step ρ1 m1 w1 ρ2 m2 w2) : Step ρ m w ρ2 m2 w2 := by
 refine ⟨h.ext.trans k.ext, ?_, vn h.next k.next, ?_, fun b hb hd => k.dead b (ve hb h.next) (h.dead b hb hd), vn h.size k.size, ?_, ?_, k.os.trans h.os, k.tape.trans h.tape, k.output.trans h.output⟩
 ·intro b hb Aj
  cases e : ρ1 b with
  | none => exact vn h.next (k.new b e Aj)
  | some L => exact h.new b hb (by rw [e]; simp)
 ·intro b hb hn
  have h1 : ρ1 b = none := by
   cases e : ρ1 b with
   | none => rfl
   | some L => have := h.new b hn (by rw [e]; simp); omega
  rw [k.same b (ve hb h.next) h1, h.same b hb hn]
 ·intro i hi hr
  exact h.Cb i hi (k.Cb i (ve hi h.size) hr)
 ·intro i hi hr
  rw [k.kept i (ve hi h.size) (fun ZJ => hr (h.Cb i hi ZJ)), h.kept i hi hr]
theorem Mem.ba (m : Mem) (b c : Nat) (x : cY) : (m.set b x).get c = if c = b then x else m.get c := by
 unfold Mem.get Mem.set;simp only [Tr.ba]
 split <;> rfl
theorem Mem.dv (m : Mem) (c : Nat) (x : cY) : (m.new x).get c = if c = m.next then x else m.get c := by
 unfold Mem.get Mem.new;simp only [Tr.ba]
 split <;> rfl
theorem Mem.fI (m : Mem) (x : cY) : (m.new x).next = m.next + 1 := rfl
theorem Mem.cG (m : Mem) (b : Nat) (x : cY) : (m.set b x).next = m.next := rfl
structure Quiet (w w' : World) : Prop where
 heap : w'.heap = w.heap
 os : w'.os = w.os
 tape : w'.tape = w.tape
 output : w'.output = w.output
theorem Quiet.refl (w : World) : Quiet w w := ⟨rfl, rfl, rfl, rfl⟩
theorem ru.of_heap {base : Nat} {ρ ρ' : Ren} (e : Ext ρ ρ') {B : cY} {L : Loc} {w w' : World} (hh : w'.heap[L.bT]? = w.heap[L.bT]?) (h : ru base ρ B L w) : ru base ρ' B L w' := by
 unfold ru at *
 cases B with
 | dead => trivial
 | cells cs esz el ro =>
  obtain ⟨arr, e', fz, h1, h2, h3, h4, h5, h6, h7⟩ := h
  refine ⟨arr, e', fz, by rw [hh]; exact h1, h2, h3, h4, h5, fun i v hv => ?_, h7⟩
  obtain ⟨v', g1, g2, g3⟩ := h6 i v hv
  exact ⟨v', g1, g2.ext e, g3⟩
 | map es =>
  obtain ⟨ds, c, h1, h2, h3, h4⟩ := h
  exact ⟨ds, c, by rw [hh]; exact h1, h2, fun i a d ha hd => ⟨(h3 i a d ha hd).1.ext e, (h3 i a d ha hd).2.ext e⟩, h4⟩
theorem R.quiet {base : Nat} {ρ : Ren} {m : Mem} {w w' : World} (q : Quiet w w') (h : R base ρ m w) : R base ρ m w' :=
 ⟨h.lt, fun b L hb => (h.bT b L hb).of_heap (.refl ρ) (by rw [q.heap]), h.inj, by rw [q.heap]; exact h.base, h.clean⟩
theorem Step.quiet {ρ : Ren} {m : Mem} {w w' : World} (q : Quiet w w') : Step ρ m w ρ m w' :=
 ⟨.refl ρ, fun _ h h' => absurd h h', ee _, fun _ _ _ => rfl, fun _ _ h => h, by rw [q.heap]; exact ee _, fun _ _ h => h, fun _ _ _ => by rw [q.heap], q.os, q.tape, q.output⟩
structure yM (w : World) (o : Obj) (w' : World) : Prop where
 heap : w'.heap = w.heap.push o
 os : w'.os = w.os
 tape : w'.tape = w.tape
 output : w'.output = w.output
theorem yM.old {w w' : World} {o : Obj} (g : yM w o w') (i : Nat) (h : i < w.heap.size) : w'.heap[i]? = w.heap[i]? := by
 rw [g.heap, Array.getElem?_push]; simp; omega
theorem yM.new {w w' : World} {o : Obj} (g : yM w o w') : w'.heap[w.heap.size]? = some o := by rw [g.heap]; simp
theorem ru.lt {base : Nat} {ρ : Ren} {B : cY} {L : Loc} {w : World} (h : ru base ρ B L w) (hl : B ≠ .dead) : L.bT < w.heap.size := by
 cases B with
 | dead => exact absurd rfl hl
 | cells cs esz el ro => obtain ⟨arr, e', fz, h1, _⟩ := h; exact (Array.getElem?_eq_some_iff.1 h1).1
 | map es => obtain ⟨ds, c, h1, _⟩ := h; exact (Array.getElem?_eq_some_iff.1 h1).1
def Ren.put (ρ : Ren) (b : Nat) (L : Loc) : Ren := fun c => if c = b then some L else ρ c
theorem Ren.yg {ρ : Ren} {b : Nat} (L : Loc) (h : ρ b = none) : Ext ρ (ρ.put b L) := by
 intro c M hc
 unfold Ren.put;by_cases e : c = b
 ·subst e; rw [h] at hc; cases hc
 ·rw [if_neg e]; exact hc
theorem R.OD {base : Nat} {ρ : Ren} {m : Mem} {w : World} (h : R base ρ m w) : ρ m.next = none := by
 cases e : ρ m.next with
 | none => rfl
 | some L => have := h.lt _ _ e; omega
structure RN (base : Nat) (ρ : Ren) (m : Mem) (w : World) : Prop where
 free : ρ m.next = none
 bT : ∀ b L, ρ b = some L -> ru base ρ (m.get b) L w
 inj : ∀ b c L L', ρ b = some L -> ρ c = some L' -> Live m b -> Live m c -> L.ro = false -> L.bT = L'.bT -> b = c
 base : base <= w.heap.size
theorem R.n {base : Nat} {ρ : Ren} {m : Mem} {w : World} (h : R base ρ m w) : RN base ρ m w := ⟨h.OD, h.bT, h.inj, h.base⟩
structure Made (base : Nat) (ρ : Ren) (m : Mem) (w : World) (ρ' : Ren) (B : cY) (w' : World) : Prop where
 bT : ∀ b L, ρ' b = some L -> ru base ρ' ((m.new B).get b) L w'
 inj : ∀ b c L L', ρ' b = some L -> ρ' c = some L' -> Live (m.new B) b -> Live (m.new B) c -> L.ro = false -> L.bT = L'.bT -> b = c
 base : base <= w'.heap.size
 ext : Ext ρ ρ'
 Tg : ∀ b, b ≠ m.next -> ρ' b = ρ b
 loc : ∃ L, ρ' m.next = some L /\ L.bT = w.heap.size
 size : w'.heap.size = w.heap.size + 1
 old : ∀ i, i < w.heap.size -> w'.heap[i]? = w.heap[i]?
 os : w'.os = w.os
 tape : w'.tape = w.tape
 output : w'.output = w.output
theorem zL {base : Nat} {ρ : Ren} {m : Mem} {w w' : World} (h : RN base ρ m w) (B : cY) (o : Obj) (g : yM w o w') (L : Loc) (hb : L.bT = w.heap.size)
  (hB : ru base (ρ.put m.next L) B L w') : Made base ρ m w (ρ.put m.next L) B w' := by
 have hn := h.free
 have he := Ren.yg L hn
 have lU : w'.heap.size = w.heap.size + 1 := by rw [g.heap]; simp
 have xT : ∀ b M, ρ b = some M -> Live m b -> M.bT < w.heap.size := fun b M hM hl => (h.bT b M hM).lt hl
 have eV : ∀ b, b ≠ m.next -> (m.new B).get b = m.get b := fun b iv => by rw [Mem.dv, if_neg iv]
 refine ⟨?_, ?_, ?_, he, fun b iv => if_neg iv, ⟨L, if_pos rfl, hb⟩, lU, fun i hi => g.old i hi, g.os, g.tape, g.output⟩
 ·intro b M hM
  unfold Ren.put at hM;by_cases e : b = m.next
  ·rw [if_pos e] at hM; cases hM
   rw [Mem.dv, if_pos e]; exact hB
  ·rw [if_neg e] at hM
   rw [eV b e];by_cases hl : m.get b = .dead
   ·rw [hl]; trivial
   ·exact (h.bT b M hM).of_heap he (g.old _ (xT b M hM hl))
 ·intro b c M M' hM ya hl qe lQ oD
  unfold Ren.put at hM ya
  by_cases e : b = m.next <;> by_cases e' : c = m.next
  ·rw [e, e']
  ·rw [if_pos e] at hM; cases hM
   rw [if_neg e'] at ya
   have := xT c M' ya (by unfold Live at qe ⊢; rwa [eV c e'] at qe)
   omega
  ·rw [if_pos e'] at ya; cases ya
   rw [if_neg e] at hM;have := xT b M hM (by unfold Live at hl ⊢; rwa [eV b e] at hl)
   omega
  ·rw [if_neg e] at hM; rw [if_neg e'] at ya
   exact h.inj b c M M' hM ya (by unfold Live at hl ⊢; rwa [eV b e] at hl) (by unfold Live at qe ⊢; rwa [eV c e'] at qe) lQ oD
 ·have := h.base; omega
theorem Made.whole {base : Nat} {ρ ρ' : Ren} {m : Mem} {w w' : World} {B : cY} (h : R base ρ m w) (k : Made base ρ m w ρ' B w') : R base ρ' (m.new B) w' /\ Step ρ m w ρ' (m.new B) w' := by
 have eV : ∀ b, b ≠ m.next -> (m.new B).get b = m.get b := fun b iv => by rw [Mem.dv, if_neg iv]
 refine ⟨⟨?_, k.bT, k.inj, k.base, fun b hb => by rw [Mem.fI] at hb; rw [eV b (by omega)]; exact h.clean b (by omega)⟩, ⟨k.ext, ?_, ?_, ?_, fun b hb hd => by rw [eV b (by omega)]; exact hd, by have := k.size; omega, ?_, fun i hi _ => k.old i hi, k.os, k.tape, k.output⟩⟩
 ·intro b M hM
  rw [Mem.fI];by_cases e : b = m.next
  ·omega
  ·rw [k.Tg b e] at hM; have := h.lt b M hM; omega
 ·intro b Ss Aj
  by_cases e : b = m.next
  ·omega
  ·rw [k.Tg b e] at Aj; exact absurd Ss Aj
 ·rw [Mem.fI]; omega
 ·intro b aP _
  exact eV b (by omega)
 ·rintro i hi ⟨b, M, hM, hl, lQ, oD⟩
  by_cases e : b = m.next
  ·subst e
   obtain ⟨L, h1, h2⟩ := k.loc
   rw [h1] at hM; cases hM; omega
  ·rw [k.Tg b e] at hM
   exact ⟨b, M, hM, by unfold Live at hl ⊢; rwa [eV b e] at hl, lQ, oD⟩
end
section
theorem run_typeInfo {P : Program} {t : TypeId} {i : TypeInfo} (h : P.info? t = some i) (w : World) : (typeInfo t).run P w = .ok i w := by
 simp [typeInfo, h]
theorem bg {P : Program} {t : TypeId} {n : Nat} (h : dJ P t = some n) (w : World) : (sizeOf t).run P w = .ok n w := by
 unfold dJ at h;obtain ⟨i, hi, rfl⟩ := fG.1 h
 simp [sizeOf, run_typeInfo hi]
theorem wL {P : Program} {t : TypeId} {g : Option Nat} (h : pv P t = some g) (w : World) :
  (isAgg t).run P w = .ok g.isSome w /\ ∀ n, g = some n -> (sizeOf t).run P w = .ok n w := by
 unfold pv at h
 cases hu : P.underlying t with
 | none => rw [hu] at h; simp at h
 | some d =>
  cases hi : P.info? t with
  | none => rw [hu, hi] at h; cases d <;> simp at h
  | some i =>
   rw [hu, hi] at h;have hs : (sizeOf t).run P w = .ok i.size w := by simp [sizeOf, run_typeInfo hi]
   cases d <;> simp at h <;> subst h <;> simp [isAgg, run_underlying hu] <;> exact hs
theorem EM {w : World} {b o : Nat} {arr : Array Value} {e : TypeId} {fz : Nat × Nat} (h : w.heap[b]? = some (.cells arr e fz)) : w.cell? ⟨b, o, none⟩ = arr[o]? := by
 simp [World.cell?, h]
theorem GV {w : World} {b o : Nat} {arr : Array Value} {e : TypeId} {fz : Nat × Nat} (h : w.heap[b]? = some (.cells arr e fz)) (hf : Hy fz arr.size) (ho : o < arr.size) : w.frozen? ⟨b, o, none⟩ = false := by
 have := hf o ho
 simp [World.frozen?, h]
 omega
section
variable {base : Nat} {ρ : Ren} {m : Mem} {w : World}
theorem R.cell (h : R base ρ m w) {b : Nat} {L : Loc} (hb : ρ b = some L) {cs : List EV} {esz el : Nat} {ro : Bool} (hg : m.get b = .cells cs esz el ro) (i : Nat) (v : EV) (hi : cs[i]? = some v) :
  ∃ v', w.cell? ⟨L.bT, L.off + i, none⟩ = some v' /\ VR ρ v v' /\ v'.oneCell' = true := by
 have := h.bT b L hb
 rw [hg] at this;obtain ⟨arr, e, fz, h1, _, _, _, _, h6, _⟩ := this
 obtain ⟨v', g1, g2, g3⟩ := h6 i v hi
 exact ⟨v', by rw [EM h1]; exact g1, g2, g3⟩
theorem R.cells (h : R base ρ m w) {b : Nat} {L : Loc} (hb : ρ b = some L) {cs : List EV} {esz el : Nat} {ro : Bool} (hg : m.get b = .cells cs esz el ro) (off n : Nat) (hl : off + n <= cs.length) :
  ∃ vs : List Value, vs.length = n /\ (∀ j, j < n -> w.cell? ⟨L.bT, L.off + off + j, none⟩ = vs[j]?) /\ cS ρ ((cs.drop off).take n) vs /\ ∀ c ∈ vs, c.oneCell' = true := by
 induction n generalizing off with
 | zero => exact ⟨[], rfl, fun j hj => absurd hj (by omega), by simpa using cS.nil, by simp⟩
 | succ n ih =>
  obtain ⟨vs, h1, h2, h3, h4⟩ := ih (off + 1) (by omega)
  have aP : off < cs.length := by omega
  obtain ⟨v', g1, g2, g3⟩ := h.cell hb hg off cs[off] (ij aP)
  refine ⟨v' :: vs, by simp [h1], ?_, ?_, ?_⟩
  ·intro j hj
   cases j with
   | zero => simpa using g1
   | succ j => have := h2 j (by omega); rw [show L.off + off + (j + 1) = L.off + (off + 1) + j by omega]; simpa using this
  ·rw [List.drop_eq_getElem_cons aP, List.take_succ_cons]
   exact .cons g2 h3
  ·intro c hc
   rcases lj.1 hc with rfl | hc
   ·exact g3
   ·exact h4 c hc
end
theorem lE {P : Program} {w : World} {b o : Nat} : ∀ (vs : List Value) (i : Nat) (acc : Array Value), (∀ j, j < vs.length -> w.cell? ⟨b, o + i + j, none⟩ = vs[j]?) ->
  (loadCellsFrom ⟨b, o, none⟩ i vs.length acc).run P w = .ok (acc ++ (⟨vs⟩ : Array Value)) w
 | [], i, acc, _ => by simp [loadCellsFrom]
 | v :: vs, i, acc, h => by
  have h0 := h 0 (by simp)
  simp at h0
  have ih := lE (P := P) (w := w) (b := b) (o := o) vs (i + 1) (acc.push v) (fun j hj => by
   have := h (j + 1) (by simpa using hj)
   rw [show o + (i + 1) + j = o + i + (j + 1) by omega]; simpa using this)
  simp only [List.length_cons, loadCellsFrom, Sem.run_bind, run_load, Addr.add_lit, h0, Result.andThen_ok, ih]
  congr 1
  simp
theorem oP {P : Program} {w : World} {b o : Nat} (vs : List Value) (n : Nat) (hn : vs.length = n) (h : ∀ j, j < n -> w.cell? ⟨b, o + j, none⟩ = vs[j]?) :
  (loadCells ⟨b, o, none⟩ n).run P w = .ok ⟨vs⟩ w := by
 subst hn;have := lE (P := P) (w := w) (b := b) (o := o) vs 0 #[] (fun j hj => by simpa using h j hj)
 simpa [loadCells] using this
section
variable {base : Nat} {ρ : Ren} {m : Mem} {w : World} {P : Program}
theorem oO (hR : R base ρ m w) {t : TypeId} {g : Option Nat} (hg : pv P t = some g) {e v : EV} {a' : Value} (ha : VR ρ e a') (h : m.load g e = some v) :
  ∃ a v', a' = .pointer (some a) /\ (loadVar t a).run P w = .ok v' w /\ VR ρ v v' := by
 cases e <;> simp [Mem.load] at h
 case dl => cases ha
 rename_i b off
 cases ha with
 | @ptr _ _ L hb =>
 refine ⟨⟨L.bT, L.off + off, none⟩, ?_⟩
 cases hm : m.get b with
 | dead => simp [hm] at h
 | map es => simp [hm] at h
 | cells cs esz el ro =>
  simp [hm] at h
  obtain ⟨Sv, lU⟩ := wL hg w
  cases g with
  | none =>
   simp [partOf] at h
   obtain ⟨v', h1, h2, _⟩ := hR.cell hb hm off v (by simpa using h)
   exact ⟨v', rfl, by simp [loadVar, Sv, h1], h2⟩
  | some n =>
   simp only [partOf] at h
   cases hl : (off + n).ble cs.length <;> simp [hl] at h
   subst h;obtain ⟨vs, h1, h2, h3, h4⟩ := hR.cells hb hm off n (lk hl)
   refine ⟨.agg ⟨vs⟩, rfl, ?_, .agg h3 h4⟩
   simp [loadVar, Sv, lU n rfl, oP vs n h1 h2]
theorem wm (hR : R base ρ m w) {b off n : Nat} {L : Loc} (hb : ρ b = some L) {xs : List EV} (h : m.row b off n = some xs) :
  ∃ vs : List Value, vs.length = n /\ xs.length = n /\ (loadCells ⟨L.bT, L.off + off, none⟩ n).run P w = .ok ⟨vs⟩ w /\ cS ρ xs vs /\ ∀ c ∈ vs, c.oneCell' = true := by
 by_cases hn : n = 0
 ·subst hn
  rw [Mem.jN] at h; cases h
  exact ⟨[], rfl, rfl, rfl, .nil, by simp⟩
 rw [Mem.jG hn] at h;unfold Mem.tG at h
 cases hm : m.get b with
 | dead => simp [hm] at h
 | map es => simp [hm] at h
 | cells cs esz el ro =>
  simp only [hm] at h
  cases hl : (off + n).ble cs.length <;> simp [hl] at h
  have qe := lk hl
  obtain ⟨vs, h1, h2, h3, h4⟩ := hR.cells hb hm off n qe
  refine ⟨vs, h1, ?_, oP vs n h1 h2, h ▸ h3, h4⟩
  subst h; simp; omega
theorem R.Iv {m1 : Mem} (hR : R base ρ m w) (hn : m1.next = m.next) (hg : ∀ b, m1.get b = m.get b) : R base ρ m1 w /\ Step ρ m w ρ m1 w := by
 have hl : ∀ b, Live m1 b ↔ Live m b := fun b => by unfold Live; rw [hg]
 refine ⟨⟨fun b L h => by rw [hn]; exact hR.lt b L h, fun b L h => by rw [hg]; exact hR.bT b L h, fun b c L L' h1 h2 h3 h4 => hR.inj b c L L' h1 h2 ((hl b).1 h3) ((hl c).1 h4), hR.base, fun b h => by rw [hg]; exact hR.clean b (by rw [<- hn]; exact h)⟩,
  ⟨.refl ρ, fun _ h h' => absurd h h', by rw [hn]; exact ee _, fun b _ _ => hg b, fun b _ h => by rw [hg]; exact h, ee _, fun i _ h => ?_, fun _ _ _ => rfl, rfl, rfl, rfl⟩⟩
 obtain ⟨b, L, h1, h2, h3, h4⟩ := h
 exact ⟨b, L, h1, (hl b).1 h2, h3, h4⟩
theorem EX {m m1 : Mem} {b off : Nat} (h : m.write b off [] = some m1) : m1.next = m.next /\ ∀ c, m1.get c = m.get c := by
 unfold Mem.write at h
 cases hm : m.get b with
 | dead => simp [hm] at h
 | map es => simp [hm] at h
 | cells cs e t ro =>
  simp only [hm] at h
  cases ro <;> simp only [cond_true, cond_false, reduceCtorEq] at h
  obtain ⟨cs1, h1, rfl⟩ := fG.1 h
  unfold eG at h1
  cases hl : (off + ([] : List EV).length).ble cs.length <;> simp only [hl, cond_true, cond_false, reduceCtorEq, aQ] at h1
  have : cs1 = cs := by rw [<- h1]; simp
  subst this;refine ⟨rfl, fun c => ?_⟩
  rw [Mem.ba]
  split
  ·rename_i e; subst e; exact hm.symm
  ·rfl
theorem kT {b o : Nat} {e : TypeId} {fz : Nat × Nat} : ∀ (vs : List Value) (i : Nat) (w : World) (arr : Array Value), w.heap[b]? = some (.cells arr e fz) -> o + i + vs.length <= arr.size -> Hy fz arr.size ->
  (∀ c ∈ vs, c.oneCell' = true) -> ∃ w' yH, (storeCells ⟨b, o, none⟩ vs i).run P w = .ok () w' /\ w'.heap[b]? = some (.cells yH e fz) /\ yH.size = arr.size /\
   (∀ j, yH[j]? = if o + i <= j /\ j < o + i + vs.length then vs[j - (o + i)]? else arr[j]?) /\ (∀ k, k ≠ b -> w'.heap[k]? = w.heap[k]?) /\ w'.heap.size = w.heap.size /\ w'.os = w.os /\ w'.tape = w.tape /\ w'.output = w.output
 | [], i, w, arr, h, _, _, _ => ⟨w, arr, rfl, h, rfl, fun j => by rw [if_neg (fun h => by have h2 := h.2; simp at h2; omega)], fun _ _ => rfl, rfl, rfl, rfl, rfl⟩
 | v :: vs, i, w, arr, h, hl, hf, hv => by
  simp at hl
  have aP : o + i < arr.size := by omega
  have hc : w.cell? ⟨b, o + i, none⟩ = some arr[o + i] := by rw [EM h, Array.getElem?_eq_getElem aP]
  have V7 := GV h hf aP
  have hv0 := hv v (by simp)
  have We : b < w.heap.size := (Array.getElem?_eq_some_iff.1 h).1
  have Sj : (w.setCell ⟨b, o + i, none⟩ v).heap[b]? = some (.cells (arr.setIfInBounds (o + i) v) e fz) := by
   simp [World.setCell, Array.getElem?_modify, h]
  have x7 : ∀ k, k ≠ b -> (w.setCell ⟨b, o + i, none⟩ v).heap[k]? = w.heap[k]? := by
   intro k hk
   simp [World.setCell, Array.getElem?_modify, Ne.symm hk]
  obtain ⟨w', yH, r1, r2, r3, r4, r5, r6, r7, r8, r9⟩ := kT (b := b) (o := o) vs (i + 1) (w.setCell ⟨b, o + i, none⟩ v) (arr.setIfInBounds (o + i) v) Sj (by simp; omega) (by simpa using hf) (fun c hc => hv c (by simp [hc]))
  refine ⟨w', yH, ?_, r2, by simpa using r3, ?_, fun k hk => (r5 k hk).trans (x7 k hk), by simpa using r6, r7, r8, r9⟩
  ·simp only [storeCells, Sem.run_bind, Addr.add_lit, run_store P w _ v _ hv0, hc, V7, if_false, Result.andThen_ok, lm]
   exact r1
  ·intro j
   rw [r4 j];by_cases hj : j = o + i
   ·subst hj
    rw [if_neg (by omega), if_pos (by simp)];simp [aP]
   ·by_cases P5 : o + (i + 1) <= j /\ j < o + (i + 1) + vs.length
    ·rw [if_pos P5, if_pos (by simp; omega)]
     rw [show j - (o + i) = (j - (o + (i + 1))) + 1 by omega];simp
    ·rw [if_neg P5, if_neg (by simp; omega)]
     rw [Array.getElem?_setIfInBounds_ne (by omega)]
end
theorem tl {cs vs ds : List EV} {off : Nat} (h : eG cs off vs = some ds) : ds.length = cs.length /\ off + vs.length <= cs.length /\
  ∀ j, ds[j]? = if off <= j /\ j < off + vs.length then vs[j - off]? else cs[j]? := by
 unfold eG at h
 cases hl : (off + vs.length).ble cs.length <;> simp [hl] at h
 have qe := lk hl
 subst h;refine ⟨by simp; omega, qe, fun j => ?_⟩
 by_cases h1 : j < off
 ·rw [if_neg (by omega), rB (by simp; omega), List.getElem?_take, if_pos h1]
 ·rw [qJ (by simp; omega)]
  have hm : min off cs.length = off := by omega
  simp only [List.length_take, hm];by_cases h2 : j < off + vs.length
  ·rw [if_pos ⟨by omega, h2⟩, rB (by omega)]
  ·rw [if_neg (by omega), qJ (by omega), List.getElem?_drop]
   congr 1
   omega
section
variable {base : Nat} {ρ : Ren} {m m' : Mem} {w : World} {P : Program}
theorem lr (hR : R base ρ m w) {b off : Nat} {L : Loc} (hb : ρ b = some L) {vs : List EV} {nq : List Value} (hv : cS ρ vs nq) (hf : ∀ c ∈ nq, c.oneCell' = true) (h : m.write b off vs = some m') :
  ∃ w', (storeCells ⟨L.bT, L.off + off, none⟩ nq).run P w = .ok () w' /\ R base ρ m' w' /\ Step ρ m w ρ m' w' := by
 unfold Mem.write at h
 cases hm : m.get b with
 | dead => simp [hm] at h
 | map es => simp [hm] at h
 | cells cs esz el ro =>
  simp only [hm] at h
  cases ro with
  | true => simp at h
  | false =>
  simp only [cond_false] at h;obtain ⟨ds, hs, rfl⟩ := fG.1 h
  obtain ⟨s1, s2, s3⟩ := tl hs
  have hB := hR.bT b L hb
  rw [hm] at hB;obtain ⟨arr, e, fz, h1, h2, h3, h4, h5, h6, h7, h8⟩ := hB
  obtain ⟨Ai, qg⟩ := h7 rfl
  have hlen := hv.length
  obtain ⟨w', yH, r1, r2, r3, r4, r5, r6, r7, r8, r9⟩ := kT (P := P) (o := L.off + off) nq 0 w arr h1 (by omega) qg hf
  have oA : Live m b := by unfold Live; rw [hm]; simp
  have jW : ∀ c, c ≠ b -> (m.set b (.cells ds esz el false)).get c = m.get c := fun c hc => by rw [Mem.ba, if_neg hc]
  have uk : ∀ c, Live (m.set b (.cells ds esz el false)) c -> Live m c := by
   intro c hc
   by_cases e : c = b
   ·subst e; exact oA
   ·unfold Live at hc ⊢; rwa [jW c e] at hc
  have We : L.bT < w.heap.size := (Array.getElem?_eq_some_iff.1 h1).1
  refine ⟨w', r1, ⟨hR.lt, ?_, ?_, by rw [r6]; exact hR.base, fun c hc => by rw [jW c (fun e => by subst e; have := hR.lt _ _ hb; rw [Mem.cG] at hc; omega)]; exact hR.clean c hc⟩, ⟨.refl ρ, fun _ h h' => absurd h h', ee _, ?_, fun c hc hd => by rw [jW c (fun e => by subst e; rw [hm] at hd; cases hd)]; exact hd, by omega, ?_, ?_, r7, r8, r9⟩⟩
  ·intro c M hM
   by_cases e : c = b
   ·subst e
    rw [hb] at hM; cases hM
    rw [Mem.ba, if_pos rfl];refine ⟨yH, _, fz, r2, by omega, h3, h4, by omega, ?_, fun _ => ⟨Ai, by rw [r3]; exact qg⟩, h8⟩
    intro i v hi
    rw [s3 i] at hi;rw [r4];by_cases sE : off <= i /\ i < off + vs.length
    ·rw [if_pos sE] at hi
     rw [if_pos (by omega)];obtain ⟨v', g1, g2⟩ := hv.get _ v hi
     rw [show L.off + i - (L.off + off + 0) = i - off by omega];exact ⟨v', g1, g2, hf v' (List.mem_of_getElem? g1)⟩
    ·rw [if_neg sE] at hi
     rw [if_neg (by omega)];exact h6 i v hi
   ·rw [jW c e]
    by_cases hl : m.get c = .dead
    ·rw [hl]; trivial
    ·have iv : M.bT ≠ L.bT := fun oD => e (hR.inj b c L M hb hM oA hl (by rw [h4]) oD.symm).symm
     exact (hR.bT c M hM).of_heap (.refl ρ) (r5 _ iv)
  ·intro c d M M' hM ya hl qe lQ oD
   exact hR.inj c d M M' hM ya (uk c hl) (uk d qe) lQ oD
  ·intro c hc hn
   exact jW c (fun e => by subst e; rw [hb] at hn; cases hn)
  ·rintro i hi ⟨c, M, hM, hl, lQ, oD⟩
   exact ⟨c, M, hM, uk c hl, lQ, oD⟩
  ·intro i hi hr
   exact r5 i (fun e => hr ⟨b, L, hb, oA, by rw [h4], e.symm⟩)
theorem lB (hR : RN base ρ m w) {cs : List EV} {vs : List Value} (hv : cS ρ cs vs) (hf : ∀ c ∈ vs, c.oneCell' = true) (esz el : Nat) (t : TypeId) (lc : List Value) (fz : Nat × Nat) (qg : Hy fz (vs.length + lc.length)) (w' : World)
  (g : yM w (.cells ⟨vs ++ lc⟩ t fz) w') : ∃ L, ρ.put m.next L m.next = some L /\ L.bT = w.heap.size /\ L.off = 0 /\ L.total = vs.length + lc.length /\ L.esz = esz /\ L.ro = false /\
   Made base ρ m w (ρ.put m.next L) (.cells cs esz el false) w' := by
 let L : Loc := ⟨w.heap.size, 0, vs.length + lc.length, esz, false⟩
 have he := Ren.yg L hR.free
 have hlen := hv.length
 have a := zL hR (.cells cs esz el false) _ g L rfl (by
  refine ⟨⟨vs ++ lc⟩, t, fz, g.new, by simp [L], rfl, rfl, by simp [L]; omega, ?_, fun _ => ⟨hR.base, by simpa using qg⟩, by simp⟩
  intro i v hi
  obtain ⟨v', g1, g2⟩ := hv.get i v hi
  refine ⟨v', ?_, g2.ext he, hf v' (List.mem_of_getElem? g1)⟩
  have aP : i < vs.length := (kO.1 g1).1
  simp [L, rB aP, g1])
 exact ⟨L, by simp [Ren.put], rfl, rfl, rfl, rfl, rfl, a⟩
theorem xJ (hR : R base ρ m w) {cs : List EV} {vs : List Value} (hv : cS ρ cs vs) (hf : ∀ c ∈ vs, c.oneCell' = true) (esz el : Nat) (t : TypeId) (lc : List Value) (fz : Nat × Nat) (qg : Hy fz (vs.length + lc.length)) (w' : World)
  (g : yM w (.cells ⟨vs ++ lc⟩ t fz) w') : ∃ L, ρ.put m.next L m.next = some L /\ L.bT = w.heap.size /\ L.off = 0 /\ L.total = vs.length + lc.length /\ L.esz = esz /\ L.ro = false /\
   R base (ρ.put m.next L) (m.new (.cells cs esz el false)) w' /\ Step ρ m w (ρ.put m.next L) (m.new (.cells cs esz el false)) w' := by
 obtain ⟨L, h1, h2, h3, h4, h5, h6, h7⟩ := lB hR.n hv hf esz el t lc fz qg w' g
 exact ⟨L, h1, h2, h3, h4, h5, h6, h7.whole hR⟩
end
theorem rj (n : Nat) : Hy (0, 0) n := fun i _ => by simp
theorem VR.cells {ρ : Ren} {v : EV} {v' : Value} (h : VR ρ v v') {cs : List EV} (hc : v.cells = some cs) : cS ρ cs v'.cells.toList /\ ∀ c ∈ v'.cells.toList, c.oneCell' = true := by
 cases h <;> simp only [EV.cells, aQ, reduceCtorEq] at hc <;> subst hc
 case agg h hf => exact ⟨h, hf⟩
 case ptr h => exact ⟨.cons (.ptr h) .nil, by simp [Value.cells, Value.oneCell']⟩
 case slice h1 h2 h3 h4 => exact ⟨.cons (.slice h1 h2 h3 h4) .nil, by simp [Value.cells, Value.oneCell']⟩
 case cT h1 h2 h3 => exact ⟨.cons (.cT h1 h2 h3) .nil, by simp [Value.cells, Value.oneCell']⟩
 case map h => exact ⟨.cons (.map h) .nil, by simp [Value.cells, Value.oneCell']⟩
 case func h1 h2 => exact ⟨.cons (.func h1 h2) .nil, by simp [Value.cells, Value.oneCell']⟩
 case iface h => exact ⟨.cons (.iface h) .nil, by simp [Value.cells, Value.oneCell']⟩
 all_goals exact ⟨.cons (by constructor) .nil, by simp [Value.cells, Value.oneCell']⟩
end
section
def yc : List (Nat × List (List UInt8)) -> Nat -> Option (List (List UInt8))
 | [], _ => none
 | (g, l) :: r, b => if b = g then some l else yc r b
def tabIn : List (Nat × List Int) -> Nat -> Option (List Int)
 | [], _ => none
 | (g, l) :: r, b => if b = g then some l else tabIn r b
end
section
def L_tree_words : List (List UInt8) := [[102, 110], [118, 97, 114], [105, 102], [101, 108, 115, 101], [119, 104, 105, 108, 101], [102, 111, 114], [98, 114, 101, 97, 107], [99, 111, 110, 116, 105, 110, 117, 101], [114, 101, 116, 117, 114, 110], [112, 114, 105, 110, 116], [108, 101, 110], [110, 101, 119], [116, 114, 117, 101], [102, 97, 108, 115, 101], [110, 105, 108], [105, 110, 116], [98, 111, 111, 108], [97, 114, 114]]
def L_tree_signs : List (List UInt8) := [[], [124, 124], [38, 38], [61, 61], [33, 61], [60], [60, 61], [62], [62, 61], [43], [45], [43, 37], [45, 37], [42], [47], [37], [42, 37]]
def L_internal_strconv_uint64pow10 : List Int := [1, 10, 100, 1000, 10000, 100000, 1000000, 10000000, 100000000, 1000000000, 10000000000, 100000000000, 1000000000000, 10000000000000, 100000000000000, 1000000000000000, 10000000000000000, 100000000000000000, 1000000000000000000, 10000000000000000000]
def globs : List (Nat × List (List UInt8)) := [(1, L_tree_words), (0, L_tree_signs)]
def uw (b : Nat) : Option (List (List UInt8)) := yc globs b
def Ro : List (Nat × List Int) := [(2, L_internal_strconv_uint64pow10)]
def tabl (b : Nat) : Option (List Int) := tabIn Ro b
end
section
def fJ (G : List Nat) (ρ : Ren) : Prop := ∀ g, G.contains g = true -> ∃ L, ρ g = some L /\ L.bT = g /\ L.off = 0 /\ ∀ l, tabl g = some l -> L.total = l.length
theorem fJ.ext {G : List Nat} {ρ ρ' : Ren} (e : Ext ρ ρ') (h : fJ G ρ) : fJ G ρ' := fun g hg => let ⟨L, a, b, c, d⟩ := h g hg; ⟨L, e _ _ a, b, c, d⟩
theorem mapM_some {α β : Type} (f : α -> Option β) : ∀ {l : List α} {r : List β}, l.mapM f = some r -> l.length = r.length /\ ∀ (i : Nat) (x : α) (y : β), l[i]? = some x -> r[i]? = some y -> f x = some y
 | [], r, h => by simp at h; subst h; simp
 | a :: l, r, h => by
  rw [List.mapM_cons] at h
  cases ha : f a with
  | none => simp [ha] at h
  | some b =>
   cases hl : l.mapM f with
   | none => simp [ha, hl] at h
   | some bs =>
    simp [ha, hl] at h
    subst h;obtain ⟨h1, h2⟩ := mapM_some f hl
    refine ⟨by simp [h1], fun i x y hx hy => ?_⟩
    cases i with
    | zero => simp at hx hy; subst hx hy; exact ha
    | succ i => simp at hx hy; exact h2 i x y hx hy
theorem Kn {ρ : Ren} {e : EV} {v : Value} (h : VR ρ e v) (hf : EF e = true) : v.oneCell' = true := by
 cases h <;> first | rfl | simp [EF] at hf
theorem AZ {ρ : Ren} : ∀ (n : Nat) (v : Value) (e : EV), cV n v = some e -> VR ρ e v := by
 intro n
 induction n with
 | zero => intro v e h; simp [cV] at h
 | succ n ih =>
  have list : ∀ (l : List Value) (r : List EV), l.mapM (cV n) = some r -> cS ρ r l := by
   intro l r h
   obtain ⟨h1, h2⟩ := mapM_some _ h
   exact cS.lM h1.symm fun i v v' hv ll => ih _ _ (h2 i v' v ll hv)
  intro v e h
  unfold cV at h
  split at h
  ·cases h; constructor
  ·cases h; constructor
  ·cases h; constructor
  ·cases h; constructor
  ·cases h; constructor
  ·cases h; constructor
  ·cases h; constructor
  ·cases h; constructor
  ·rename_i f a c
   cases ha : a.toList.mapM (cV n) with
   | none => simp [ha] at h
   | some x =>
    cases hc : c.toList.mapM (cV n) with
    | none => simp [ha, hc] at h
    | some y => simp [ha, hc] at h; subst h; exact .func (list _ _ ha) (list _ _ hc)
  ·obtain ⟨x, hx, rfl⟩ := fG.1 h
   exact .iface (ih _ _ hx)
  ·rename_i cs
   cases hx : cs.toList.mapM (cV n) with
   | none => simp [hx] at h
   | some x =>
    simp only [hx] at h
    cases hf : x.all EF <;> simp [hf] at h
    subst h;have hl := list _ _ hx
    refine .agg hl fun c hc => ?_
    obtain ⟨i, hi⟩ := List.mem_iff_getElem?.1 hc
    have aP : i < x.length := by rw [hl.length]; exact (kO.1 hi).1
    obtain ⟨v', h1, h2⟩ := hl.get i x[i] (ij aP)
    rw [hi] at h1; cases h1
    exact Kn h2 (List.all_eq_true.1 hf _ (oU aP))
  ·obtain ⟨x, hx, rfl⟩ := fG.1 h
   exact .tuple (list _ _ hx)
  ·cases h
structure FR (ρ : Ren) (n : Nat) (fr : Fr) (a : Act) : Prop where
 size : a.tmps.size = n
 tmp : ∀ t, VR ρ (fr.get t) (a.tmps.getD t undef)
theorem FR.ext {ρ ρ' : Ren} {n : Nat} {fr : Fr} {a : Act} (e : Ext ρ ρ') (h : FR ρ n fr a) : FR ρ' n fr a := ⟨h.size, fun t => (h.tmp t).ext e⟩
theorem Fr.ba (fr : Fr) (d t : Nat) (v : EV) : (fr.set d v).get t = if t = d then v else fr.get t := by
 unfold Fr.get Fr.set;simp only [Tr.ba]
 split <;> rfl
theorem FR.put {ρ : Ren} {n : Nat} {fr : Fr} {a : Act} (h : FR ρ n fr a) {d : Option Nat} (hd : ∀ x, d = some x -> x < n) {v : EV} {v' : Value} (hv : VR ρ v v') : FR ρ n (fr.put d v) (a.put d v') := by
 cases d with
 | none => exact h
 | some d =>
  have aP := hd d rfl
  refine ⟨by simp [Act.put, h.size], fun t => ?_⟩
  simp only [Fr.put, Fr.ba, Act.put];by_cases e : t = d
  ·subst e
   rw [if_pos rfl];rw [Array.getD_eq_getD_getElem?, Array.getElem?_setIfInBounds_self_of_lt (by rw [h.size]; exact aP)]
   exact hv
  ·rw [if_neg e]
   rw [Array.getD_eq_getD_getElem?, Array.getElem?_setIfInBounds_ne (by omega), <- Array.getD_eq_getD_getElem?];exact h.tmp t
section
variable {G : List Nat} {ρ : Ren} {n : Nat} {fr : Fr} {a : Act}
theorem eK (hG : fJ G ρ) (hF : FR ρ n fr a) {x : Operand} {y : aD} (h : cR G x = some y) : VR ρ (fr.eval y) (a.eval x) := by
 cases x with
 | tmp t => simp [cR] at h; subst h; exact hF.tmp t
 | const v => simp [cR] at h; obtain ⟨e, he, rfl⟩ := h; exact AZ _ _ _ he
 | global g =>
  simp only [cR] at h
  cases hg : G.contains g <;> simp only [hg, cond_true, cond_false, reduceCtorEq, aQ] at h
  subst h;obtain ⟨L, h1, h2, h3, _⟩ := hG g hg
  have := VR.ptr (off := 0) h1
  rw [h2, h3] at this;exact this
 | func f => simp [cR] at h; subst h; exact .func .nil .nil
theorem j0 (hG : fJ G ρ) (hF : FR ρ n fr a) {xs : List Operand} {ys : List aD} (h : qz G xs = some ys) : cS ρ (ys.map fr.eval) (xs.map a.eval) := by
 obtain ⟨h1, h2⟩ := mapM_some _ h
 exact cS.xP _ _ (R := fun y x => cR G x = some y) (fun y x Yb => eK hG hF Yb) h1.symm fun i y x hy hx => h2 i x y hx hy
inductive mT (ρ : Ren) : Option EV -> Option Value -> Prop
 | none : mT ρ none none
 | some {v : EV} {v' : Value} (h : VR ρ v v') : mT ρ (some v) (some v')
theorem DA (hG : fJ G ρ) (hF : FR ρ n fr a) {x : Option Operand} {y : Option aD} (h : A2 G x = some y) : mT ρ (y.map fr.eval) (x.map a.eval) := by
 cases x with
 | none => simp [A2] at h; subst h; exact .none
 | some x => simp [A2] at h; obtain ⟨z, hz, rfl⟩ := h; exact .some (eK hG hF hz)
end
def Good (base : Nat) (ρ : Ren) (m : Mem) (w : World) (v : EV) (m' : Mem) (r : Result Next) : Prop :=
 ∃ ρ' w' v', (r = .ok (.value v') w' \/ (r = .ok .skip w' /\ v' = undef)) /\ VR ρ' v v' /\ R base ρ' m' w' /\ Step ρ m w ρ' m' w'
section
variable {base : Nat} {ρ : Ren} {m : Mem} {w : World} {P : Program}
theorem Good.still (hR : R base ρ m w) {v : EV} {v' : Value} {s : Sem Value} (h : s.run P w = .ok v' w) (hv : VR ρ v v') :
  Good base ρ m w v m ((do pure (Next.value (<- s)) : Sem Next).run P w) :=
 ⟨ρ, w, v', .inl (by simp [h]), hv, hR, .refl _ _ _⟩
theorem Good.quiet (hR : R base ρ m w) {v : EV} {v' : Value} {s : Sem Value} {w' : World} (h : s.run P w = .ok v' w') (q : Quiet w w') (hv : VR ρ v v') :
  Good base ρ m w v m ((do pure (Next.value (<- s)) : Sem Next).run P w) :=
 ⟨ρ, w', v', .inl (by simp [h]), hv, hR.quiet q, .quiet q⟩
theorem dh : ∀ {a b : List UInt8}, gu a b = decide (a = b)
 | [], [] => rfl
 | [], _ :: _ => by simp [gu]
 | _ :: _, [] => by simp [gu]
 | x :: a, y :: b => by
  simp only [gu, List.cons.injEq]
  cases h : x.toNat.beq y.toNat with
  | true =>
   have : x = y := UInt8.toNat_inj.1 (aB h)
   simp [this, dh (a := a) (b := b)]
  | false =>
   have : x ≠ y := fun e => gw h (by rw [e])
   simp [this]
theorem fY {k l : IntKind} (h : (bf k).beq (bf l) = true) : k = l := by
 have := aB h
 cases k <;> cases l <;> simp [bf] at this <;> rfl
theorem uV {op : BinOp} {k : IntKind} {x y n : Int} (h : lR op k x y = some n) : Op.intBits op k x y = (Pure.pure (.int k n) : Sem Value) := by
 cases op <;> simp only [lR, reduceCtorEq, aQ] at h <;> subst h <;> rfl
theorem G6 {op : BinOp} {t : TypeId} {k l : IntKind} {x y : Int} {v : EV} (h : aV op (.int k x) (.int l y) = some v) : ∃ v', VR ρ v v' /\ (binOp op t (.int k x) (.int l y)).run P w = .ok v' w := by
 simp only [aV] at h
 cases op
 case shl =>
  simp only [mQ] at h
  split at h
  ·cases h
  ·rename_i hn; cases h; exact ⟨_, .int _ _, by simp [binOp, Op.shift, hn]⟩
 case shr =>
  simp only [mQ] at h
  split at h
  ·cases h
  ·rename_i hn; cases h; exact ⟨_, .int _ _, by simp [binOp, Op.shift, hn]⟩
 all_goals
  simp only [] at h
  cases hk : (bf k).beq (bf l) <;> simp only [hk, cond_true, cond_false, reduceCtorEq] at h
  obtain rfl := fY hk
  simp only [jZ] at h
 case add => cases h; exact ⟨_, .int _ _, by simp [binOp, Op.intArith]⟩
 case sub => cases h; exact ⟨_, .int _ _, by simp [binOp, Op.intArith]⟩
 case mul => cases h; exact ⟨_, .int _ _, by simp [binOp, Op.intArith]⟩
 case quo => split at h <;> cases h; rename_i hy; exact ⟨_, .int _ _, by simp [binOp, Op.intDiv, hy]⟩
 case rem => split at h <;> cases h; rename_i hy; exact ⟨_, .int _ _, by simp [binOp, Op.intDiv, hy]⟩
 case eql => cases h; exact ⟨_, .bool _, by simp [binOp, Op.intCmp]; rfl⟩
 case neq => cases h; exact ⟨_, .bool _, by simp [binOp, Op.intCmp]; rfl⟩
 case lss => cases h; exact ⟨_, .bool _, by simp [binOp, Op.intCmp]⟩
 case leq => cases h; exact ⟨_, .bool _, by simp [binOp, Op.intCmp]⟩
 case gtr => cases h; exact ⟨_, .bool _, by simp [binOp, Op.intCmp]⟩
 case geq => cases h; exact ⟨_, .bool _, by simp [binOp, Op.intCmp]⟩
 all_goals
  obtain ⟨n, hn, rfl⟩ := fG.1 h
  exact ⟨_, .int _ _, by simp [binOp, uV hn]⟩
theorem pw (s : ByteArray) : s.toList = s.data.toList := by
 have aux : ∀ (s : ByteArray) (i : Nat) (acc : List UInt8), ByteArray.toList.loop s i acc = acc.reverse ++ s.data.toList.drop i := by
  intro s i acc
  fun_induction ByteArray.toList.loop s i acc with
  | case1 i acc h ih =>
   rw [ih];have aP : i < s.data.toList.length := by simpa using h
   have hg : s.get! i = s.data.toList[i] := by
    simp [ByteArray.get!, getElem!_def]
    rw [Array.getElem?_eq_getElem (by simpa using h)]
   rw [List.drop_eq_getElem_cons aP, hg];simp
  | case2 i acc h =>
   rw [List.drop_of_length_le (by simpa using h)];simp
 simp [ByteArray.toList, aux]
theorem tZ (a b : List UInt8) : (a == b) = decide (a = b) := by rw [Bool.eq_iff_iff]; simp
theorem G5 {op : BinOp} {t : TypeId} {x y : ByteArray} {v : EV} (h : aV op (.str x.data.toList) (.str y.data.toList) = some v) : ∃ v', VR ρ v v' /\ (binOp op t (.string x) (.string y)).run P w = .ok v' w := by
 simp only [aV] at h
 cases op <;> simp only [reduceCtorEq, aQ] at h
 case add =>
  cases hl : (x.data.toList.length + y.data.toList.length).ble 4294967296 <;> simp only [hl, cond_true, cond_false, reduceCtorEq, aQ] at h
  subst h;have hle := lk hl
  refine ⟨.string (x ++ y), ?_, ?_⟩
  ·have := VR.str (ρ := ρ) (x ++ y)
   rw [ByteArray.data_append, Array.toList_append] at this;exact this
  ·have hx : x.size = x.data.toList.length := rfl
   have hy : y.size = y.data.toList.length := rfl
   have : ¬ ((x.size + y.size : Nat) : Int) > IntKind.i64.max := by
    rw [hx, hy]; simp only [IntKind.max_i64]; omega
   simp only [binOp, Op.stringOp];rw [if_neg this]
   rfl
 case eql =>
  subst h;exact ⟨_, .bool _, by simp only [binOp, Op.stringOp, pw, dh, tZ]; rfl⟩
 case neq =>
  subst h;exact ⟨_, .bool _, by simp only [binOp, Op.stringOp, pw, dh, tZ]; rfl⟩
theorem AM {op : BinOp} {t : TypeId} {x y v : EV} {x' y' : Value} (hx : VR ρ x x') (hy : VR ρ y y') (h : aV op x y = some v) :
  ∃ v', VR ρ v v' /\ (binOp op t x' y').run P w = .ok v' w := by
 cases hx <;> cases hy <;> first
  | exact G6 h
  | exact G5 h
  | (simp [aV] at h; done)
theorem vK {op : BinOp} {t : TypeId} {x y : Operand} {a b : Value} (h : op ≠ .eql) (h' : op ≠ .neq) : eqGuard op t x y a b = (Pure.pure () : Sem Unit) := by
 cases op <;> first | rfl | exact absurd rfl h | exact absurd rfl h'
theorem C2 {op : UnOp} {x v : EV} {x' : Value} (hx : VR ρ x x') (h : uF op x = some v) : ∃ v', VR ρ v v' /\ (Op.unary op x').run P w = .ok v' w := by
 cases hx <;> cases op <;> simp only [uF, reduceCtorEq, aQ] at h
 case int.neg => subst h; exact ⟨_, .int _ _, by simp [Op.unary, Op.intArith]⟩
 case int.xor =>
  obtain ⟨n, hn, rfl⟩ := fG.1 h
  exact ⟨_, .int _ _, by simp [Op.unary, uV hn]⟩
 case bool.not => subst h; exact ⟨_, .bool _, by simp [Op.unary]⟩
end
end
section
section
variable {base : Nat} {ρ : Ren} {m : Mem} {w : World} {P : Program}
theorem mE {t : TypeId} {g : Option Nat} (hg : pv P t = some g) {cs : List EV} {iQ : List Value} (hv : cS ρ cs iQ) (hf : ∀ c ∈ iQ, c.oneCell' = true) {off : Nat} {v : EV} (h : partOf g cs off = some v) :
  ∃ v', VR ρ v v' /\ (part t (⟨iQ⟩ : Array Value) off).run P w = .ok v' w := by
 obtain ⟨Sv, lU⟩ := wL (P := P) hg w
 cases g with
 | none =>
  obtain ⟨v', h1, h2⟩ := hv.get off v h
  exact ⟨v', h2, by simp [part, Sv, h1]⟩
 | some n =>
  simp only [partOf] at h
  cases hl : (off + n).ble cs.length <;> simp only [hl, cond_true, cond_false, reduceCtorEq, aQ] at h
  subst h;refine ⟨.agg ⟨(iQ.drop off).take n⟩, .agg ((hv.drop off).take n) (fun c hc => hf c (List.mem_of_mem_drop (List.mem_of_mem_take hc))), ?_⟩
  simp only [part, Sem.run_bind, Sv, Result.andThen_ok, Option.isSome_some, if_true, lU n rfl, Sem.run_pure]
  congr 2
  apply Array.ext'
  simp [List.extract_eq_take_drop]
def vc (t : Nat) (d : TypeDesc) : Prop :=
 match t with
 | 0 => d = .bool
 | 1 => ∃ k, d = .int k
 | 2 => d = .string
 | 3 => ∃ e, d = .pointer e
 | 4 => ∃ e, d = .slice e
 | 5 => ∃ k e, d = .map k e
 | 6 => ∃ p r v, d = .func p r v
 | 7 => ∃ ms, d = .interface ms
 | _ => False
theorem bytes_beq (a b : ByteArray) : (a == b) = decide (a.data.toList = b.data.toList) := by
 cases a; cases b
 rename_i x y
 show (x == y) = decide (x.toList = y.toList)
 rw [Bool.eq_iff_iff];simp [Array.toList_inj]
theorem yo {k : Nat} {t : TypeId} {d : TypeDesc} (hu : P.underlying t = some d) (hk : vc k d) {x y : EV} {x' y' : Value} (hx : VR ρ x x') (hy : VR ρ y y') {b : Bool} (h : ca k x y = some b) (n : Nat) :
  (Op.equalIn (n + 1) t x' y').run P w = .ok b w := by
 cases hx <;> cases hy <;> simp only [ca, reduceCtorEq] at h
 case bool.bool a c =>
  cases hb : k.beq 0 <;> simp only [hb, cond_true, cond_false, reduceCtorEq, aQ] at h
  rw [aB hb] at hk; subst hk; subst h
  simp [Op.equalIn, run_underlying hu]
 case int.int k1 a l c =>
  cases hb : k.beq 1 <;> simp only [hb, cond_true, cond_false, reduceCtorEq] at h
  cases qf : (bf k1).beq (bf l) <;> simp only [qf, cond_true, cond_false, reduceCtorEq, aQ] at h
  obtain rfl := fY qf
  rw [aB hb] at hk; obtain ⟨kk, rfl⟩ := hk; subst h
  simp [Op.equalIn, run_underlying hu]; rfl
 case str.str a c =>
  cases hb : k.beq 2 <;> simp only [hb, cond_true, cond_false, reduceCtorEq, aQ] at h
  rw [aB hb] at hk; subst hk; subst h
  simp [Op.equalIn, run_underlying hu, dh, bytes_beq]
 case bb.bb =>
  cases hb : k.beq 3 <;> simp only [hb, cond_true, cond_false, reduceCtorEq, aQ] at h
  rw [aB hb] at hk; obtain ⟨e, rfl⟩ := hk; subst h
  simp [Op.equalIn, run_underlying hu]
 case bb.ptr =>
  cases hb : k.beq 3 <;> simp only [hb, cond_true, cond_false, reduceCtorEq, aQ] at h
  rw [aB hb] at hk; obtain ⟨e, rfl⟩ := hk; subst h
  simp [Op.equalIn, run_underlying hu]
 case ptr.bb =>
  cases hb : k.beq 3 <;> simp only [hb, cond_true, cond_false, reduceCtorEq, aQ] at h
  rw [aB hb] at hk; obtain ⟨e, rfl⟩ := hk; subst h
  simp [Op.equalIn, run_underlying hu]
 case aa.aa =>
  cases hb : k.beq 4 <;> simp only [hb, cond_true, cond_false, reduceCtorEq, aQ] at h
  rw [aB hb] at hk; obtain ⟨e, rfl⟩ := hk; subst h
  simp [Op.equalIn, run_underlying hu]
 case aa.slice =>
  cases hb : k.beq 4 <;> simp only [hb, cond_true, cond_false, reduceCtorEq, aQ] at h
  rw [aB hb] at hk; obtain ⟨e, rfl⟩ := hk; subst h
  simp [Op.equalIn, run_underlying hu]
 case aa.dD =>
  cases hb : k.beq 4 <;> simp only [hb, cond_true, cond_false, reduceCtorEq, aQ] at h
  rw [aB hb] at hk; obtain ⟨e, rfl⟩ := hk; subst h
  simp [Op.equalIn, run_underlying hu]
 case aa.cT =>
  cases hb : k.beq 4 <;> simp only [hb, cond_true, cond_false, reduceCtorEq, aQ] at h
  rw [aB hb] at hk; obtain ⟨e, rfl⟩ := hk; subst h
  simp [Op.equalIn, run_underlying hu]
 case slice.aa =>
  cases hb : k.beq 4 <;> simp only [hb, cond_true, cond_false, reduceCtorEq, aQ] at h
  rw [aB hb] at hk; obtain ⟨e, rfl⟩ := hk; subst h
  simp [Op.equalIn, run_underlying hu]
 case dD.aa =>
  cases hb : k.beq 4 <;> simp only [hb, cond_true, cond_false, reduceCtorEq, aQ] at h
  rw [aB hb] at hk; obtain ⟨e, rfl⟩ := hk; subst h
  simp [Op.equalIn, run_underlying hu]
 case cT.aa =>
  cases hb : k.beq 4 <;> simp only [hb, cond_true, cond_false, reduceCtorEq, aQ] at h
  rw [aB hb] at hk; obtain ⟨e, rfl⟩ := hk; subst h
  simp [Op.equalIn, run_underlying hu]
 case aS.aS =>
  cases hb : k.beq 5 <;> simp only [hb, cond_true, cond_false, reduceCtorEq, aQ] at h
  rw [aB hb] at hk; obtain ⟨e, f, rfl⟩ := hk; subst h
  simp [Op.equalIn, run_underlying hu]
 case aS.map =>
  cases hb : k.beq 5 <;> simp only [hb, cond_true, cond_false, reduceCtorEq, aQ] at h
  rw [aB hb] at hk; obtain ⟨e, f, rfl⟩ := hk; subst h
  simp [Op.equalIn, run_underlying hu]
 case map.aS =>
  cases hb : k.beq 5 <;> simp only [hb, cond_true, cond_false, reduceCtorEq, aQ] at h
  rw [aB hb] at hk; obtain ⟨e, f, rfl⟩ := hk; subst h
  simp [Op.equalIn, run_underlying hu]
 case aR.aR =>
  cases hb : k.beq 6 <;> simp only [hb, cond_true, cond_false, reduceCtorEq, aQ] at h
  rw [aB hb] at hk; obtain ⟨p, r, v, rfl⟩ := hk; subst h
  simp [Op.equalIn, run_underlying hu]
 case aR.func =>
  cases hb : k.beq 6 <;> simp only [hb, cond_true, cond_false, reduceCtorEq, aQ] at h
  rw [aB hb] at hk; obtain ⟨p, r, v, rfl⟩ := hk; subst h
  simp [Op.equalIn, run_underlying hu]
 case func.aR =>
  cases hb : k.beq 6 <;> simp only [hb, cond_true, cond_false, reduceCtorEq, aQ] at h
  rw [aB hb] at hk; obtain ⟨p, r, v, rfl⟩ := hk; subst h
  simp [Op.equalIn, run_underlying hu]
 case aq.iface =>
  cases hb : k.beq 7 <;> simp only [hb, cond_true, cond_false, reduceCtorEq, aQ] at h
  rw [aB hb] at hk; obtain ⟨ms, rfl⟩ := hk; subst h
  simp [Op.equalIn, run_underlying hu]
 case iface.aq =>
  cases hb : k.beq 7 <;> simp only [hb, cond_true, cond_false, reduceCtorEq, aQ] at h
  rw [aB hb] at hk; obtain ⟨ms, rfl⟩ := hk; subst h
  simp [Op.equalIn, run_underlying hu]
theorem DB {n : Nat} {t : TypeId} {k : Nat} (h : j3 P (n + 1) t = some (.ax k)) : ∃ d, P.underlying t = some d /\ vc k d := by
 unfold j3 at h
 cases hu : P.underlying t with
 | none => simp [hu] at h
 | some d =>
  rw [hu] at h;refine ⟨d, rfl, ?_⟩
  cases d <;> simp at h <;> (try (subst h; simp [vc]; done))
  ·cases hs : P.stoodInHeld t <;> simp [hs] at h
def yp (n : Nat) (xs ys : Array Value) : Field -> Option Bool × Unit -> Sem (ForInStep (Option Bool × Unit)) := fun f _ =>
 if f.name ≠ "_" then do
  let a <- part f.type xs f.offset
  let b <- part f.type ys f.offset
  let r <- Op.equalIn n f.type a b
  if (!r) = true then pure (ForInStep.done (some false, ())) else pure (ForInStep.yield (none, ()))
 else pure (ForInStep.yield (none, ()))
theorem yF {n : Nat} {t : TypeId} {es : List (Option Nat × Nat × mw)} (h : j3 P (n + 1) t = some (.agg es)) :
  ∃ fs, P.underlying t = some (.struct fs) /\ P.stoodInHeld t = false /\ fs.toList.mapM (fun (f : Field) => match pv P f.type, j3 P n f.type with
    | some g, some e => bif f.name != "_" then some (g, f.offset, e) else none
    | _, _ => none) = some es := by
 unfold j3 at h
 cases hu : P.underlying t with
 | none => simp [hu] at h
 | some d =>
  rw [hu] at h
  cases d <;> simp only [reduceCtorEq, aQ] at h
  rename_i fs
  cases hs : P.stoodInHeld t <;> simp only [hs, cond_true, cond_false, reduceCtorEq] at h
  obtain ⟨lS, he, h2⟩ := fG.1 h
  cases h2
  exact ⟨fs, rfl, rfl, he⟩
theorem Ky (n : Nat) {a b : List EV} {a' b' : List Value} (ha : cS ρ a a') (hb : cS ρ b b') (fa : ∀ c ∈ a', c.oneCell' = true) (fb : ∀ c ∈ b', c.oneCell' = true) (k : Nat)
  (ih : ∀ (t : TypeId) (e : mw), j3 P n t = some e -> ∀ (x y : EV) (x' y' : Value), VR ρ x x' -> VR ρ y y' -> ∀ r, cL e x y = some r -> (Op.equalIn k t x' y').run P w = .ok r w) :
  ∀ (fs : List Field) (es : List (Option Nat × Nat × mw)), fs.mapM (fun (f : Field) => match pv P f.type, j3 P n f.type with
    | some g, some e => bif f.name != "_" then some (g, f.offset, e) else none
    | _, _ => none) = some es -> ∀ r, lf es a b = some r -> (forIn fs (none, ()) (yp k ⟨a'⟩ ⟨b'⟩)).run P w = .ok (if r then (none, ()) else (some false, ())) w := by
 intro fs
 induction fs with
 | nil =>
  intro es h r hr
  simp at h
  subst h;simp [lf] at hr
  subst hr
  rfl
 | cons f fs Zm =>
  intro es h r hr
  rw [List.mapM_cons] at h
  cases hg : pv P f.type with
  | none => simp [hg] at h
  | some g =>
  cases he : j3 P n f.type with
  | none => simp [hg, he] at h
  | some e =>
  cases hn : f.name != "_" with
  | false => simp [hg, he, hn] at h
  | true =>
  cases hm : fs.mapM (fun (f : Field) => match pv P f.type, j3 P n f.type with
    | some g, some e => bif f.name != "_" then some (g, f.offset, e) else none
    | _, _ => none) with
  | none => simp [hg, he, hn, hm] at h
  | some lS =>
   simp [hg, he, hn, hm] at h
   subst h;simp only [lf] at hr
   cases hx : partOf g a f.offset with
   | none => simp [hx] at hr
   | some x =>
   cases hy : partOf g b f.offset with
   | none => simp [hx, hy] at hr
   | some y =>
   simp only [hx, hy] at hr;obtain ⟨x', vx, rx⟩ := mE (P := P) (w := w) hg ha fa hx
   obtain ⟨y', vy, ry⟩ := mE (P := P) (w := w) hg hb fb hy
   have iv : f.name ≠ "_" := by simpa using hn
   cases hq : cL e x y with
   | none => simp [hq] at hr
   | some q =>
    have gz := ih _ _ he x y x' y' vx vy q hq
    rw [hq] at hr
    cases q with
    | true =>
     simp only [] at hr;have := Zm lS hm r hr
     simp only [List.forIn_cons, yp, if_pos iv, Sem.run_bind, rx, ry, gz, Result.andThen_ok]
     simpa using this
    | false =>
     simp at hr
     subst hr;simp only [List.forIn_cons, yp, if_pos iv, Sem.run_bind, rx, ry, gz, Result.andThen_ok]
     rfl
theorem Db : ∀ (n : Nat) (t : TypeId) (e : mw), j3 P n t = some e -> ∀ k, n <= k -> ∀ (x y : EV) (x' y' : Value), VR ρ x x' -> VR ρ y y' -> ∀ r, cL e x y = some r -> (Op.equalIn k t x' y').run P w = .ok r w := by
 intro n
 induction n with
 | zero => intro t e h; simp [j3] at h
 | succ n ih =>
  intro t e h k hk x y x' y' hx hy r hr
  obtain ⟨k, rfl⟩ : ∃ j, k = j + 1 := ⟨k - 1, by omega⟩
  cases e with
  | ax q =>
   obtain ⟨d, hu, hd⟩ := DB h
   exact yo hu hd hx hy (by simpa [cL] using hr) k
  | agg es =>
   obtain ⟨fs, hu, hs, hm⟩ := yF h
   cases x <;> (try (simp [cL] at hr; done))
   cases y <;> (try (simp [cL] at hr; done))
   cases hx with
   | agg ha fa =>
   cases hy with
   | agg hb fb =>
   simp only [cL] at hr;have hl := Ky n ha hb fa fb k (fun t e he x y x' y' vx vy r hr => ih t e he k (by omega) x y x' y' vx vy r hr) fs.toList es hm r hr
   unfold Op.equalIn;simp only [Sem.run_bind, run_underlying hu, Result.andThen_ok, run_program, hs, lm, if_false];rw [Array.forIn_toList] at hl;unfold yp at hl;rw [hl]
   cases r <;> rfl
theorem ew {x : Option EV} {x' : Option Value} (hx : mT ρ x x') {N0 qY r : Nat} (h : aw x N0 qY = some r) :
  (x' = none /\ r = N0) \/ (∃ v', x' = some v' /\ r <= qY /\ ∀ code, (Instr.sliceBound v' qY code).run P w = .ok r w) := by
 cases hx with
 | none => simp [aw] at h; exact .inl ⟨rfl, h.symm⟩
 | some hv =>
  right
  cases hv <;> simp only [aw, reduceCtorEq] at h
  rename_i k n
  cases n with
  | negSucc n => simp at h
  | ofNat i =>
   simp only [] at h
   cases hl : i.ble qY <;> simp only [hl, cond_true, cond_false, reduceCtorEq, aQ] at h
   subst h;have hle := lk hl
   refine ⟨_, rfl, hle, fun code => ?_⟩
   simp only [Instr.sliceBound, asIntOf, Sem.run_bind, Sem.run_pure, Result.andThen_ok];rw [if_pos ⟨Int.natCast_nonneg _, Int.ofNat_le.2 hle⟩]
   rfl
theorem gB {lo hi mx : Option EV} {wF rf tV : Option Value} (kw : mT ρ lo wF) (oB : mT ρ hi rf) (pH : mT ρ mx tV) (GG : tV.isSome = true -> rf.isSome = true) (s : Bool) {n len t h l c : Nat} (hn : len = n)
  (h1 : (mx = none /\ t = c) \/ (∃ k, aw mx k c = some t /\ mx ≠ none)) (h2 : aw hi len t = some h) (h3 : aw lo 0 h = some l) :
  (Instr.sliceBounds s n c wF rf tV).run P w = .ok (l, h, t) w /\ l <= h /\ (hi ≠ none -> h <= t) /\ (mx ≠ none -> t <= c) := by
 subst hn;have e1 : (tV = none /\ t = c /\ mx = none) \/ (∃ v', tV = some v' /\ (∀ code, (Instr.sliceBound v' c code).run P w = .ok t w) /\ t <= c) := by
  rcases h1 with ⟨rfl, rfl⟩ | ⟨k, hb, iv⟩
  ·cases pH; exact .inl ⟨rfl, rfl, rfl⟩
  ·rcases ew (P := P) (w := w) pH hb with ⟨rfl, _⟩ | ⟨v', rfl, hle, hr⟩
   ·cases pH; exact absurd rfl iv
   ·exact .inr ⟨v', rfl, hr, hle⟩
 have e2 : l <= h /\ (hi ≠ none -> h <= t) /\ (mx ≠ none -> t <= c) := by
  refine ⟨?_, fun iv => ?_, fun iv => ?_⟩
  ·rcases ew (P := P) (w := w) kw h3 with ⟨_, rfl⟩ | ⟨vl, _, MN, _⟩ <;> omega
  ·rcases ew (P := P) (w := w) oB h2 with ⟨rfl, _⟩ | ⟨vl, _, MN, _⟩
   ·cases oB; exact absurd rfl iv
   ·exact MN
  ·rcases e1 with ⟨_, _, rfl⟩ | ⟨_, _, _, h⟩
   ·exact absurd rfl iv
   ·exact h
 refine ⟨?_, e2⟩
 unfold Instr.sliceBounds;rcases e1 with ⟨rfl, rfl, _⟩ | ⟨vm, rfl, Et, _⟩ <;> rcases ew (P := P) (w := w) oB h2 with ⟨rfl, rfl⟩ | ⟨vh, rfl, Z2, TC⟩
 ·rcases ew (P := P) (w := w) kw h3 with ⟨rfl, rfl⟩ | ⟨vl, rfl, MN, RV⟩
  ·simp only [Sem.run_bind, Result.andThen_ok, Sem.run_pure]
  ·simp only [Sem.run_bind, Result.andThen_ok, Sem.run_pure, RV]
 ·rcases ew (P := P) (w := w) kw h3 with ⟨rfl, rfl⟩ | ⟨vl, rfl, MN, RV⟩
  ·simp only [Sem.run_bind, Result.andThen_ok, Sem.run_pure, TC]
  ·simp only [Sem.run_bind, Result.andThen_ok, Sem.run_pure, RV, TC]
 ·simp at GG
 ·rcases ew (P := P) (w := w) kw h3 with ⟨rfl, rfl⟩ | ⟨vl, rfl, MN, RV⟩
  ·simp only [Sem.run_bind, Result.andThen_ok, Sem.run_pure, Et, TC]
  ·simp only [Sem.run_bind, Result.andThen_ok, Sem.run_pure, Et, RV, TC]
end
end
section
section
variable {base : Nat} {ρ : Ren} {m : Mem} {w : World} {P : Program}
theorem uS {x : Option EV} {d k k' r : Nat} (hk : k <= k') (h : aw x d k = some r) : aw x d k' = some r := by
 unfold aw at *
 split at h
 ·exact h
 ·rename_i i
  cases hl : i.ble k <;> simp only [hl, cond_true, cond_false, reduceCtorEq, aQ] at h
  subst h;have : i.ble k' = true := lJ (vn (lk hl) hk)
  simp [this]
 ·cases h
def uK (a : Option Addr) (size l h t : Nat) : Value := .slice (if t = l then a else a.map (·.add (l * size))) (h - l) (t - l)
theorem add_eq (b o n : Nat) : (⟨b, o, none⟩ : Addr).add n = ⟨b, o + n, none⟩ := Addr.add_lit b o n
theorem rE {esz b off len c : Nat} {lo hi mx : Option EV} {wF rf tV : Option Value} (kw : mT ρ lo wF) (oB : mT ρ hi rf) (pH : mT ρ mx tV) (GG : tV.isSome = true -> rf.isSome = true)
  {L : Loc} (hL : ρ b = some L) (hlen : len <= c) {o : Nat} (ho : 0 < c -> o = L.off + off) (s : Bool) {v : EV} (h : b9 esz b off len (some c) lo hi mx = some v) :
  ∃ l hh t, (Instr.sliceBounds s len c wF rf tV).run P w = .ok (l, hh, t) w /\ VR ρ v (uK (some ⟨L.bT, o, none⟩) esz l hh t) := by
 unfold b9 at h
 cases h1 : aw mx c c with
 | none => simp [h1] at h
 | some t =>
 cases h2 : aw hi len t with
 | none => simp [h1, h2] at h
 | some hh =>
 cases h3 : aw lo 0 hh with
 | none => simp [h1, h2, h3] at h
 | some l =>
  simp only [h1, h2, h3, aQ] at h;subst h;obtain ⟨r, hle, CJ, PZ⟩ := gB (P := P) (w := w) kw oB pH GG s (n := len) rfl (t := t) (h := hh) (l := l) (c := c) (by
   cases mx with
   | none => simp [aw] at h1; exact .inl ⟨rfl, h1.symm⟩
   | some x => exact .inr ⟨c, h1, by simp⟩) h2 h3
  refine ⟨l, hh, t, r, ?_⟩
  have ht : hh <= t := by
   cases hi with
   | some x => exact CJ (by simp)
   | none =>
    simp [aw] at h2
    cases mx with
    | none => simp [aw] at h1; omega
    | some x => cases pH; cases oB; simp at GG
  have ZC : t <= c := by
   cases mx with
   | none => simp [aw] at h1; omega
   | some x => exact PZ (by simp)
  unfold uK;by_cases e : t = l
  ·subst e
   rw [if_pos rfl, cd, cond_true];exact .cT hL (by omega) (fun hp => by omega)
  ·rw [if_neg e, gf e, cond_false]
   simp only [Option.map_some, add_eq];exact .cT hL (by omega) (fun hp => by rw [ho (by omega)]; omega)
theorem zo {esz b off : Nat} {a : Addr} {lo hi mx : Option EV} {wF rf tV : Option Value} (kw : mT ρ lo wF) (oB : mT ρ hi rf) (pH : mT ρ mx tV) (GG : tV.isSome = true -> rf.isSome = true)
  (s : Bool) {v : EV} (h : b9 esz b off 0 (some 0) lo hi mx = some v) :
  ∃ l hh t, (Instr.sliceBounds s 0 0 wF rf tV).run P w = .ok (l, hh, t) w /\ VR ρ v (uK (some a) esz l hh t) := by
 unfold b9 at h
 cases h1 : aw mx 0 0 with
 | none => simp [h1] at h
 | some t =>
 cases h2 : aw hi 0 t with
 | none => simp [h1, h2] at h
 | some hh =>
 cases h3 : aw lo 0 hh with
 | none => simp [h1, h2, h3] at h
 | some l =>
  simp only [h1, h2, h3, aQ] at h;subst h;obtain ⟨r, hle, CJ, PZ⟩ := gB (P := P) (w := w) kw oB pH GG s (n := 0) rfl (t := t) (h := hh) (l := l) (c := 0) (by
   cases mx with
   | none => simp [aw] at h1; exact .inl ⟨rfl, h1.symm⟩
   | some x => exact .inr ⟨0, h1, by simp⟩) h2 h3
  refine ⟨l, hh, t, r, ?_⟩
  have ht : hh <= t := by
   cases hi with
   | some x => exact CJ (by simp)
   | none =>
    simp [aw] at h2
    cases mx with
    | none => simp [aw] at h1; omega
    | some x => cases pH; cases oB; simp at GG
  have ZC : t <= 0 := by
   cases mx with
   | none => simp [aw] at h1; omega
   | some x => exact PZ (by simp)
  have e1 : t = 0 := by omega
  have e2 : hh = 0 := by omega
  have e3 : l = 0 := by omega
  subst e1 e2 e3
  unfold uK;exact .dD
theorem B4 {esz b off len c : Nat} {lo hi mx : Option EV} {wF rf tV : Option Value} (kw : mT ρ lo wF) (oB : mT ρ hi rf) (pH : mT ρ mx tV) (GG : tV.isSome = true -> rf.isSome = true)
  {L : Loc} (hL : ρ b = some L) (hlen : len <= c) {o : Nat} (ho : 0 < len -> o = L.off + off) (hr : L.ro = false -> o + c * L.esz <= L.total) (he : L.esz = esz) (s : Bool) {v : EV} (h : b9 esz b off len none lo hi mx = some v) :
  ∃ l hh t, (Instr.sliceBounds s len c wF rf tV).run P w = .ok (l, hh, t) w /\ VR ρ v (uK (some ⟨L.bT, o, none⟩) esz l hh t) := by
 unfold b9 at h
 cases mx with
 | some x =>
  simp only [] at h
  cases h1 : aw (some x) len len with
  | none => simp [h1] at h
  | some t =>
  cases h2 : aw hi len t with
  | none => simp [h1, h2] at h
  | some hh =>
  cases h3 : aw lo 0 hh with
  | none => simp [h1, h2, h3] at h
  | some l =>
   simp only [h1, h2, h3, aQ] at h;subst h;obtain ⟨r, hle, CJ, _⟩ := gB (P := P) (w := w) kw oB pH GG s (n := len) rfl (t := t) (h := hh) (l := l) (c := c) (.inr ⟨len, uS hlen h1, by simp⟩) h2 h3
   refine ⟨l, hh, t, r, ?_⟩
   have ht : hh <= t := by
    cases hi with
    | some x => exact CJ (by simp)
    | none => cases pH; cases oB; simp at GG
   have htl : t <= len := by
    rcases ew (P := P) (w := w) pH h1 with ⟨e, _⟩ | ⟨_, _, h, _⟩
    ·cases pH; cases e
    ·exact h
   unfold uK;by_cases e : t = l
   ·subst e
    rw [if_pos rfl, cd, cond_true];exact .cT hL (by omega) (fun hp => by omega)
   ·rw [if_neg e, gf e, cond_false]
    simp only [Option.map_some, add_eq];exact .cT hL (by omega) (fun hp => by rw [ho (by omega)]; omega)
 | none =>
  simp only [] at h
  cases h2 : aw hi len len with
  | none => simp [h2] at h
  | some hh =>
  cases h3 : aw lo 0 hh with
  | none => simp [h2, h3] at h
  | some l =>
   simp only [h2, h3, aQ] at h;subst h;obtain ⟨r, hle, CJ, _⟩ := gB (P := P) (w := w) kw oB pH GG s (n := len) rfl (t := c) (h := hh) (l := l) (c := c) (.inl ⟨rfl, rfl⟩) (uS hlen h2) h3
   refine ⟨l, hh, c, r, ?_⟩
   have ht : hh <= len := by
    rcases ew (P := P) (w := w) oB h2 with ⟨_, e⟩ | ⟨_, _, h, _⟩ <;> omega
   unfold uK;by_cases e : c = l
   ·rw [if_pos e]
    refine .slice hL (by omega) (fun hp => by omega) (fun lQ => ?_)
    have := hr lQ
    subst e;rw [Nat.sub_self, Nat.zero_mul];omega
   ·rw [if_neg e]
    simp only [Option.map_some, add_eq];refine .slice hL (by omega) (fun hp => by rw [ho (by omega)]; omega) (fun lQ => ?_)
    have := hr lQ
    subst he;have : l * L.esz + (c - l) * L.esz = c * L.esz := by rw [<- Nat.add_mul]; congr 1; omega
    omega
theorem Kx (hR : R base ρ m w) {b : Nat} {L : Loc} (hL : ρ b = some L) {cs : List EV} {e el : Nat} {ro : Bool} (hm : m.get b = .cells cs e el ro) : L.esz = e := by
 have := hR.bT b L hL
 rw [hm] at this;obtain ⟨_, _, _, _, _, h, _⟩ := this
 exact h
theorem oh {n i : Nat} {x : EV} {x' : Value} (hx : VR ρ x x') (h : idx n x = some i) : ∃ k, x' = .int k (i : Int) /\ i < n := by
 cases hx <;> simp only [idx, reduceCtorEq] at h
 rename_i k z
 cases z with
 | negSucc z => simp at h
 | ofNat z =>
  simp only [] at h
  cases hl : (z + 1).ble n <;> simp only [hl, cond_true, cond_false, reduceCtorEq, aQ] at h
  subst h;exact ⟨k, rfl, lk hl⟩
theorem z8 {t e : TypeId} {s : Nat} (hu : P.underlying t = some (.slice e)) (hs : dJ P e = some s) {b off len : Nat} {cap : Option Nat} {x' y' : Value} {y : EV} (hx : VR ρ (.slice b off len cap) x') (hy : VR ρ y y') {i : Nat} (h : idx len y = some i) :
  ∃ v', VR ρ (.ptr b (off + i * s)) v' /\ (Instr.indexAt t x' y').run P w = .ok v' w := by
 obtain ⟨k, rfl, aP⟩ := oh hy h
 cases hx with
 | @slice _ _ _ c o L hL hc ho hr =>
  refine ⟨_, .ptr hL, ?_⟩
  simp only [Instr.indexAt, asIntOf, Sem.run_bind, Sem.run_pure, Result.andThen_ok, run_underlying hu];rw [if_pos ⟨Int.natCast_nonneg _, Int.ofNat_lt.2 aP⟩];simp [bg hs, add_eq, ho (by omega), Nat.add_assoc]
 | dD => omega
 | @cT _ _ _ c o L hL hc ho =>
  refine ⟨_, .ptr hL, ?_⟩
  simp only [Instr.indexAt, asIntOf, Sem.run_bind, Sem.run_pure, Result.andThen_ok, run_underlying hu];rw [if_pos ⟨Int.natCast_nonneg _, Int.ofNat_lt.2 aP⟩];simp [bg hs, add_eq, ho (by omega), Nat.add_assoc]
theorem ui {t e : TypeId} {n s : Nat} (hu : P.underlying t = some (.array n e)) (hs : dJ P e = some s) {b off : Nat} {x' y' : Value} {y : EV} (hx : VR ρ (.ptr b off) x') (hy : VR ρ y y') {i : Nat} (h : idx n y = some i) :
  ∃ v', VR ρ (.ptr b (off + i * s)) v' /\ (Instr.indexAt t x' y').run P w = .ok v' w := by
 obtain ⟨k, rfl, aP⟩ := oh hy h
 cases hx with
 | @ptr _ _ L hL =>
  refine ⟨_, .ptr hL, ?_⟩
  simp only [Instr.indexAt, asIntOf, Sem.run_bind, Sem.run_pure, Result.andThen_ok, run_underlying hu, Instr.sureAddr];rw [if_pos ⟨Int.natCast_nonneg _, Int.ofNat_lt.2 aP⟩];simp [bg hs, add_eq, Nat.add_assoc]
theorem Au {t : TypeId} {fs : Array Field} {k : Nat} {f : Field} {s : Nat} (hu : P.underlying t = some (.struct fs)) (hf : fs[k]? = some f) (hs : dJ P f.type = some (s + 1)) {b off : Nat} {x' : Value} (hx : VR ρ (.ptr b off) x') :
  ∃ v', VR ρ (.ptr b (off + f.offset)) v' /\ (Instr.fieldAt t x' k).run P w = .ok v' w := by
 cases hx with
 | @ptr _ _ L hL =>
  refine ⟨_, .ptr hL, ?_⟩
  simp only [Instr.fieldAt, Sem.run_bind, run_underlying hu, Result.andThen_ok, hf, Instr.sureAddr, Sem.run_pure, fieldPlace, bg hs];rw [if_neg (by omega)];simp [add_eq, Nat.add_assoc]
theorem As {t : TypeId} {fs : Array Field} {k : Nat} {f : Field} {g : Option Nat} (hu : P.underlying t = some (.struct fs)) (hf : fs[k]? = some f) (hg : pv P f.type = some g) {cs : List EV} {x' : Value} (hx : VR ρ (.agg cs) x') {v : EV} (h : partOf g cs f.offset = some v) :
  ∃ v', VR ρ v v' /\ (Instr.field t x' k).run P w = .ok v' w := by
 cases hx with
 | agg hv Br =>
  obtain ⟨v', h1, h2⟩ := mE (P := P) (w := w) hg hv Br h
  exact ⟨v', h1, by simp only [Instr.field, Sem.run_bind, run_underlying hu, Result.andThen_ok, hf, asAgg, Sem.run_pure, h2]⟩
theorem x2 {t e : TypeId} {n s : Nat} {g : Option Nat} (hu : P.underlying t = some (.array n e)) (hs : dJ P e = some s) (hg : pv P e = some g) {cs : List EV} {x' y' : Value} {y : EV} (hx : VR ρ (.agg cs) x') (hy : VR ρ y y') {i : Nat} (hi : idx n y = some i) {v : EV} (h : partOf g cs (i * s) = some v) :
  ∃ v', VR ρ v v' /\ (Instr.index t x' y').run P w = .ok v' w := by
 obtain ⟨k, rfl, aP⟩ := oh hy hi
 cases hx with
 | agg hv Br =>
  obtain ⟨v', h1, h2⟩ := mE (P := P) (w := w) hg hv Br h
  refine ⟨v', h1, ?_⟩
  simp only [Instr.index, asIntOf, Sem.run_bind, Sem.run_pure, Result.andThen_ok, run_underlying hu];rw [if_pos ⟨Int.natCast_nonneg _, Int.ofNat_lt.2 aP⟩];simp only [Sem.run_bind, bg hs, Result.andThen_ok, Int.toNat_natCast, h2]
theorem xZ {t : TypeId} (hu : P.underlying t = some .string) {s : ByteArray} {y : EV} {y' : Value} (hy : VR ρ y y') {i : Nat} (hi : idx s.data.toList.length y = some i) {c : UInt8} (h : s.data.toList[i]? = some c) :
  (Instr.index t (.string s) y').run P w = .ok (.int .u8 (c.toNat : Int)) w := by
 obtain ⟨k, rfl, aP⟩ := oh hy hi
 simp only [Instr.index, asIntOf, Sem.run_bind, Sem.run_pure, Result.andThen_ok, run_underlying hu];have : s[i]? = some c := by
  have hl : i < s.size := aP
  rw [getElem?_pos s i hl];rw [ij aP] at h
  injection h with h
  show some (s.data[i]'hl) = some c
  rw [<- h];simp
 simp [this]
theorem zn {t : TypeId} (hu : P.underlying t = some .string) {s : ByteArray} {lo hi : Option EV} {wF rf : Option Value} (kw : mT ρ lo wF) (oB : mT ρ hi rf) {l h : Nat} (h2 : aw hi s.data.toList.length s.data.toList.length = some h) (h3 : aw lo 0 h = some l) :
  ∃ v', VR ρ (.str ((s.data.toList.take h).drop l)) v' /\ (Instr.sliceAt t (.string s) wF rf none).run P w = .ok v' w := by
 obtain ⟨r, hle, _⟩ := gB (P := P) (w := w) kw oB .none (by simp) false (n := s.size) (len := s.data.toList.length) rfl (t := s.size) (h := h) (l := l) (c := s.size) (.inl ⟨rfl, rfl⟩) h2 h3
 refine ⟨.string (s.extract l h), ?_, ?_⟩
 ·have := VR.str (ρ := ρ) (s.extract l h)
  rw [show (s.extract l h).data.toList = (s.data.toList.take h).drop l by
   rw [ByteArray.data_extract, Array.toList_extract, List.extract_eq_take_drop, List.drop_take]] at this
  exact this
 ·simp only [Instr.sliceAt, Instr.slice, Sem.run_bind, run_underlying hu, Result.andThen_ok, Option.isSome_none, lm, if_false, r, Sem.run_pure]
end
end
section
section
variable {base : Nat} {ρ : Ren} {m : Mem} {w : World} {P : Program}
theorem s6 {t : TypeId} {e : EV} (h : xj P t = some e) : ∃ v, (∀ w, (zeroValue t).run P w = .ok v w) /\ VR ρ e v := by
 unfold xj at h
 cases hi : P.info? t with
 | none => simp [hi] at h
 | some i =>
  cases hz : i.zero with
  | none => simp [hi, hz] at h
  | some v =>
   simp [hi, hz] at h
   exact ⟨v, fun w => by simp [zeroValue, run_typeInfo hi, hz], AZ _ _ _ h⟩
theorem jK {t : TypeId} {z : List EV} (h : kf P t = some z) : ∃ v, (∀ w, (zeroValue t).run P w = .ok v w) /\ cS ρ z v.cells.toList /\ ∀ c ∈ v.cells.toList, c.oneCell' = true := by
 unfold kf at h
 cases he : xj P t with
 | none => simp [he] at h
 | some e =>
  simp [he] at h
  obtain ⟨v, h1, h2⟩ := s6 (ρ := ρ) he
  exact ⟨v, h1, h2.cells h⟩
theorem GW (vs : List Value) : ∀ (k : Nat) (cs : Array Value) (off : Nat), off + k + vs.length <= cs.size ->
  ∃ ds : Array Value, (vs.zipIdx k).foldl (fun (cs : Array Value) (x : Value × Nat) => cs.setIfInBounds (off + x.2) x.1) cs = ds /\ ds.size = cs.size /\
   ∀ j : Nat, ds[j]? = if off + k <= j /\ j < off + k + vs.length then vs[j - (off + k)]? else cs[j]? := by
 induction vs with
 | nil => intro k cs off _; exact ⟨cs, rfl, rfl, fun j => by rw [if_neg (fun h => by have := h.2; simp at this; omega)]⟩
 | cons v vs ih =>
  intro k cs off h
  simp at h
  obtain ⟨ds, h1, h2, h3⟩ := ih (k + 1) (cs.setIfInBounds (off + k) v) off (by simp; omega)
  refine ⟨ds, by simpa [List.zipIdx_cons] using h1, by simpa using h2, fun j => ?_⟩
  rw [h3 j];by_cases hj : j = off + k
  ·subst hj
   rw [if_neg (by omega), if_pos (by simp)];simp [show off + k < cs.size by omega]
  ·by_cases P5 : off + (k + 1) <= j /\ j < off + (k + 1) + vs.length
   ·rw [if_pos P5, if_pos (by simp; omega), show j - (off + k) = (j - (off + (k + 1))) + 1 by omega]
    simp
   ·rw [if_neg P5, if_neg (by simp; omega), Array.getElem?_setIfInBounds_ne (by omega)]
theorem pi {place : Nat -> Option (Nat × Nat)} : ∀ (ps : List (Nat × Nat × EV)) (qs : List (Nat × Value)) (cs : List EV) (iQ : Array Value), cS ρ cs iQ.toList -> (∀ c ∈ iQ.toList, c.oneCell' = true) -> ps.length = qs.length ->
  (∀ (i : Nat) (p : Nat × Nat × EV) (q : Nat × Value), ps[i]? = some p -> qs[i]? = some q -> place q.1 = some (p.1, p.2.1) /\ VR ρ p.2.2 q.2) -> ∀ ds, cU cs ps = some ds ->
  ∃ nQ, Instr.fill place iQ qs = some nQ /\ cS ρ ds nQ.toList /\ (∀ c ∈ nQ.toList, c.oneCell' = true) /\ nQ.size = iQ.size := by
 intro ps
 induction ps with
 | nil =>
  intro qs cs iQ hv hf hl hp ds h
  cases qs with
  | nil => simp [cU] at h; subst h; exact ⟨iQ, rfl, hv, hf, rfl⟩
  | cons q qs => simp at hl
 | cons p ps ih =>
  intro qs cs iQ hv hf hl hp ds h
  cases qs with
  | nil => simp at hl
  | cons q qs =>
   obtain ⟨off, size, x⟩ := p
   obtain ⟨i, x'⟩ := q
   obtain ⟨JM, hx⟩ := hp 0 _ _ rfl rfl
   simp only at JM hx
   simp only [cU] at h
   cases hc : x.cells with
   | none => simp [hc] at h
   | some vs =>
    simp only [hc] at h
    cases hb : vs.length.beq size <;> simp only [hb, cond_true, cond_false, reduceCtorEq] at h
    have uu := aB hb
    cases hs : eG cs off vs with
    | none => simp [hs] at h
    | some es =>
     simp only [hs] at h;obtain ⟨pG, hfs⟩ := hx.cells hc
     have hlen := pG.length
     have P0 := hv.length
     obtain ⟨s1, s2, s3⟩ := tl hs
     obtain ⟨lS, e1, e2, e3⟩ := GW x'.cells.toList 0 iQ off (by rw [<- hlen]; simp at P0; omega)
     have VC : cS ρ es lS.toList := by
      refine cS.lM (by simp at P0 ⊢; omega) fun j v v' hj MR => ?_
      rw [s3 j] at hj;rw [Array.getElem?_toList, e3 j] at MR
      by_cases sE : off <= j /\ j < off + vs.length
      ·rw [if_pos sE] at hj
       rw [if_pos (by omega)] at MR
       obtain ⟨u, g1, g2⟩ := pG.get _ _ hj
       rw [show j - (off + 0) = j - off by omega, g1] at MR
       cases MR; exact g2
      ·rw [if_neg sE] at hj
       rw [if_neg (by omega)] at MR
       obtain ⟨u, g1, g2⟩ := hv.get _ _ hj
       rw [Array.getElem?_toList, MR] at g1
       cases g1; exact g2
     have V8 : ∀ c ∈ lS.toList, c.oneCell' = true := by
      intro c hc
      obtain ⟨j, hj⟩ := List.mem_iff_getElem?.1 hc
      rw [Array.getElem?_toList, e3 j] at hj;by_cases sE : off + 0 <= j /\ j < off + 0 + x'.cells.toList.length
      ·rw [if_pos sE] at hj; exact hfs c (List.mem_of_getElem? hj)
      ·rw [if_neg sE] at hj; exact hf c (by rw [<- Array.getElem?_toList] at hj; exact List.mem_of_getElem? hj)
     obtain ⟨nQ, f1, f2, f3, f4⟩ := ih qs es lS VC V8 (by simpa using hl) (fun i p q hp' wP => hp (i + 1) p q (by simpa using hp') (by simpa using wP)) ds h
     refine ⟨nQ, ?_, f2, f3, by rw [f4, e2]⟩
     unfold Instr.fill;simp only [JM];have lU : x'.cells.size = size := by rw [<- uu, hlen]; simp
     rw [if_neg]
     ·have he : Array.foldl (fun (cs : Array Value) (x : Value × Nat) => cs.setIfInBounds (off + x.2) x.1) iQ x'.cells.zipIdx = lS := by
       rw [<- e1, <- Array.foldl_toList, Array.toList_zipIdx]
      exact he ▸ f1
     ·simp [lU]
      simp at P0
      omega
theorem rJ {G : List Nat} (hG : fJ G ρ) {n : Nat} {fr : Fr} {a : Act} (hF : FR ρ n fr a) {places : Nat -> Option (Nat × Nat)} {parts : List (Nat × Operand)} {ps : List (Nat × Nat × aD)} (h : Dz G places parts = some ps) :
  (ps.map fun p => (p.1, p.2.1, fr.eval p.2.2)).length = (parts.map fun p => (p.1, a.eval p.2)).length /\
  ∀ (i : Nat) (p : Nat × Nat × EV) (q : Nat × Value), (ps.map fun p => (p.1, p.2.1, fr.eval p.2.2))[i]? = some p -> (parts.map fun p => (p.1, a.eval p.2))[i]? = some q -> places q.1 = some (p.1, p.2.1) /\ VR ρ p.2.2 q.2 := by
 obtain ⟨h1, h2⟩ := mapM_some _ h
 refine ⟨by simp [h1], fun i p q hp hq => ?_⟩
 rw [List.getElem?_map] at hp hq;obtain ⟨p0, R2, rfl⟩ := fG.1 hp
 obtain ⟨q0, RZ, rfl⟩ := fG.1 hq
 have := h2 i q0 p0 RZ R2
 cases Bo : places q0.1 with
 | none => simp [Bo] at this
 | some os =>
  obtain ⟨o, s⟩ := os
  cases hx : cR G q0.2 with
  | none => simp [Bo, hx] at this
  | some x =>
   simp [Bo, hx] at this
   subst this;exact ⟨rfl, eK hG hF hx⟩
theorem uL (z : List EV) : ∀ (n i : Nat), i < n * z.length -> (cH n z)[i]? = z[i % z.length]?
 | 0, i, h => by simp at h
 | n + 1, i, h => by
  unfold cH at *
  rw [List.replicate_succ, List.flatten_cons];by_cases hi : i < z.length
  ·rw [rB hi, Nat.mod_eq_of_lt hi]
  ·rw [qJ (by omega)]
   have := uL z n (i - z.length) (by rw [Nat.add_mul] at h; omega)
   unfold cH at this;rw [this, Nat.mod_eq_sub_mod (by omega : i >= z.length)]
theorem vM (n : Nat) (z : List EV) : (cH n z).length = n * z.length := by
 simp [cH]
theorem qv {z : List EV} {z' : Array Value} (hz : cS ρ z z'.toList) (hf : ∀ c ∈ z'.toList, c.oneCell' = true) (n : Nat) :
  cS ρ (cH n z) ((Array.range (n * z.length)).map (fun i => z'[i % z'.size]!)).toList /\ (∀ c ∈ ((Array.range (n * z.length)).map (fun i => z'[i % z'.size]!)).toList, c.oneCell' = true) := by
 have hl := hz.length
 have key : ∀ i v', ((Array.range (n * z.length)).map (fun i => z'[i % z'.size]!)).toList[i]? = some v' -> i < n * z.length /\ z'[i % z'.size]? = some v' := by
  intro i v' h
  rw [Array.getElem?_toList, Array.getElem?_map] at h;obtain ⟨j, hj, rfl⟩ := fG.1 h
  rw [Array.getElem?_range] at hj
  split at hj
  ·rename_i aP
   cases hj
   refine ⟨aP, ?_⟩
   have vD : 0 < z'.size := by
    rcases Nat.eq_zero_or_pos z'.size with h0 | h0
    ·simp at hl; rw [hl, h0] at aP; simp at aP
    ·exact h0
   have hm : i % z'.size < z'.size := Nat.mod_lt _ vD
   rw [getElem!_pos z' _ hm, Array.getElem?_eq_getElem hm]
  ·cases hj
 refine ⟨cS.lM (by simp [vM]) fun i v v' hv ll => ?_, fun c hc => ?_⟩
 ·obtain ⟨aP, h2⟩ := key i v' ll
  rw [uL z n i aP] at hv;obtain ⟨u, g1, g2⟩ := hz.get _ _ hv
  rw [Array.getElem?_toList, show z.length = z'.size by simpa using hl, h2] at g1
  cases g1; exact g2
 ·obtain ⟨i, hi⟩ := List.mem_iff_getElem?.1 hc
  obtain ⟨_, h2⟩ := key i c hi
  rw [<- Array.getElem?_toList] at h2;exact hf c (List.mem_of_getElem? h2)
theorem KL {s d : TypeId} {ds : TypeDesc} {k : IntKind} (hs : P.underlying s = some ds) (hd : P.underlying d = some (.int k)) (l : IntKind) (n : Int) : (convert s d (.int l n)).run P w = .ok (.int k (k.wrap n)) w := by
 simp [convert, run_underlying hs, run_underlying hd, Conv.intToInt]
theorem Hb {s d : TypeId} {ds : TypeDesc} (hs : P.underlying s = some ds) (hd : P.underlying d = some .string) (x : ByteArray) : (convert s d (.string x)).run P w = .ok (.string x) w := by
 simp [convert, run_underlying hs, run_underlying hd]
theorem DC : ∀ (vs : List Value) (xs : List EV) (s : List UInt8) (acc : ByteArray), cS ρ xs vs -> bytesOf xs = some s ->
  (forIn vs acc fun c (s : ByteArray) => (match c with
   | .int .u8 n => pure (ForInStep.yield (s.push (UInt8.ofNat n.toNat)))
   | _ => do
    stuck "bytesToString: byte expected"
    pure (ForInStep.yield s) : Sem (ForInStep ByteArray))).run P w = .ok ⟨⟨acc.data.toList ++ s⟩⟩ w := by
 intro vs
 induction vs with
 | nil =>
  intro xs s acc hv h
  cases hv
  simp [bytesOf] at h
  subst h;simp
 | cons v vs ih =>
  intro xs s acc hv h
  cases hv with
  | @cons x _ xs _ hx CH =>
   cases hx with
   | int k n =>
    cases k <;> (try (simp [bytesOf] at h; done))
    simp only [bytesOf] at h;obtain ⟨s', x6, rfl⟩ := fG.1 h
    have := ih xs s' (acc.push (UInt8.ofNat n.toNat)) CH x6
    simp only [List.forIn_cons, Sem.run_bind, Sem.run_pure, Result.andThen_ok, this];simp
   | _ => simp [bytesOf] at h
end
end
section
section
variable {base : Nat} {ρ : Ren} {m : Mem} {w : World} {P : Program}
def qA (P : Program) (s : Sem Value) (base : Nat) (ρ : Ren) (m : Mem) (w : World) (v : EV) (m' : Mem) : Prop :=
 ∃ ρ' w' v', s.run P w = .ok v' w' /\ VR ρ' v v' /\ R base ρ' m' w' /\ Step ρ m w ρ' m' w'
theorem qA.ni {s : Sem Value} {v : EV} {m' : Mem} (h : qA P s base ρ m w v m') : Good base ρ m w v m' ((do pure (Next.value (<- s)) : Sem Next).run P w) := by
 obtain ⟨ρ', w', v', h1, h2, h3, h4⟩ := h
 exact ⟨ρ', w', v', .inl (by simp [h1]), h2, h3, h4⟩
def nW (P : Program) (s : Sem Value) (base : Nat) (ρ : Ren) (m : Mem) (w : World) (v : EV) (B : cY) : Prop :=
 ∃ ρ' w' v', s.run P w = .ok v' w' /\ VR ρ' v v' /\ Made base ρ m w ρ' B w'
theorem nW.runs {s : Sem Value} {v : EV} {B : cY} (hR : R base ρ m w) (h : nW P s base ρ m w v B) : qA P s base ρ m w v (m.new B) := by
 obtain ⟨ρ', w', v', h1, h2, h3⟩ := h
 obtain ⟨a, b⟩ := h3.whole hR
 exact ⟨ρ', w', v', h1, h2, a, b⟩
theorem pf (w : World) (o : Obj) : yM w o { w with heap := w.heap.push o } := ⟨rfl, rfl, rfl, rfl⟩
theorem rM (hR : RN base ρ m w) {cs : List EV} {x : Value} (hv : cS ρ cs x.cells.toList) (hf : ∀ c ∈ x.cells.toList, c.oneCell' = true) (el : Nat) (t : TypeId) :
  nW P (do pure (.pointer (some (<- newVar t x)))) base ρ m w (.ptr m.next 0) (.cells cs cs.length el false) := by
 obtain ⟨L, h1, h2, h3, _, _, _, h4⟩ := lB hR hv hf cs.length el t [] (0, 0) (rj _) { w with heap := w.heap.push (.cells x.cells t) } (by
  have := pf w (.cells x.cells t)
  simpa using this)
 refine ⟨_, _, _, ?_, .ptr h1, h4⟩
 simp only [newVar, newRow, Sem.run_bind, run_newObj, Result.andThen_ok, Sem.run_pure];rw [h2, h3]
theorem u0 (hR : RN base ρ m w) {t : TypeId} {z : List EV} (hz : kf P t = some z) :
  nW P (Instr.alloc t true (.tuple #[])) base ρ m w (.ptr m.next 0) (.cells z z.length t false) := by
 obtain ⟨v, h1, h2, h3⟩ := jK (ρ := ρ) hz
 have := rM (P := P) hR h2 h3 t t
 obtain ⟨ρ', w', v', e1, e2⟩ := this
 exact ⟨ρ', w', v', by
  rw [<- e1];simp only [Instr.alloc, Sem.run_bind, h1, Result.andThen_ok], e2⟩
theorem A6 (hR : RN base ρ m w) {t : TypeId} {x : EV} {x' : Value} (hx : VR ρ x x') {cs : List EV} (hc : x.cells = some cs) :
  nW P (Instr.box t x') base ρ m w (.ptr m.next 0) (.cells cs cs.length t false) :=
 rM hR (hx.cells hc).1 (hx.cells hc).2 t t
theorem D6 (hR : RN base ρ m w) {cs : List EV} {vs : Array Value} (hv : cS ρ cs vs.toList) (hf : ∀ c ∈ vs.toList, c.oneCell' = true) (esz el : Nat) (t : TypeId) {n c : Nat} (hn : n <= c) (hc : c * esz = vs.size) (known : Bool) :
  nW P (do pure (.slice (some (<- newRow t vs)) n c)) base ρ m w (.slice m.next 0 n (if known then some c else none)) (.cells cs esz el false) := by
 obtain ⟨L, h1, h2, h3, h4, h5, h6, h7⟩ := lB hR hv hf esz el t [] (0, 0) (rj _) { w with heap := w.heap.push (.cells vs t) } (by
  have := pf w (.cells vs t)
  simpa using this)
 refine ⟨_, _, .slice (some ⟨w.heap.size, 0, none⟩) n c, ?_, ?_, h7⟩
 ·simp only [newRow, Sem.run_bind, run_newObj, Result.andThen_ok, Sem.run_pure]
 ·rw [<- h2]
  cases known with
  | true => exact .cT h1 hn (fun _ => by rw [h3])
  | false =>
   refine .slice h1 hn (fun _ => by rw [h3]) (fun _ => ?_)
   rw [h5, h4, hc]; simp
theorem si (hR : RN base ρ m w) {t e : TypeId} {s len : Nat} {z : List EV} (hu : P.underlying t = some (.slice e)) (hs : dJ P e = some s) (hz : kf P e = some z) (x4 : z.length = s) (hl : len * s <= 2 ^ 24)
  {ps : List (Nat × Nat × EV)} {qs : List (Nat × Value)} (hlen : ps.length = qs.length)
  (hp : ∀ (i : Nat) (p : Nat × Nat × EV) (q : Nat × Value), ps[i]? = some p -> qs[i]? = some q -> (p.1 = q.1 * s /\ p.2.1 = s) /\ VR ρ p.2.2 q.2) {cs : List EV} (h : cU (cH len z) ps = some cs) :
  nW P (Instr.buildSlice t len ⟨qs⟩) base ρ m w (.slice m.next 0 len (some len)) (.cells cs s e false) := by
 obtain ⟨zv, z1, z2, z3⟩ := jK (ρ := ρ) hz
 have RL : zv.cells.size = s := by have := z2.length; simp at this; omega
 obtain ⟨c1, c2⟩ := qv z2 z3 len
 rw [x4] at c1 c2;have lq : ∀ zc : Array Value, len * s = 0 -> ((Array.range (len * s)).map fun i => zc[i % zc.size]!) = (Array.range (len * s)).map fun i => zv.cells[i % zv.cells.size]! := by
  intro zc h0
  rw [h0]; simp only [Array.range_zero', List.map_toArray, List.map_nil]
 obtain ⟨nQ, f1, f2, f3, f4⟩ := pi (ρ := ρ) (place := fun i => some (i * s, s)) ps qs _ _ c1 c2 hlen (fun i p q hp' wP => by
  obtain ⟨⟨e1, e2⟩, e3⟩ := hp i p q hp' wP
  exact ⟨by rw [e1, e2], e3⟩) cs h
 obtain ⟨ρ', w', v', r1, r2⟩ := D6 (P := P) hR f2 f3 s e e (ee len) (by rw [f4]; simp) true
 refine ⟨ρ', w', v', ?_, r2⟩
 rw [<- r1];unfold Instr.buildSlice;simp only [Sem.run_bind, run_underlying hu, Result.andThen_ok, bg hs];rw [if_neg (by omega)];by_cases h0 : len * s = 0
 ·simp only [if_pos h0, Sem.run_bind, Sem.run_pure, Result.andThen_ok, lq _ h0, f1]
 ·simp only [if_neg h0, Sem.run_bind, Sem.run_pure, Result.andThen_ok, z1, f1]
theorem p5 (hR : RN base ρ m w) {t e : TypeId} {i : TypeInfo} {z : List EV} (hu : P.underlying t = some (.slice e)) (hi : P.info? e = some i) (hz : kf P e = some z) (x4 : z.length = i.size) (hb : i.bytes <= 65536) {l c : Nat} (CK : l <= c) (hc : c <= room) :
  nW P (Instr.makeSlice t (.int .i64 (l : Int)) (.int .i64 (c : Int))) base ρ m w (.slice m.next 0 l (some c)) (.cells (cH c z) i.size e false) := by
 obtain ⟨zv, z1, z2, z3⟩ := jK (ρ := ρ) hz
 obtain ⟨c1, c2⟩ := qv z2 z3 c
 rw [x4] at c1 c2;have hs : dJ P e = some i.size := by simp [dJ, hi]
 have lq : ∀ zc : Array Value, c * i.size = 0 -> ((Array.range (c * i.size)).map fun i => zc[i % zc.size]!) = (Array.range (c * i.size)).map fun i => zv.cells[i % zv.cells.size]! := by
  intro zc h0
  rw [h0]; simp only [Array.range_zero', List.map_toArray, List.map_nil]
 obtain ⟨ρ', w', v', r1, r2⟩ := D6 (P := P) hR c1 c2 i.size e e CK (by simp) true
 refine ⟨ρ', w', v', ?_, r2⟩
 rw [<- r1];unfold room at hc;have wl : IntKind.i64.wrap (l : Int) = l := by unfold IntKind.wrap; simp [IntKind.bits, IntKind.signed]; omega
 have wc : IntKind.i64.wrap (c : Int) = c := by unfold IntKind.wrap; simp [IntKind.bits, IntKind.signed]; omega
 have MY : (i.bytes : Int) * (c : Int) <= 2 ^ 48 := by
  have : i.bytes * c <= 65536 * 1073741824 := Nat.mul_le_mul hb hc
  have h2 : ((i.bytes * c : Nat) : Int) <= ((65536 * 1073741824 : Nat) : Int) := Int.ofNat_le.2 this
  simp at h2
  omega
 unfold Instr.makeSlice;simp only [Sem.run_bind, run_underlying hu, Result.andThen_ok, asInt, asIntOf, Sem.run_pure, run_typeInfo hi, wl, wc];have t1 : (decide ((c : Int) < 0) || decide ((i.bytes : Int) * (c : Int) > 2 ^ 48)) = false := by
  simp only [Bool.or_eq_false_iff, decide_eq_false_iff_not];exact ⟨by omega, by omega⟩
 rw [if_neg (by
  simp only [t1, Bool.false_or, Bool.or_eq_true, decide_eq_true_eq, not_or];exact ⟨by omega, by omega⟩)]
 simp only [Sem.run_bind, run_askRoom, Result.andThen_ok, bg hs, Int.toNat_natCast];by_cases h0 : c * i.size = 0
 ·simp only [if_pos h0, Sem.run_bind, Sem.run_pure, Result.andThen_ok, lq _ h0]
 ·simp only [if_neg h0, Sem.run_bind, Sem.run_pure, Result.andThen_ok, z1]
theorem mI (hR : RN base ρ m w) : nW P (do pure (.map (some (<- newObj (.map #[] 0))))) base ρ m w (.map m.next) (.map []) := by
 have g := pf w (.map #[] 0)
 let L : Loc := ⟨w.heap.size, 0, 0, 0, false⟩
 have a := zL hR (.map []) _ g L rfl ⟨#[], 0, g.new, rfl, fun i e d he => by simp at he, hR.base, rfl⟩
 refine ⟨_, _, .map (some w.heap.size), ?_, VR.map (L := L) (by simp [Ren.put]), a⟩
 simp only [Sem.run_bind, run_newObj, Result.andThen_ok, Sem.run_pure]
theorem iT {b off n : Nat} {xs : List EV} (h : m.row b off n = some xs) : xs.length = n := by
 by_cases hn : n = 0
 ·subst hn
  rw [Mem.jN] at h; cases h; rfl
 rw [Mem.jG hn] at h;unfold Mem.tG at h
 split at h
 ·rename_i cs _ _ _ _
  cases hl : (off + n).ble cs.length <;> simp only [hl, cond_true, cond_false, reduceCtorEq, aQ] at h
  subst h;have := lk hl
  simp; omega
 ·cases h
theorem Iz {b off : Nat} {xs : List EV} (h : m.row b off 0 = some xs) : xs = [] := List.eq_nil_of_length_eq_zero (iT h)
theorem jM (hR : R base ρ m w) {b off len n : Nat} {cap : Option Nat} {x' : Value} (hx : VR ρ (.slice b off len cap) x') (size : Nat) (hn : n <= len) {xs : List EV} (h : m.row b off (n * size) = some xs) :
  ∃ (a : Addr) (c : Nat) (vs : List Value), x' = .slice (some a) len c /\ (loadCells a (n * size)).run P w = .ok ⟨vs⟩ w /\ cS ρ xs vs /\ (∀ c ∈ vs, c.oneCell' = true) /\ vs.length = n * size := by
 rcases Nat.eq_zero_or_pos (n * size) with h0 | h0
 ·rw [h0] at h ⊢
  obtain rfl := Iz h
  cases hx with
  | slice => exact ⟨_, _, [], rfl, rfl, .nil, by simp, rfl⟩
  | cT => exact ⟨_, _, [], rfl, rfl, .nil, by simp, rfl⟩
  | dD => exact ⟨_, _, [], rfl, rfl, .nil, by simp, rfl⟩
 ·have hp : 0 < n := Nat.pos_of_mul_pos_right h0
  cases hx with
  | @slice _ _ _ c o L hL hc ho hr =>
   obtain ⟨vs, h1, h2, h3, h4, h5⟩ := wm (P := P) hR hL h
   rw [<- ho (by omega)] at h3;exact ⟨_, _, vs, rfl, h3, h4, h5, h1⟩
  | dD => omega
  | @cT _ _ _ c o L hL hc ho =>
   obtain ⟨vs, h1, h2, h3, h4, h5⟩ := wm (P := P) hR hL h
   rw [<- ho (by omega)] at h3;exact ⟨_, _, vs, rfl, h3, h4, h5, h1⟩
theorem BG (hR : R base ρ m w) {s d e : TypeId} (hs : P.underlying s = some (.slice e)) (he : P.underlying e = some (.int .u8)) (hd : P.underlying d = some .string) {x : EV} {x' : Value} (hx : VR ρ x x') {v : EV} {m' : Mem} (h : fA .text m x = some (v, m')) :
  qA P (convert s d x') base ρ m w v m' := by
 cases x <;> simp only [fA, reduceCtorEq, aQ, kj] at h
 case aa =>
  obtain ⟨rfl, rfl⟩ := h
  cases hx
  exact ⟨ρ, w, .string .empty, by simp [convert, run_underlying hs, run_underlying he, run_underlying hd, Conv.bytesToString], .str .empty, hR, .refl _ _ _⟩
 case slice b off n cap =>
  cases hr : m.row b off n with
  | none => simp [hr] at h
  | some cs =>
   simp only [hr] at h;obtain ⟨t, ht, h2⟩ := fG.1 h
   cases h2
   obtain ⟨a, c, vs, rfl, h3, h4, h5, h6⟩ := jM (P := P) (n := n) hR hx 1 (ee n) (by rw [Nat.mul_one]; exact hr)
   rw [Nat.mul_one] at h3;have hl := DC (P := P) (w := w) vs cs t .empty h4 ht
   refine ⟨ρ, w, .string ⟨⟨t⟩⟩, ?_, .str ⟨⟨t⟩⟩, hR, .refl _ _ _⟩
   simp only [convert, Sem.run_bind, run_underlying hs, run_underlying hd, run_underlying he, Result.andThen_ok, Conv.bytesToString, h3];rw [<- Array.forIn_toList];have e0 : (ByteArray.empty.data.toList ++ t) = t := rfl
   rw [e0] at hl;have Sc := congrArg (fun r : Result ByteArray => r.andThen fun a w' => (pure (Value.string a) : Sem Value).run P w') hl
   exact Sc
theorem p6 (h : Array Obj) (arr : Array Value) (e : TypeId) (tape : Nat -> Question -> Nat) (d : Nat) (os : Os) (out : Array (Nat × ByteArray)) :
  (markStringish ⟨h.size, 0, none⟩).run P ⟨h.push (.cells arr e), tape, d, os, out⟩ = .ok () ⟨h.push (.cells arr e (arr.size, arr.size + 1)), tape, d, os, out⟩ := by
 have ZI : World.shape? ⟨h.push (.cells arr e), tape, d, os, out⟩ h.size = some (e, arr.size) := by simp [World.shape?]
 simp only [markStringish, Sem.run_bind, run_shape, Result.andThen_ok, ZI, run_freeze];simp only [World.freeze, if_neg (show ¬ (1 = 0) by decide)]
 congr 2
 apply Array.ext_getElem?
 intro i
 rw [Array.getElem?_modify, Array.getElem?_push, Array.getElem?_push];by_cases hi : i = h.size
 ·subst hi; simp
 ·rw [if_neg (fun e => hi e.symm)]
  simp [hi]
theorem uQ (hR : RN base ρ m w) {s d e : TypeId} (hs : P.underlying s = some .string) (hd : P.underlying d = some (.slice e)) (he : P.underlying e = some (.int .u8)) {x : EV} {x' : Value} (hx : VR ρ x x') {v : EV} {m' : Mem} (h : fA (.bytes e) m x = some (v, m')) :
  ∃ B, m' = m.new B /\ nW P (convert s d x') base ρ m w v B := by
 cases hx <;> simp only [fA, reduceCtorEq, aQ, kj] at h
 rename_i s'
 obtain ⟨rfl, rfl⟩ := h
 let q : Question := .appendCap s'.size 0 e
 have hq : q.forced = false := rfl
 let cap := q.cut (w.tape w.drawn q)
 have GN : s'.size <= cap := Nat.le_add_right _ _
 let lg : Array Value := s'.data.map fun b => .int .u8 (b.toNat : Int)
 let o : Obj := .cells (lg ++ Array.replicate (cap - s'.size) (.int .u8 0)) e (lg.size + (cap - s'.size), lg.size + (cap - s'.size) + 1)
 let w' : World := { w with drawn := w.drawn + 1, heap := w.heap.push o }
 have hlen : s'.data.toList.length = s'.size := rfl
 have hv : cS ρ (s'.data.toList.map fun b => EV.int .u8 (b.toNat : Int)) lg.toList := by
  rw [show lg.toList = s'.data.toList.map fun b => Value.int .u8 (b.toNat : Int) by simp [lg]]
  exact cS.xP _ _ (R := fun a b => a = b) (fun a b e => by subst e; exact .int _ _) rfl fun i a b h1 h2 => by rw [h1] at h2; cases h2; rfl
 have hf : ∀ c ∈ lg.toList, c.oneCell' = true := by
  intro c hc
  simp [lg] at hc
  obtain ⟨b, _, rfl⟩ := hc
  rfl
 have nk : lg.size = s'.size := by simp [lg]
 obtain ⟨L, h1, h2, h3, h4, h5, h6, h7⟩ := lB hR hv hf 1 e e (List.replicate (cap - s'.size) (.int .u8 0)) (lg.size + (cap - s'.size), lg.size + (cap - s'.size) + 1) (fun i hi => by simp at hi; simp; omega) w' (by
  have e1 : (⟨lg.toList ++ List.replicate (cap - s'.size) (.int .u8 0)⟩ : Array Value) = lg ++ Array.replicate (cap - s'.size) (.int .u8 0) := by
   apply Array.ext'; simp
  rw [e1];exact ⟨rfl, rfl, rfl, rfl⟩)
 refine ⟨_, rfl, _, w', .slice (some ⟨w.heap.size, 0, none⟩) s'.size cap, ?_, ?_, h7⟩
 ·simp only [convert, Sem.run_bind, run_underlying hs, run_underlying hd, run_underlying he, Result.andThen_ok, Conv.stringToBytes, run_choose]
  rw [show (Question.appendCap s'.size 0 e).forced = false from rfl];simp only [lm, if_false, Result.andThen_ok, newRow, Sem.run_bind, run_newObj, Sem.run_pure, p6];simp only [Array.size_append, Array.size_replicate, Array.size_map, w', o, lg, cap, q]
 ·have : VR (ρ.put m.next L) (.slice m.next 0 s'.data.toList.length none) (.slice (some ⟨L.bT, 0, none⟩) s'.size cap) := by
   rw [hlen];refine .slice h1 GN (fun _ => by rw [h3]) (fun _ => ?_)
   rw [h5, h4]; simp [nk]; omega
  rw [<- h2]; exact this
end
end
section
section
variable {base : Nat} {ρ : Ren} {m : Mem} {w : World} {P : Program}
theorem wU (vB : Nat) : ∀ r c, c < vB -> Builtin.growBy vB r c <= 2 * vB + 768
 | 0, c, h => by simp [Builtin.growBy]; omega
 | r + 1, c, h => by
  simp only [Builtin.growBy];rw [if_neg (by omega)];by_cases h2 : c + (c + 768) / 4 < vB
  ·exact wU vB r _ h2
  ·cases r with
   | zero => simp [Builtin.growBy]; omega
   | succ r => simp only [Builtin.growBy]; rw [if_pos (by omega)]; omega
theorem Co {vB old : Nat} (h : old < vB) : Builtin.nextslicecap vB old <= 2 * vB + 768 := by
 unfold Builtin.nextslicecap
 split
 ·omega
 ·split
  ·omega
  ·exact wU vB 4 old h
theorem ft (hR : R base ρ m w) {x : EV} {x' : Value} (hx : VR ρ x x') (size : Nat) {n : Nat} {xs : List EV} (h : m.source size x = some (n, xs)) :
  (Builtin.lenOf x').run P w = .ok n w /\ xs.length = n * size /\ ∀ k, k <= n -> ∃ vs : List Value, (Builtin.firstCells size k x').run P w = .ok ⟨vs⟩ w /\ cS ρ (xs.take (k * size)) vs /\ (∀ c ∈ vs, c.oneCell' = true) := by
 cases x <;> simp only [Mem.source, reduceCtorEq, aQ, kj] at h
 case fz => cases hx
 case aa =>
  obtain ⟨rfl, rfl⟩ := h
  cases hx
  refine ⟨rfl, by simp, fun k hk => ⟨[], ?_, by simpa using cS.nil, by simp⟩⟩
  rfl
 case str s =>
  cases lU : size.beq 1 <;> simp only [lU, cond_true, cond_false, reduceCtorEq, aQ, kj] at h
  obtain ⟨rfl, rfl⟩ := h
  obtain rfl := aB lU
  cases hx with
  | str s' =>
  refine ⟨rfl, by simp, fun k hk => ⟨(s'.data.toList.take k).map fun b => .int .u8 (b.toNat : Int), ?_, ?_, ?_⟩⟩
  ·simp only [Builtin.firstCells, Sem.run_pure]
   congr 1
   apply Array.ext'
   simp
  ·rw [Nat.mul_one, <- List.map_take]
   exact cS.xP _ _ (R := fun a b => a = b) (fun a b e => by subst e; exact .int _ _) rfl fun i a b h1 h2 => by rw [h1] at h2; cases h2; rfl
  ·intro c hc
   obtain ⟨b, _, rfl⟩ := List.mem_map.1 hc
   rfl
 case slice b off len cap =>
  obtain ⟨cs, fx, h2⟩ := fG.1 h
  cases h2
  refine ⟨by cases hx <;> rfl, iT fx, fun k hk => ?_⟩
  have Bq : k * size <= n * size := Nat.mul_le_mul_right _ hk
  have jj : m.row b off (k * size) = some (xs.take (k * size)) := by
   by_cases Q8 : k * size = 0
   ·rw [Q8, Mem.jN]; simp
   rw [Mem.jG Q8];rw [Mem.jG (by omega)] at fx;unfold Mem.tG at fx ⊢
   split at fx
   ·rename_i ds _ _ _ hg
    cases hl : (off + n * size).ble ds.length <;> simp only [hl, cond_true, cond_false, reduceCtorEq, aQ] at fx
    have := lk hl
    have h3 : (off + k * size).ble ds.length = true := lJ (by omega)
    simp only [h3, cond_true];subst fx;rw [List.take_take, Nat.min_eq_left Bq]
   ·cases fx
  obtain ⟨a, c, vs, rfl, h3, h4, h5, h6⟩ := jM (P := P) hR hx size hk jj
  exact ⟨vs, by simpa [Builtin.firstCells] using h3, h4, h5⟩
theorem kill (hR : R base ρ m w) {b : Nat} {L : Loc} (hb : ρ b = some L) : R base ρ (m.set b .dead) w /\ Step ρ m w ρ (m.set b .dead) w := by
 have hl : ∀ c, Live (m.set b .dead) c -> c ≠ b /\ Live m c := by
  intro c hc
  unfold Live at hc ⊢
  rw [Mem.ba] at hc;by_cases e : c = b
  ·rw [if_pos e] at hc; exact absurd rfl hc
  ·rw [if_neg e] at hc; exact ⟨e, hc⟩
 refine ⟨⟨hR.lt, fun c M hM => ?_, fun c d M M' hM ya h1 h2 h3 h4 => hR.inj c d M M' hM ya (hl c h1).2 (hl d h2).2 h3 h4, hR.base, fun c hc => by rw [Mem.ba]; split <;> first | rfl | exact hR.clean c hc⟩, ⟨.refl ρ, fun _ h h' => absurd h h', ee _, fun c hc hn => ?_, fun c _ hd => by rw [Mem.ba]; split <;> first | rfl | exact hd, ee _, fun i hi => ?_, fun _ _ _ => rfl, rfl, rfl, rfl⟩⟩
 ·rw [Mem.ba]
  by_cases e : c = b
  ·rw [if_pos e]; trivial
  ·rw [if_neg e]; exact hR.bT c M hM
 ·rw [Mem.ba, if_neg (fun e => by subst e; rw [hb] at hn; cases hn)]
 ·rintro ⟨c, M, hM, h1, h2, h3⟩
  exact ⟨c, M, hM, (hl c h1).2, h2, h3⟩
theorem Bh (hR : R base ρ m w) {b : Nat} {L : Loc} (hb : ρ b = some L) {cs0 : List EV} {YG : Nat} (hm : m.get b = .cells cs0 L.esz YG false) {o len n c : Nat} {old xs : List EV} {vo : List Value} (elem : Nat)
  (hold : ∀ (i : Nat) (v : EV), old[i]? = some v -> cs0[o - L.off + i]? = some v /\ L.off <= o) (Lp : old.length = len * L.esz) (Lm : xs.length = n * L.esz) (GN : len + n <= c) (hr : o + c * L.esz <= L.total)
  (hx : cS ρ xs vo) (hf : ∀ c ∈ vo, c.oneCell' = true) :
  ∃ (w' : World) (L' : Loc), (storeCells ⟨L.bT, o + len * L.esz, none⟩ vo).run P w = .ok () w' /\ L'.bT = L.bT /\ L'.off = o /\ L'.total = L.total /\ L'.esz = L.esz /\ L'.ro = false /\
   R base (ρ.put m.next L') ((m.new (.cells (old ++ xs) L.esz elem false)).set b .dead) w' /\ Step ρ m w (ρ.put m.next L') ((m.new (.cells (old ++ xs) L.esz elem false)).set b .dead) w' := by
 have hB := hR.bT b L hb
 rw [hm] at hB;obtain ⟨arr, e, fz, h1, h2, h3, h4, h5, h6, h7, h8⟩ := hB
 obtain ⟨Ai, qg⟩ := h7 rfl
 have Zp := hx.length
 have Qf : len * L.esz + n * L.esz <= c * L.esz := by rw [<- Nat.add_mul]; exact Nat.mul_le_mul_right _ GN
 obtain ⟨w', yH, r1, r2, r3, r4, r5, r6, r7, r8, r9⟩ := kT (P := P) (o := o + len * L.esz) vo 0 w arr h1 (by omega) qg hf
 let L' : Loc := ⟨L.bT, o, L.total, L.esz, false⟩
 have Sw : L'.off = o := rfl
 have hn := hR.OD
 have he := Ren.yg L' hn
 have oA : Live m b := by unfold Live; rw [hm]; simp
 have hbn : b ≠ m.next := by have := hR.lt b L hb; omega
 let m' := (m.new (.cells (old ++ xs) L.esz elem false)).set b .dead
 have dv : m'.get m.next = .cells (old ++ xs) L.esz elem false := by
  show Mem.get (Mem.set _ _ _) _ = _
  rw [Mem.ba, if_neg (Ne.symm hbn), Mem.dv, if_pos rfl]
 have Kb : m'.get b = .dead := by
  show Mem.get (Mem.set _ _ _) _ = _
  rw [Mem.ba, if_pos rfl]
 have eV : ∀ d, d ≠ m.next -> d ≠ b -> m'.get d = m.get d := fun d hd x8 => by
  show Mem.get (Mem.set _ _ _) _ = _
  rw [Mem.ba, if_neg x8, Mem.dv, if_neg hd]
 have nA : ∀ d, d ≠ m.next -> Live m' d -> d ≠ b /\ Live m d := by
  intro d hd hl
  have Ys : d ≠ b := fun e => by subst e; exact hl Kb
  exact ⟨Ys, by unfold Live at hl ⊢; rwa [eV d hd Ys] at hl⟩
 refine ⟨w', L', r1, rfl, rfl, rfl, rfl, rfl, ⟨?_, ?_, ?_, ?_, fun d hd => by have hd : m.next + 1 <= d := hd; have := hR.lt b L hb; rw [eV d (by omega) (by omega)]; exact hR.clean d (by omega)⟩, ⟨he, ?_, ?_, ?_, fun d hd Qe => (Classical.em (d = b)).elim (fun e => by rw [e]; exact Kb) (fun e => by have hdn : d ≠ m.next := Nat.ne_of_lt hd; exact (eV d hdn e).trans Qe), by omega, ?_, ?_, r7, r8, r9⟩⟩
 ·intro d M hM
  show d < m.next + 1
  unfold Ren.put at hM;by_cases e : d = m.next
  ·omega
  ·rw [if_neg e] at hM; have := hR.lt d M hM; omega
 ·intro d M hM
  unfold Ren.put at hM;by_cases e : d = m.next
  ·rw [if_pos e] at hM; cases hM
   subst e
   show ru base _ (m'.get m.next) _ _
   rw [dv];refine ⟨yH, _, fz, r2, r3.trans h2, rfl, rfl, by rw [Sw, kE]; show _ <= L.total; omega, ?_, fun _ => ⟨Ai, by rw [r3]; exact qg⟩, by simp⟩
   intro i v hi
   rw [r4];by_cases aP : i < old.length
   ·rw [rB aP] at hi
    obtain ⟨g0, g1⟩ := hold i v hi
    obtain ⟨v', k1, k2, k3⟩ := h6 _ v g0
    rw [if_neg (by rw [Sw]; omega)]
    refine ⟨v', ?_, k2.ext he, k3⟩
    rw [show L'.off + i = L.off + (o - L.off + i) by rw [Sw]; omega]
    exact k1
   ·rw [qJ (by omega)] at hi
    obtain ⟨v', k1, k2⟩ := hx.get _ v hi
    have pc : i - old.length < vo.length := (kO.1 k1).1
    rw [if_pos (by rw [Sw]; omega)]
    refine ⟨v', ?_, k2.ext he, hf v' (List.mem_of_getElem? k1)⟩
    rw [<- k1]; congr 1; rw [Sw]; omega
  ·rw [if_neg e] at hM
   show ru base _ (m'.get d) _ _
   by_cases hd : d = b
   ·subst hd; rw [Kb]; trivial
   ·rw [eV d e hd]
    by_cases hl : m.get d = .dead
    ·rw [hl]; trivial
    ·have iv : M.bT ≠ L.bT := fun oD => hd (hR.inj b d L M hb hM oA hl (by rw [h4]) oD.symm).symm
     exact (hR.bT d M hM).of_heap he (r5 _ iv)
 ·intro d f M M' hM ya hl qe lQ oD
  unfold Ren.put at hM ya
  by_cases e : d = m.next <;> by_cases e' : f = m.next
  ·rw [e, e']
  ·rw [if_pos e] at hM; cases hM
   rw [if_neg e'] at ya
   obtain ⟨q1, q2⟩ := nA f e' qe
   exact absurd (hR.inj b f L M' hb ya oA q2 (by rw [h4]) oD).symm q1
  ·rw [if_pos e'] at ya; cases ya
   rw [if_neg e] at hM;obtain ⟨q1, q2⟩ := nA d e hl
   exact absurd (hR.inj d b M L hM hb q2 oA lQ oD) q1
  ·rw [if_neg e] at hM; rw [if_neg e'] at ya
   exact hR.inj d f M M' hM ya (nA d e hl).2 (nA f e' qe).2 lQ oD
 ·rw [r6]; exact hR.base
 ·intro d hd1 hd2
  unfold Ren.put at hd2;by_cases e : d = m.next
  ·omega
  ·rw [if_neg e] at hd2; exact absurd hd1 hd2
 ·show m.next <= m.next + 1; omega
 ·intro d hd OK
  exact eV d (by omega) (fun e => by subst e; rw [hb] at OK; cases OK)
 ·rintro i hi ⟨d, M, hM, hl, lQ, oD⟩
  unfold Ren.put at hM;by_cases e : d = m.next
  ·rw [if_pos e] at hM; cases hM
   exact ⟨b, L, hb, oA, by rw [h4], oD⟩
  ·rw [if_neg e] at hM
   exact ⟨d, M, hM, (nA d e hl).2, lQ, oD⟩
 ·intro i hi hr
  exact r5 i (fun e => hr ⟨b, L, hb, oA, by rw [h4], e.symm⟩)
theorem s7 (z : Array Value) (n : Nat) : (Builtin.zeroCells z n).size = n * z.size := by simp [Builtin.zeroCells]
theorem Ka {t u e : TypeId} {du : TypeDesc} {i : TypeInfo} (ht : P.underlying t = some (.slice e)) (hu : P.underlying u = some du) (wS : (∃ v, du = .slice v) \/ du = .string) (hi : P.info? e = some i) {zv : Value} (hz : ∀ w, (zeroValue e).run P w = .ok zv w)
  (x4 : zv.cells.size = i.size) (hb : i.bytes <= 65536) {a : Option Addr} {len cap n : Nat} {x' : Value} {old xs : List Value} (hn : (Builtin.lenOf x').run P w = .ok n w) (JX : cap < len + n) (qc : len + n <= room)
  (hold : (Builtin.firstCells i.size len (.slice a len cap)).run P { w with drawn := w.drawn + 1 } = .ok ⟨old⟩ { w with drawn := w.drawn + 1 }) (PW : (Builtin.firstCells i.size n x').run P { w with drawn := w.drawn + 1 } = .ok ⟨xs⟩ { w with drawn := w.drawn + 1 }) :
  ∃ (w' : World) (c : Nat) (lc : List Value), (Builtin.append_ #[t, u] t #[.slice a len cap, x']).run P w = .ok (.slice (some ⟨w.heap.size, 0, none⟩) (len + n) c) w' /\ len + n <= c /\ lc.length = (c - (len + n)) * i.size /\
   yM w (.cells ⟨(old ++ xs) ++ lc⟩ e (0, 0)) w' := by
 have hs : dJ P e = some i.size := by simp [dJ, hi]
 let q : Question := .appendCap (len + n) cap e
 let c := q.cut (w.tape w.drawn q)
 have hc : len + n <= c := Nat.le_add_right _ _
 refine ⟨{ w with drawn := w.drawn + 1, heap := w.heap.push (.cells (⟨old⟩ ++ ⟨xs⟩ ++ Builtin.zeroCells zv.cells (c - (len + n))) e) }, c, (Builtin.zeroCells zv.cells (c - (len + n))).toList, ?_, hc, by simp [s7, x4], ⟨by simp [<- Array.toList_inj], rfl, rfl, rfl⟩⟩
 have hnc := Co JX
 unfold room at qc;have Wf : ¬ Builtin.nextslicecap (len + n) cap * i.bytes > 2 ^ 48 := by
  have h1 : Builtin.nextslicecap (len + n) cap * i.bytes <= (2 * 1073741824 + 768) * 65536 := Nat.mul_le_mul (by omega) hb
  omega
 rcases wS with ⟨v, rfl⟩ | rfl
 all_goals
  unfold Builtin.append_;simp only [List.getElem?_toArray, List.getElem?_cons_zero, List.getElem?_cons_succ, Sem.run_bind, run_underlying ht, Result.andThen_ok, bg hs, run_underlying hu, Sem.run_pure, lm, if_false, Bool.not_false, if_true, hn];rw [if_neg (by omega)];simp only [Sem.run_bind, run_typeInfo hi, Result.andThen_ok];rw [if_neg (by simp only [IntKind.max_i64]; omega)]
  simp only [Sem.run_bind, run_typeInfo hi, Result.andThen_ok];rw [if_neg Wf];simp only [Sem.run_bind, run_choose];rw [show (Question.appendCap (len + n) cap e).forced = false from rfl];simp only [lm, if_false, Result.andThen_ok, run_askRoom, run_typeInfo hi];rw [hold];simp only [Result.andThen_ok];rw [PW];simp only [Result.andThen_ok, hz, Sem.run_pure, newRow, Sem.run_bind, run_newObj]
  rfl
theorem mh {t u e : TypeId} {du : TypeDesc} {size : Nat} (ht : P.underlying t = some (.slice e)) (hu : P.underlying u = some du) (wS : (∃ v, du = .slice v) \/ du = .string) (hs : dJ P e = some size)
  {a : Option Addr} {len cap n : Nat} {x' : Value} {xs : List Value} (hn : (Builtin.lenOf x').run P w = .ok n w) (Ag : len + n <= cap) (PW : (Builtin.firstCells size n x').run P w = .ok ⟨xs⟩ w) :
  (Builtin.append_ #[t, u] t #[.slice a len cap, x']).run P w = (match a with | some b => (storeCells (b.add (len * size)) xs).run P w | none => .ok () w : Result Unit).andThen fun _ w' => .ok (.slice a (len + n) cap) w' := by
 rcases wS with ⟨v, rfl⟩ | rfl
 all_goals
  unfold Builtin.append_;simp only [List.getElem?_toArray, List.getElem?_cons_zero, List.getElem?_cons_succ, Sem.run_bind, run_underlying ht, Result.andThen_ok, bg hs, run_underlying hu, Sem.run_pure, lm, if_false, Bool.not_false, if_true, hn];rw [if_pos Ag];simp only [Sem.run_bind, PW, Result.andThen_ok]
  cases a <;> simp
theorem lz (w : World) : Quiet w { w with drawn := w.drawn + 1 } := ⟨rfl, rfl, rfl, rfl⟩
theorem vA {x : EV} {n : Nat} {xs : List EV} {esz : Nat} {x' : Value} (hx : VR ρ x x') (h : m.source esz x = some (n, xs)) : xs.length = n * esz := by
 cases x <;> simp only [Mem.source, reduceCtorEq, aQ, kj] at h
 case fz => cases hx
 case aa => obtain ⟨rfl, rfl⟩ := h; simp
 case str s =>
  cases lU : esz.beq 1 <;> simp only [lU, cond_true, cond_false, reduceCtorEq, aQ, kj] at h
  obtain ⟨rfl, rfl⟩ := h
  obtain rfl := aB lU
  simp
 case slice b off len cap =>
  obtain ⟨cs, fx, h2⟩ := fG.1 h
  cases h2
  exact iT fx
theorem mO (hR : R base ρ m w) {t u e : TypeId} {du : TypeDesc} {i : TypeInfo} {z : List EV} (ht : P.underlying t = some (.slice e)) (hu : P.underlying u = some du) (wS : (∃ v, du = .slice v) \/ du = .string) (hi : P.info? e = some i)
  (hz : kf P e = some z) (x4 : z.length = i.size) (hb : i.bytes <= 65536) {a : Option Addr} {len cap n : Nat} {x : EV} {x' : Value} (hx : VR ρ x x') {xs : List EV} (fO : m.source i.size x = some (n, xs)) (JX : cap < len + n) (qc : len + n <= room)
  {old : List EV} {old' : List Value} (Yn : cS ρ old old') (ZS : ∀ c ∈ old', c.oneCell' = true) (Lp : old.length = len * i.size)
  (hold : (Builtin.firstCells i.size len (.slice a len cap)).run P { w with drawn := w.drawn + 1 } = .ok ⟨old'⟩ { w with drawn := w.drawn + 1 }) :
  qA P (Builtin.append_ #[t, u] t #[.slice a len cap, x']) base ρ m w (.slice m.next 0 (len + n) none) (m.new (.cells (old ++ xs) i.size e false)) := by
 obtain ⟨zv, z1, z2, _⟩ := jK (ρ := ρ) hz
 have RL : zv.cells.size = i.size := by have := z2.length; simp at this; omega
 obtain ⟨s1, s2, _⟩ := ft (P := P) hR hx i.size fO
 obtain ⟨_, _, s3⟩ := ft (P := P) (hR.quiet (lz w)) hx i.size fO
 obtain ⟨vs, f1, f2, f3⟩ := s3 n (ee n)
 rw [qI (by omega)] at f2;obtain ⟨w', c, lc, g1, g2, g3, g4⟩ := Ka (P := P) (w := w) ht hu wS hi z1 RL hb s1 JX qc hold f1
 have Qh := Yn.append f2
 obtain ⟨L, h1, h2, h3, h4, h5, h6, h7, h8⟩ := xJ hR Qh (fun c hc => by
  rcases nY.1 hc with hc | hc
  ·exact ZS c hc
  ·exact f3 c hc) i.size e e lc (0, 0) (rj _) w' g4
 refine ⟨_, w', _, g1, ?_, h7, h8⟩
 rw [<- h2];refine .slice h1 g2 (fun _ => by rw [h3]) (fun _ => ?_)
 have Lq := Yn.length
 have Sc := f2.length
 rw [h5, h4, g3, kE, <- Lq, <- Sc, Lp, s2, <- Nat.add_mul, <- Nat.add_mul];rw [show len + n + (c - (len + n)) = c by omega];simp
theorem yI (hR : R base ρ m w) {t u e : TypeId} {du : TypeDesc} {i : TypeInfo} {z : List EV} (ht : P.underlying t = some (.slice e)) (hu : P.underlying u = some du) (wS : (∃ v, du = .slice v) \/ du = .string) (hi : P.info? e = some i)
  (hz : kf P e = some z) (x4 : z.length = i.size) (hb : i.bytes <= 65536) {s x : EV} {s' x' : Value} (hs : VR ρ s s') (hx : VR ρ x x') {v : EV} {m' : Mem} (h : eu m e i.size s x = some (v, m')) :
  qA P (Builtin.append_ #[t, u] t #[s', x']) base ρ m w v m' := by
 have lU : dJ P e = some i.size := by simp [dJ, hi]
 unfold eu at h
 cases fO : m.source i.size x with
 | none => simp [fO] at h
 | some nx =>
 obtain ⟨n, xs⟩ := nx
 simp only [fO] at h;have Lm := vA hx fO
 obtain ⟨s1, s2, s3⟩ := ft (P := P) hR hx i.size fO
 obtain ⟨vs, f1, f2, f3⟩ := s3 n (ee n)
 rw [qI (by omega)] at f2
 cases hn : n.beq 0 with
 | true =>
  obtain rfl := aB hn
  simp only [hn, cond_true] at h;have pG : vs = [] := by
   have := f2.length
   rw [Lm] at this;simp at this
   exact List.eq_nil_of_length_eq_zero this.symm
  subst pG
  cases hs <;> simp only [reduceCtorEq, aQ, kj] at h
  case aa =>
   obtain ⟨rfl, rfl⟩ := h
   exact ⟨ρ, w, _, by rw [mh ht hu wS lU s1 (ee _) f1]; rfl, .aa, hR, .refl _ _ _⟩
  case slice b off len c o L hL hc ho hr =>
   obtain ⟨rfl, rfl⟩ := h
   exact ⟨ρ, w, _, by rw [mh ht hu wS lU s1 (by omega) f1]; rfl, .slice hL hc ho hr, hR, .refl _ _ _⟩
  case dD b off a =>
   obtain ⟨rfl, rfl⟩ := h
   exact ⟨ρ, w, _, by rw [mh ht hu wS lU s1 (by omega) f1]; rfl, .dD, hR, .refl _ _ _⟩
  case cT b off len c o L hL hc ho =>
   obtain ⟨rfl, rfl⟩ := h
   exact ⟨ρ, w, _, by rw [mh ht hu wS lU s1 (by omega) f1]; rfl, .cT hL hc ho, hR, .refl _ _ _⟩
 | false =>
  have JR := gw hn
  simp only [hn, cond_false] at h
  cases hs <;> simp only [reduceCtorEq] at h
  case aa =>
   cases Et : n.ble room <;> simp only [Et, cond_true, cond_false, reduceCtorEq, aQ, kj] at h
   obtain ⟨rfl, rfl⟩ := h
   have hle := lk Et
   have := mO (P := P) (a := none) (len := 0) (cap := 0) hR ht hu wS hi hz x4 hb hx fO (by omega) (by omega) (old := []) (old' := []) .nil (by simp) (by simp) rfl
   simpa using this
  case slice b off len c o L hL hc ho hr =>
   cases Et : (len + n).ble room <;> simp only [Et, cond_true, cond_false, reduceCtorEq] at h
   have qc := lk Et
   cases hold : m.row b off (len * i.size) with
   | none => simp [hold] at h
   | some old =>
   simp only [hold] at h
   cases hm : m.get b with
   | dead => simp [hm] at h
   | map es => simp [hm] at h
   | cells cs0 Wt YG YZ =>
   simp only [hm] at h
   cases YZ with
   | true => simp at h
   | false =>
   simp only [] at h
   cases he : Wt.beq i.size <;> simp only [he, cond_true, cond_false, reduceCtorEq, aQ, kj] at h
   obtain rfl := aB he
   obtain ⟨rfl, rfl⟩ := h
   have nk := Kx hR hL hm
   have hB := hR.bT b L hL
   rw [hm] at hB;obtain ⟨_, _, _, _, _, _, lQ, _⟩ := hB
   by_cases Ag : len + n <= c
   ·have jj : ∀ (j : Nat) (v : EV), old[j]? = some v -> cs0[o - L.off + j]? = some v /\ L.off <= o := by
     intro j v hj
     have aP : j < old.length := (kO.1 hj).1
     have Lp := iT hold
     have Z1 : 0 < len := by
      rcases Nat.eq_zero_or_pos len with h0 | h0
      ·subst h0; simp at Lp; subst Lp; simp at aP
      ·exact h0
     have vj := ho Z1
     have iv : len * i.size ≠ 0 := by intro h0; rw [h0] at Lp; omega
     rw [Mem.jG iv] at hold;unfold Mem.tG at hold;simp only [hm] at hold
     cases hl : (off + len * i.size).ble cs0.length <;> simp only [hl, cond_true, cond_false, reduceCtorEq, aQ] at hold
     subst hold;rw [List.getElem?_take] at hj
     split at hj
     ·rw [List.getElem?_drop] at hj
      exact ⟨by rw [show o - L.off + j = off + j by omega]; exact hj, by omega⟩
     ·cases hj
    obtain ⟨w', L', a1, a2, a3, a4, a5, a6, a7, a8⟩ := Bh (P := P) hR hL (by rw [nk]; exact hm) e jj (by rw [nk]; exact iT hold) (by rw [nk]; exact Lm) Ag (hr lQ) f2 f3
    rw [nk] at a1 a7 a8;refine ⟨_, w', .slice (some ⟨L.bT, o, none⟩) (len + n) c, ?_, ?_, a7, a8⟩
    ·rw [mh ht hu wS lU s1 Ag f1]
     simp only [add_eq, a1, Result.andThen_ok]
    ·have hp : (ρ.put m.next L') m.next = some L' := by simp [Ren.put]
     rw [<- a2];refine .slice hp Ag (fun _ => by rw [a3]; rfl) (fun _ => ?_)
     rw [a5, a4]; exact hr lQ
   ·obtain ⟨a, c', vs0, e1, e2, e3, e4, e5⟩ := jM (P := P) (hR.quiet (lz w)) (.slice hL hc ho hr) i.size (ee len) hold
    cases e1
    obtain ⟨ρ', w', v', g1, g2, g3, g4⟩ := mO (P := P) hR ht hu wS hi hz x4 hb hx fO (a := some ⟨L.bT, o, none⟩) (len := len) (cap := c) (by omega) qc e3 e4 (iT hold) (by simpa [Builtin.firstCells] using e2)
    obtain ⟨k1, k2⟩ := kill g3 (g4.ext _ _ hL)
    exact ⟨ρ', w', v', g1, g2, k1, g4.trans k2⟩
  case dD b off a =>
   cases Et : (0 + n).ble room <;> simp only [Et, cond_true, cond_false, reduceCtorEq] at h
   have qc := lk Et
   cases hold : m.row b off (0 * i.size) with
   | none => rw [hold] at h; cases h
   | some old =>
   rw [hold] at h; simp only at h
   cases MV : (0 + n).ble 0 <;> simp only [MV, cond_true, cond_false, aQ, kj] at h
   ·obtain ⟨rfl, rfl⟩ := h
    have R7 : 0 < 0 + n := by
     rcases Nat.lt_or_ge 0 (0 + n) with h1 | h1
     ·exact h1
     ·rw [lJ h1] at MV; cases MV
    obtain ⟨a', c', vs0, e1, e2, e3, e4, e5⟩ := jM (P := P) (hR.quiet (lz w)) (.dD (b := b) (off := off) (a := a)) i.size (ee 0) hold
    cases e1
    exact mO (P := P) hR ht hu wS hi hz x4 hb hx fO (a := some a) (len := 0) (cap := 0) R7 qc e3 e4 (iT hold) (by simpa [Builtin.firstCells] using e2)
   ·exfalso
    have := lk MV
    have JR : n = 0 := by omega
    simp [JR] at hn
  case cT b off len c o L hL hc ho =>
   cases Et : (len + n).ble room <;> simp only [Et, cond_true, cond_false, reduceCtorEq] at h
   have qc := lk Et
   cases hold : m.row b off (len * i.size) with
   | none => simp [hold] at h
   | some old =>
   simp only [hold] at h
   cases MV : (len + n).ble c <;> simp only [MV, cond_true, cond_false, aQ, kj] at h
   ·obtain ⟨rfl, rfl⟩ := h
    have R7 : c < len + n := by
     rcases Nat.lt_or_ge c (len + n) with h1 | h1
     ·exact h1
     ·rw [lJ h1] at MV; cases MV
    obtain ⟨a, c', vs0, e1, e2, e3, e4, e5⟩ := jM (P := P) (hR.quiet (lz w)) (.cT hL hc ho) i.size (ee len) hold
    cases e1
    exact mO (P := P) hR ht hu wS hi hz x4 hb hx fO (a := some ⟨L.bT, o, none⟩) (len := len) (cap := c) R7 qc e3 e4 (iT hold) (by simpa [Builtin.firstCells] using e2)
   ·have Ag := lk MV
    obtain ⟨m1, OM, h2⟩ := fG.1 h
    cases h2
    obtain ⟨w', r1, r2, r3⟩ := lr (P := P) hR hL f2 f3 OM
    refine ⟨ρ, w', .slice (some ⟨L.bT, o, none⟩) (len + n) c, ?_, .cT hL Ag ho, r2, r3⟩
    rw [mh ht hu wS lU s1 Ag f1];have : o = L.off + off := ho (by omega)
    subst this;simp only [add_eq, <- Nat.add_assoc] at r1 ⊢
    simp only [r1, Result.andThen_ok]
end
end
end Go.Proofs.YtblcomejcahkdaaDoor.Ev
