/- EvTab, EvCore, EvRun, EvComp, EvRel, EvMem, EvGlo, EvGl, EvOpA, EvOpB, EvOpC, EvOpD, EvOpE, EvOpF. -/
import GoSem.Dispatch
import Derived.Calls
import Derived.Laws.Sem
import Derived.Laws.World
import Derived.Laws.Entries
import Derived.KernelRfl
set_option linter.unusedSimpArgs false
set_option linter.unusedVariables false
set_option linter.unusedSectionVars false
set_option linter.defProp false
set_option maxRecDepth 20000
set_option maxHeartbeats 8000000
namespace Go.Proofs.YtdiccmapankckaaDoor.Ev
open Go
abbrev bc := @Option.some.injEq
abbrev j6 := @Option.map_eq_some_iff
abbrev mZ := @List.getElem?_eq_getElem
abbrev eM := @Prod.mk.injEq
abbrev rc := @List.getElem?_eq_some_iff
abbrev ja := @List.length_append
abbrev fh := @Nat.le_refl
abbrev mn := @Nat.lt_of_lt_of_le
abbrev qP := @Nat.le_of_ble_eq_true
abbrev lu := @Nat.zero_le
abbrev re := @Bool.false_eq_true
abbrev pC := @Bool.and_eq_true
abbrev pE := @Option.some.inj
abbrev BP := @Classical.byContradiction
abbrev A9 := @List.getElem?_append_left
abbrev BO := @List.getElem?_append_right
abbrev As := @List.mem_cons_of_mem
abbrev x9 := @List.length_drop
abbrev Ar := @List.mem_singleton
abbrev oQ := @List.mem_cons
abbrev pJ := @Nat.le_trans
abbrev Ij := @List.take_of_length_le
abbrev uy := @List.mem_append
abbrev Fm := @List.getElem_mem
abbrev A8 := @Nat.ble_eq_true_of_le
section
theorem jP {a b : Nat} (h : a ≠ b) : a.beq b = false := by
 cases e : a.beq b
 ·rfl
 ·exact absurd (Nat.eq_of_beq_eq_true e) h
theorem aR {a b : Nat} (h : a.beq b = true) : a = b := Nat.eq_of_beq_eq_true h
theorem jY {a b : Nat} (h : a.beq b = false) : a ≠ b := by
 rintro rfl
 rw [Nat.beq_refl] at h
 cases h
theorem dM (a : Nat) : a.beq a = true := Nat.beq_refl a
def p6 : Nat -> Nat -> List Bool
 | 0, _ => []
 | f + 1, k => bif k.beq 0 then [] else bif (k % 2).beq 1 then true :: p6 f (k / 2) else false :: p6 f (k / 2 - 1)
def path (k : Nat) : List Bool := p6 k k
theorem IQ : ∀ (f g k l : Nat), k <= f -> l <= g -> p6 f k = p6 g l -> k = l := by
 intro f
 induction f with
 | zero =>
  intro g k l hk hl h
  obtain rfl : k = 0 := by omega
  cases g with
  | zero => omega
  | succ g =>
   simp only [p6] at h;by_cases e : l = 0
   ·exact e.symm
   ·have e1 : l.beq 0 = false := jP e
    rw [e1] at h
    cases e2 : (l % 2).beq 1 <;> simp [e2] at h
 | succ f ih =>
  intro g k l hk hl h
  cases g with
  | zero =>
   obtain rfl : l = 0 := by omega
   simp only [p6] at h;by_cases e : k = 0
   ·exact e
   ·have e1 : k.beq 0 = false := jP e
    rw [e1] at h
    cases e2 : (k % 2).beq 1 <;> simp [e2] at h
  | succ g =>
   simp only [p6] at h;by_cases e : k = 0
   ·by_cases e' : l = 0
    ·omega
    ·have e1 : l.beq 0 = false := jP e'
     rw [e1] at h;subst e
     cases e2 : (l % 2).beq 1 <;> simp [e2] at h
   ·have e1 : k.beq 0 = false := jP e
    rw [e1] at h;by_cases e' : l = 0
    ·subst e'
     cases e2 : (k % 2).beq 1 <;> simp [e2] at h
    ·have e1' : l.beq 0 = false := jP e'
     rw [e1'] at h
     cases e2 : (k % 2).beq 1 <;> cases O8 : (l % 2).beq 1 <;> simp [e2, O8] at h
     ·have := jY e2
      have := jY O8
      have := ih g _ _ (by omega) (by omega) h
      omega
     ·have := aR e2
      have := aR O8
      have := ih g _ _ (by omega) (by omega) h
      omega
theorem IP {k l : Nat} (h : path k = path l) : k = l := IQ _ _ _ _ (fh _) (fh _) h
inductive Tr (α : Type) where
 | leaf
 | node (v : Option α) (l r : Tr α)
def Tr.at {α : Type} : Tr α -> List Bool -> Option α
 | .leaf, _ => none
 | .node v _ _, [] => v
 | .node _ l r, b :: p => bif b then r.at p else l.at p
def Tr.put {α : Type} (x : α) : List Bool -> Tr α -> Tr α
 | [], .leaf => .node (some x) .leaf .leaf
 | [], .node _ l r => .node (some x) l r
 | b :: p, .leaf => bif b then .node none .leaf (Tr.put x p .leaf) else .node none (Tr.put x p .leaf) .leaf
 | b :: p, .node v l r => bif b then .node v l (Tr.put x p r) else .node v (Tr.put x p l) r
theorem Tr.Kb {α : Type} (x : α) (p : List Bool) : ∀ t : Tr α, (t.put x p).at p = some x := by
 induction p with
 | nil => intro t; cases t <;> rfl
 | cons b p ih => intro t; cases t <;> cases b <;> simp [Tr.put, Tr.at, ih]
theorem Tr.Pq {α : Type} (x : α) (p : List Bool) : ∀ (q : List Bool) (t : Tr α), p ≠ q -> (t.put x p).at q = t.at q := by
 induction p with
 | nil =>
  intro q t h
  cases q with
  | nil => exact absurd rfl h
  | cons c q => cases t <;> cases c <;> simp [Tr.put, Tr.at]
 | cons b p ih =>
  intro q t h
  cases q with
  | nil => cases t <;> cases b <;> simp [Tr.put, Tr.at]
  | cons c q =>
   cases t <;> cases b <;> cases c <;> simp [Tr.put, Tr.at] <;> (first | (rw [ih _ _ (fun e => h (by rw [e]))]; try rfl) | skip)
def Tr.get {α : Type} (t : Tr α) (k : Nat) : Option α := t.at (path k)
def Tr.set {α : Type} (t : Tr α) (k : Nat) (x : α) : Tr α := t.put x (path k)
theorem Tr.bW {α : Type} (t : Tr α) (k l : Nat) (x : α) : (t.set k x).get l = if l = k then some x else t.get l := by
 unfold Tr.get Tr.set;by_cases h : l = k
 ·subst h; rw [if_pos rfl, Tr.Kb]
 ·rw [if_neg h, Tr.Pq _ _ _ _ (fun e => h (IP e).symm)]
theorem Tr.zp {α : Type} (k : Nat) : (Tr.leaf : Tr α).get k = none := by
 unfold Tr.get; cases path k <;> rfl
end
section
inductive EV where
 | undef
 | bool (b : Bool)
 | int (k : IntKind) (n : Int)
 | str (s : List UInt8)
 | bL
 | ptr (b off : Nat)
 | ae
 | slice (b off len : Nat) (cap : Option Nat)
 | bB
 | map (b : Nat)
 | aN
 | func (f : Nat) (first captured : List EV)
 | aC
 | iface (t : Nat) (v : EV)
 | agg (cs : List EV)
 | tuple (vs : List EV)
 | fz (t esz : Nat) (els : List (List EV))   -- a row N5 stays eQ it is: with its elements (t: WS one; 0: not told)
 | fF (esz : Nat) (els : List (List EV)) (i k : Nat)   -- a cell of aew a row: Y1 i, cell k
def yC : Option Nat -> Option Nat -> Bool
 | none, none => true
 | some a, some b => a.beq b
 | _, _ => false
def jX : List UInt8 -> List UInt8 -> Bool
 | [], [] => true
 | a :: x, b :: y => bif a.toNat.beq b.toNat then jX x y else false
 | _, _ => false
def sQ : Int -> Int -> Bool
 | .ofNat a, .ofNat b => a.beq b
 | .negSucc a, .negSucc b => a.beq b
 | _, _ => false
def bY : IntKind -> Nat
 | .i8 => 0 | .i16 => 1 | .i32 => 2 | .i64 => 3 | .u8 => 4 | .u16 => 5 | .u32 => 6 | .u64 => 7
mutual
def EV.same : EV -> EV -> Bool
 | .undef, .undef | .bL, .bL | .ae, .ae | .bB, .bB | .aN, .aN | .aC, .aC => true
 | .bool a, .bool b => a == b
 | .int k a, .int l b => bif (bY k).beq (bY l) then sQ a b else false
 | .str a, .str b => jX a b
 | .ptr a i, .ptr b j => bif a.beq b then i.beq j else false
 | .slice a i n c, .slice b j m d => bif a.beq b then bif i.beq j then bif n.beq m then yC c d else false else false else false
 | .map a, .map b => a.beq b
 | .func f a c, .func g b d => bif f.beq g then bif EV.ma a b then EV.ma c d else false else false
 | .iface t v, .iface u w => bif t.beq u then EV.same v w else false
 | .agg a, .agg b => EV.ma a b
 | .tuple a, .tuple b => EV.ma a b
 | .fz t e a, .fz u f b => bif t.beq 0 then false else bif t.beq u then bif e.beq f then EV.qQ a b else false else false
 | _, _ => false
def EV.ma : List EV -> List EV -> Bool
 | [], [] => true
 | a :: x, b :: y => bif EV.same a b then EV.ma x y else false
 | _, _ => false
def EV.qQ : List (List EV) -> List (List EV) -> Bool
 | [], [] => true
 | a :: x, b :: y => bif EV.ma a b then EV.qQ x y else false
 | _, _ => false
end
inductive fQ where
 | dead
 | cells (cs : List EV) (esz : Nat) (elem : Nat) (ro : Bool)
 | map (es : List (EV × EV))
structure Mem where
 next : Nat
 gB : Tr fQ
def Mem.get (m : Mem) (b : Nat) : fQ := (m.gB.get b).getD .dead
def Mem.set (m : Mem) (b : Nat) (x : fQ) : Mem := ⟨m.next, m.gB.set b x⟩
def Mem.new (m : Mem) (x : fQ) : Mem := ⟨m.next + 1, m.gB.set m.next x⟩
def EV.cells : EV -> Option (List EV)
 | .undef | .tuple _ => none
 | .agg cs => some cs
 | v => some [v]
def partOf (agg : Option Nat) (cs : List EV) (off : Nat) : Option EV :=
 match agg with
 | none => cs[off]?
 | some n => bif (off + n).ble cs.length then some (.agg ((cs.drop off).take n)) else none
def jb (cs : List EV) (off : Nat) (vs : List EV) : Option (List EV) :=
 bif (off + vs.length).ble cs.length then some (cs.take off ++ vs ++ cs.drop (off + vs.length)) else none
def Mem.load (m : Mem) (agg : Option Nat) : EV -> Option EV
 | .ptr b off => match m.get b with
  | .cells cs _ _ _ => partOf agg cs off
  | _ => none
 | .fF _ els i k => match els[i]? with
  | some el => partOf agg el k
  | none => none
 | _ => none
def Mem.G9 (m : Mem) (b off n : Nat) : Option (List EV) :=
 match m.get b with
 | .cells cs _ _ _ => bif (off + n).ble cs.length then some ((cs.drop off).take n) else none
 | _ => none
def Mem.row (m : Mem) (b off n : Nat) : Option (List EV) := bif n.beq 0 then some [] else m.G9 b off n
theorem Mem.pX {m : Mem} {b off n : Nat} (h : n ≠ 0) : m.row b off n = m.G9 b off n := by unfold Mem.row; rw [jP h]; rfl
theorem Mem.ng {m : Mem} {b off : Nat} : m.row b off 0 = some [] := rfl
def Mem.write (m : Mem) (b off : Nat) (vs : List EV) : Option Mem :=
 match m.get b with
 | .cells cs esz elem ro => bif ro then none else (jb cs off vs).map fun cs => m.set b (.cells cs esz elem ro)
 | _ => none
def Mem.store (m : Mem) (size : Nat) (a x : EV) : Option Mem :=
 match a, x.cells with
 | .ptr b off, some vs => bif vs.length.beq size then m.write b off vs else none
 | _, _ => none
inductive aV where
 | tmp (t : Nat)
 | const (v : EV)
inductive sd where
 | aJ (k : Nat)   -- 0 adu, 1 whole number, 2 string, 3 pointer, 4 slice, 5 map, 6 X5, 7 interface
 | agg (fields : List (Option Nat × Nat × sd))
inductive Cv where
 | int (k : IntKind)
 | same
 | bytes (elem : Nat)
 | text
inductive ls where
 | ab (x : aV)
 | pick (c a b : aV)
 | alloc (elem : Nat) (zero : List EV)
 | box (elem : Nat) (x : aV)
 | build (zero : List EV) (parts : List (Nat × Nat × aV))
 | bD (elem esz len : Nat) (zero : List EV) (parts : List (Nat × aV))
 | load (agg : Option Nat) (a : aV)
 | store (size : Nat) (a x : aV)
 | cw (x : aV)
 | bin (op : BinOp) (x y : aV)
 | eq (neg : Bool) (t : sd) (x y : aV)
 | un (op : UnOp) (x : aV)
 | conv (c : Cv) (x : aV)
 | iface (t : Nat) (x : aV)
 | BD (f : Nat) (first captured : List aV)
 | uP
 | lE (elem esz : Nat) (zero : List EV) (len cap : aV)
 | jF (x : aV) (lo hi : Option aV)
 | uG (esz : Nat) (x : aV) (lo hi max : Option aV)
 | xk (n esz : Nat) (x : aV) (lo hi max : Option aV)
 | aj (off : Nat) (x : aV)
 | AS (agg : Option Nat) (off : Nat) (x : aV)
 | eu (esz : Nat) (x i : aV)
 | nt (n esz : Nat) (x i : aV)
 | gp (x i : aV)
 | uV (n esz : Nat) (agg : Option Nat) (x i : aV)
 | lookup (kt : Nat) (zero : EV) (ok : Bool) (m k : aV)
 | pd (kt : Nat) (m k x : aV)
 | delete (kt : Nat) (m k : aV)
 | qV (m : aV)
 | pP (t : Nat) (x : aV)
 | extract (x : aV) (i : Nat)
 | len (x : aV)
 | eG (x : aV)
 | uT (n : Nat)
 | cap (x : aV)
 | max (args : List aV)
 | min (args : List aV)
 | append (elem esz bytes : Nat) (s x : aV)
 | copy (esz : Nat) (d s : aV)
inductive Aq where
 | val (op : ls)
 | call (f : aV) (args : List aV)
 | panic (x : aV)
 | defer (f : aV) (args : List aV)
def cS : ls -> Nat
 | .alloc _ _ | .box _ _ | .bD _ _ _ _ _ | .uP | .lE _ _ _ _ _ | .conv (.bytes _) _ => 1
 | .load _ _ => 2
 | .store _ _ _ | .conv .text _ | .lookup _ _ _ _ _ | .pd _ _ _ _ | .delete _ _ _ | .qV _ | .append _ _ _ _ _ | .copy _ _ _ | .uG _ _ _ _ _ => 3
 | _ => 0
def sort : Aq -> Nat
 | .val op => cS op
 | _ => 3
def D8 : Option aV -> List aV
 | none => []
 | some x => [x]
def iI : ls -> List aV
 | .ab x | .box _ x | .load _ x | .cw x | .un _ x | .conv _ x | .iface _ x | .aj _ x | .AS _ _ x | .qV x | .pP _ x | .extract x _ | .len x | .eG x | .cap x => [x]
 | .pick c a b => [c, a, b]
 | .alloc _ _ | .uP | .uT _ => []
 | .build _ ps => ps.map fun p => p.2.2
 | .bD _ _ _ _ ps => ps.map fun p => p.2
 | .store _ a x | .bin _ a x | .eq _ _ a x | .lE _ _ _ a x | .eu _ a x | .nt _ _ a x | .gp a x | .uV _ _ _ a x | .lookup _ _ _ a x | .delete _ a x | .append _ _ _ a x | .copy _ a x => [a, x]
 | .BD _ a c => a ++ c
 | .jF x l h => x :: (D8 l ++ D8 h)
 | .uG _ x l h m | .xk _ _ x l h m => x :: (D8 l ++ (D8 h ++ D8 m))
 | .pd _ m k x => [m, k, x]
 | .max xs | .min xs => xs
def oR : Aq -> List aV
 | .val op => iI op
 | .call f xs | .defer f xs => f :: xs
 | .panic x => [x]
def tmpsOf : List aV -> List Nat
 | [] => []
 | .tmp t :: r => t :: tmpsOf r
 | .const _ :: r => tmpsOf r
structure aY where
 dst : Option Nat
 op : Aq
 guard : Option (Nat × Bool)   -- Y2 Wb, and what it AG be
inductive aH where
 | skip
 | region (ops : List aY)
 | draw (ops : List aY) (chk : List (Nat × Nat))
 | seq (a b : aH)
 | cond (c : aV) (a b : aH)
 | block (id : Nat) (a : aH)
 | loop (a : aH)
 | exit (id : Nat)
 | ret
inductive lV where
 | tmp (t : Nat)
 | cell (t : Nat) (agg : Option Nat)
structure ax where
 ntmps : Nat
 body : aH
 results : List lV
structure Fr where
 tmps : Tr EV
 defers : List (Nat × List EV)
def Fr.get (fr : Fr) (t : Nat) : EV := (fr.tmps.get t).getD .undef
def Fr.set (fr : Fr) (t : Nat) (v : EV) : Fr := ⟨fr.tmps.set t v, fr.defers⟩
def Fr.put (fr : Fr) (d : Option Nat) (v : EV) : Fr := match d with | some t => fr.set t v | none => fr
def Fr.eval (fr : Fr) : aV -> EV
 | .tmp t => fr.get t
 | .const v => v
def qY (op : BinOp) (k : IntKind) (x y : Int) : Option Int :=
 let a := BitVec.ofInt k.bits x
 let b := BitVec.ofInt k.bits y
 match op with
 | .and => some (k.wrap (a &&& b).toNat)
 | .or => some (k.wrap (a ||| b).toNat)
 | .xor => some (k.wrap (a ^^^ b).toNat)
 | .andNot => some (k.wrap (a &&& ~~~b).toNat)
 | _ => none
def nB (op : BinOp) (k : IntKind) (x y : Int) : Option EV :=
 match op with
 | .add => some (.int k (k.wrap (x + y)))
 | .sub => some (.int k (k.wrap (x - y)))
 | .mul => some (.int k (k.wrap (x * y)))
 | .quo => if y = 0 then none else some (.int k (k.wrap (x.tdiv y)))
 | .rem => if y = 0 then none else some (.int k (x.tmod y))
 | .and | .or | .xor | .andNot => (qY op k x y).map (.int k)
 | .eql => some (.bool (decide (x = y)))
 | .neq => some (.bool (!decide (x = y)))
 | .lss => some (.bool (decide (x < y)))
 | .leq => some (.bool (decide (x <= y)))
 | .gtr => some (.bool (decide (y < x)))
 | .geq => some (.bool (decide (y <= x)))
 | .shl | .shr => none
def tz (op : BinOp) (k : IntKind) (x y : Int) : Option EV :=
 if y < 0 then none else
 match op with
 | .shl => some (.int k (k.wrap (x * 2 ^ min y.toNat k.bits)))
 | .shr => some (.int k (x.fdiv (2 ^ min y.toNat k.bits)))
 | _ => none
def ef (op : BinOp) (x y : EV) : Option EV :=
 match x, y with
 | .int k a, .int l b => match op with
  | .shl | .shr => tz op k a b
  | _ => bif (bY k).beq (bY l) then nB op k a b else none
 | .str a, .str b => match op with
  | .add => bif (a.length + b.length).ble 4294967296 then some (.str (a ++ b)) else none
  | .eql => some (.bool (jX a b))
  | .neq => some (.bool (!jX a b))
  | _ => none
 | _, _ => none
def dK (t : Nat) : EV -> EV -> Option Bool
 | .int k a, .int l b => bif t.beq 1 then bif (bY k).beq (bY l) then some (decide (a = b)) else none else none
 | .bool a, .bool b => bif t.beq 0 then some (a == b) else none
 | .str a, .str b => bif t.beq 2 then some (jX a b) else none
 | .bL, .bL => bif t.beq 3 then some true else none
 | .bL, .ptr _ _ | .ptr _ _, .bL => bif t.beq 3 then some false else none
 | .ae, .ae => bif t.beq 4 then some true else none
 | .ae, .slice _ _ _ _ | .slice _ _ _ _, .ae => bif t.beq 4 then some false else none
 | .ae, .fz _ _ _ | .fz _ _ _, .ae => bif t.beq 4 then some false else none
 | .bB, .bB => bif t.beq 5 then some true else none
 | .bB, .map _ | .map _, .bB => bif t.beq 5 then some false else none
 | .aN, .aN => bif t.beq 6 then some true else none
 | .aN, .func _ _ _ | .func _ _ _, .aN => bif t.beq 6 then some false else none
 | .aC, .iface _ _ | .iface _ _, .aC => bif t.beq 7 then some false else none
 | _, _ => none
mutual
def eH : sd -> EV -> EV -> Option Bool
 | .aJ t, x, y => dK t x y
 | .agg fs, .agg a, .agg b => pq fs a b
 | _, _, _ => none
def pq : List (Option Nat × Nat × sd) -> List EV -> List EV -> Option Bool
 | [], _, _ => some true
 | (g, off, t) :: r, a, b => match partOf g a off, partOf g b off with
  | some x, some y => match eH t x y with
   | some true => pq r a b
   | o => o
  | _, _ => none
end
def EI (op : UnOp) (x : EV) : Option EV :=
 match op, x with
 | .neg, .int k n => some (.int k (k.wrap (0 - n)))
 | .xor, .int k n => (qY .xor k (if k.signed then -1 else k.max) n).map (.int k)
 | .not, .bool b => some (.bool (!b))
 | _, _ => none
def bytesOf : List EV -> Option (List UInt8)
 | [] => some []
 | .int .u8 n :: r => (bytesOf r).map (UInt8.ofNat n.toNat :: ·)
 | _ => none
def kT (c : Cv) (m : Mem) (x : EV) : Option (EV × Mem) :=
 match c, x with
 | .int k, .int _ n => some (.int k (k.wrap n), m)
 | .same, .str s => some (.str s, m)
 | .bytes e, .str s => some (.slice m.next 0 s.length none, m.new (.cells (s.map fun b => .int .u8 (b.toNat : Int)) 1 e false))
 | .text, .ae => some (.str [], m)
 | .text, .slice b off n _ => match m.row b off n with
  | some cs => (bytesOf cs).map fun s => (.str s, m)
  | none => none
 | _, _ => none
def au (x : Option EV) (TO nO : Nat) : Option Nat :=
 match x with
 | none => some TO
 | some (.int _ (.ofNat i)) => bif i.ble nO then some i else none
 | _ => none
def eh (esz b off len : Nat) (cap : Option Nat) (lo hi max : Option EV) : Option EV :=
 match cap with
 | some c => match au max c c with
  | some t => match au hi len t with
   | some h => match au lo 0 h with
    | some l => some (.slice b (bif t.beq l then off else off + l * esz) (h - l) (some (t - l)))
    | none => none
   | none => none
  | none => none
 | none => match max with
  | some _ => match au max len len with
   | some t => match au hi len t with
    | some h => match au lo 0 h with
     | some l => some (.slice b (bif t.beq l then off else off + l * esz) (h - l) (some (t - l)))
     | none => none
    | none => none
   | none => none
  | none => match au hi len len with
   | some h => match au lo 0 h with
    | some l => some (.slice b (off + l * esz) (h - l) none)
    | none => none
   | none => none
def find (k : EV) : List (EV × EV) -> Option EV
 | [] => none
 | (l, v) :: r => bif EV.same k l then some v else find k r
def update (k v : EV) : List (EV × EV) -> List (EV × EV)
 | [] => [(k, v)]
 | (l, w) :: r => bif EV.same k l then (k, v) :: r else (l, w) :: update k v r
def erase (k : EV) : List (EV × EV) -> List (EV × EV)
 | [] => []
 | (l, w) :: r => bif EV.same k l then r else (l, w) :: erase k r
def lK (kt : Nat) : EV -> Bool
 | .int _ _ => kt.beq 2
 | .str _ => kt.beq 1
 | .bool _ => kt.beq 0
 | _ => false
def kH : EV -> Nat
 | .int k _ => 2 + bY k | .str _ => 1 | .bool _ => 0 | _ => 99
def oh (k : EV) : List (EV × EV) -> Bool
 | [] => true
 | e :: r => bif (kH e.1).beq (kH k) then oh k r else false
def iK (kt : Nat) (k : EV) (es : List (EV × EV)) : Bool := bif lK kt k then oh k es else false
def fw (cs : List EV) : List (Nat × Nat × EV) -> Option (List EV)
 | [] => some cs
 | (off, size, v) :: r => match v.cells with
  | some vs => bif vs.length.beq size then match jb cs off vs with
    | some cs => fw cs r
    | none => none
   else none
  | none => none
def eA (n : Nat) (zero : List EV) : List EV := (List.replicate n zero).flatten
def Mem.source (m : Mem) (esz : Nat) : EV -> Option (Nat × List EV)
 | .ae => some (0, [])
 | .slice b off n _ => (m.row b off (n * esz)).map fun cs => (n, cs)
 | .str s => bif esz.beq 1 then some (s.length, s.map fun b => .int .u8 (b.toNat : Int)) else none
 | .fz _ e els => bif e.beq esz then some (els.length, els.flatten) else none
 | _ => none
def room : Nat := 1073741824
def fP (m : Mem) (elem esz : Nat) (s x : EV) : Option (EV × Mem) :=
 match m.source esz x with
 | none => none
 | some (n, xs) =>
  bif n.beq 0 then
   match s with
   | .ae => some (.ae, m)
   | .slice b off len cap => some (.slice b off len cap, m)
   | .fz t e els => some (.fz t e els, m)
   | _ => none
  else match s with
  | .ae => bif n.ble room then some (.slice m.next 0 n none, m.new (.cells xs esz elem false)) else none
  | .slice b off len cap =>
   bif (len + n).ble room then
    match m.row b off (len * esz) with
    | none => none
    | some old => match cap with
     | some c => bif (len + n).ble c then (m.write b (off + len * esz) xs).map fun m => (.slice b off (len + n) (some c), m)
       else some (.slice m.next 0 (len + n) none, m.new (.cells (old ++ xs) esz elem false))
     | none => match m.get b with
      | .cells _ e _ false => bif e.beq esz then some (.slice m.next 0 (len + n) none, (m.new (.cells (old ++ xs) esz elem false)).set b .dead) else none
      | _ => none
   else none
  | _ => none
def xR (m : Mem) (esz : Nat) (d s : EV) : Option (EV × Mem) :=
 match d with
 | .ae => (m.source esz s).map fun _ => (.int .i64 0, m)
 | .slice b off len _ => match m.source esz s with
  | none => none
  | some (n, xs) => (m.write b off (xs.take (min n len * esz))).map fun m => (.int .i64 (min n len : Nat), m)
 | _ => none
def lF (k : IntKind) (x : Int) : List EV -> Option EV
 | [] => some (.int k x)
 | .int l y :: r => bif (bY k).beq (bY l) then lF k (if y > x then y else x) r else none
 | _ => none
def mR (k : IntKind) (x : Int) : List EV -> Option EV
 | [] => some (.int k x)
 | .int l y :: r => bif (bY k).beq (bY l) then mR k (if y < x then y else x) r else none
 | _ => none
def ui : List EV -> Option EV
 | .int k x :: r => lF k x r
 | _ => none
def xv : List EV -> Option EV
 | .int k x :: r => mR k x r
 | _ => none
inductive R1 where
 | val (v : EV) (m : Mem)
def gl (m : Mem) (x : Option EV) : Option R1 := x.map fun v => .val v m
def w8 (x : Option (EV × Mem)) : Option R1 := x.map fun p => .val p.1 p.2
def ofM (x : Option Mem) : Option R1 := x.map fun m => .val .undef m
def idx (n : Nat) : EV -> Option Nat
 | .int _ (.ofNat i) => bif (i + 1).ble n then some i else none
 | _ => none
def aA (ρ : aV -> EV) (op : ls) (m : Mem) : Option R1 :=
 match op with
 | .ab x => some (.val (ρ x) m)
 | .pick c a b => match ρ c with | .bool t => some (.val (bif t then ρ a else ρ b) m) | _ => none
 | .alloc elem zero => some (.val (.ptr m.next 0) (m.new (.cells zero zero.length elem false)))
 | .box elem x => match (ρ x).cells with
  | some cs => some (.val (.ptr m.next 0) (m.new (.cells cs cs.length elem false)))
  | none => none
 | .build zero parts => gl m ((fw zero (parts.map fun p => (p.1, p.2.1, ρ p.2.2))).map .agg)
 | .bD elem esz len zero parts => match fw (eA len zero) (parts.map fun p => (p.1 * esz, esz, ρ p.2)) with
  | some cs => some (.val (.slice m.next 0 len (some len)) (m.new (.cells cs esz elem false)))
  | none => none
 | .load agg a => gl m (m.load agg (ρ a))
 | .store size a x => ofM (m.store size (ρ a) (ρ x))
 | .cw x => match ρ x with
  | .ptr b off => some (.val (.ptr b off) m)
  | .func f a c => some (.val (.func f a c) m)
  | .iface t v => some (.val (.iface t v) m)
  | .fF e els i k => some (.val (.fF e els i k) m)
  | _ => none
 | .bin op x y => gl m (ef op (ρ x) (ρ y))
 | .eq neg t x y => gl m ((eH t (ρ x) (ρ y)).map fun b => .bool (neg ^^ b))
 | .un op x => gl m (EI op (ρ x))
 | .conv c x => w8 (kT c m (ρ x))
 | .iface t x => some (.val (.iface t (ρ x)) m)
 | .BD f a c => some (.val (.func f (a.map ρ) (c.map ρ)) m)
 | .uP => some (.val (.map m.next) (m.new (.map [])))
 | .lE elem esz zero len cap => match ρ len, ρ cap with
  | .int .i64 (.ofNat l), .int .i64 (.ofNat c) => bif (bif l.ble c then c.ble room else false) then
    some (.val (.slice m.next 0 l (some c)) (m.new (.cells (eA c zero) esz elem false))) else none
  | _, _ => none
 | .jF x lo hi => match ρ x with
  | .str s => match au (hi.map ρ) s.length s.length with
   | some h => match au (lo.map ρ) 0 h with
    | some l => some (.val (.str ((s.take h).drop l)) m)
    | none => none
   | none => none
  | _ => none
 | .uG esz x lo hi max => match ρ x with
  | .ae => match au (max.map ρ) 0 0, au (hi.map ρ) 0 0, au (lo.map ρ) 0 0 with
   | some _, some _, some _ => some (.val .ae m)
   | _, _, _ => none
  | .slice b off len (some c) => gl m (eh esz b off len (some c) (lo.map ρ) (hi.map ρ) (max.map ρ))
  | .slice b off len none => match m.get b with
   | .cells _ e _ _ => bif e.beq esz then gl m (eh esz b off len none (lo.map ρ) (hi.map ρ) (max.map ρ)) else none
   | _ => none
  | .fz _ e els => match max with
   | none => bif e.beq esz then
     match au (hi.map ρ) els.length els.length with
     | some h => match au (lo.map ρ) 0 h with
      | some l => some (.val (.fz 0 e ((els.take h).drop l)) m)
      | none => none
     | none => none
    else none
   | some _ => none
  | _ => none
 | .xk n esz x lo hi max => match ρ x with
  | .ptr b off => gl m (eh esz b off n (some n) (lo.map ρ) (hi.map ρ) (max.map ρ))
  | _ => none
 | .aj off x => match ρ x with
  | .ptr b o => some (.val (.ptr b (o + off)) m)
  | .fF e els i k => some (.val (.fF e els i (k + off)) m)
  | _ => none
 | .AS agg off x => match ρ x with
  | .agg cs => gl m (partOf agg cs off)
  | _ => none
 | .eu esz x i => match ρ x with
  | .slice b off len _ => match idx len (ρ i) with
   | some i => some (.val (.ptr b (off + i * esz)) m)
   | none => none
  | .fz _ e els => bif e.beq esz then match idx els.length (ρ i) with
    | some i => some (.val (.fF e els i 0) m)
    | none => none
   else none
  | _ => none
 | .nt n esz x i => match ρ x with
  | .ptr b off => match idx n (ρ i) with
   | some i => some (.val (.ptr b (off + i * esz)) m)
   | none => none
  | _ => none
 | .gp x i => match ρ x with
  | .str s => match idx s.length (ρ i) with
   | some i => match s[i]? with
    | some c => some (.val (.int .u8 (c.toNat : Int)) m)
    | none => none
   | none => none
  | _ => none
 | .uV n esz agg x i => match ρ x with
  | .agg cs => match idx n (ρ i) with
   | some i => gl m (partOf agg cs (i * esz))
   | none => none
  | _ => none
 | .lookup kt zero ok mp k => match ρ mp with
  | .bB => bif lK kt (ρ k) then some (.val (bif ok then .tuple [zero, .bool false] else zero) m) else none
  | .map b => match m.get b with
   | .map es => bif iK kt (ρ k) es then
     match find (ρ k) es with
     | some v => some (.val (bif ok then .tuple [v, .bool true] else v) m)
     | none => some (.val (bif ok then .tuple [zero, .bool false] else zero) m)
    else none
   | _ => none
  | _ => none
 | .pd kt mp k x => match ρ mp with
  | .map b => match m.get b with
   | .map es => bif iK kt (ρ k) es then some (.val .undef (m.set b (.map (update (ρ k) (ρ x) es)))) else none
   | _ => none
  | _ => none
 | .delete kt mp k => match ρ mp with
  | .bB => bif lK kt (ρ k) then some (.val (.tuple []) m) else none
  | .map b => match m.get b with
   | .map es => bif iK kt (ρ k) es then some (.val (.tuple []) (m.set b (.map (erase (ρ k) es)))) else none
   | _ => none
  | _ => none
 | .qV mp => match ρ mp with
  | .bB => some (.val (.int .i64 0) m)
  | .map b => match m.get b with
   | .map es => some (.val (.int .i64 (es.length : Int)) m)
   | _ => none
  | _ => none
 | .pP t x => match ρ x with
  | .iface u v => bif t.beq u then some (.val v m) else none
  | _ => none
 | .extract x i => match ρ x with
  | .tuple vs => gl m vs[i]?
  | _ => none
 | .eG x => match ρ x with
  | .str s => some (.val (.int .i64 (s.length : Int)) m)
  | _ => none
 | .len x => match ρ x with
  | .ae => some (.val (.int .i64 0) m)
  | .slice _ _ n _ => some (.val (.int .i64 (n : Int)) m)
  | .fz _ _ els => some (.val (.int .i64 (els.length : Int)) m)
  | _ => none
 | .uT n => some (.val (.int .i64 (n : Int)) m)
 | .cap x => match ρ x with
  | .ae => some (.val (.int .i64 0) m)
  | .slice _ _ _ (some c) => some (.val (.int .i64 (c : Int)) m)
  | _ => none
 | .max args => gl m (ui (args.map ρ))
 | .min args => gl m (xv (args.map ρ))
 | .append elem esz _ s x => w8 (fP m elem esz (ρ s) (ρ x))
 | .copy esz d s => w8 (xR m esz (ρ d) (ρ s))
end
section
inductive Fin where
 | ret (v : EV) (m : Mem)
 | gD (v : EV) (m : Mem)
inductive Out where
 | norm (fr : Fr) (m : Mem)
 | exit (id : Nat) (fr : Fr) (m : Mem)
 | ret (fr : Fr) (m : Mem)
 | gD (v : EV) (fr : Fr) (m : Mem)
abbrev Call := Nat -> List EV -> Mem -> Option Fin
def bf (fr : Fr) : Option (Nat × Bool) -> Option Bool
 | none => some true
 | some (t, w) => match fr.get t with
  | .bool b => some (b == w)
  | .undef => some false
  | _ => none
def fM (call : Call) (f : EV) (args : List EV) (m : Mem) : Option Fin :=
 match f with
 | .func g a c => call g (a ++ args ++ c) m
 | _ => none
def gQ (call : Call) : List aY -> Fr -> Mem -> Option Out
 | [], fr, m => some (.norm fr m)
 | o :: r, fr, m =>
  match bf fr o.guard with
  | some true => match o.op with
   | .val op => match aA fr.eval op m with
    | some (.val v m) => gQ call r (fr.put o.dst v) m
    | none => none
   | .call f args => match fM call (fr.eval f) (args.map fr.eval) m with
    | some (.ret v m) => gQ call r (fr.put o.dst v) m
    | some (.gD v m) => some (.gD v fr m)
    | none => none
   | .panic x => match fr.eval x with
    | .iface t v => some (.gD (.iface t v) fr m)
    | _ => none
   | .defer f args => match fr.eval f with
    | .func g x y => gQ call r (Fr.put ⟨fr.tmps, (g, x ++ args.map fr.eval ++ y) :: fr.defers⟩ o.dst .undef) m
    | _ => none
  | some false => gQ call r (fr.put o.dst .undef) m
  | none => none
structure Seen where
 i : Nat
 agg : Option Nat
 a : EV
 v : EV
def bV (i j : Nat) : List (Nat × Nat) -> Bool
 | [] => false
 | (a, b) :: r => bif a.beq i then bif b.beq j then true else bV i j r else bV i j r
def Mem.eD (m : Mem) (agg : Option Nat) (a v : EV) : Bool :=
 match m.load agg a with
 | some x => EV.same x v
 | none => false
def aX (chk : List (Nat × Nat)) (j : Nat) (m : Mem) : List Seen -> Bool
 | [] => true
 | s :: r => bif bV s.i j chk then (bif m.eD s.agg s.a s.v then aX chk j m r else false) else aX chk j m r
def bG (chk : List (Nat × Nat)) (i : Nat) (agg : Option Nat) (a v : EV) : List (Nat × Mem) -> Bool
 | [] => true
 | (j, m) :: r => bif bV i j chk then (bif m.eD agg a v then bG chk i agg a v r else false) else bG chk i agg a v r
def dL (chk : List (Nat × Nat)) (i n : Nat) : List (Nat × Mem) -> Bool
 | [] => true
 | (j, m) :: r => bif bV i j chk then (bif m.next.beq n then dL chk i n r else false) else dL chk i n r
def Gk : EV -> Bool
 | .fF _ _ _ _ => true
 | _ => false
def dG (call : Call) (chk : List (Nat × Nat)) (B0 : Nat) : List aY -> Nat -> Fr -> Mem -> List (Nat × Mem) -> List Seen -> Option Out
 | [], _, fr, m, _, _ => some (.norm fr m)
 | o :: r, i, fr, m, jr, seen =>
  match bf fr o.guard with
  | some true => match o.op with
   | .val op => match cS op with
    | 0 => match aA fr.eval op m with
     | some (.val v _) => dG call chk B0 r (i + 1) (fr.put o.dst v) m jr seen
     | none => none
    | 1 => match aA fr.eval op ⟨B0 + i, m.gB⟩ with
     | some (.val v m1) => dG call chk B0 r (i + 1) (fr.put o.dst v) ⟨m.next, m1.gB⟩ jr seen
     | none => none
    | 2 => match op with
     | .load agg a => match m.load agg (fr.eval a) with
      | some v => bif Gk (fr.eval a) then
        (bif dL chk i m.next jr then dG call chk B0 r (i + 1) (fr.put o.dst v) m jr seen else none)
       else bif bG chk i agg (fr.eval a) v jr then
        dG call chk B0 r (i + 1) (fr.put o.dst v) m jr (⟨i, agg, fr.eval a, v⟩ :: seen) else none
      | none => none
     | _ => none
    | _ => match aA fr.eval op m with
     | some (.val v m') => bif aX chk i m' seen then dG call chk B0 r (i + 1) (fr.put o.dst v) m' ((i, m) :: jr) seen else none
     | none => none
   | .call f args => match fM call (fr.eval f) (args.map fr.eval) m with
    | some (.ret v m') => bif aX chk i m' seen then dG call chk B0 r (i + 1) (fr.put o.dst v) m' ((i, m) :: jr) seen else none
    | _ => none
   | _ => none
  | some false => dG call chk B0 r (i + 1) (fr.put o.dst .undef) m jr seen
  | none => none
def iter (body : Fr -> Mem -> Option Out) : Nat -> Fr -> Mem -> Option Out
 | 0, _, _ => none
 | n + 1, fr, m => match body fr m with
  | some (.norm fr m) => iter body n fr m
  | o => o
def ao (call : Call) (n : Nat) : aH -> Fr -> Mem -> Option Out
 | .skip, fr, m => some (.norm fr m)
 | .region ops, fr, m => gQ call ops fr m
 | .draw ops chk, fr, m => dG call chk m.next ops 0 fr ⟨m.next + ops.length, m.gB⟩ [] []
 | .seq a b, fr, m => match ao call n a fr m with
  | some (.norm fr m) => ao call n b fr m
  | o => o
 | .cond c a b, fr, m => match fr.eval c with
  | .bool t => bif t then ao call n a fr m else ao call n b fr m
  | _ => none
 | .block id a, fr, m => match ao call n a fr m with
  | some (.exit j fr m) => bif j.beq id then some (.norm fr m) else some (.exit j fr m)
  | o => o
 | .loop a, fr, m => iter (ao call n a) n fr m
 | .exit id, fr, m => some (.exit id fr m)
 | .ret, fr, m => some (.ret fr m)
def zH (fr : Fr) (m : Mem) : lV -> Option EV
 | .tmp t => some (fr.get t)
 | .cell t agg => m.load agg (fr.get t)
def bN (fr : Fr) (m : Mem) : List lV -> Option (List EV)
 | [] => some []
 | r :: rs => match zH fr m r with
  | some v => (bN fr m rs).map (v :: ·)
  | none => none
def one (vs : List EV) : EV := match vs with | [v] => v | vs => .tuple vs
def cJ : List EV -> Nat -> Tr EV -> Tr EV
 | [], _, t => t
 | v :: r, i, t => cJ r (i + 1) (t.set i v)
inductive iz where
 | go (F : ax)
 | ext (g : List EV -> Option EV)
 | pure (g : List EV -> Option EV)   -- its blocks are its own, and are WL
 | spec (g : List EV -> Mem -> Option Fin)   -- eQ it is known to be
 | NA (F : ax) (D : List (Nat × Option Nat × ax))   -- with calls N5 wait for its end; adv code by number, and where the panic is put N5 is asked for first
def dr (call : Call) (n : Nat) (F : ax) (args : List EV) (m : Mem) : Option Fin :=
 bif args.length.ble F.ntmps then match ao call n F.body ⟨cJ args 0 .leaf, []⟩ m with
 | some (.norm fr m) => match fr.defers with
  | [] => (bN fr m F.results).map fun vs => .ret (one vs) m
  | _ => none
 | some (.ret fr m) => match fr.defers with
  | [] => (bN fr m F.results).map fun vs => .ret (one vs) m
  | _ => none
 | some (.gD v fr m) => match fr.defers with
  | [] => some (.gD v m)
  | _ => none
 | _ => none
 else none
def mh (g : Nat) : List (Nat × Option Nat × ax) -> Option (Option Nat × ax)
 | [] => none
 | (h, b, F) :: r => bif h.beq g then some (b, F) else mh g r
def fC (call : Call) (n : Nat) (d : Nat) (F : ax) (args : List EV) (u : Option EV) (m : Mem) : Option Mem :=
 bif args.length.ble F.ntmps then match ao call n F.body (Fr.set ⟨cJ args 0 .leaf, []⟩ d (u.getD .aC)) m with
 | some (.norm fr m) => match fr.defers with
  | [] => (bN fr m F.results).map fun _ => m
  | _ => none
 | some (.ret fr m) => match fr.defers with
  | [] => (bN fr m F.results).map fun _ => m
  | _ => none
 | _ => none
 else none
def cN (call : Call) (n : Nat) (rs : List lV) (D : List (Nat × Option Nat × ax)) (fr : Fr) : List (Nat × List EV) -> Option EV -> Mem -> Option Fin
 | [], none, m => (bN fr m rs).map fun vs => .ret (one vs) m
 | [], some v, m => some (.gD v m)
 | (g, args) :: ds, u, m => match mh g D with
  | some (some d, F) => match fC call n d F args u m with
   | some m => cN call n rs D fr ds none m
   | none => none
  | some (none, F) => match dr call n F args m with
   | some (.ret _ m) => cN call n rs D fr ds u m
   | some (.gD v m) => match u with
    | none => cN call n rs D fr ds (some v) m
    | some _ => none
   | none => none
  | none => none
def jn (call : Call) (n : Nat) (F : ax) (D : List (Nat × Option Nat × ax)) (args : List EV) (m : Mem) : Option Fin :=
 bif args.length.ble F.ntmps then match ao call n F.body ⟨cJ args 0 .leaf, []⟩ m with
 | some (.norm fr m) => cN call n F.results D fr fr.defers none m
 | some (.ret fr m) => cN call n F.results D fr fr.defers none m
 | some (.gD v fr m) => cN call n F.results D fr fr.defers (some v) m
 | _ => none
 else none
def iq (call : Call) (n : Nat) (e : iz) (args : List EV) (m : Mem) : Option Fin :=
 match e with
 | .go F => dr call n F args m
 | .ext g => (g args).map fun v => .ret v m
 | .pure g => (g args).map fun v => .ret v m
 | .spec g => g args m
 | .NA F D => jn call n F D args m
def aS (T : Nat -> Option iz) : Nat -> Call
 | 0, _, _, _ => none
 | n + 1, f, args, m => match T f with
  | some e => iq (aS T n) n e args m
  | none => none
end
section
def Ni : EV -> Bool
 | .undef | .agg _ | .tuple _ => false
 | _ => true
def cV : Nat -> Value -> Option EV
 | 0, _ => none
 | n + 1, v => match v with
  | .bool b => some (.bool b)
  | .int k x => some (.int k x)
  | .string s => some (.str s.data.toList)
  | .pointer none => some .bL
  | .slice none 0 0 => some .ae
  | .map none => some .bB
  | .nilFunc => some .aN
  | .nilIface => some .aC
  | .func (.func f) a c => match a.toList.mapM (cV n), c.toList.mapM (cV n) with
   | some x, some y => some (.func f x y)
   | _, _ => none
  | .iface t x => (cV n x).map (.iface t)
  | .agg cs => match cs.toList.mapM (cV n) with
   | some x => bif x.all Ni then some (.agg x) else none
   | none => none
  | .tuple vs => (vs.toList.mapM (cV n)).map .tuple
  | _ => none
def eZ (G : List Nat) : Operand -> Option aV
 | .tmp t => some (.tmp t)
 | .const v => (cV 30 v).map .const
 | .global g => bif G.contains g then some (.const (.ptr g 0)) else none
 | .func f => some (.const (.func f [] []))
def Ad (G : List Nat) (xs : List Operand) : Option (List aV) := xs.mapM (eZ G)
def J2 (G : List Nat) : Option Operand -> Option (Option aV)
 | none => some none
 | some x => (eZ G x).map some
section
variable (P : Program) (G : List Nat)
def xX (t : TypeId) : Option (Option Nat) :=
 match P.underlying t, P.info? t with
 | some (.struct _), some i | some (.array _ _), some i => some (some i.size)
 | some _, some _ => some none
 | _, _ => none
def fW (t : TypeId) : Option Nat := (P.info? t).map (·.size)
def GJ (t : TypeId) : Option EV := ((P.info? t).bind (·.zero)).bind (cV 30)
def nQ (t : TypeId) : Option (List EV) := (GJ P t).bind EV.cells
def nD : Nat -> TypeId -> Option sd
 | 0, _ => none
 | n + 1, t => match P.underlying t with
  | some .bool => some (.aJ 0)
  | some (.int _) => some (.aJ 1)
  | some .string => some (.aJ 2)
  | some (.pointer _) => some (.aJ 3)
  | some (.slice _) => some (.aJ 4)
  | some (.map _ _) => some (.aJ 5)
  | some (.func _ _ _) => some (.aJ 6)
  | some (.interface _) => some (.aJ 7)
  | some (.struct fs) =>
   bif P.stoodInHeld t then none else
   (fs.toList.mapM fun (f : Field) => match xX P f.type, nD n f.type with
    | some g, some e => bif f.name != "_" then some (g, f.offset, e) else none
    | _, _ => none).map .agg
  | _ => none
def LX (places : Nat -> Option (Nat × Nat)) (parts : List (Nat × Operand)) : Option (List (Nat × Nat × aV)) :=
 parts.mapM fun p => match places p.1, eZ G p.2 with
  | some (o, s), some x => some (o, s, x)
  | _, _ => none
def HZ (t : TypeId) : Option Nat :=
 match P.underlying t with
 | some .bool => some 0
 | some .string => some 1
 | some (.int _) => some 2
 | _ => none
def Mj (t : TypeId) : Option TypeId := match P.underlying t with | some (.slice e) => some e | _ => none
def Uf (t : TypeId) : Bool := match P.underlying t with | some (.slice _) | some .string => true | _ => false
def vg (b : Builtin) (argTypes : List TypeId) (args : List aV) : Option ls :=
 match b, argTypes, args with
 | .len, [t], [x] => match P.underlying t with
  | some .string => some (.eG x)
  | some (.slice _) => some (.len x)
  | some (.array n _) => some (.uT n)
  | some (.map _ _) => some (.qV x)
  | _ => none
 | .cap, [t], [x] => match P.underlying t with
  | some (.slice _) => some (.cap x)
  | _ => none
 | .max, _, args => some (.max args)
 | .min, _, args => some (.min args)
 | .append, [t, u], [s, x] => (Mj P t).bind fun e => (bif Uf P u then some () else none).bind fun _ => (P.info? e).bind fun i => (nQ P e).bind fun z =>
   (bif z.length.beq i.size then some () else none).bind fun _ => bif i.bytes.ble 65536 then some (.append e i.size i.bytes s x) else none
 | .copy, [t, _], [d, s] => match P.underlying t with
  | some (.slice e) => match fW P e with
   | some n => some (.copy n d s)
   | none => none
  | _ => none
 | .delete, [t, _], [m, k] => match P.underlying t with
  | some (.map kt _) => (HZ P kt).map fun c => .delete c m k
  | _ => none
 | _, _, _ => none
def uB (t : TypeId) : Option TypeId := match P.underlying t with | some (.slice e) => some e | _ => none
def Ay (t : TypeId) : Option (Nat × TypeId) := match P.underlying t with | some (.array n e) => some (n, e) | _ => none
def ye (t : TypeId) : Option (Array Field) := match P.underlying t with | some (.struct fs) => some fs | _ => none
def Ky (t : TypeId) : Option (TypeId × TypeId) := match P.underlying t with | some (.map k e) => some (k, e) | _ => none
def pL (t : TypeId) : Option Unit := match P.underlying t with | some .string => some () | _ => none
def PS (t : TypeId) : Option IntKind := match P.underlying t with | some (.int k) => some k | _ => none
def Kz (t : TypeId) : Option Unit := match P.underlying t with | some (.interface _) => some () | _ => none
def DL (t : TypeId) : Option Unit := match P.underlying t with | some (.interface _) => none | some _ => some () | none => none
def AG (b : Bool) : Option Unit := bif b then some () else none
def UL (neg : Bool) (t : TypeId) (x y : aV) : Option ls :=
 bif P.eqGuardType P.depth t then (Kz P t).map fun _ => .eq neg (.aJ 7) x y else (nD P 20 t).map fun e => .eq neg e x y
def Sm (x y : Option ls) : Option ls := match x with | some r => some r | none => y
def UK (o : Oper) : Option ls :=
 match o.op with
 | .move x => (eZ G x).map .ab
 | .assign x => (eZ G x).map .ab
 | .pick c a b => (eZ G c).bind fun c => (eZ G a).bind fun a => (eZ G b).map fun b => .pick c a b
 | .alloc e => (nQ P e).map (.alloc e)
 | .box e x => (eZ G x).map (.box e)
 | .build t parts => (nQ P t).bind fun z => Sm
   ((ye P t).bind fun fs => (AG (fs.toList.all fun f => (fW P f.type).isSome)).bind fun _ => (LX G (fun i => (fs[i]?).bind fun f => (fW P f.type).map fun s => (f.offset, s)) parts.toList).map (.build z))
   ((Ay P t).bind fun q => (fW P q.2).bind fun s => (LX G (fun i => some (i * s, s)) parts.toList).map (.build z))
 | .buildSlice t len parts => (uB P t).bind fun e => (fW P e).bind fun s => (nQ P e).bind fun z => (parts.toList.mapM (fun p => (eZ G p.2).map fun x => (p.1, x))).bind fun ps =>
   (AG (z.length.beq s)).bind fun _ => (AG ((len * s).ble 16777216)).map fun _ => .bD e s len z ps
 | .load t a => (xX P t).bind fun g => (eZ G a).map fun a => .load g a
 | .store t a x => (fW P t).bind fun s => (eZ G a).bind fun a => (eZ G x).map fun x => .store s a x
 | .nilCheck x => (eZ G x).map .cw
 | .binOp op t x y _ => (eZ G x).bind fun x => (eZ G y).bind fun y => match op with
   | .eql => UL P false t x y
   | .neq => UL P true t x y
   | op => some (.bin op x y)
 | .unOp op _ x => (eZ G x).map (.un op)
 | .convert s d x => (eZ G x).bind fun x => Sm
   ((DL P s).bind fun _ => (PS P d).map fun k => .conv (.int k) x)
   (Sm ((pL P s).bind fun _ => (pL P d).map fun _ => .conv .same x)
   (Sm ((pL P s).bind fun _ => (uB P d).bind fun e => (PS P e).bind fun k => (AG ((bY k).beq 4)).map fun _ => .conv (.bytes e) x)
    ((uB P s).bind fun e => (pL P d).bind fun _ => (PS P e).bind fun k => (AG ((bY k).beq 4)).map fun _ => .conv .text x)))
 | .makeInterface t x => (DL P t).bind fun _ => (eZ G x).map (.iface t)
 | .makeFunc (.func f) a c => (Ad G a.toList).bind fun a => (Ad G c.toList).map fun c => .BD f a c
 | .makeMap t none => (Ky P t).map fun _ => .uP
 | .makeMap t (some (.const (.int _ _))) => (Ky P t).map fun _ => .uP
 | .makeSlice t l c => (uB P t).bind fun e => (P.info? e).bind fun i => (nQ P e).bind fun z => (eZ G l).bind fun l => (eZ G c).bind fun c =>
   (AG (z.length.beq i.size)).bind fun _ => (AG (i.bytes.ble 65536)).map fun _ => .lE e i.size z l c
 | .slice t x lo hi mx => (AG (!(mx.isSome && hi.isNone))).bind fun _ => (eZ G x).bind fun x => (J2 G lo).bind fun lo => (J2 G hi).bind fun hi => (J2 G mx).bind fun mx => Sm
   ((Ay P t).bind fun q => (fW P q.2).map fun s => .xk q.1 s x lo hi mx)
   (Sm ((uB P t).bind fun e => (fW P e).map fun s => .uG s x lo hi mx)
    ((pL P t).bind fun _ => (AG mx.isNone).map fun _ => .jF x lo hi))
 | .fieldAddr s x f => (ye P s).bind fun fs => (eZ G x).bind fun x => (fs[f]?).bind fun f => (fW P f.type).bind fun s => (AG (Nat.ble 1 s)).map fun _ => .aj f.offset x
 | .field s x f => (ye P s).bind fun fs => (eZ G x).bind fun x => (fs[f]?).bind fun f => (xX P f.type).map fun g => .AS g f.offset x
 | .indexAddr t x i => (eZ G x).bind fun x => (eZ G i).bind fun i => Sm
   ((uB P t).bind fun e => (fW P e).map fun s => .eu s x i)
   ((Ay P t).bind fun q => (fW P q.2).map fun s => .nt q.1 s x i)
 | .index t x i => (eZ G x).bind fun x => (eZ G i).bind fun i => Sm
   ((pL P t).map fun _ => .gp x i)
   ((Ay P t).bind fun q => (fW P q.2).bind fun s => (xX P q.2).map fun g => .uV q.1 s g x i)
 | .lookup t m k ok => (Ky P t).bind fun q => (HZ P q.1).bind fun c => (GJ P q.2).bind fun z => (eZ G m).bind fun m => (eZ G k).map fun k => .lookup c z ok m k
 | .mapUpdate t m k x => (Ky P t).bind fun q => (HZ P q.1).bind fun c => (eZ G m).bind fun m => (eZ G k).bind fun k => (eZ G x).map fun x => .pd c m k x
 | .insert t m k x => (Ky P t).bind fun q => (HZ P q.1).bind fun c => (eZ G m).bind fun m => (eZ G k).bind fun k => (eZ G x).map fun x => .pd c m k x
 | .typeAssert x _ t false => (DL P t).bind fun _ => (eZ G x).map (.pP t)
 | .extract x i => (eZ G x).map fun x => .extract x i
 | .call c => (Ad G c.args.toList).bind fun a => match c.callee with
  | .builtin b => vg P b c.argTypes.toList a
  | _ => none
 | _ => none
def ER (o : Oper) : Option Aq :=
 match o.op with
 | .call ⟨.value f, xs, _⟩ => (Ad G xs.toList).bind fun a => (eZ G f).map fun f => .call f a
 | .defer ⟨.value f, xs, _⟩ => (Ad G xs.toList).bind fun a => (eZ G f).map fun f => .defer f a
 | .panic x => (eZ G x).map .panic
 | _ => (UK P G o).map .val
def UI (n : Nat) : Option Nat -> Bool
 | some d => Nat.ble (d + 1) n
 | none => true
def uj (n : Nat) (ops : Array Oper) (o : Oper) : Option aY :=
 match ER P G o with
 | none => none
 | some op => bif UI n o.dst then
   match o.guard with
   | none => some ⟨o.dst, op, none⟩
   | some (j, w) => match (ops[j]?).bind (·.dst) with
    | some t => some ⟨o.dst, op, some (t, w)⟩
    | none => none
  else none
def fH (e : Edge) : Bool := match e.ground with | .textOnly _ | .gcOnly _ => false | _ => true
def fo : List Oper -> List (List Nat) -> List (List Nat)
 | [], acc => acc
 | o :: r, acc => fo r (acc ++ [(o.after.toList.filter fH).flatMap fun e => e.on :: acc.getD e.on []])
def AH (BL : List Nat) : List Edge -> Nat
 | [] => 0
 | e :: r => bif fH e then (2 ^ e.on ||| BL.getD e.on 0) ||| AH BL r else AH BL r
def Ja : List Oper -> List Nat -> List Nat
 | [], acc => acc
 | o :: r, acc => Ja r (acc ++ [AH acc o.after.toList])
def named (o : aY) : List Nat :=
 o.dst.toList ++ tmpsOf (oR o.op) ++ (match o.guard with | some (t, _) => [t] | none => [])
def uZ : List Oper -> Nat -> Bool
 | [], _ => true
 | o :: r, i => (o.after.toList.all fun e => !fH e || Nat.ble (e.on + 1) i) && uZ r (i + 1)
def Mt (n : Nat) : List (Nat × Nat) := (List.range n).flatMap fun j => (List.range j).map fun i => (i, j)
def rX (ops : List Oper) (is : List aY) : Option (List (Nat × Nat)) :=
 let msk := Ja ops []
 let open_ := (Mt is.length).filter fun (i, j) => !(msk.getD j 0).testBit i
 let at_ (i : Nat) : Nat := ((is[i]?).map fun o => sort o.op).getD 3
 let nm (i : Nat) : List Nat := ((is[i]?).map named).getD []
 let dst (i : Nat) : Option Nat := (is[i]?).bind (·.dst)
 bif uZ ops 0 && open_.all fun (i, j) => !(at_ i == 3 && at_ j == 3) &&
   (match dst i with | some t => !(nm j).contains t | none => true) && (match dst j with | some t => !(nm i).contains t | none => true)
 then some (open_.flatMap fun (i, j) => bif at_ i == 2 && at_ j == 3 then [(i, j)] else bif at_ i == 3 && at_ j == 2 then [(j, i)] else [])
 else none
def fX (n : Nat) : Code -> Option aH
 | .skip => some .skip
 | .region _ ops false => (ops.toList.mapM (uj P G n ops)).map .region
 | .region _ ops true => match ops.toList.mapM (uj P G n ops) with
  | some is => (rX ops.toList is).map (.draw is)
  | none => none
 | .seq a b => match fX n a, fX n b with
  | some a, some b => some (.seq a b)
  | _, _ => none
 | .cond c a b => match eZ G c, fX n a, fX n b with
  | some c, some a, some b => some (.cond c a b)
  | _, _, _ => none
 | .block id a => (fX n a).map (.block id)
 | .loop a => (fX n a).map .loop
 | .exit id => some (.exit id)
 | .ret => some .ret
 | .scope a => fX n a
 | .label _ => some .skip
 | _ => none
def MO (o : Oper) : Bool := match o.op, o.guard with
 | .call ⟨.builtin .recover, xs, _⟩, none => xs.isEmpty
 | _, _ => false
def iP (n : Nat) : Code -> Option (Nat × aH)
 | .region _ ops false => match ops.toList with
  | o :: r => bif MO o then match o.dst with
    | some d => bif Nat.ble (d + 1) n then (r.mapM (uj P G n ops)).map fun is => (d, .region is) else none
    | none => none
   else none
  | [] => none
 | .seq a b => match iP n a, fX P G n b with
  | some (d, a), some b => some (d, .seq a b)
  | _, _ => none
 | _ => none
def Ac : ResultVar -> Option lV
 | .tmp t => some (.tmp t)
 | .cell a t => (xX P t).map (.cell a)
def cd (f : Func) : Option ax :=
 match f.body with
 | none => none
 | some c => bif f.name == "runtime.NumGoroutine" then none else match fX P G f.ntmps c, f.results.toList.mapM (Ac P) with
  | some b, some r => some ⟨f.ntmps, b, r⟩
  | _, _ => none
def ND (f : Func) : Option (Nat × ax) :=
 match f.body with
 | none => none
 | some c => bif f.name == "runtime.NumGoroutine" then none else match iP P G f.ntmps c, f.results.toList.mapM (Ac P) with
  | some (d, b), some r => some (d, ⟨f.ntmps, b, r⟩)
  | _, _ => none
end
def Qy (P : Program) (G : List Nat) (n : Nat) : Code -> List String
 | .region _ ops d => (ops.toList.filter fun o => (uj P G n ops o).isNone).map (fun o => o.pos ++ " op") ++
   (match ops.toList.mapM (uj P G n ops) with | some is => if d && (rX ops.toList is).isNone then ["an open order " ++ ((ops[0]?).map (·.pos)).getD ""] else [] | none => [])
 | .seq a b | .cond _ a b => Qy P G n a ++ Qy P G n b
 | .block _ a | .loop a | .scope a => Qy P G n a
 | .skip | .exit _ | .ret | .label _ => []
 | .goto _ => ["goto"]
 | .rangeFunc .. => ["rangeFunc"]
 | .refuse w => ["refuse " ++ w]
end
section
structure Loc where
 c9 : Nat
 off : Nat
 total : Nat
 esz : Nat
 ro : Bool
abbrev ep := Nat -> Option Loc
mutual
inductive VR (ρ : ep) : EV -> Value -> Prop
 | undef : VR ρ .undef undef
 | bool (b : Bool) : VR ρ (.bool b) (.bool b)
 | int (k : IntKind) (n : Int) : VR ρ (.int k n) (.int k n)
 | str (s : ByteArray) : VR ρ (.str s.data.toList) (.string s)
 | bL : VR ρ .bL (.pointer none)
 | ptr {b off : Nat} {L : Loc} (h : ρ b = some L) : VR ρ (.ptr b off) (.pointer (some ⟨L.c9, L.off + off, none⟩))
 | ae : VR ρ .ae (.slice none 0 0)
 | slice {b off len c o : Nat} {L : Loc} (h : ρ b = some L) (hc : len <= c) (ho : 0 < len -> o = L.off + off) (hr : L.ro = false -> o + c * L.esz <= L.total) :
   VR ρ (.slice b off len none) (.slice (some ⟨L.c9, o, none⟩) len c)
 | gJ {b off : Nat} {a : Addr} : VR ρ (.slice b off 0 (some 0)) (.slice (some a) 0 0)
 | fD {b off len c o : Nat} {L : Loc} (h : ρ b = some L) (hc : len <= c) (ho : 0 < c -> o = L.off + off) : VR ρ (.slice b off len (some c)) (.slice (some ⟨L.c9, o, none⟩) len c)
 | bB : VR ρ .bB (.map none)
 | map {b : Nat} {L : Loc} (h : ρ b = some L) : VR ρ (.map b) (.map (some L.c9))
 | aN : VR ρ .aN .nilFunc
 | func {f : Nat} {x y : List EV} {x' y' : List Value} (hx : ft ρ x x') (hy : ft ρ y y') : VR ρ (.func f x y) (.func (.func f) ⟨x'⟩ ⟨y'⟩)
 | aC : VR ρ .aC .nilIface
 | iface {t : Nat} {v : EV} {v' : Value} (h : VR ρ v v') : VR ρ (.iface t v) (.iface t v')
 | agg {x : List EV} {x' : List Value} (h : ft ρ x x') (hf : ∀ c ∈ x', c.oneCell' = true) : VR ρ (.agg x) (.agg ⟨x'⟩)
 | tuple {x : List EV} {x' : List Value} (h : ft ρ x x') : VR ρ (.tuple x) (.tuple ⟨x'⟩)
inductive ft (ρ : ep) : List EV -> List Value -> Prop
 | nil : ft ρ [] []
 | cons {v : EV} {v' : Value} {x : List EV} {x' : List Value} (h : VR ρ v v') (hs : ft ρ x x') : ft ρ (v :: x) (v' :: x')
end
def Ext (ρ ρ' : ep) : Prop := ∀ b L, ρ b = some L -> ρ' b = some L
theorem Ext.refl (ρ : ep) : Ext ρ ρ := fun _ _ h => h
theorem Ext.trans {ρ ρ' ρ'' : ep} (h : Ext ρ ρ') (h' : Ext ρ' ρ'') : Ext ρ ρ'' := fun b L e => h' b L (h b L e)
mutual
theorem VR.ext {ρ ρ' : ep} (e : Ext ρ ρ') : ∀ {v : EV} {v' : Value}, VR ρ v v' -> VR ρ' v v'
 | _, _, .undef => .undef
 | _, _, .bool b => .bool b
 | _, _, .int k n => .int k n
 | _, _, .str s => .str s
 | _, _, .bL => .bL
 | _, _, .ptr h => .ptr (e _ _ h)
 | _, _, .ae => .ae
 | _, _, .slice h hc ho hr => .slice (e _ _ h) hc ho hr
 | _, _, .fD h hc ho => .fD (e _ _ h) hc ho
 | _, _, .gJ => .gJ
 | _, _, .bB => .bB
 | _, _, .map h => .map (e _ _ h)
 | _, _, .aN => .aN
 | _, _, .func hx hy => .func (ft.ext e hx) (ft.ext e hy)
 | _, _, .aC => .aC
 | _, _, .iface h => .iface (VR.ext e h)
 | _, _, .agg h hf => .agg (ft.ext e h) hf
 | _, _, .tuple h => .tuple (ft.ext e h)
theorem ft.ext {ρ ρ' : ep} (e : Ext ρ ρ') : ∀ {x : List EV} {x' : List Value}, ft ρ x x' -> ft ρ' x x'
 | _, _, .nil => .nil
 | _, _, .cons h hs => .cons (VR.ext e h) (ft.ext e hs)
end
theorem ft.length {ρ : ep} : ∀ {x : List EV} {x' : List Value}, ft ρ x x' -> x.length = x'.length
 | _, _, .nil => rfl
 | _, _, .cons _ hs => by simp [ft.length hs]
theorem ft.get {ρ : ep} : ∀ {x : List EV} {x' : List Value}, ft ρ x x' -> ∀ (i : Nat) (v : EV), x[i]? = some v -> ∃ v', x'[i]? = some v' /\ VR ρ v v'
 | _, _, .nil, i, v, h => by simp at h
 | _, _, .cons (v := a) (v' := a') h0 hs, i, v, h => by
  cases i with
  | zero => simp at h; subst h; exact ⟨a', rfl, h0⟩
  | succ i => simp at h; obtain ⟨v', hv, hr⟩ := hs.get i v h; exact ⟨v', by simpa using hv, hr⟩
theorem ft.qR {ρ : ep} : ∀ {x : List EV} {x' : List Value}, x.length = x'.length -> (∀ (i : Nat) (v : EV) (v' : Value), x[i]? = some v -> x'[i]? = some v' -> VR ρ v v') -> ft ρ x x'
 | [], [], _, _ => .nil
 | [], _ :: _, h, _ => by simp at h
 | _ :: _, [], h, _ => by simp at h
 | a :: x, a' :: x', h, hg => .cons (hg 0 a a' rfl rfl) (ft.qR (by simpa using h) fun i v v' hv rJ => hg (i + 1) v v' (by simpa using hv) (by simpa using rJ))
theorem ft.append {ρ : ep} : ∀ {x y : List EV} {x' y' : List Value}, ft ρ x x' -> ft ρ y y' -> ft ρ (x ++ y) (x' ++ y')
 | _, _, _, _, .nil, h => h
 | _, _, _, _, .cons h hs, k => .cons h (hs.append k)
theorem ft.take {ρ : ep} {x : List EV} {x' : List Value} (h : ft ρ x x') (n : Nat) : ft ρ (x.take n) (x'.take n) := by
 refine ft.qR (by simp [h.length]) fun i v v' hv rJ => ?_
 rw [List.getElem?_take] at hv rJ
 split at hv
 ·obtain ⟨u, hu, hr⟩ := h.get i v hv
  rename_i bt
  rw [if_pos bt] at rJ
  rw [hu] at rJ; cases rJ; exact hr
 ·cases hv
theorem ft.drop {ρ : ep} {x : List EV} {x' : List Value} (h : ft ρ x x') (n : Nat) : ft ρ (x.drop n) (x'.drop n) := by
 refine ft.qR (by simp [h.length]) fun i v v' hv rJ => ?_
 rw [List.getElem?_drop] at hv rJ
 obtain ⟨u, hu, hr⟩ := h.get _ v hv
 rw [hu] at rJ; cases rJ; exact hr
theorem ft.Hn {ρ : ep} {α β : Type} (f : α -> EV) (g : β -> Value) {R : α -> β -> Prop} (hfg : ∀ a b, R a b -> VR ρ (f a) (g b)) : ∀ {l : List α} {l' : List β}, l.length = l'.length -> (∀ (i : Nat) (a : α) (b : β), l[i]? = some a -> l'[i]? = some b -> R a b) -> ft ρ (l.map f) (l'.map g)
 | [], [], _, _ => .nil
 | [], _ :: _, h, _ => by simp at h
 | _ :: _, [], h, _ => by simp at h
 | a :: x, a' :: x', h, hg => .cons (hfg _ _ (hg 0 a a' rfl rfl)) (ft.Hn f g hfg (by simpa using h) fun i v v' hv rJ => hg (i + 1) v v' (by simpa using hv) (by simpa using rJ))
def Live (m : Mem) (b : Nat) : Prop := m.get b ≠ .dead
def Px (fz : Nat × Nat) (n : Nat) : Prop := ∀ i, i < n -> ¬ (fz.1 <= i /\ i < fz.2)
def V8 (ρ : ep) (e : EV × EV) (d : MapEntry) : Prop := VR ρ e.1 d.key /\ VR ρ e.2 d.val
def A7 (base : Nat) (ρ : ep) (B : fQ) (L : Loc) (w : World) : Prop :=
 match B with
 | .dead => True
 | .cells cs esz _ ro => ∃ arr e fz, w.heap[L.c9]? = some (.cells arr e fz) /\ arr.size = L.total /\ L.esz = esz /\ L.ro = ro /\ L.off + cs.length <= L.total /\
   (∀ (i : Nat) (v : EV), cs[i]? = some v -> ∃ v', arr[L.off + i]? = some v' /\ VR ρ v v' /\ v'.oneCell' = true) /\
   (ro = false -> base <= L.c9 /\ Px fz arr.size) /\ (ro = true -> L.c9 < base)
 | .map es => ∃ ds c, w.heap[L.c9]? = some (.map ds c) /\ es.length = ds.size /\ (∀ (i : Nat) (e : EV × EV) (d : MapEntry), es[i]? = some e -> ds[i]? = some d -> V8 ρ e d) /\ base <= L.c9 /\ L.ro = false
structure R (base : Nat) (ρ : ep) (m : Mem) (w : World) : Prop where
 lt : ∀ b L, ρ b = some L -> b < m.next
 c9 : ∀ b L, ρ b = some L -> A7 base ρ (m.get b) L w
 inj : ∀ b c L L', ρ b = some L -> ρ c = some L' -> Live m b -> Live m c -> L.ro = false -> L.c9 = L'.c9 -> b = c
 base : base <= w.heap.size
 clean : ∀ b, m.next <= b -> m.get b = .dead
def KO (ρ : ep) (m : Mem) (i : Nat) : Prop := ∃ b L, ρ b = some L /\ Live m b /\ L.ro = false /\ L.c9 = i
structure Step (ρ : ep) (m : Mem) (w : World) (ρ' : ep) (m' : Mem) (w' : World) : Prop where
 ext : Ext ρ ρ'
 new : ∀ b, ρ b = none -> ρ' b ≠ none -> m.next <= b
 next : m.next <= m'.next
 same : ∀ b, b < m.next -> ρ b = none -> m'.get b = m.get b
 dead : ∀ b, b < m.next -> m.get b = .dead -> m'.get b = .dead
 size : w.heap.size <= w'.heap.size
 KO : ∀ i, i < w.heap.size -> KO ρ' m' i -> KO ρ m i
 kept : ∀ i, i < w.heap.size -> ¬ Ev.KO ρ m i -> w'.heap[i]? = w.heap[i]?
 os : w'.os = w.os
 tape : w'.tape = w.tape
 output : w'.output = w.output
theorem Step.refl (ρ : ep) (m : Mem) (w : World) : Step ρ m w ρ m w :=
 ⟨.refl ρ, fun _ h h' => absurd h h', fh _, fun _ _ _ => rfl, fun _ _ h => h, fh _, fun _ _ h => h, fun _ _ _ => rfl, rfl, rfl, rfl⟩
theorem Step.trans {ρ ρ1 ρ2 : ep} {m m1 m2 : Mem} {w w1 w2 : World} (h : Step ρ m w ρ1 m1 w1) (k : Step ρ1 m1 w1 ρ2 m2 w2) : Step ρ m w ρ2 m2 w2 := by
 refine ⟨h.ext.trans k.ext, ?_, pJ h.next k.next, ?_, fun b hb hd => k.dead b (mn hb h.next) (h.dead b hb hd), pJ h.size k.size, ?_, ?_, k.os.trans h.os, k.tape.trans h.tape, k.output.trans h.output⟩
 ·intro b hb Ru
  cases e : ρ1 b with
  | none => exact pJ h.next (k.new b e Ru)
  | some L => exact h.new b hb (by rw [e]; simp)
 ·intro b hb hn
  have h1 : ρ1 b = none := by
   cases e : ρ1 b with
   | none => rfl
   | some L => have := h.new b hn (by rw [e]; simp); omega
  rw [k.same b (mn hb h.next) h1, h.same b hb hn]
 ·intro i hi hr
  exact h.KO i hi (k.KO i (mn hi h.size) hr)
 ·intro i hi hr
  rw [k.kept i (mn hi h.size) (fun Vs => hr (h.KO i hi Vs)), h.kept i hi hr]
theorem Mem.bW (m : Mem) (b c : Nat) (x : fQ) : (m.set b x).get c = if c = b then x else m.get c := by
 unfold Mem.get Mem.set;simp only [Tr.bW]
 split <;> rfl
theorem Mem.fm (m : Mem) (c : Nat) (x : fQ) : (m.new x).get c = if c = m.next then x else m.get c := by
 unfold Mem.get Mem.new;simp only [Tr.bW]
 split <;> rfl
theorem Mem.js (m : Mem) (x : fQ) : (m.new x).next = m.next + 1 := rfl
theorem Mem.cf (m : Mem) (b : Nat) (x : fQ) : (m.set b x).next = m.next := rfl
structure E8 (w w' : World) : Prop where
 heap : w'.heap = w.heap
 os : w'.os = w.os
 tape : w'.tape = w.tape
 output : w'.output = w.output
theorem E8.refl (w : World) : E8 w w := ⟨rfl, rfl, rfl, rfl⟩
theorem A7.of_heap {base : Nat} {ρ ρ' : ep} (e : Ext ρ ρ') {B : fQ} {L : Loc} {w w' : World} (hh : w'.heap[L.c9]? = w.heap[L.c9]?) (h : A7 base ρ B L w) : A7 base ρ' B L w' := by
 unfold A7 at *
 cases B with
 | dead => trivial
 | cells cs esz el ro =>
  obtain ⟨arr, e', fz, h1, h2, h3, h4, h5, h6, h7⟩ := h
  refine ⟨arr, e', fz, by rw [hh]; exact h1, h2, h3, h4, h5, fun i v hv => ?_, h7⟩
  obtain ⟨v', g1, g2, g3⟩ := h6 i v hv
  exact ⟨v', g1, g2.ext e, g3⟩
 | map es =>
  obtain ⟨ds, c, h1, h2, h3, h4⟩ := h
  exact ⟨ds, c, by rw [hh]; exact h1, h2, fun i a d ha hd => ⟨(h3 i a d ha hd).1.ext e, (h3 i a d ha hd).2.ext e⟩, h4⟩
theorem R.quiet {base : Nat} {ρ : ep} {m : Mem} {w w' : World} (q : E8 w w') (h : R base ρ m w) : R base ρ m w' :=
 ⟨h.lt, fun b L hb => (h.c9 b L hb).of_heap (.refl ρ) (by rw [q.heap]), h.inj, by rw [q.heap]; exact h.base, h.clean⟩
theorem Step.quiet {ρ : ep} {m : Mem} {w w' : World} (q : E8 w w') : Step ρ m w ρ m w' :=
 ⟨.refl ρ, fun _ h h' => absurd h h', fh _, fun _ _ _ => rfl, fun _ _ h => h, by rw [q.heap]; exact fh _, fun _ _ h => h, fun _ _ _ => by rw [q.heap], q.os, q.tape, q.output⟩
structure Ih (w : World) (o : Obj) (w' : World) : Prop where
 heap : w'.heap = w.heap.push o
 os : w'.os = w.os
 tape : w'.tape = w.tape
 output : w'.output = w.output
theorem Ih.old {w w' : World} {o : Obj} (g : Ih w o w') (i : Nat) (h : i < w.heap.size) : w'.heap[i]? = w.heap[i]? := by
 rw [g.heap, Array.getElem?_push]; simp; omega
theorem Ih.new {w w' : World} {o : Obj} (g : Ih w o w') : w'.heap[w.heap.size]? = some o := by rw [g.heap]; simp
theorem A7.lt {base : Nat} {ρ : ep} {B : fQ} {L : Loc} {w : World} (h : A7 base ρ B L w) (hl : B ≠ .dead) : L.c9 < w.heap.size := by
 cases B with
 | dead => exact absurd rfl hl
 | cells cs esz el ro => obtain ⟨arr, e', fz, h1, _⟩ := h; exact (Array.getElem?_eq_some_iff.1 h1).1
 | map es => obtain ⟨ds, c, h1, _⟩ := h; exact (Array.getElem?_eq_some_iff.1 h1).1
def ep.put (ρ : ep) (b : Nat) (L : Loc) : ep := fun c => if c = b then some L else ρ c
theorem ep.HL {ρ : ep} {b : Nat} (L : Loc) (h : ρ b = none) : Ext ρ (ρ.put b L) := by
 intro c M hc
 unfold ep.put;by_cases e : c = b
 ·subst e; rw [h] at hc; cases hc
 ·rw [if_neg e]; exact hc
theorem R.Uk {base : Nat} {ρ : ep} {m : Mem} {w : World} (h : R base ρ m w) : ρ m.next = none := by
 cases e : ρ m.next with
 | none => rfl
 | some L => have := h.lt _ _ e; omega
structure RN (base : Nat) (ρ : ep) (m : Mem) (w : World) : Prop where
 free : ρ m.next = none
 c9 : ∀ b L, ρ b = some L -> A7 base ρ (m.get b) L w
 inj : ∀ b c L L', ρ b = some L -> ρ c = some L' -> Live m b -> Live m c -> L.ro = false -> L.c9 = L'.c9 -> b = c
 base : base <= w.heap.size
theorem R.n {base : Nat} {ρ : ep} {m : Mem} {w : World} (h : R base ρ m w) : RN base ρ m w := ⟨h.Uk, h.c9, h.inj, h.base⟩
structure Made (base : Nat) (ρ : ep) (m : Mem) (w : World) (ρ' : ep) (B : fQ) (w' : World) : Prop where
 c9 : ∀ b L, ρ' b = some L -> A7 base ρ' ((m.new B).get b) L w'
 inj : ∀ b c L L', ρ' b = some L -> ρ' c = some L' -> Live (m.new B) b -> Live (m.new B) c -> L.ro = false -> L.c9 = L'.c9 -> b = c
 base : base <= w'.heap.size
 ext : Ext ρ ρ'
 Yi : ∀ b, b ≠ m.next -> ρ' b = ρ b
 loc : ∃ L, ρ' m.next = some L /\ L.c9 = w.heap.size
 size : w'.heap.size = w.heap.size + 1
 old : ∀ i, i < w.heap.size -> w'.heap[i]? = w.heap[i]?
 os : w'.os = w.os
 tape : w'.tape = w.tape
 output : w'.output = w.output
theorem I3 {base : Nat} {ρ : ep} {m : Mem} {w w' : World} (h : RN base ρ m w) (B : fQ) (o : Obj) (g : Ih w o w') (L : Loc) (hb : L.c9 = w.heap.size)
  (hB : A7 base (ρ.put m.next L) B L w') : Made base ρ m w (ρ.put m.next L) B w' := by
 have hn := h.free
 have he := ep.HL L hn
 have uf : w'.heap.size = w.heap.size + 1 := by rw [g.heap]; simp
 have Hs : ∀ b M, ρ b = some M -> Live m b -> M.c9 < w.heap.size := fun b M hM hl => (h.c9 b M hM).lt hl
 have iB : ∀ b, b ≠ m.next -> (m.new B).get b = m.get b := fun b iQ => by rw [Mem.fm, if_neg iQ]
 refine ⟨?_, ?_, ?_, he, fun b iQ => if_neg iQ, ⟨L, if_pos rfl, hb⟩, uf, fun i hi => g.old i hi, g.os, g.tape, g.output⟩
 ·intro b M hM
  unfold ep.put at hM;by_cases e : b = m.next
  ·rw [if_pos e] at hM; cases hM
   rw [Mem.fm, if_pos e]; exact hB
  ·rw [if_neg e] at hM
   rw [iB b e];by_cases hl : m.get b = .dead
   ·rw [hl]; trivial
   ·exact (h.c9 b M hM).of_heap he (g.old _ (Hs b M hM hl))
 ·intro b c M M' hM HF hl zk qW xi
  unfold ep.put at hM HF
  by_cases e : b = m.next <;> by_cases e' : c = m.next
  ·rw [e, e']
  ·rw [if_pos e] at hM; cases hM
   rw [if_neg e'] at HF
   have := Hs c M' HF (by unfold Live at zk ⊢; rwa [iB c e'] at zk)
   omega
  ·rw [if_pos e'] at HF; cases HF
   rw [if_neg e] at hM;have := Hs b M hM (by unfold Live at hl ⊢; rwa [iB b e] at hl)
   omega
  ·rw [if_neg e] at hM; rw [if_neg e'] at HF
   exact h.inj b c M M' hM HF (by unfold Live at hl ⊢; rwa [iB b e] at hl) (by unfold Live at zk ⊢; rwa [iB c e'] at zk) qW xi
 ·have := h.base; omega
theorem Made.whole {base : Nat} {ρ ρ' : ep} {m : Mem} {w w' : World} {B : fQ} (h : R base ρ m w) (k : Made base ρ m w ρ' B w') : R base ρ' (m.new B) w' /\ Step ρ m w ρ' (m.new B) w' := by
 have iB : ∀ b, b ≠ m.next -> (m.new B).get b = m.get b := fun b iQ => by rw [Mem.fm, if_neg iQ]
 refine ⟨⟨?_, k.c9, k.inj, k.base, fun b hb => by rw [Mem.js] at hb; rw [iB b (by omega)]; exact h.clean b (by omega)⟩, ⟨k.ext, ?_, ?_, ?_, fun b hb hd => by rw [iB b (by omega)]; exact hd, by have := k.size; omega, ?_, fun i hi _ => k.old i hi, k.os, k.tape, k.output⟩⟩
 ·intro b M hM
  rw [Mem.js];by_cases e : b = m.next
  ·omega
  ·rw [k.Yi b e] at hM; have := h.lt b M hM; omega
 ·intro b AP Ru
  by_cases e : b = m.next
  ·omega
  ·rw [k.Yi b e] at Ru; exact absurd AP Ru
 ·rw [Mem.js]; omega
 ·intro b bt _
  exact iB b (by omega)
 ·rintro i hi ⟨b, M, hM, hl, qW, xi⟩
  by_cases e : b = m.next
  ·subst e
   obtain ⟨L, h1, h2⟩ := k.loc
   rw [h1] at hM; cases hM; omega
  ·rw [k.Yi b e] at hM
   exact ⟨b, M, hM, by unfold Live at hl ⊢; rwa [iB b e] at hl, qW, xi⟩
end
section
theorem run_typeInfo {P : Program} {t : TypeId} {i : TypeInfo} (h : P.info? t = some i) (w : World) : (typeInfo t).run P w = .ok i w := by
 simp [typeInfo, h]
theorem b8 {P : Program} {t : TypeId} {n : Nat} (h : fW P t = some n) (w : World) : (sizeOf t).run P w = .ok n w := by
 unfold fW at h;obtain ⟨i, hi, rfl⟩ := j6.1 h
 simp [sizeOf, run_typeInfo hi]
theorem Gl {P : Program} {t : TypeId} {g : Option Nat} (h : xX P t = some g) (w : World) :
  (isAgg t).run P w = .ok g.isSome w /\ ∀ n, g = some n -> (sizeOf t).run P w = .ok n w := by
 unfold xX at h
 cases hu : P.underlying t with
 | none => rw [hu] at h; simp at h
 | some d =>
  cases hi : P.info? t with
  | none => rw [hu, hi] at h; cases d <;> simp at h
  | some i =>
   rw [hu, hi] at h;have hs : (sizeOf t).run P w = .ok i.size w := by simp [sizeOf, run_typeInfo hi]
   cases d <;> simp at h <;> subst h <;> simp [isAgg, run_underlying hu] <;> exact hs
theorem NC {w : World} {b o : Nat} {arr : Array Value} {e : TypeId} {fz : Nat × Nat} (h : w.heap[b]? = some (.cells arr e fz)) : w.cell? ⟨b, o, none⟩ = arr[o]? := by
 simp [World.cell?, h]
theorem O1 {w : World} {b o : Nat} {arr : Array Value} {e : TypeId} {fz : Nat × Nat} (h : w.heap[b]? = some (.cells arr e fz)) (hf : Px fz arr.size) (ho : o < arr.size) : w.frozen? ⟨b, o, none⟩ = false := by
 have := hf o ho
 simp [World.frozen?, h]
 omega
section
variable {base : Nat} {ρ : ep} {m : Mem} {w : World}
theorem R.cell (h : R base ρ m w) {b : Nat} {L : Loc} (hb : ρ b = some L) {cs : List EV} {esz el : Nat} {ro : Bool} (hg : m.get b = .cells cs esz el ro) (i : Nat) (v : EV) (hi : cs[i]? = some v) :
  ∃ v', w.cell? ⟨L.c9, L.off + i, none⟩ = some v' /\ VR ρ v v' /\ v'.oneCell' = true := by
 have := h.c9 b L hb
 rw [hg] at this;obtain ⟨arr, e, fz, h1, _, _, _, _, h6, _⟩ := this
 obtain ⟨v', g1, g2, g3⟩ := h6 i v hi
 exact ⟨v', by rw [NC h1]; exact g1, g2, g3⟩
theorem R.cells (h : R base ρ m w) {b : Nat} {L : Loc} (hb : ρ b = some L) {cs : List EV} {esz el : Nat} {ro : Bool} (hg : m.get b = .cells cs esz el ro) (off n : Nat) (hl : off + n <= cs.length) :
  ∃ vs : List Value, vs.length = n /\ (∀ j, j < n -> w.cell? ⟨L.c9, L.off + off + j, none⟩ = vs[j]?) /\ ft ρ ((cs.drop off).take n) vs /\ ∀ c ∈ vs, c.oneCell' = true := by
 induction n generalizing off with
 | zero => exact ⟨[], rfl, fun j hj => absurd hj (by omega), by simpa using ft.nil, by simp⟩
 | succ n ih =>
  obtain ⟨vs, h1, h2, h3, h4⟩ := ih (off + 1) (by omega)
  have bt : off < cs.length := by omega
  obtain ⟨v', g1, g2, g3⟩ := h.cell hb hg off cs[off] (mZ bt)
  refine ⟨v' :: vs, by simp [h1], ?_, ?_, ?_⟩
  ·intro j hj
   cases j with
   | zero => simpa using g1
   | succ j => have := h2 j (by omega); rw [show L.off + off + (j + 1) = L.off + (off + 1) + j by omega]; simpa using this
  ·rw [List.drop_eq_getElem_cons bt, List.take_succ_cons]
   exact .cons g2 h3
  ·intro c hc
   rcases oQ.1 hc with rfl | hc
   ·exact g3
   ·exact h4 c hc
end
theorem qi {P : Program} {w : World} {b o : Nat} : ∀ (vs : List Value) (i : Nat) (acc : Array Value), (∀ j, j < vs.length -> w.cell? ⟨b, o + i + j, none⟩ = vs[j]?) ->
  (loadCellsFrom ⟨b, o, none⟩ i vs.length acc).run P w = .ok (acc ++ (⟨vs⟩ : Array Value)) w
 | [], i, acc, _ => by simp [loadCellsFrom]
 | v :: vs, i, acc, h => by
  have h0 := h 0 (by simp)
  simp at h0
  have ih := qi (P := P) (w := w) (b := b) (o := o) vs (i + 1) (acc.push v) (fun j hj => by
   have := h (j + 1) (by simpa using hj)
   rw [show o + (i + 1) + j = o + i + (j + 1) by omega]; simpa using this)
  simp only [List.length_cons, loadCellsFrom, Sem.run_bind, run_load, Addr.add_lit, h0, Result.andThen_ok, ih]
  congr 1
  simp
theorem xq {P : Program} {w : World} {b o : Nat} (vs : List Value) (n : Nat) (hn : vs.length = n) (h : ∀ j, j < n -> w.cell? ⟨b, o + j, none⟩ = vs[j]?) :
  (loadCells ⟨b, o, none⟩ n).run P w = .ok ⟨vs⟩ w := by
 subst hn;have := qi (P := P) (w := w) (b := b) (o := o) vs 0 #[] (fun j hj => by simpa using h j hj)
 simpa [loadCells] using this
section
variable {base : Nat} {ρ : ep} {m : Mem} {w : World} {P : Program}
theorem xp (hR : R base ρ m w) {t : TypeId} {g : Option Nat} (hg : xX P t = some g) {e v : EV} {a' : Value} (ha : VR ρ e a') (h : m.load g e = some v) :
  ∃ a v', a' = .pointer (some a) /\ (loadVar t a).run P w = .ok v' w /\ VR ρ v v' := by
 cases e <;> simp [Mem.load] at h
 case fF => cases ha
 rename_i b off
 cases ha with
 | @ptr _ _ L hb =>
 refine ⟨⟨L.c9, L.off + off, none⟩, ?_⟩
 cases hm : m.get b with
 | dead => simp [hm] at h
 | map es => simp [hm] at h
 | cells cs esz el ro =>
  simp [hm] at h
  obtain ⟨XU, uf⟩ := Gl hg w
  cases g with
  | none =>
   simp [partOf] at h
   obtain ⟨v', h1, h2, _⟩ := hR.cell hb hm off v (by simpa using h)
   exact ⟨v', rfl, by simp [loadVar, XU, h1], h2⟩
  | some n =>
   simp only [partOf] at h
   cases hl : (off + n).ble cs.length <;> simp [hl] at h
   subst h;obtain ⟨vs, h1, h2, h3, h4⟩ := hR.cells hb hm off n (qP hl)
   refine ⟨.agg ⟨vs⟩, rfl, ?_, .agg h3 h4⟩
   simp [loadVar, XU, uf n rfl, xq vs n h1 h2]
theorem F7 (hR : R base ρ m w) {b off n : Nat} {L : Loc} (hb : ρ b = some L) {xs : List EV} (h : m.row b off n = some xs) :
  ∃ vs : List Value, vs.length = n /\ xs.length = n /\ (loadCells ⟨L.c9, L.off + off, none⟩ n).run P w = .ok ⟨vs⟩ w /\ ft ρ xs vs /\ ∀ c ∈ vs, c.oneCell' = true := by
 by_cases hn : n = 0
 ·subst hn
  rw [Mem.ng] at h; cases h
  exact ⟨[], rfl, rfl, rfl, .nil, by simp⟩
 rw [Mem.pX hn] at h;unfold Mem.G9 at h
 cases hm : m.get b with
 | dead => simp [hm] at h
 | map es => simp [hm] at h
 | cells cs esz el ro =>
  simp only [hm] at h
  cases hl : (off + n).ble cs.length <;> simp [hl] at h
  have zk := qP hl
  obtain ⟨vs, h1, h2, h3, h4⟩ := hR.cells hb hm off n zk
  refine ⟨vs, h1, ?_, xq vs n h1 h2, h ▸ h3, h4⟩
  subst h; simp; omega
theorem R.P8 {m1 : Mem} (hR : R base ρ m w) (hn : m1.next = m.next) (hg : ∀ b, m1.get b = m.get b) : R base ρ m1 w /\ Step ρ m w ρ m1 w := by
 have hl : ∀ b, Live m1 b ↔ Live m b := fun b => by unfold Live; rw [hg]
 refine ⟨⟨fun b L h => by rw [hn]; exact hR.lt b L h, fun b L h => by rw [hg]; exact hR.c9 b L h, fun b c L L' h1 h2 h3 h4 => hR.inj b c L L' h1 h2 ((hl b).1 h3) ((hl c).1 h4), hR.base, fun b h => by rw [hg]; exact hR.clean b (by rw [<- hn]; exact h)⟩,
  ⟨.refl ρ, fun _ h h' => absurd h h', by rw [hn]; exact fh _, fun b _ _ => hg b, fun b _ h => by rw [hg]; exact h, fh _, fun i _ h => ?_, fun _ _ _ => rfl, rfl, rfl, rfl⟩⟩
 obtain ⟨b, L, h1, h2, h3, h4⟩ := h
 exact ⟨b, L, h1, (hl b).1 h2, h3, h4⟩
theorem NO {m m1 : Mem} {b off : Nat} (h : m.write b off [] = some m1) : m1.next = m.next /\ ∀ c, m1.get c = m.get c := by
 unfold Mem.write at h
 cases hm : m.get b with
 | dead => simp [hm] at h
 | map es => simp [hm] at h
 | cells cs e t ro =>
  simp only [hm] at h
  cases ro <;> simp only [cond_true, cond_false, reduceCtorEq] at h
  obtain ⟨cs1, h1, rfl⟩ := j6.1 h
  unfold jb at h1
  cases hl : (off + ([] : List EV).length).ble cs.length <;> simp only [hl, cond_true, cond_false, reduceCtorEq, bc] at h1
  have : cs1 = cs := by rw [<- h1]; simp
  subst this;refine ⟨rfl, fun c => ?_⟩
  rw [Mem.bW]
  split
  ·rename_i e; subst e; exact hm.symm
  ·rfl
theorem oT {b o : Nat} {e : TypeId} {fz : Nat × Nat} : ∀ (vs : List Value) (i : Nat) (w : World) (arr : Array Value), w.heap[b]? = some (.cells arr e fz) -> o + i + vs.length <= arr.size -> Px fz arr.size ->
  (∀ c ∈ vs, c.oneCell' = true) -> ∃ w' H6, (storeCells ⟨b, o, none⟩ vs i).run P w = .ok () w' /\ w'.heap[b]? = some (.cells H6 e fz) /\ H6.size = arr.size /\
   (∀ j, H6[j]? = if o + i <= j /\ j < o + i + vs.length then vs[j - (o + i)]? else arr[j]?) /\ (∀ k, k ≠ b -> w'.heap[k]? = w.heap[k]?) /\ w'.heap.size = w.heap.size /\ w'.os = w.os /\ w'.tape = w.tape /\ w'.output = w.output
 | [], i, w, arr, h, _, _, _ => ⟨w, arr, rfl, h, rfl, fun j => by rw [if_neg (fun h => by have h2 := h.2; simp at h2; omega)], fun _ _ => rfl, rfl, rfl, rfl, rfl⟩
 | v :: vs, i, w, arr, h, hl, hf, hv => by
  simp at hl
  have bt : o + i < arr.size := by omega
  have hc : w.cell? ⟨b, o + i, none⟩ = some arr[o + i] := by rw [NC h, Array.getElem?_eq_getElem bt]
  have WC := O1 h hf bt
  have hv0 := hv v (by simp)
  have hbw : b < w.heap.size := (Array.getElem?_eq_some_iff.1 h).1
  have XN : (w.setCell ⟨b, o + i, none⟩ v).heap[b]? = some (.cells (arr.setIfInBounds (o + i) v) e fz) := by
   simp [World.setCell, Array.getElem?_modify, h]
  have HB : ∀ k, k ≠ b -> (w.setCell ⟨b, o + i, none⟩ v).heap[k]? = w.heap[k]? := by
   intro k hk
   simp [World.setCell, Array.getElem?_modify, Ne.symm hk]
  obtain ⟨w', H6, r1, r2, r3, r4, r5, r6, r7, r8, r9⟩ := oT (b := b) (o := o) vs (i + 1) (w.setCell ⟨b, o + i, none⟩ v) (arr.setIfInBounds (o + i) v) XN (by simp; omega) (by simpa using hf) (fun c hc => hv c (by simp [hc]))
  refine ⟨w', H6, ?_, r2, by simpa using r3, ?_, fun k hk => (r5 k hk).trans (HB k hk), by simpa using r6, r7, r8, r9⟩
  ·simp only [storeCells, Sem.run_bind, Addr.add_lit, run_store P w _ v _ hv0, hc, WC, if_false, Result.andThen_ok, re]
   exact r1
  ·intro j
   rw [r4 j];by_cases hj : j = o + i
   ·subst hj
    rw [if_neg (by omega), if_pos (by simp)];simp [bt]
   ·by_cases VC : o + (i + 1) <= j /\ j < o + (i + 1) + vs.length
    ·rw [if_pos VC, if_pos (by simp; omega)]
     rw [show j - (o + i) = (j - (o + (i + 1))) + 1 by omega];simp
    ·rw [if_neg VC, if_neg (by simp; omega)]
     rw [Array.getElem?_setIfInBounds_ne (by omega)]
end
theorem DS {cs vs ds : List EV} {off : Nat} (h : jb cs off vs = some ds) : ds.length = cs.length /\ off + vs.length <= cs.length /\
  ∀ j, ds[j]? = if off <= j /\ j < off + vs.length then vs[j - off]? else cs[j]? := by
 unfold jb at h
 cases hl : (off + vs.length).ble cs.length <;> simp [hl] at h
 have zk := qP hl
 subst h;refine ⟨by simp; omega, zk, fun j => ?_⟩
 by_cases h1 : j < off
 ·rw [if_neg (by omega), A9 (by simp; omega), List.getElem?_take, if_pos h1]
 ·rw [BO (by simp; omega)]
  have hm : min off cs.length = off := by omega
  simp only [List.length_take, hm];by_cases h2 : j < off + vs.length
  ·rw [if_pos ⟨by omega, h2⟩, A9 (by omega)]
  ·rw [if_neg (by omega), BO (by omega), List.getElem?_drop]
   congr 1
   omega
section
variable {base : Nat} {ρ : ep} {m m' : Mem} {w : World} {P : Program}
theorem pK (hR : R base ρ m w) {b off : Nat} {L : Loc} (hb : ρ b = some L) {vs : List EV} {uz : List Value} (hv : ft ρ vs uz) (hf : ∀ c ∈ uz, c.oneCell' = true) (h : m.write b off vs = some m') :
  ∃ w', (storeCells ⟨L.c9, L.off + off, none⟩ uz).run P w = .ok () w' /\ R base ρ m' w' /\ Step ρ m w ρ m' w' := by
 unfold Mem.write at h
 cases hm : m.get b with
 | dead => simp [hm] at h
 | map es => simp [hm] at h
 | cells cs esz el ro =>
  simp only [hm] at h
  cases ro with
  | true => simp at h
  | false =>
  simp only [cond_false] at h;obtain ⟨ds, hs, rfl⟩ := j6.1 h
  obtain ⟨s1, s2, s3⟩ := DS hs
  have hB := hR.c9 b L hb
  rw [hm] at hB;obtain ⟨arr, e, fz, h1, h2, h3, h4, h5, h6, h7, h8⟩ := hB
  obtain ⟨JC, uh⟩ := h7 rfl
  have hlen := hv.length
  obtain ⟨w', H6, r1, r2, r3, r4, r5, r6, r7, r8, r9⟩ := oT (P := P) (o := L.off + off) uz 0 w arr h1 (by omega) uh hf
  have xf : Live m b := by unfold Live; rw [hm]; simp
  have lM : ∀ c, c ≠ b -> (m.set b (.cells ds esz el false)).get c = m.get c := fun c hc => by rw [Mem.bW, if_neg hc]
  have Ew : ∀ c, Live (m.set b (.cells ds esz el false)) c -> Live m c := by
   intro c hc
   by_cases e : c = b
   ·subst e; exact xf
   ·unfold Live at hc ⊢; rwa [lM c e] at hc
  have hbw : L.c9 < w.heap.size := (Array.getElem?_eq_some_iff.1 h1).1
  refine ⟨w', r1, ⟨hR.lt, ?_, ?_, by rw [r6]; exact hR.base, fun c hc => by rw [lM c (fun e => by subst e; have := hR.lt _ _ hb; rw [Mem.cf] at hc; omega)]; exact hR.clean c hc⟩, ⟨.refl ρ, fun _ h h' => absurd h h', fh _, ?_, fun c hc hd => by rw [lM c (fun e => by subst e; rw [hm] at hd; cases hd)]; exact hd, by omega, ?_, ?_, r7, r8, r9⟩⟩
  ·intro c M hM
   by_cases e : c = b
   ·subst e
    rw [hb] at hM; cases hM
    rw [Mem.bW, if_pos rfl];refine ⟨H6, _, fz, r2, by omega, h3, h4, by omega, ?_, fun _ => ⟨JC, by rw [r3]; exact uh⟩, h8⟩
    intro i v hi
    rw [s3 i] at hi;rw [r4];by_cases Ex : off <= i /\ i < off + vs.length
    ·rw [if_pos Ex] at hi
     rw [if_pos (by omega)];obtain ⟨v', g1, g2⟩ := hv.get _ v hi
     rw [show L.off + i - (L.off + off + 0) = i - off by omega];exact ⟨v', g1, g2, hf v' (List.mem_of_getElem? g1)⟩
    ·rw [if_neg Ex] at hi
     rw [if_neg (by omega)];exact h6 i v hi
   ·rw [lM c e]
    by_cases hl : m.get c = .dead
    ·rw [hl]; trivial
    ·have iQ : M.c9 ≠ L.c9 := fun xi => e (hR.inj b c L M hb hM xf hl (by rw [h4]) xi.symm).symm
     exact (hR.c9 c M hM).of_heap (.refl ρ) (r5 _ iQ)
  ·intro c d M M' hM HF hl zk qW xi
   exact hR.inj c d M M' hM HF (Ew c hl) (Ew d zk) qW xi
  ·intro c hc hn
   exact lM c (fun e => by subst e; rw [hb] at hn; cases hn)
  ·rintro i hi ⟨c, M, hM, hl, qW, xi⟩
   exact ⟨c, M, hM, Ew c hl, qW, xi⟩
  ·intro i hi hr
   exact r5 i (fun e => hr ⟨b, L, hb, xf, by rw [h4], e.symm⟩)
theorem qe (hR : RN base ρ m w) {cs : List EV} {vs : List Value} (hv : ft ρ cs vs) (hf : ∀ c ∈ vs, c.oneCell' = true) (esz el : Nat) (t : TypeId) (extra : List Value) (fz : Nat × Nat) (uh : Px fz (vs.length + extra.length)) (w' : World)
  (g : Ih w (.cells ⟨vs ++ extra⟩ t fz) w') : ∃ L, ρ.put m.next L m.next = some L /\ L.c9 = w.heap.size /\ L.off = 0 /\ L.total = vs.length + extra.length /\ L.esz = esz /\ L.ro = false /\
   Made base ρ m w (ρ.put m.next L) (.cells cs esz el false) w' := by
 let L : Loc := ⟨w.heap.size, 0, vs.length + extra.length, esz, false⟩
 have he := ep.HL L hR.free
 have hlen := hv.length
 have a := I3 hR (.cells cs esz el false) _ g L rfl (by
  refine ⟨⟨vs ++ extra⟩, t, fz, g.new, by simp [L], rfl, rfl, by simp [L]; omega, ?_, fun _ => ⟨hR.base, by simpa using uh⟩, by simp⟩
  intro i v hi
  obtain ⟨v', g1, g2⟩ := hv.get i v hi
  refine ⟨v', ?_, g2.ext he, hf v' (List.mem_of_getElem? g1)⟩
  have bt : i < vs.length := (rc.1 g1).1
  simp [L, A9 bt, g1])
 exact ⟨L, by simp [ep.put], rfl, rfl, rfl, rfl, rfl, a⟩
theorem Hj (hR : R base ρ m w) {cs : List EV} {vs : List Value} (hv : ft ρ cs vs) (hf : ∀ c ∈ vs, c.oneCell' = true) (esz el : Nat) (t : TypeId) (extra : List Value) (fz : Nat × Nat) (uh : Px fz (vs.length + extra.length)) (w' : World)
  (g : Ih w (.cells ⟨vs ++ extra⟩ t fz) w') : ∃ L, ρ.put m.next L m.next = some L /\ L.c9 = w.heap.size /\ L.off = 0 /\ L.total = vs.length + extra.length /\ L.esz = esz /\ L.ro = false /\
   R base (ρ.put m.next L) (m.new (.cells cs esz el false)) w' /\ Step ρ m w (ρ.put m.next L) (m.new (.cells cs esz el false)) w' := by
 obtain ⟨L, h1, h2, h3, h4, h5, h6, h7⟩ := qe hR.n hv hf esz el t extra fz uh w' g
 exact ⟨L, h1, h2, h3, h4, h5, h6, h7.whole hR⟩
end
theorem AR (n : Nat) : Px (0, 0) n := fun i _ => by simp
theorem VR.cells {ρ : ep} {v : EV} {v' : Value} (h : VR ρ v v') {cs : List EV} (hc : v.cells = some cs) : ft ρ cs v'.cells.toList /\ ∀ c ∈ v'.cells.toList, c.oneCell' = true := by
 cases h <;> simp only [EV.cells, bc, reduceCtorEq] at hc <;> subst hc
 case agg h hf => exact ⟨h, hf⟩
 case ptr h => exact ⟨.cons (.ptr h) .nil, by simp [Value.cells, Value.oneCell']⟩
 case slice h1 h2 h3 h4 => exact ⟨.cons (.slice h1 h2 h3 h4) .nil, by simp [Value.cells, Value.oneCell']⟩
 case fD h1 h2 h3 => exact ⟨.cons (.fD h1 h2 h3) .nil, by simp [Value.cells, Value.oneCell']⟩
 case map h => exact ⟨.cons (.map h) .nil, by simp [Value.cells, Value.oneCell']⟩
 case func h1 h2 => exact ⟨.cons (.func h1 h2) .nil, by simp [Value.cells, Value.oneCell']⟩
 case iface h => exact ⟨.cons (.iface h) .nil, by simp [Value.cells, Value.oneCell']⟩
 all_goals exact ⟨.cons (by constructor) .nil, by simp [Value.cells, Value.oneCell']⟩
end
section
def HI : List (Nat × List (List UInt8)) -> Nat -> Option (List (List UInt8))
 | [], _ => none
 | (g, l) :: r, b => if b = g then some l else HI r b
def tabIn : List (Nat × List Int) -> Nat -> Option (List Int)
 | [], _ => none
 | (g, l) :: r, b => if b = g then some l else tabIn r b
end
section
def L_lex_words : List (List UInt8) := [[102, 110], [118, 97, 114], [105, 102], [101, 108, 115, 101], [119, 104, 105, 108, 101], [102, 111, 114], [98, 114, 101, 97, 107], [99, 111, 110, 116, 105, 110, 117, 101], [114, 101, 116, 117, 114, 110], [112, 114, 105, 110, 116], [108, 101, 110], [110, 101, 119], [116, 114, 117, 101], [102, 97, 108, 115, 101], [110, 105, 108], [105, 110, 116], [98, 111, 111, 108], [97, 114, 114]]
def L_lex_signs : List (List UInt8) := [[124, 124], [38, 38], [61, 61], [33, 61], [60, 61], [62, 61], [43, 37], [45, 37], [42, 37], [60], [62], [43], [45], [42], [47], [37], [33], [61], [40], [41], [123], [125], [91], [93], [44], [59]]
def globs : List (Nat × List (List UInt8)) := [(1, L_lex_words), (0, L_lex_signs)]
def FI (b : Nat) : Option (List (List UInt8)) := HI globs b
def WT : List (Nat × List Int) := []
def tabl (b : Nat) : Option (List Int) := tabIn WT b
end
section
def jt (G : List Nat) (ρ : ep) : Prop := ∀ g, G.contains g = true -> ∃ L, ρ g = some L /\ L.c9 = g /\ L.off = 0 /\ ∀ l, tabl g = some l -> L.total = l.length
theorem jt.ext {G : List Nat} {ρ ρ' : ep} (e : Ext ρ ρ') (h : jt G ρ) : jt G ρ' := fun g hg => let ⟨L, a, b, c, d⟩ := h g hg; ⟨L, e _ _ a, b, c, d⟩
theorem mapM_some {α β : Type} (f : α -> Option β) : ∀ {l : List α} {r : List β}, l.mapM f = some r -> l.length = r.length /\ ∀ (i : Nat) (x : α) (y : β), l[i]? = some x -> r[i]? = some y -> f x = some y
 | [], r, h => by simp at h; subst h; simp
 | a :: l, r, h => by
  rw [List.mapM_cons] at h
  cases ha : f a with
  | none => simp [ha] at h
  | some b =>
   cases hl : l.mapM f with
   | none => simp [ha, hl] at h
   | some bs =>
    simp [ha, hl] at h
    subst h;obtain ⟨h1, h2⟩ := mapM_some f hl
    refine ⟨by simp [h1], fun i x y hx hy => ?_⟩
    cases i with
    | zero => simp at hx hy; subst hx hy; exact ha
    | succ i => simp at hx hy; exact h2 i x y hx hy
theorem RJ {ρ : ep} {e : EV} {v : Value} (h : VR ρ e v) (hf : Ni e = true) : v.oneCell' = true := by
 cases h <;> first | rfl | simp [Ni] at hf
theorem J1 {ρ : ep} : ∀ (n : Nat) (v : Value) (e : EV), cV n v = some e -> VR ρ e v := by
 intro n
 induction n with
 | zero => intro v e h; simp [cV] at h
 | succ n ih =>
  have list : ∀ (l : List Value) (r : List EV), l.mapM (cV n) = some r -> ft ρ r l := by
   intro l r h
   obtain ⟨h1, h2⟩ := mapM_some _ h
   exact ft.qR h1.symm fun i v v' hv rJ => ih _ _ (h2 i v' v rJ hv)
  intro v e h
  unfold cV at h
  split at h
  ·cases h; constructor
  ·cases h; constructor
  ·cases h; constructor
  ·cases h; constructor
  ·cases h; constructor
  ·cases h; constructor
  ·cases h; constructor
  ·cases h; constructor
  ·rename_i f a c
   cases ha : a.toList.mapM (cV n) with
   | none => simp [ha] at h
   | some x =>
    cases hc : c.toList.mapM (cV n) with
    | none => simp [ha, hc] at h
    | some y => simp [ha, hc] at h; subst h; exact .func (list _ _ ha) (list _ _ hc)
  ·obtain ⟨x, hx, rfl⟩ := j6.1 h
   exact .iface (ih _ _ hx)
  ·rename_i cs
   cases hx : cs.toList.mapM (cV n) with
   | none => simp [hx] at h
   | some x =>
    simp only [hx] at h
    cases hf : x.all Ni <;> simp [hf] at h
    subst h;have hl := list _ _ hx
    refine .agg hl fun c hc => ?_
    obtain ⟨i, hi⟩ := List.mem_iff_getElem?.1 hc
    have bt : i < x.length := by rw [hl.length]; exact (rc.1 hi).1
    obtain ⟨v', h1, h2⟩ := hl.get i x[i] (mZ bt)
    rw [hi] at h1; cases h1
    exact RJ h2 (List.all_eq_true.1 hf _ (Fm bt))
  ·obtain ⟨x, hx, rfl⟩ := j6.1 h
   exact .tuple (list _ _ hx)
  ·cases h
structure FR (ρ : ep) (n : Nat) (fr : Fr) (a : Act) : Prop where
 size : a.tmps.size = n
 tmp : ∀ t, VR ρ (fr.get t) (a.tmps.getD t undef)
theorem FR.ext {ρ ρ' : ep} {n : Nat} {fr : Fr} {a : Act} (e : Ext ρ ρ') (h : FR ρ n fr a) : FR ρ' n fr a := ⟨h.size, fun t => (h.tmp t).ext e⟩
theorem Fr.bW (fr : Fr) (d t : Nat) (v : EV) : (fr.set d v).get t = if t = d then v else fr.get t := by
 unfold Fr.get Fr.set;simp only [Tr.bW]
 split <;> rfl
theorem FR.put {ρ : ep} {n : Nat} {fr : Fr} {a : Act} (h : FR ρ n fr a) {d : Option Nat} (hd : ∀ x, d = some x -> x < n) {v : EV} {v' : Value} (hv : VR ρ v v') : FR ρ n (fr.put d v) (a.put d v') := by
 cases d with
 | none => exact h
 | some d =>
  have bt := hd d rfl
  refine ⟨by simp [Act.put, h.size], fun t => ?_⟩
  simp only [Fr.put, Fr.bW, Act.put];by_cases e : t = d
  ·subst e
   rw [if_pos rfl];rw [Array.getD_eq_getD_getElem?, Array.getElem?_setIfInBounds_self_of_lt (by rw [h.size]; exact bt)]
   exact hv
  ·rw [if_neg e]
   rw [Array.getD_eq_getD_getElem?, Array.getElem?_setIfInBounds_ne (by omega), <- Array.getD_eq_getD_getElem?];exact h.tmp t
section
variable {G : List Nat} {ρ : ep} {n : Nat} {fr : Fr} {a : Act}
theorem ig (hG : jt G ρ) (hF : FR ρ n fr a) {x : Operand} {y : aV} (h : eZ G x = some y) : VR ρ (fr.eval y) (a.eval x) := by
 cases x with
 | tmp t => simp [eZ] at h; subst h; exact hF.tmp t
 | const v => simp [eZ] at h; obtain ⟨e, he, rfl⟩ := h; exact J1 _ _ _ he
 | global g =>
  simp only [eZ] at h
  cases hg : G.contains g <;> simp only [hg, cond_true, cond_false, reduceCtorEq, bc] at h
  subst h;obtain ⟨L, h1, h2, h3, _⟩ := hG g hg
  have := VR.ptr (off := 0) h1
  rw [h2, h3] at this;exact this
 | func f => simp [eZ] at h; subst h; exact .func .nil .nil
theorem nC (hG : jt G ρ) (hF : FR ρ n fr a) {xs : List Operand} {ys : List aV} (h : Ad G xs = some ys) : ft ρ (ys.map fr.eval) (xs.map a.eval) := by
 obtain ⟨h1, h2⟩ := mapM_some _ h
 exact ft.Hn _ _ (R := fun y x => eZ G x = some y) (fun y x hxy => ig hG hF hxy) h1.symm fun i y x hy hx => h2 i x y hx hy
inductive tZ (ρ : ep) : Option EV -> Option Value -> Prop
 | none : tZ ρ none none
 | some {v : EV} {v' : Value} (h : VR ρ v v') : tZ ρ (some v) (some v')
theorem LY (hG : jt G ρ) (hF : FR ρ n fr a) {x : Option Operand} {y : Option aV} (h : J2 G x = some y) : tZ ρ (y.map fr.eval) (x.map a.eval) := by
 cases x with
 | none => simp [J2] at h; subst h; exact .none
 | some x => simp [J2] at h; obtain ⟨z, hz, rfl⟩ := h; exact .some (ig hG hF hz)
end
def Good (base : Nat) (ρ : ep) (m : Mem) (w : World) (v : EV) (m' : Mem) (r : Result Next) : Prop :=
 ∃ ρ' w' v', (r = .ok (.value v') w' \/ (r = .ok .skip w' /\ v' = undef)) /\ VR ρ' v v' /\ R base ρ' m' w' /\ Step ρ m w ρ' m' w'
section
variable {base : Nat} {ρ : ep} {m : Mem} {w : World} {P : Program}
theorem Good.still (hR : R base ρ m w) {v : EV} {v' : Value} {s : Sem Value} (h : s.run P w = .ok v' w) (hv : VR ρ v v') :
  Good base ρ m w v m ((do pure (Next.value (<- s)) : Sem Next).run P w) :=
 ⟨ρ, w, v', .inl (by simp [h]), hv, hR, .refl _ _ _⟩
theorem Good.quiet (hR : R base ρ m w) {v : EV} {v' : Value} {s : Sem Value} {w' : World} (h : s.run P w = .ok v' w') (q : E8 w w') (hv : VR ρ v v') :
  Good base ρ m w v m ((do pure (Next.value (<- s)) : Sem Next).run P w) :=
 ⟨ρ, w', v', .inl (by simp [h]), hv, hR.quiet q, .quiet q⟩
theorem fB : ∀ {a b : List UInt8}, jX a b = decide (a = b)
 | [], [] => rfl
 | [], _ :: _ => by simp [jX]
 | _ :: _, [] => by simp [jX]
 | x :: a, y :: b => by
  simp only [jX, List.cons.injEq]
  cases h : x.toNat.beq y.toNat with
  | true =>
   have : x = y := UInt8.toNat_inj.1 (aR h)
   simp [this, fB (a := a) (b := b)]
  | false =>
   have : x ≠ y := fun e => jY h (by rw [e])
   simp [this]
theorem jL {k l : IntKind} (h : (bY k).beq (bY l) = true) : k = l := by
 have := aR h
 cases k <;> cases l <;> simp [bY] at this <;> rfl
theorem E0 {op : BinOp} {k : IntKind} {x y n : Int} (h : qY op k x y = some n) : Op.intBits op k x y = (Pure.pure (.int k n) : Sem Value) := by
 cases op <;> simp only [qY, reduceCtorEq, bc] at h <;> subst h <;> rfl
theorem O7 {op : BinOp} {t : TypeId} {k l : IntKind} {x y : Int} {v : EV} (h : ef op (.int k x) (.int l y) = some v) : ∃ v', VR ρ v v' /\ (binOp op t (.int k x) (.int l y)).run P w = .ok v' w := by
 simp only [ef] at h
 cases op
 case shl =>
  simp only [tz] at h
  split at h
  ·cases h
  ·rename_i hn; cases h; exact ⟨_, .int _ _, by simp [binOp, Op.shift, hn]⟩
 case shr =>
  simp only [tz] at h
  split at h
  ·cases h
  ·rename_i hn; cases h; exact ⟨_, .int _ _, by simp [binOp, Op.shift, hn]⟩
 all_goals
  simp only [] at h
  cases hk : (bY k).beq (bY l) <;> simp only [hk, cond_true, cond_false, reduceCtorEq] at h
  obtain rfl := jL hk
  simp only [nB] at h
 case add => cases h; exact ⟨_, .int _ _, by simp [binOp, Op.intArith]⟩
 case sub => cases h; exact ⟨_, .int _ _, by simp [binOp, Op.intArith]⟩
 case mul => cases h; exact ⟨_, .int _ _, by simp [binOp, Op.intArith]⟩
 case quo => split at h <;> cases h; rename_i hy; exact ⟨_, .int _ _, by simp [binOp, Op.intDiv, hy]⟩
 case rem => split at h <;> cases h; rename_i hy; exact ⟨_, .int _ _, by simp [binOp, Op.intDiv, hy]⟩
 case eql => cases h; exact ⟨_, .bool _, by simp [binOp, Op.intCmp]; rfl⟩
 case neq => cases h; exact ⟨_, .bool _, by simp [binOp, Op.intCmp]; rfl⟩
 case lss => cases h; exact ⟨_, .bool _, by simp [binOp, Op.intCmp]⟩
 case leq => cases h; exact ⟨_, .bool _, by simp [binOp, Op.intCmp]⟩
 case gtr => cases h; exact ⟨_, .bool _, by simp [binOp, Op.intCmp]⟩
 case geq => cases h; exact ⟨_, .bool _, by simp [binOp, Op.intCmp]⟩
 all_goals
  obtain ⟨n, hn, rfl⟩ := j6.1 h
  exact ⟨_, .int _ _, by simp [binOp, E0 hn]⟩
theorem xY (s : ByteArray) : s.toList = s.data.toList := by
 have aux : ∀ (s : ByteArray) (i : Nat) (acc : List UInt8), ByteArray.toList.loop s i acc = acc.reverse ++ s.data.toList.drop i := by
  intro s i acc
  fun_induction ByteArray.toList.loop s i acc with
  | case1 i acc h ih =>
   rw [ih];have bt : i < s.data.toList.length := by simpa using h
   have hg : s.get! i = s.data.toList[i] := by
    simp [ByteArray.get!, getElem!_def]
    rw [Array.getElem?_eq_getElem (by simpa using h)]
   rw [List.drop_eq_getElem_cons bt, hg];simp
  | case2 i acc h =>
   rw [List.drop_of_length_le (by simpa using h)];simp
 simp [ByteArray.toList, aux]
theorem Eh (a b : List UInt8) : (a == b) = decide (a = b) := by rw [Bool.eq_iff_iff]; simp
theorem O6 {op : BinOp} {t : TypeId} {x y : ByteArray} {v : EV} (h : ef op (.str x.data.toList) (.str y.data.toList) = some v) : ∃ v', VR ρ v v' /\ (binOp op t (.string x) (.string y)).run P w = .ok v' w := by
 simp only [ef] at h
 cases op <;> simp only [reduceCtorEq, bc] at h
 case add =>
  cases hl : (x.data.toList.length + y.data.toList.length).ble 4294967296 <;> simp only [hl, cond_true, cond_false, reduceCtorEq, bc] at h
  subst h;have hle := qP hl
  refine ⟨.string (x ++ y), ?_, ?_⟩
  ·have := VR.str (ρ := ρ) (x ++ y)
   rw [ByteArray.data_append, Array.toList_append] at this;exact this
  ·have hx : x.size = x.data.toList.length := rfl
   have hy : y.size = y.data.toList.length := rfl
   have : ¬ ((x.size + y.size : Nat) : Int) > IntKind.i64.max := by
    rw [hx, hy]; simp only [IntKind.max_i64]; omega
   simp only [binOp, Op.stringOp];rw [if_neg this]
   rfl
 case eql =>
  subst h;exact ⟨_, .bool _, by simp only [binOp, Op.stringOp, xY, fB, Eh]; rfl⟩
 case neq =>
  subst h;exact ⟨_, .bool _, by simp only [binOp, Op.stringOp, xY, fB, Eh]; rfl⟩
theorem JP {op : BinOp} {t : TypeId} {x y v : EV} {x' y' : Value} (hx : VR ρ x x') (hy : VR ρ y y') (h : ef op x y = some v) :
  ∃ v', VR ρ v v' /\ (binOp op t x' y').run P w = .ok v' w := by
 cases hx <;> cases hy <;> first
  | exact O7 h
  | exact O6 h
  | (simp [ef] at h; done)
theorem FL {op : BinOp} {t : TypeId} {x y : Operand} {a b : Value} (h : op ≠ .eql) (h' : op ≠ .neq) : eqGuard op t x y a b = (Pure.pure () : Sem Unit) := by
 cases op <;> first | rfl | exact absurd rfl h | exact absurd rfl h'
theorem LI {op : UnOp} {x v : EV} {x' : Value} (hx : VR ρ x x') (h : EI op x = some v) : ∃ v', VR ρ v v' /\ (Op.unary op x').run P w = .ok v' w := by
 cases hx <;> cases op <;> simp only [EI, reduceCtorEq, bc] at h
 case int.neg => subst h; exact ⟨_, .int _ _, by simp [Op.unary, Op.intArith]⟩
 case int.xor =>
  obtain ⟨n, hn, rfl⟩ := j6.1 h
  exact ⟨_, .int _ _, by simp [Op.unary, E0 hn]⟩
 case bool.not => subst h; exact ⟨_, .bool _, by simp [Op.unary]⟩
end
end
section
section
variable {base : Nat} {ρ : ep} {m : Mem} {w : World} {P : Program}
theorem sU {t : TypeId} {g : Option Nat} (hg : xX P t = some g) {cs : List EV} {lQ : List Value} (hv : ft ρ cs lQ) (hf : ∀ c ∈ lQ, c.oneCell' = true) {off : Nat} {v : EV} (h : partOf g cs off = some v) :
  ∃ v', VR ρ v v' /\ (part t (⟨lQ⟩ : Array Value) off).run P w = .ok v' w := by
 obtain ⟨XU, uf⟩ := Gl (P := P) hg w
 cases g with
 | none =>
  obtain ⟨v', h1, h2⟩ := hv.get off v h
  exact ⟨v', h2, by simp [part, XU, h1]⟩
 | some n =>
  simp only [partOf] at h
  cases hl : (off + n).ble cs.length <;> simp only [hl, cond_true, cond_false, reduceCtorEq, bc] at h
  subst h;refine ⟨.agg ⟨(lQ.drop off).take n⟩, .agg ((hv.drop off).take n) (fun c hc => hf c (List.mem_of_mem_drop (List.mem_of_mem_take hc))), ?_⟩
  simp only [part, Sem.run_bind, XU, Result.andThen_ok, Option.isSome_some, if_true, uf n rfl, Sem.run_pure]
  congr 2
  apply Array.ext'
  simp [List.extract_eq_take_drop]
def Ff (t : Nat) (d : TypeDesc) : Prop :=
 match t with
 | 0 => d = .bool
 | 1 => ∃ k, d = .int k
 | 2 => d = .string
 | 3 => ∃ e, d = .pointer e
 | 4 => ∃ e, d = .slice e
 | 5 => ∃ k e, d = .map k e
 | 6 => ∃ p r v, d = .func p r v
 | 7 => ∃ ms, d = .interface ms
 | _ => False
theorem bytes_beq (a b : ByteArray) : (a == b) = decide (a.data.toList = b.data.toList) := by
 cases a; cases b
 rename_i x y
 show (x == y) = decide (x.toList = y.toList)
 rw [Bool.eq_iff_iff];simp [Array.toList_inj]
theorem HP {k : Nat} {t : TypeId} {d : TypeDesc} (hu : P.underlying t = some d) (hk : Ff k d) {x y : EV} {x' y' : Value} (hx : VR ρ x x') (hy : VR ρ y y') {b : Bool} (h : dK k x y = some b) (n : Nat) :
  (Op.equalIn (n + 1) t x' y').run P w = .ok b w := by
 cases hx <;> cases hy <;> simp only [dK, reduceCtorEq] at h
 case bool.bool a c =>
  cases hb : k.beq 0 <;> simp only [hb, cond_true, cond_false, reduceCtorEq, bc] at h
  rw [aR hb] at hk; subst hk; subst h
  simp [Op.equalIn, run_underlying hu]
 case int.int k1 a l c =>
  cases hb : k.beq 1 <;> simp only [hb, cond_true, cond_false, reduceCtorEq] at h
  cases Gs : (bY k1).beq (bY l) <;> simp only [Gs, cond_true, cond_false, reduceCtorEq, bc] at h
  obtain rfl := jL Gs
  rw [aR hb] at hk; obtain ⟨kk, rfl⟩ := hk; subst h
  simp [Op.equalIn, run_underlying hu]; rfl
 case str.str a c =>
  cases hb : k.beq 2 <;> simp only [hb, cond_true, cond_false, reduceCtorEq, bc] at h
  rw [aR hb] at hk; subst hk; subst h
  simp [Op.equalIn, run_underlying hu, fB, bytes_beq]
 case bL.bL =>
  cases hb : k.beq 3 <;> simp only [hb, cond_true, cond_false, reduceCtorEq, bc] at h
  rw [aR hb] at hk; obtain ⟨e, rfl⟩ := hk; subst h
  simp [Op.equalIn, run_underlying hu]
 case bL.ptr =>
  cases hb : k.beq 3 <;> simp only [hb, cond_true, cond_false, reduceCtorEq, bc] at h
  rw [aR hb] at hk; obtain ⟨e, rfl⟩ := hk; subst h
  simp [Op.equalIn, run_underlying hu]
 case ptr.bL =>
  cases hb : k.beq 3 <;> simp only [hb, cond_true, cond_false, reduceCtorEq, bc] at h
  rw [aR hb] at hk; obtain ⟨e, rfl⟩ := hk; subst h
  simp [Op.equalIn, run_underlying hu]
 case ae.ae =>
  cases hb : k.beq 4 <;> simp only [hb, cond_true, cond_false, reduceCtorEq, bc] at h
  rw [aR hb] at hk; obtain ⟨e, rfl⟩ := hk; subst h
  simp [Op.equalIn, run_underlying hu]
 case ae.slice =>
  cases hb : k.beq 4 <;> simp only [hb, cond_true, cond_false, reduceCtorEq, bc] at h
  rw [aR hb] at hk; obtain ⟨e, rfl⟩ := hk; subst h
  simp [Op.equalIn, run_underlying hu]
 case ae.gJ =>
  cases hb : k.beq 4 <;> simp only [hb, cond_true, cond_false, reduceCtorEq, bc] at h
  rw [aR hb] at hk; obtain ⟨e, rfl⟩ := hk; subst h
  simp [Op.equalIn, run_underlying hu]
 case ae.fD =>
  cases hb : k.beq 4 <;> simp only [hb, cond_true, cond_false, reduceCtorEq, bc] at h
  rw [aR hb] at hk; obtain ⟨e, rfl⟩ := hk; subst h
  simp [Op.equalIn, run_underlying hu]
 case slice.ae =>
  cases hb : k.beq 4 <;> simp only [hb, cond_true, cond_false, reduceCtorEq, bc] at h
  rw [aR hb] at hk; obtain ⟨e, rfl⟩ := hk; subst h
  simp [Op.equalIn, run_underlying hu]
 case gJ.ae =>
  cases hb : k.beq 4 <;> simp only [hb, cond_true, cond_false, reduceCtorEq, bc] at h
  rw [aR hb] at hk; obtain ⟨e, rfl⟩ := hk; subst h
  simp [Op.equalIn, run_underlying hu]
 case fD.ae =>
  cases hb : k.beq 4 <;> simp only [hb, cond_true, cond_false, reduceCtorEq, bc] at h
  rw [aR hb] at hk; obtain ⟨e, rfl⟩ := hk; subst h
  simp [Op.equalIn, run_underlying hu]
 case bB.bB =>
  cases hb : k.beq 5 <;> simp only [hb, cond_true, cond_false, reduceCtorEq, bc] at h
  rw [aR hb] at hk; obtain ⟨e, f, rfl⟩ := hk; subst h
  simp [Op.equalIn, run_underlying hu]
 case bB.map =>
  cases hb : k.beq 5 <;> simp only [hb, cond_true, cond_false, reduceCtorEq, bc] at h
  rw [aR hb] at hk; obtain ⟨e, f, rfl⟩ := hk; subst h
  simp [Op.equalIn, run_underlying hu]
 case map.bB =>
  cases hb : k.beq 5 <;> simp only [hb, cond_true, cond_false, reduceCtorEq, bc] at h
  rw [aR hb] at hk; obtain ⟨e, f, rfl⟩ := hk; subst h
  simp [Op.equalIn, run_underlying hu]
 case aN.aN =>
  cases hb : k.beq 6 <;> simp only [hb, cond_true, cond_false, reduceCtorEq, bc] at h
  rw [aR hb] at hk; obtain ⟨p, r, v, rfl⟩ := hk; subst h
  simp [Op.equalIn, run_underlying hu]
 case aN.func =>
  cases hb : k.beq 6 <;> simp only [hb, cond_true, cond_false, reduceCtorEq, bc] at h
  rw [aR hb] at hk; obtain ⟨p, r, v, rfl⟩ := hk; subst h
  simp [Op.equalIn, run_underlying hu]
 case func.aN =>
  cases hb : k.beq 6 <;> simp only [hb, cond_true, cond_false, reduceCtorEq, bc] at h
  rw [aR hb] at hk; obtain ⟨p, r, v, rfl⟩ := hk; subst h
  simp [Op.equalIn, run_underlying hu]
 case aC.iface =>
  cases hb : k.beq 7 <;> simp only [hb, cond_true, cond_false, reduceCtorEq, bc] at h
  rw [aR hb] at hk; obtain ⟨ms, rfl⟩ := hk; subst h
  simp [Op.equalIn, run_underlying hu]
 case iface.aC =>
  cases hb : k.beq 7 <;> simp only [hb, cond_true, cond_false, reduceCtorEq, bc] at h
  rw [aR hb] at hk; obtain ⟨ms, rfl⟩ := hk; subst h
  simp [Op.equalIn, run_underlying hu]
theorem LZ {n : Nat} {t : TypeId} {k : Nat} (h : nD P (n + 1) t = some (.aJ k)) : ∃ d, P.underlying t = some d /\ Ff k d := by
 unfold nD at h
 cases hu : P.underlying t with
 | none => simp [hu] at h
 | some d =>
  rw [hu] at h;refine ⟨d, rfl, ?_⟩
  cases d <;> simp at h <;> (try (subst h; simp [Ff]; done))
  ·cases hs : P.stoodInHeld t <;> simp [hs] at h
def HQ (n : Nat) (xs ys : Array Value) : Field -> Option Bool × Unit -> Sem (ForInStep (Option Bool × Unit)) := fun f _ =>
 if f.name ≠ "_" then do
  let a <- part f.type xs f.offset
  let b <- part f.type ys f.offset
  let r <- Op.equalIn n f.type a b
  if (!r) = true then pure (ForInStep.done (some false, ())) else pure (ForInStep.yield (none, ()))
 else pure (ForInStep.yield (none, ()))
theorem H0 {n : Nat} {t : TypeId} {es : List (Option Nat × Nat × sd)} (h : nD P (n + 1) t = some (.agg es)) :
  ∃ fs, P.underlying t = some (.struct fs) /\ P.stoodInHeld t = false /\ fs.toList.mapM (fun (f : Field) => match xX P f.type, nD P n f.type with
    | some g, some e => bif f.name != "_" then some (g, f.offset, e) else none
    | _, _ => none) = some es := by
 unfold nD at h
 cases hu : P.underlying t with
 | none => simp [hu] at h
 | some d =>
  rw [hu] at h
  cases d <;> simp only [reduceCtorEq, bc] at h
  rename_i fs
  cases hs : P.stoodInHeld t <;> simp only [hs, cond_true, cond_false, reduceCtorEq] at h
  obtain ⟨qZ, he, h2⟩ := j6.1 h
  cases h2
  exact ⟨fs, rfl, rfl, he⟩
theorem RO (n : Nat) {a b : List EV} {a' b' : List Value} (ha : ft ρ a a') (hb : ft ρ b b') (fa : ∀ c ∈ a', c.oneCell' = true) (fb : ∀ c ∈ b', c.oneCell' = true) (k : Nat)
  (ih : ∀ (t : TypeId) (e : sd), nD P n t = some e -> ∀ (x y : EV) (x' y' : Value), VR ρ x x' -> VR ρ y y' -> ∀ r, eH e x y = some r -> (Op.equalIn k t x' y').run P w = .ok r w) :
  ∀ (fs : List Field) (es : List (Option Nat × Nat × sd)), fs.mapM (fun (f : Field) => match xX P f.type, nD P n f.type with
    | some g, some e => bif f.name != "_" then some (g, f.offset, e) else none
    | _, _ => none) = some es -> ∀ r, pq es a b = some r -> (forIn fs (none, ()) (HQ k ⟨a'⟩ ⟨b'⟩)).run P w = .ok (if r then (none, ()) else (some false, ())) w := by
 intro fs
 induction fs with
 | nil =>
  intro es h r hr
  simp at h
  subst h;simp [pq] at hr
  subst hr
  rfl
 | cons f fs ihf =>
  intro es h r hr
  rw [List.mapM_cons] at h
  cases hg : xX P f.type with
  | none => simp [hg] at h
  | some g =>
  cases he : nD P n f.type with
  | none => simp [hg, he] at h
  | some e =>
  cases hn : f.name != "_" with
  | false => simp [hg, he, hn] at h
  | true =>
  cases hm : fs.mapM (fun (f : Field) => match xX P f.type, nD P n f.type with
    | some g, some e => bif f.name != "_" then some (g, f.offset, e) else none
    | _, _ => none) with
  | none => simp [hg, he, hn, hm] at h
  | some qZ =>
   simp [hg, he, hn, hm] at h
   subst h;simp only [pq] at hr
   cases hx : partOf g a f.offset with
   | none => simp [hx] at hr
   | some x =>
   cases hy : partOf g b f.offset with
   | none => simp [hx, hy] at hr
   | some y =>
   simp only [hx, hy] at hr;obtain ⟨x', vx, rx⟩ := sU (P := P) (w := w) hg ha fa hx
   obtain ⟨y', vy, ry⟩ := sU (P := P) (w := w) hg hb fb hy
   have iQ : f.name ≠ "_" := by simpa using hn
   cases hq : eH e x y with
   | none => simp [hq] at hr
   | some q =>
    have jZ := ih _ _ he x y x' y' vx vy q hq
    rw [hq] at hr
    cases q with
    | true =>
     simp only [] at hr;have := ihf qZ hm r hr
     simp only [List.forIn_cons, HQ, if_pos iQ, Sem.run_bind, rx, ry, jZ, Result.andThen_ok]
     simpa using this
    | false =>
     simp at hr
     subst hr;simp only [List.forIn_cons, HQ, if_pos iQ, Sem.run_bind, rx, ry, jZ, Result.andThen_ok]
     rfl
theorem LJ : ∀ (n : Nat) (t : TypeId) (e : sd), nD P n t = some e -> ∀ k, n <= k -> ∀ (x y : EV) (x' y' : Value), VR ρ x x' -> VR ρ y y' -> ∀ r, eH e x y = some r -> (Op.equalIn k t x' y').run P w = .ok r w := by
 intro n
 induction n with
 | zero => intro t e h; simp [nD] at h
 | succ n ih =>
  intro t e h k hk x y x' y' hx hy r hr
  obtain ⟨k, rfl⟩ : ∃ j, k = j + 1 := ⟨k - 1, by omega⟩
  cases e with
  | aJ q =>
   obtain ⟨d, hu, hd⟩ := LZ h
   exact HP hu hd hx hy (by simpa [eH] using hr) k
  | agg es =>
   obtain ⟨fs, hu, hs, hm⟩ := H0 h
   cases x <;> (try (simp [eH] at hr; done))
   cases y <;> (try (simp [eH] at hr; done))
   cases hx with
   | agg ha fa =>
   cases hy with
   | agg hb fb =>
   simp only [eH] at hr;have hl := RO n ha hb fa fb k (fun t e he x y x' y' vx vy r hr => ih t e he k (by omega) x y x' y' vx vy r hr) fs.toList es hm r hr
   unfold Op.equalIn;simp only [Sem.run_bind, run_underlying hu, Result.andThen_ok, run_program, hs, re, if_false];rw [Array.forIn_toList] at hl;unfold HQ at hl;rw [hl]
   cases r <;> rfl
theorem gS {x : Option EV} {x' : Option Value} (hx : tZ ρ x x') {TO nO r : Nat} (h : au x TO nO = some r) :
  (x' = none /\ r = TO) \/ (∃ v', x' = some v' /\ r <= nO /\ ∀ code, (Instr.sliceBound v' nO code).run P w = .ok r w) := by
 cases hx with
 | none => simp [au] at h; exact .inl ⟨rfl, h.symm⟩
 | some hv =>
  right
  cases hv <;> simp only [au, reduceCtorEq] at h
  rename_i k n
  cases n with
  | negSucc n => simp at h
  | ofNat i =>
   simp only [] at h
   cases hl : i.ble nO <;> simp only [hl, cond_true, cond_false, reduceCtorEq, bc] at h
   subst h;have hle := qP hl
   refine ⟨_, rfl, hle, fun code => ?_⟩
   simp only [Instr.sliceBound, asIntOf, Sem.run_bind, Sem.run_pure, Result.andThen_ok];rw [if_pos ⟨Int.natCast_nonneg _, Int.ofNat_le.2 hle⟩]
   rfl
theorem j5 {lo hi mx : Option EV} {Eg xr Ed : Option Value} (nv : tZ ρ lo Eg) (xg : tZ ρ hi xr) (zj : tZ ρ mx Ed) (OS : Ed.isSome = true -> xr.isSome = true) (s : Bool) {n len t h l c : Nat} (hn : len = n)
  (h1 : (mx = none /\ t = c) \/ (∃ k, au mx k c = some t /\ mx ≠ none)) (h2 : au hi len t = some h) (h3 : au lo 0 h = some l) :
  (Instr.sliceBounds s n c Eg xr Ed).run P w = .ok (l, h, t) w /\ l <= h /\ (hi ≠ none -> h <= t) /\ (mx ≠ none -> t <= c) := by
 subst hn;have e1 : (Ed = none /\ t = c /\ mx = none) \/ (∃ v', Ed = some v' /\ (∀ code, (Instr.sliceBound v' c code).run P w = .ok t w) /\ t <= c) := by
  rcases h1 with ⟨rfl, rfl⟩ | ⟨k, hb, iQ⟩
  ·cases zj; exact .inl ⟨rfl, rfl, rfl⟩
  ·rcases gS (P := P) (w := w) zj hb with ⟨rfl, _⟩ | ⟨v', rfl, hle, hr⟩
   ·cases zj; exact absurd rfl iQ
   ·exact .inr ⟨v', rfl, hr, hle⟩
 have e2 : l <= h /\ (hi ≠ none -> h <= t) /\ (mx ≠ none -> t <= c) := by
  refine ⟨?_, fun iQ => ?_, fun iQ => ?_⟩
  ·rcases gS (P := P) (w := w) nv h3 with ⟨_, rfl⟩ | ⟨vl, _, Wy, _⟩ <;> omega
  ·rcases gS (P := P) (w := w) xg h2 with ⟨rfl, _⟩ | ⟨vl, _, Wy, _⟩
   ·cases xg; exact absurd rfl iQ
   ·exact Wy
  ·rcases e1 with ⟨_, _, rfl⟩ | ⟨_, _, _, h⟩
   ·exact absurd rfl iQ
   ·exact h
 refine ⟨?_, e2⟩
 unfold Instr.sliceBounds;rcases e1 with ⟨rfl, rfl, _⟩ | ⟨vm, rfl, MT, _⟩ <;> rcases gS (P := P) (w := w) xg h2 with ⟨rfl, rfl⟩ | ⟨vh, rfl, hlh, YL⟩
 ·rcases gS (P := P) (w := w) nv h3 with ⟨rfl, rfl⟩ | ⟨vl, rfl, Wy, Xu⟩
  ·simp only [Sem.run_bind, Result.andThen_ok, Sem.run_pure]
  ·simp only [Sem.run_bind, Result.andThen_ok, Sem.run_pure, Xu]
 ·rcases gS (P := P) (w := w) nv h3 with ⟨rfl, rfl⟩ | ⟨vl, rfl, Wy, Xu⟩
  ·simp only [Sem.run_bind, Result.andThen_ok, Sem.run_pure, YL]
  ·simp only [Sem.run_bind, Result.andThen_ok, Sem.run_pure, Xu, YL]
 ·simp at OS
 ·rcases gS (P := P) (w := w) nv h3 with ⟨rfl, rfl⟩ | ⟨vl, rfl, Wy, Xu⟩
  ·simp only [Sem.run_bind, Result.andThen_ok, Sem.run_pure, MT, YL]
  ·simp only [Sem.run_bind, Result.andThen_ok, Sem.run_pure, MT, Xu, YL]
end
end
section
section
variable {base : Nat} {ρ : ep} {m : Mem} {w : World} {P : Program}
theorem EW {x : Option EV} {d k k' r : Nat} (hk : k <= k') (h : au x d k = some r) : au x d k' = some r := by
 unfold au at *
 split at h
 ·exact h
 ·rename_i i
  cases hl : i.ble k <;> simp only [hl, cond_true, cond_false, reduceCtorEq, bc] at h
  subst h;have : i.ble k' = true := A8 (pJ (qP hl) hk)
  simp [this]
 ·cases h
def EN (a : Option Addr) (size l h t : Nat) : Value := .slice (if t = l then a else a.map (·.add (l * size))) (h - l) (t - l)
theorem add_eq (b o n : Nat) : (⟨b, o, none⟩ : Addr).add n = ⟨b, o + n, none⟩ := Addr.add_lit b o n
theorem Bb {esz b off len c : Nat} {lo hi mx : Option EV} {Eg xr Ed : Option Value} (nv : tZ ρ lo Eg) (xg : tZ ρ hi xr) (zj : tZ ρ mx Ed) (OS : Ed.isSome = true -> xr.isSome = true)
  {L : Loc} (hL : ρ b = some L) (hlen : len <= c) {o : Nat} (ho : 0 < c -> o = L.off + off) (s : Bool) {v : EV} (h : eh esz b off len (some c) lo hi mx = some v) :
  ∃ l hh t, (Instr.sliceBounds s len c Eg xr Ed).run P w = .ok (l, hh, t) w /\ VR ρ v (EN (some ⟨L.c9, o, none⟩) esz l hh t) := by
 unfold eh at h
 cases h1 : au mx c c with
 | none => simp [h1] at h
 | some t =>
 cases h2 : au hi len t with
 | none => simp [h1, h2] at h
 | some hh =>
 cases h3 : au lo 0 hh with
 | none => simp [h1, h2, h3] at h
 | some l =>
  simp only [h1, h2, h3, bc] at h;subst h;obtain ⟨r, hle, Lz, Vy⟩ := j5 (P := P) (w := w) nv xg zj OS s (n := len) rfl (t := t) (h := hh) (l := l) (c := c) (by
   cases mx with
   | none => simp [au] at h1; exact .inl ⟨rfl, h1.symm⟩
   | some x => exact .inr ⟨c, h1, by simp⟩) h2 h3
  refine ⟨l, hh, t, r, ?_⟩
  have ht : hh <= t := by
   cases hi with
   | some x => exact Lz (by simp)
   | none =>
    simp [au] at h2
    cases mx with
    | none => simp [au] at h1; omega
    | some x => cases zj; cases xg; simp at OS
  have htc : t <= c := by
   cases mx with
   | none => simp [au] at h1; omega
   | some x => exact Vy (by simp)
  unfold EN;by_cases e : t = l
  ·subst e
   rw [if_pos rfl, dM, cond_true];exact .fD hL (by omega) (fun hp => by omega)
  ·rw [if_neg e, jP e, cond_false]
   simp only [Option.map_some, add_eq];exact .fD hL (by omega) (fun hp => by rw [ho (by omega)]; omega)
theorem IE {esz b off : Nat} {a : Addr} {lo hi mx : Option EV} {Eg xr Ed : Option Value} (nv : tZ ρ lo Eg) (xg : tZ ρ hi xr) (zj : tZ ρ mx Ed) (OS : Ed.isSome = true -> xr.isSome = true)
  (s : Bool) {v : EV} (h : eh esz b off 0 (some 0) lo hi mx = some v) :
  ∃ l hh t, (Instr.sliceBounds s 0 0 Eg xr Ed).run P w = .ok (l, hh, t) w /\ VR ρ v (EN (some a) esz l hh t) := by
 unfold eh at h
 cases h1 : au mx 0 0 with
 | none => simp [h1] at h
 | some t =>
 cases h2 : au hi 0 t with
 | none => simp [h1, h2] at h
 | some hh =>
 cases h3 : au lo 0 hh with
 | none => simp [h1, h2, h3] at h
 | some l =>
  simp only [h1, h2, h3, bc] at h;subst h;obtain ⟨r, hle, Lz, Vy⟩ := j5 (P := P) (w := w) nv xg zj OS s (n := 0) rfl (t := t) (h := hh) (l := l) (c := 0) (by
   cases mx with
   | none => simp [au] at h1; exact .inl ⟨rfl, h1.symm⟩
   | some x => exact .inr ⟨0, h1, by simp⟩) h2 h3
  refine ⟨l, hh, t, r, ?_⟩
  have ht : hh <= t := by
   cases hi with
   | some x => exact Lz (by simp)
   | none =>
    simp [au] at h2
    cases mx with
    | none => simp [au] at h1; omega
    | some x => cases zj; cases xg; simp at OS
  have htc : t <= 0 := by
   cases mx with
   | none => simp [au] at h1; omega
   | some x => exact Vy (by simp)
  have e1 : t = 0 := by omega
  have e2 : hh = 0 := by omega
  have e3 : l = 0 := by omega
  subst e1 e2 e3
  unfold EN;exact .gJ
theorem KH {esz b off len c : Nat} {lo hi mx : Option EV} {Eg xr Ed : Option Value} (nv : tZ ρ lo Eg) (xg : tZ ρ hi xr) (zj : tZ ρ mx Ed) (OS : Ed.isSome = true -> xr.isSome = true)
  {L : Loc} (hL : ρ b = some L) (hlen : len <= c) {o : Nat} (ho : 0 < len -> o = L.off + off) (hr : L.ro = false -> o + c * L.esz <= L.total) (he : L.esz = esz) (s : Bool) {v : EV} (h : eh esz b off len none lo hi mx = some v) :
  ∃ l hh t, (Instr.sliceBounds s len c Eg xr Ed).run P w = .ok (l, hh, t) w /\ VR ρ v (EN (some ⟨L.c9, o, none⟩) esz l hh t) := by
 unfold eh at h
 cases mx with
 | some x =>
  simp only [] at h
  cases h1 : au (some x) len len with
  | none => simp [h1] at h
  | some t =>
  cases h2 : au hi len t with
  | none => simp [h1, h2] at h
  | some hh =>
  cases h3 : au lo 0 hh with
  | none => simp [h1, h2, h3] at h
  | some l =>
   simp only [h1, h2, h3, bc] at h;subst h;obtain ⟨r, hle, Lz, _⟩ := j5 (P := P) (w := w) nv xg zj OS s (n := len) rfl (t := t) (h := hh) (l := l) (c := c) (.inr ⟨len, EW hlen h1, by simp⟩) h2 h3
   refine ⟨l, hh, t, r, ?_⟩
   have ht : hh <= t := by
    cases hi with
    | some x => exact Lz (by simp)
    | none => cases zj; cases xg; simp at OS
   have Lx : t <= len := by
    rcases gS (P := P) (w := w) zj h1 with ⟨e, _⟩ | ⟨_, _, h, _⟩
    ·cases zj; cases e
    ·exact h
   unfold EN;by_cases e : t = l
   ·subst e
    rw [if_pos rfl, dM, cond_true];exact .fD hL (by omega) (fun hp => by omega)
   ·rw [if_neg e, jP e, cond_false]
    simp only [Option.map_some, add_eq];exact .fD hL (by omega) (fun hp => by rw [ho (by omega)]; omega)
 | none =>
  simp only [] at h
  cases h2 : au hi len len with
  | none => simp [h2] at h
  | some hh =>
  cases h3 : au lo 0 hh with
  | none => simp [h2, h3] at h
  | some l =>
   simp only [h2, h3, bc] at h;subst h;obtain ⟨r, hle, Lz, _⟩ := j5 (P := P) (w := w) nv xg zj OS s (n := len) rfl (t := c) (h := hh) (l := l) (c := c) (.inl ⟨rfl, rfl⟩) (EW hlen h2) h3
   refine ⟨l, hh, c, r, ?_⟩
   have ht : hh <= len := by
    rcases gS (P := P) (w := w) xg h2 with ⟨_, e⟩ | ⟨_, _, h, _⟩ <;> omega
   unfold EN;by_cases e : c = l
   ·rw [if_pos e]
    refine .slice hL (by omega) (fun hp => by omega) (fun qW => ?_)
    have := hr qW
    subst e;rw [Nat.sub_self, Nat.zero_mul];omega
   ·rw [if_neg e]
    simp only [Option.map_some, add_eq];refine .slice hL (by omega) (fun hp => by rw [ho (by omega)]; omega) (fun qW => ?_)
    have := hr qW
    subst he;have : l * L.esz + (c - l) * L.esz = c * L.esz := by rw [<- Nat.add_mul]; congr 1; omega
    omega
theorem RM (hR : R base ρ m w) {b : Nat} {L : Loc} (hL : ρ b = some L) {cs : List EV} {e el : Nat} {ro : Bool} (hm : m.get b = .cells cs e el ro) : L.esz = e := by
 have := hR.c9 b L hL
 rw [hm] at this;obtain ⟨_, _, _, _, _, h, _⟩ := this
 exact h
theorem wx {n i : Nat} {x : EV} {x' : Value} (hx : VR ρ x x') (h : idx n x = some i) : ∃ k, x' = .int k (i : Int) /\ i < n := by
 cases hx <;> simp only [idx, reduceCtorEq] at h
 rename_i k z
 cases z with
 | negSucc z => simp at h
 | ofNat z =>
  simp only [] at h
  cases hl : (z + 1).ble n <;> simp only [hl, cond_true, cond_false, reduceCtorEq, bc] at h
  subst h;exact ⟨k, rfl, qP hl⟩
theorem Jq {t e : TypeId} {s : Nat} (hu : P.underlying t = some (.slice e)) (hs : fW P e = some s) {b off len : Nat} {cap : Option Nat} {x' y' : Value} {y : EV} (hx : VR ρ (.slice b off len cap) x') (hy : VR ρ y y') {i : Nat} (h : idx len y = some i) :
  ∃ v', VR ρ (.ptr b (off + i * s)) v' /\ (Instr.indexAt t x' y').run P w = .ok v' w := by
 obtain ⟨k, rfl, bt⟩ := wx hy h
 cases hx with
 | @slice _ _ _ c o L hL hc ho hr =>
  refine ⟨_, .ptr hL, ?_⟩
  simp only [Instr.indexAt, asIntOf, Sem.run_bind, Sem.run_pure, Result.andThen_ok, run_underlying hu];rw [if_pos ⟨Int.natCast_nonneg _, Int.ofNat_lt.2 bt⟩];simp [b8 hs, add_eq, ho (by omega), Nat.add_assoc]
 | gJ => omega
 | @fD _ _ _ c o L hL hc ho =>
  refine ⟨_, .ptr hL, ?_⟩
  simp only [Instr.indexAt, asIntOf, Sem.run_bind, Sem.run_pure, Result.andThen_ok, run_underlying hu];rw [if_pos ⟨Int.natCast_nonneg _, Int.ofNat_lt.2 bt⟩];simp [b8 hs, add_eq, ho (by omega), Nat.add_assoc]
theorem Er {t e : TypeId} {n s : Nat} (hu : P.underlying t = some (.array n e)) (hs : fW P e = some s) {b off : Nat} {x' y' : Value} {y : EV} (hx : VR ρ (.ptr b off) x') (hy : VR ρ y y') {i : Nat} (h : idx n y = some i) :
  ∃ v', VR ρ (.ptr b (off + i * s)) v' /\ (Instr.indexAt t x' y').run P w = .ok v' w := by
 obtain ⟨k, rfl, bt⟩ := wx hy h
 cases hx with
 | @ptr _ _ L hL =>
  refine ⟨_, .ptr hL, ?_⟩
  simp only [Instr.indexAt, asIntOf, Sem.run_bind, Sem.run_pure, Result.andThen_ok, run_underlying hu, Instr.sureAddr];rw [if_pos ⟨Int.natCast_nonneg _, Int.ofNat_lt.2 bt⟩];simp [b8 hs, add_eq, Nat.add_assoc]
theorem JM {t : TypeId} {fs : Array Field} {k : Nat} {f : Field} {s : Nat} (hu : P.underlying t = some (.struct fs)) (hf : fs[k]? = some f) (hs : fW P f.type = some (s + 1)) {b off : Nat} {x' : Value} (hx : VR ρ (.ptr b off) x') :
  ∃ v', VR ρ (.ptr b (off + f.offset)) v' /\ (Instr.fieldAt t x' k).run P w = .ok v' w := by
 cases hx with
 | @ptr _ _ L hL =>
  refine ⟨_, .ptr hL, ?_⟩
  simp only [Instr.fieldAt, Sem.run_bind, run_underlying hu, Result.andThen_ok, hf, Instr.sureAddr, Sem.run_pure, fieldPlace, b8 hs];rw [if_neg (by omega)];simp [add_eq, Nat.add_assoc]
theorem JK {t : TypeId} {fs : Array Field} {k : Nat} {f : Field} {g : Option Nat} (hu : P.underlying t = some (.struct fs)) (hf : fs[k]? = some f) (hg : xX P f.type = some g) {cs : List EV} {x' : Value} (hx : VR ρ (.agg cs) x') {v : EV} (h : partOf g cs f.offset = some v) :
  ∃ v', VR ρ v v' /\ (Instr.field t x' k).run P w = .ok v' w := by
 cases hx with
 | agg hv FE =>
  obtain ⟨v', h1, h2⟩ := sU (P := P) (w := w) hg hv FE h
  exact ⟨v', h1, by simp only [Instr.field, Sem.run_bind, run_underlying hu, Result.andThen_ok, hf, asAgg, Sem.run_pure, h2]⟩
theorem Hx {t e : TypeId} {n s : Nat} {g : Option Nat} (hu : P.underlying t = some (.array n e)) (hs : fW P e = some s) (hg : xX P e = some g) {cs : List EV} {x' y' : Value} {y : EV} (hx : VR ρ (.agg cs) x') (hy : VR ρ y y') {i : Nat} (hi : idx n y = some i) {v : EV} (h : partOf g cs (i * s) = some v) :
  ∃ v', VR ρ v v' /\ (Instr.index t x' y').run P w = .ok v' w := by
 obtain ⟨k, rfl, bt⟩ := wx hy hi
 cases hx with
 | agg hv FE =>
  obtain ⟨v', h1, h2⟩ := sU (P := P) (w := w) hg hv FE h
  refine ⟨v', h1, ?_⟩
  simp only [Instr.index, asIntOf, Sem.run_bind, Sem.run_pure, Result.andThen_ok, run_underlying hu];rw [if_pos ⟨Int.natCast_nonneg _, Int.ofNat_lt.2 bt⟩];simp only [Sem.run_bind, b8 hs, Result.andThen_ok, Int.toNat_natCast, h2]
theorem Hw {t : TypeId} (hu : P.underlying t = some .string) {s : ByteArray} {y : EV} {y' : Value} (hy : VR ρ y y') {i : Nat} (hi : idx s.data.toList.length y = some i) {c : UInt8} (h : s.data.toList[i]? = some c) :
  (Instr.index t (.string s) y').run P w = .ok (.int .u8 (c.toNat : Int)) w := by
 obtain ⟨k, rfl, bt⟩ := wx hy hi
 simp only [Instr.index, asIntOf, Sem.run_bind, Sem.run_pure, Result.andThen_ok, run_underlying hu];have : s[i]? = some c := by
  have hl : i < s.size := bt
  rw [getElem?_pos s i hl];rw [mZ bt] at h
  injection h with h
  show some (s.data[i]'hl) = some c
  rw [<- h];simp
 simp [this]
theorem ID {t : TypeId} (hu : P.underlying t = some .string) {s : ByteArray} {lo hi : Option EV} {Eg xr : Option Value} (nv : tZ ρ lo Eg) (xg : tZ ρ hi xr) {l h : Nat} (h2 : au hi s.data.toList.length s.data.toList.length = some h) (h3 : au lo 0 h = some l) :
  ∃ v', VR ρ (.str ((s.data.toList.take h).drop l)) v' /\ (Instr.sliceAt t (.string s) Eg xr none).run P w = .ok v' w := by
 obtain ⟨r, hle, _⟩ := j5 (P := P) (w := w) nv xg .none (by simp) false (n := s.size) (len := s.data.toList.length) rfl (t := s.size) (h := h) (l := l) (c := s.size) (.inl ⟨rfl, rfl⟩) h2 h3
 refine ⟨.string (s.extract l h), ?_, ?_⟩
 ·have := VR.str (ρ := ρ) (s.extract l h)
  rw [show (s.extract l h).data.toList = (s.data.toList.take h).drop l by
   rw [ByteArray.data_extract, Array.toList_extract, List.extract_eq_take_drop, List.drop_take]] at this
  exact this
 ·simp only [Instr.sliceAt, Instr.slice, Sem.run_bind, run_underlying hu, Result.andThen_ok, Option.isSome_none, re, if_false, r, Sem.run_pure]
end
end
section
section
variable {base : Nat} {ρ : ep} {m : Mem} {w : World} {P : Program}
theorem DC {t : TypeId} {e : EV} (h : GJ P t = some e) : ∃ v, (∀ w, (zeroValue t).run P w = .ok v w) /\ VR ρ e v := by
 unfold GJ at h
 cases hi : P.info? t with
 | none => simp [hi] at h
 | some i =>
  cases hz : i.zero with
  | none => simp [hi, hz] at h
  | some v =>
   simp [hi, hz] at h
   exact ⟨v, fun w => by simp [zeroValue, run_typeInfo hi, hz], J1 _ _ _ h⟩
theorem m6 {t : TypeId} {z : List EV} (h : nQ P t = some z) : ∃ v, (∀ w, (zeroValue t).run P w = .ok v w) /\ ft ρ z v.cells.toList /\ ∀ c ∈ v.cells.toList, c.oneCell' = true := by
 unfold nQ at h
 cases he : GJ P t with
 | none => simp [he] at h
 | some e =>
  simp [he] at h
  obtain ⟨v, h1, h2⟩ := DC (ρ := ρ) he
  exact ⟨v, h1, h2.cells h⟩
theorem O2 (vs : List Value) : ∀ (k : Nat) (cs : Array Value) (off : Nat), off + k + vs.length <= cs.size ->
  ∃ ds : Array Value, (vs.zipIdx k).foldl (fun (cs : Array Value) (x : Value × Nat) => cs.setIfInBounds (off + x.2) x.1) cs = ds /\ ds.size = cs.size /\
   ∀ j : Nat, ds[j]? = if off + k <= j /\ j < off + k + vs.length then vs[j - (off + k)]? else cs[j]? := by
 induction vs with
 | nil => intro k cs off _; exact ⟨cs, rfl, rfl, fun j => by rw [if_neg (fun h => by have := h.2; simp at this; omega)]⟩
 | cons v vs ih =>
  intro k cs off h
  simp at h
  obtain ⟨ds, h1, h2, h3⟩ := ih (k + 1) (cs.setIfInBounds (off + k) v) off (by simp; omega)
  refine ⟨ds, by simpa [List.zipIdx_cons] using h1, by simpa using h2, fun j => ?_⟩
  rw [h3 j];by_cases hj : j = off + k
  ·subst hj
   rw [if_neg (by omega), if_pos (by simp)];simp [show off + k < cs.size by omega]
  ·by_cases VC : off + (k + 1) <= j /\ j < off + (k + 1) + vs.length
   ·rw [if_pos VC, if_pos (by simp; omega), show j - (off + k) = (j - (off + (k + 1))) + 1 by omega]
    simp
   ·rw [if_neg VC, if_neg (by simp; omega), Array.getElem?_setIfInBounds_ne (by omega)]
theorem xP {place : Nat -> Option (Nat × Nat)} : ∀ (ps : List (Nat × Nat × EV)) (qs : List (Nat × Value)) (cs : List EV) (lQ : Array Value), ft ρ cs lQ.toList -> (∀ c ∈ lQ.toList, c.oneCell' = true) -> ps.length = qs.length ->
  (∀ (i : Nat) (p : Nat × Nat × EV) (q : Nat × Value), ps[i]? = some p -> qs[i]? = some q -> place q.1 = some (p.1, p.2.1) /\ VR ρ p.2.2 q.2) -> ∀ ds, fw cs ps = some ds ->
  ∃ vc, Instr.fill place lQ qs = some vc /\ ft ρ ds vc.toList /\ (∀ c ∈ vc.toList, c.oneCell' = true) /\ vc.size = lQ.size := by
 intro ps
 induction ps with
 | nil =>
  intro qs cs lQ hv hf hl hp ds h
  cases qs with
  | nil => simp [fw] at h; subst h; exact ⟨lQ, rfl, hv, hf, rfl⟩
  | cons q qs => simp at hl
 | cons p ps ih =>
  intro qs cs lQ hv hf hl hp ds h
  cases qs with
  | nil => simp at hl
  | cons q qs =>
   obtain ⟨off, size, x⟩ := p
   obtain ⟨i, x'⟩ := q
   obtain ⟨Re, hx⟩ := hp 0 _ _ rfl rfl
   simp only at Re hx
   simp only [fw] at h
   cases hc : x.cells with
   | none => simp [hc] at h
   | some vs =>
    simp only [hc] at h
    cases hb : vs.length.beq size <;> simp only [hb, cond_true, cond_false, reduceCtorEq] at h
    have BJ := aR hb
    cases hs : jb cs off vs with
    | none => simp [hs] at h
    | some es =>
     simp only [hs] at h;obtain ⟨x8, hfs⟩ := hx.cells hc
     have hlen := x8.length
     have Vz := hv.length
     obtain ⟨s1, s2, s3⟩ := DS hs
     obtain ⟨qZ, e1, e2, e3⟩ := O2 x'.cells.toList 0 lQ off (by rw [<- hlen]; simp at Vz; omega)
     have aaW : ft ρ es qZ.toList := by
      refine ft.qR (by simp at Vz ⊢; omega) fun j v v' hj Tu => ?_
      rw [s3 j] at hj;rw [Array.getElem?_toList, e3 j] at Tu
      by_cases Ex : off <= j /\ j < off + vs.length
      ·rw [if_pos Ex] at hj
       rw [if_pos (by omega)] at Tu
       obtain ⟨u, g1, g2⟩ := x8.get _ _ hj
       rw [show j - (off + 0) = j - off by omega, g1] at Tu
       cases Tu; exact g2
      ·rw [if_neg Ex] at hj
       rw [if_neg (by omega)] at Tu
       obtain ⟨u, g1, g2⟩ := hv.get _ _ hj
       rw [Array.getElem?_toList, Tu] at g1
       cases g1; exact g2
     have BI : ∀ c ∈ qZ.toList, c.oneCell' = true := by
      intro c hc
      obtain ⟨j, hj⟩ := List.mem_iff_getElem?.1 hc
      rw [Array.getElem?_toList, e3 j] at hj;by_cases Ex : off + 0 <= j /\ j < off + 0 + x'.cells.toList.length
      ·rw [if_pos Ex] at hj; exact hfs c (List.mem_of_getElem? hj)
      ·rw [if_neg Ex] at hj; exact hf c (by rw [<- Array.getElem?_toList] at hj; exact List.mem_of_getElem? hj)
     obtain ⟨vc, f1, f2, f3, f4⟩ := ih qs es qZ aaW BI (by simpa using hl) (fun i p q hp' Gp => hp (i + 1) p q (by simpa using hp') (by simpa using Gp)) ds h
     refine ⟨vc, ?_, f2, f3, by rw [f4, e2]⟩
     unfold Instr.fill;simp only [Re];have uf : x'.cells.size = size := by rw [<- BJ, hlen]; simp
     rw [if_neg]
     ·have he : Array.foldl (fun (cs : Array Value) (x : Value × Nat) => cs.setIfInBounds (off + x.2) x.1) lQ x'.cells.zipIdx = qZ := by
       rw [<- e1, <- Array.foldl_toList, Array.toList_zipIdx]
      exact he ▸ f1
     ·simp [uf]
      simp at Vz
      omega
theorem Bg {G : List Nat} (hG : jt G ρ) {n : Nat} {fr : Fr} {a : Act} (hF : FR ρ n fr a) {places : Nat -> Option (Nat × Nat)} {parts : List (Nat × Operand)} {ps : List (Nat × Nat × aV)} (h : LX G places parts = some ps) :
  (ps.map fun p => (p.1, p.2.1, fr.eval p.2.2)).length = (parts.map fun p => (p.1, a.eval p.2)).length /\
  ∀ (i : Nat) (p : Nat × Nat × EV) (q : Nat × Value), (ps.map fun p => (p.1, p.2.1, fr.eval p.2.2))[i]? = some p -> (parts.map fun p => (p.1, a.eval p.2))[i]? = some q -> places q.1 = some (p.1, p.2.1) /\ VR ρ p.2.2 q.2 := by
 obtain ⟨h1, h2⟩ := mapM_some _ h
 refine ⟨by simp [h1], fun i p q hp hq => ?_⟩
 rw [List.getElem?_map] at hp hq;obtain ⟨p0, OQ, rfl⟩ := j6.1 hp
 obtain ⟨q0, Xx, rfl⟩ := j6.1 hq
 have := h2 i q0 p0 Xx OQ
 cases HA : places q0.1 with
 | none => simp [HA] at this
 | some os =>
  obtain ⟨o, s⟩ := os
  cases hx : eZ G q0.2 with
  | none => simp [HA, hx] at this
  | some x =>
   simp [HA, hx] at this
   subst this;exact ⟨rfl, ig hG hF hx⟩
theorem EP (z : List EV) : ∀ (n i : Nat), i < n * z.length -> (eA n z)[i]? = z[i % z.length]?
 | 0, i, h => by simp at h
 | n + 1, i, h => by
  unfold eA at *
  rw [List.replicate_succ, List.flatten_cons];by_cases hi : i < z.length
  ·rw [A9 hi, Nat.mod_eq_of_lt hi]
  ·rw [BO (by omega)]
   have := EP z n (i - z.length) (by rw [Nat.add_mul] at h; omega)
   unfold eA at this;rw [this, Nat.mod_eq_sub_mod (by omega : i >= z.length)]
theorem FN (n : Nat) (z : List EV) : (eA n z).length = n * z.length := by
 simp [eA]
theorem zZ {z : List EV} {z' : Array Value} (hz : ft ρ z z'.toList) (hf : ∀ c ∈ z'.toList, c.oneCell' = true) (n : Nat) :
  ft ρ (eA n z) ((Array.range (n * z.length)).map (fun i => z'[i % z'.size]!)).toList /\ (∀ c ∈ ((Array.range (n * z.length)).map (fun i => z'[i % z'.size]!)).toList, c.oneCell' = true) := by
 have hl := hz.length
 have key : ∀ i v', ((Array.range (n * z.length)).map (fun i => z'[i % z'.size]!)).toList[i]? = some v' -> i < n * z.length /\ z'[i % z'.size]? = some v' := by
  intro i v' h
  rw [Array.getElem?_toList, Array.getElem?_map] at h;obtain ⟨j, hj, rfl⟩ := j6.1 h
  rw [Array.getElem?_range] at hj
  split at hj
  ·rename_i bt
   cases hj
   refine ⟨bt, ?_⟩
   have dO : 0 < z'.size := by
    rcases Nat.eq_zero_or_pos z'.size with h0 | h0
    ·simp at hl; rw [hl, h0] at bt; simp at bt
    ·exact h0
   have hm : i % z'.size < z'.size := Nat.mod_lt _ dO
   rw [getElem!_pos z' _ hm, Array.getElem?_eq_getElem hm]
  ·cases hj
 refine ⟨ft.qR (by simp [FN]) fun i v v' hv rJ => ?_, fun c hc => ?_⟩
 ·obtain ⟨bt, h2⟩ := key i v' rJ
  rw [EP z n i bt] at hv;obtain ⟨u, g1, g2⟩ := hz.get _ _ hv
  rw [Array.getElem?_toList, show z.length = z'.size by simpa using hl, h2] at g1
  cases g1; exact g2
 ·obtain ⟨i, hi⟩ := List.mem_iff_getElem?.1 hc
  obtain ⟨_, h2⟩ := key i c hi
  rw [<- Array.getElem?_toList] at h2;exact hf c (List.mem_of_getElem? h2)
theorem RX {s d : TypeId} {ds : TypeDesc} {k : IntKind} (hs : P.underlying s = some ds) (hd : P.underlying d = some (.int k)) (l : IntKind) (n : Int) : (convert s d (.int l n)).run P w = .ok (.int k (k.wrap n)) w := by
 simp [convert, run_underlying hs, run_underlying hd, Conv.intToInt]
theorem Pf {s d : TypeId} {ds : TypeDesc} (hs : P.underlying s = some ds) (hd : P.underlying d = some .string) (x : ByteArray) : (convert s d (.string x)).run P w = .ok (.string x) w := by
 simp [convert, run_underlying hs, run_underlying hd]
theorem L3 : ∀ (vs : List Value) (xs : List EV) (s : List UInt8) (acc : ByteArray), ft ρ xs vs -> bytesOf xs = some s ->
  (forIn vs acc fun c (s : ByteArray) => (match c with
   | .int .u8 n => pure (ForInStep.yield (s.push (UInt8.ofNat n.toNat)))
   | _ => do
    stuck "bytesToString: byte expected"
    pure (ForInStep.yield s) : Sem (ForInStep ByteArray))).run P w = .ok ⟨⟨acc.data.toList ++ s⟩⟩ w := by
 intro vs
 induction vs with
 | nil =>
  intro xs s acc hv h
  cases hv
  simp [bytesOf] at h
  subst h;simp
 | cons v vs ih =>
  intro xs s acc hv h
  cases hv with
  | @cons x _ xs _ hx Lw =>
   cases hx with
   | int k n =>
    cases k <;> (try (simp [bytesOf] at h; done))
    simp only [bytesOf] at h;obtain ⟨s', Hz, rfl⟩ := j6.1 h
    have := ih xs s' (acc.push (UInt8.ofNat n.toNat)) Lw Hz
    simp only [List.forIn_cons, Sem.run_bind, Sem.run_pure, Result.andThen_ok, this];simp
   | _ => simp [bytesOf] at h
end
end
section
section
variable {base : Nat} {ρ : ep} {m : Mem} {w : World} {P : Program}
def Ai (P : Program) (s : Sem Value) (base : Nat) (ρ : ep) (m : Mem) (w : World) (v : EV) (m' : Mem) : Prop :=
 ∃ ρ' w' v', s.run P w = .ok v' w' /\ VR ρ' v v' /\ R base ρ' m' w' /\ Step ρ m w ρ' m' w'
theorem Ai.uv {s : Sem Value} {v : EV} {m' : Mem} (h : Ai P s base ρ m w v m') : Good base ρ m w v m' ((do pure (Next.value (<- s)) : Sem Next).run P w) := by
 obtain ⟨ρ', w', v', h1, h2, h3, h4⟩ := h
 exact ⟨ρ', w', v', .inl (by simp [h1]), h2, h3, h4⟩
def vk (P : Program) (s : Sem Value) (base : Nat) (ρ : ep) (m : Mem) (w : World) (v : EV) (B : fQ) : Prop :=
 ∃ ρ' w' v', s.run P w = .ok v' w' /\ VR ρ' v v' /\ Made base ρ m w ρ' B w'
theorem vk.runs {s : Sem Value} {v : EV} {B : fQ} (hR : R base ρ m w) (h : vk P s base ρ m w v B) : Ai P s base ρ m w v (m.new B) := by
 obtain ⟨ρ', w', v', h1, h2, h3⟩ := h
 obtain ⟨a, b⟩ := h3.whole hR
 exact ⟨ρ', w', v', h1, h2, a, b⟩
theorem xN (w : World) (o : Obj) : Ih w o { w with heap := w.heap.push o } := ⟨rfl, rfl, rfl, rfl⟩
theorem Bj (hR : RN base ρ m w) {cs : List EV} {x : Value} (hv : ft ρ cs x.cells.toList) (hf : ∀ c ∈ x.cells.toList, c.oneCell' = true) (el : Nat) (t : TypeId) :
  vk P (do pure (.pointer (some (<- newVar t x)))) base ρ m w (.ptr m.next 0) (.cells cs cs.length el false) := by
 obtain ⟨L, h1, h2, h3, _, _, _, h4⟩ := qe hR hv hf cs.length el t [] (0, 0) (AR _) { w with heap := w.heap.push (.cells x.cells t) } (by
  have := xN w (.cells x.cells t)
  simpa using this)
 refine ⟨_, _, _, ?_, .ptr h1, h4⟩
 simp only [newVar, newRow, Sem.run_bind, run_newObj, Result.andThen_ok, Sem.run_pure];rw [h2, h3]
theorem E4 (hR : RN base ρ m w) {t : TypeId} {z : List EV} (hz : nQ P t = some z) :
  vk P (Instr.alloc t true (.tuple #[])) base ρ m w (.ptr m.next 0) (.cells z z.length t false) := by
 obtain ⟨v, h1, h2, h3⟩ := m6 (ρ := ρ) hz
 have := Bj (P := P) hR h2 h3 t t
 obtain ⟨ρ', w', v', e1, e2⟩ := this
 exact ⟨ρ', w', v', by
  rw [<- e1];simp only [Instr.alloc, Sem.run_bind, h1, Result.andThen_ok], e2⟩
theorem J5 (hR : RN base ρ m w) {t : TypeId} {x : EV} {x' : Value} (hx : VR ρ x x') {cs : List EV} (hc : x.cells = some cs) :
  vk P (Instr.box t x') base ρ m w (.ptr m.next 0) (.cells cs cs.length t false) :=
 Bj hR (hx.cells hc).1 (hx.cells hc).2 t t
theorem Mo (hR : RN base ρ m w) {cs : List EV} {vs : Array Value} (hv : ft ρ cs vs.toList) (hf : ∀ c ∈ vs.toList, c.oneCell' = true) (esz el : Nat) (t : TypeId) {n c : Nat} (hn : n <= c) (hc : c * esz = vs.size) (known : Bool) :
  vk P (do pure (.slice (some (<- newRow t vs)) n c)) base ρ m w (.slice m.next 0 n (if known then some c else none)) (.cells cs esz el false) := by
 obtain ⟨L, h1, h2, h3, h4, h5, h6, h7⟩ := qe hR hv hf esz el t [] (0, 0) (AR _) { w with heap := w.heap.push (.cells vs t) } (by
  have := xN w (.cells vs t)
  simpa using this)
 refine ⟨_, _, .slice (some ⟨w.heap.size, 0, none⟩) n c, ?_, ?_, h7⟩
 ·simp only [newRow, Sem.run_bind, run_newObj, Result.andThen_ok, Sem.run_pure]
 ·rw [<- h2]
  cases known with
  | true => exact .fD h1 hn (fun _ => by rw [h3])
  | false =>
   refine .slice h1 hn (fun _ => by rw [h3]) (fun _ => ?_)
   rw [h5, h4, hc]; simp
theorem Bu (hR : RN base ρ m w) {t e : TypeId} {s len : Nat} {z : List EV} (hu : P.underlying t = some (.slice e)) (hs : fW P e = some s) (hz : nQ P e = some z) (Hy : z.length = s) (hl : len * s <= 2 ^ 24)
  {ps : List (Nat × Nat × EV)} {qs : List (Nat × Value)} (hlen : ps.length = qs.length)
  (hp : ∀ (i : Nat) (p : Nat × Nat × EV) (q : Nat × Value), ps[i]? = some p -> qs[i]? = some q -> (p.1 = q.1 * s /\ p.2.1 = s) /\ VR ρ p.2.2 q.2) {cs : List EV} (h : fw (eA len z) ps = some cs) :
  vk P (Instr.buildSlice t len ⟨qs⟩) base ρ m w (.slice m.next 0 len (some len)) (.cells cs s e false) := by
 obtain ⟨zv, z1, z2, z3⟩ := m6 (ρ := ρ) hz
 have Xj : zv.cells.size = s := by have := z2.length; simp at this; omega
 obtain ⟨c1, c2⟩ := zZ z2 z3 len
 rw [Hy] at c1 c2;have rM : ∀ zc : Array Value, len * s = 0 -> ((Array.range (len * s)).map fun i => zc[i % zc.size]!) = (Array.range (len * s)).map fun i => zv.cells[i % zv.cells.size]! := by
  intro zc h0
  rw [h0]; simp only [Array.range_zero', List.map_toArray, List.map_nil]
 obtain ⟨vc, f1, f2, f3, f4⟩ := xP (ρ := ρ) (place := fun i => some (i * s, s)) ps qs _ _ c1 c2 hlen (fun i p q hp' Gp => by
  obtain ⟨⟨e1, e2⟩, e3⟩ := hp i p q hp' Gp
  exact ⟨by rw [e1, e2], e3⟩) cs h
 obtain ⟨ρ', w', v', r1, r2⟩ := Mo (P := P) hR f2 f3 s e e (fh len) (by rw [f4]; simp) true
 refine ⟨ρ', w', v', ?_, r2⟩
 rw [<- r1];unfold Instr.buildSlice;simp only [Sem.run_bind, run_underlying hu, Result.andThen_ok, b8 hs];rw [if_neg (by omega)];by_cases h0 : len * s = 0
 ·simp only [if_pos h0, Sem.run_bind, Sem.run_pure, Result.andThen_ok, rM _ h0, f1]
 ·simp only [if_neg h0, Sem.run_bind, Sem.run_pure, Result.andThen_ok, z1, f1]
theorem yY (hR : RN base ρ m w) {t e : TypeId} {i : TypeInfo} {z : List EV} (hu : P.underlying t = some (.slice e)) (hi : P.info? e = some i) (hz : nQ P e = some z) (Hy : z.length = i.size) (hb : i.bytes <= 65536) {l c : Nat} (LA : l <= c) (hc : c <= room) :
  vk P (Instr.makeSlice t (.int .i64 (l : Int)) (.int .i64 (c : Int))) base ρ m w (.slice m.next 0 l (some c)) (.cells (eA c z) i.size e false) := by
 obtain ⟨zv, z1, z2, z3⟩ := m6 (ρ := ρ) hz
 obtain ⟨c1, c2⟩ := zZ z2 z3 c
 rw [Hy] at c1 c2;have hs : fW P e = some i.size := by simp [fW, hi]
 have rM : ∀ zc : Array Value, c * i.size = 0 -> ((Array.range (c * i.size)).map fun i => zc[i % zc.size]!) = (Array.range (c * i.size)).map fun i => zv.cells[i % zv.cells.size]! := by
  intro zc h0
  rw [h0]; simp only [Array.range_zero', List.map_toArray, List.map_nil]
 obtain ⟨ρ', w', v', r1, r2⟩ := Mo (P := P) hR c1 c2 i.size e e LA (by simp) true
 refine ⟨ρ', w', v', ?_, r2⟩
 rw [<- r1];unfold room at hc;have wl : IntKind.i64.wrap (l : Int) = l := by unfold IntKind.wrap; simp [IntKind.bits, IntKind.signed]; omega
 have wc : IntKind.i64.wrap (c : Int) = c := by unfold IntKind.wrap; simp [IntKind.bits, IntKind.signed]; omega
 have Rt : (i.bytes : Int) * (c : Int) <= 2 ^ 48 := by
  have : i.bytes * c <= 65536 * 1073741824 := Nat.mul_le_mul hb hc
  have h2 : ((i.bytes * c : Nat) : Int) <= ((65536 * 1073741824 : Nat) : Int) := Int.ofNat_le.2 this
  simp at h2
  omega
 unfold Instr.makeSlice;simp only [Sem.run_bind, run_underlying hu, Result.andThen_ok, asInt, asIntOf, Sem.run_pure, run_typeInfo hi, wl, wc];have t1 : (decide ((c : Int) < 0) || decide ((i.bytes : Int) * (c : Int) > 2 ^ 48)) = false := by
  simp only [Bool.or_eq_false_iff, decide_eq_false_iff_not];exact ⟨by omega, by omega⟩
 rw [if_neg (by
  simp only [t1, Bool.false_or, Bool.or_eq_true, decide_eq_true_eq, not_or];exact ⟨by omega, by omega⟩)]
 simp only [Sem.run_bind, run_askRoom, Result.andThen_ok, b8 hs, Int.toNat_natCast];by_cases h0 : c * i.size = 0
 ·simp only [if_pos h0, Sem.run_bind, Sem.run_pure, Result.andThen_ok, rM _ h0]
 ·simp only [if_neg h0, Sem.run_bind, Sem.run_pure, Result.andThen_ok, z1]
theorem sY (hR : RN base ρ m w) : vk P (do pure (.map (some (<- newObj (.map #[] 0))))) base ρ m w (.map m.next) (.map []) := by
 have g := xN w (.map #[] 0)
 let L : Loc := ⟨w.heap.size, 0, 0, 0, false⟩
 have a := I3 hR (.map []) _ g L rfl ⟨#[], 0, g.new, rfl, fun i e d he => by simp at he, hR.base, rfl⟩
 refine ⟨_, _, .map (some w.heap.size), ?_, VR.map (L := L) (by simp [ep.put]), a⟩
 simp only [Sem.run_bind, run_newObj, Result.andThen_ok, Sem.run_pure]
theorem uH {b off n : Nat} {xs : List EV} (h : m.row b off n = some xs) : xs.length = n := by
 by_cases hn : n = 0
 ·subst hn
  rw [Mem.ng] at h; cases h; rfl
 rw [Mem.pX hn] at h;unfold Mem.G9 at h
 split at h
 ·rename_i cs _ _ _ _
  cases hl : (off + n).ble cs.length <;> simp only [hl, cond_true, cond_false, reduceCtorEq, bc] at h
  subst h;have := qP hl
  simp; omega
 ·cases h
theorem Qc {b off : Nat} {xs : List EV} (h : m.row b off 0 = some xs) : xs = [] := List.eq_nil_of_length_eq_zero (uH h)
theorem nc (hR : R base ρ m w) {b off len n : Nat} {cap : Option Nat} {x' : Value} (hx : VR ρ (.slice b off len cap) x') (size : Nat) (hn : n <= len) {xs : List EV} (h : m.row b off (n * size) = some xs) :
  ∃ (a : Addr) (c : Nat) (vs : List Value), x' = .slice (some a) len c /\ (loadCells a (n * size)).run P w = .ok ⟨vs⟩ w /\ ft ρ xs vs /\ (∀ c ∈ vs, c.oneCell' = true) /\ vs.length = n * size := by
 rcases Nat.eq_zero_or_pos (n * size) with h0 | h0
 ·rw [h0] at h ⊢
  obtain rfl := Qc h
  cases hx with
  | slice => exact ⟨_, _, [], rfl, rfl, .nil, by simp, rfl⟩
  | fD => exact ⟨_, _, [], rfl, rfl, .nil, by simp, rfl⟩
  | gJ => exact ⟨_, _, [], rfl, rfl, .nil, by simp, rfl⟩
 ·have hp : 0 < n := Nat.pos_of_mul_pos_right h0
  cases hx with
  | @slice _ _ _ c o L hL hc ho hr =>
   obtain ⟨vs, h1, h2, h3, h4, h5⟩ := F7 (P := P) hR hL h
   rw [<- ho (by omega)] at h3;exact ⟨_, _, vs, rfl, h3, h4, h5, h1⟩
  | gJ => omega
  | @fD _ _ _ c o L hL hc ho =>
   obtain ⟨vs, h1, h2, h3, h4, h5⟩ := F7 (P := P) hR hL h
   rw [<- ho (by omega)] at h3;exact ⟨_, _, vs, rfl, h3, h4, h5, h1⟩
theorem KB (hR : R base ρ m w) {s d e : TypeId} (hs : P.underlying s = some (.slice e)) (he : P.underlying e = some (.int .u8)) (hd : P.underlying d = some .string) {x : EV} {x' : Value} (hx : VR ρ x x') {v : EV} {m' : Mem} (h : kT .text m x = some (v, m')) :
  Ai P (convert s d x') base ρ m w v m' := by
 cases x <;> simp only [kT, reduceCtorEq, bc, eM] at h
 case ae =>
  obtain ⟨rfl, rfl⟩ := h
  cases hx
  exact ⟨ρ, w, .string .empty, by simp [convert, run_underlying hs, run_underlying he, run_underlying hd, Conv.bytesToString], .str .empty, hR, .refl _ _ _⟩
 case slice b off n cap =>
  cases hr : m.row b off n with
  | none => simp [hr] at h
  | some cs =>
   simp only [hr] at h;obtain ⟨t, ht, h2⟩ := j6.1 h
   cases h2
   obtain ⟨a, c, vs, rfl, h3, h4, h5, h6⟩ := nc (P := P) (n := n) hR hx 1 (fh n) (by rw [Nat.mul_one]; exact hr)
   rw [Nat.mul_one] at h3;have hl := L3 (P := P) (w := w) vs cs t .empty h4 ht
   refine ⟨ρ, w, .string ⟨⟨t⟩⟩, ?_, .str ⟨⟨t⟩⟩, hR, .refl _ _ _⟩
   simp only [convert, Sem.run_bind, run_underlying hs, run_underlying hd, run_underlying he, Result.andThen_ok, Conv.bytesToString, h3];rw [<- Array.forIn_toList];have e0 : (ByteArray.empty.data.toList ++ t) = t := rfl
   rw [e0] at hl;have Sw := congrArg (fun r : Result ByteArray => r.andThen fun a w' => (pure (Value.string a) : Sem Value).run P w') hl
   exact Sw
theorem yZ (h : Array Obj) (arr : Array Value) (e : TypeId) (tape : Nat -> Question -> Nat) (d : Nat) (os : Os) (out : Array (Nat × ByteArray)) :
  (markStringish ⟨h.size, 0, none⟩).run P ⟨h.push (.cells arr e), tape, d, os, out⟩ = .ok () ⟨h.push (.cells arr e (arr.size, arr.size + 1)), tape, d, os, out⟩ := by
 have hsh : World.shape? ⟨h.push (.cells arr e), tape, d, os, out⟩ h.size = some (e, arr.size) := by simp [World.shape?]
 simp only [markStringish, Sem.run_bind, run_shape, Result.andThen_ok, hsh, run_freeze];simp only [World.freeze, if_neg (show ¬ (1 = 0) by decide)]
 congr 2
 apply Array.ext_getElem?
 intro i
 rw [Array.getElem?_modify, Array.getElem?_push, Array.getElem?_push];by_cases hi : i = h.size
 ·subst hi; simp
 ·rw [if_neg (fun e => hi e.symm)]
  simp [hi]
theorem ET (hR : RN base ρ m w) {s d e : TypeId} (hs : P.underlying s = some .string) (hd : P.underlying d = some (.slice e)) (he : P.underlying e = some (.int .u8)) {x : EV} {x' : Value} (hx : VR ρ x x') {v : EV} {m' : Mem} (h : kT (.bytes e) m x = some (v, m')) :
  ∃ B, m' = m.new B /\ vk P (convert s d x') base ρ m w v B := by
 cases hx <;> simp only [kT, reduceCtorEq, bc, eM] at h
 rename_i s'
 obtain ⟨rfl, rfl⟩ := h
 let q : Question := .appendCap s'.size 0 e
 have hq : q.forced = false := rfl
 let cap := q.cut (w.tape w.drawn q)
 have JB : s'.size <= cap := Nat.le_add_right _ _
 let pt : Array Value := s'.data.map fun b => .int .u8 (b.toNat : Int)
 let o : Obj := .cells (pt ++ Array.replicate (cap - s'.size) (.int .u8 0)) e (pt.size + (cap - s'.size), pt.size + (cap - s'.size) + 1)
 let w' : World := { w with drawn := w.drawn + 1, heap := w.heap.push o }
 have hlen : s'.data.toList.length = s'.size := rfl
 have hv : ft ρ (s'.data.toList.map fun b => EV.int .u8 (b.toNat : Int)) pt.toList := by
  rw [show pt.toList = s'.data.toList.map fun b => Value.int .u8 (b.toNat : Int) by simp [pt]]
  exact ft.Hn _ _ (R := fun a b => a = b) (fun a b e => by subst e; exact .int _ _) rfl fun i a b h1 h2 => by rw [h1] at h2; cases h2; rfl
 have hf : ∀ c ∈ pt.toList, c.oneCell' = true := by
  intro c hc
  simp [pt] at hc
  obtain ⟨b, _, rfl⟩ := hc
  rfl
 have uw : pt.size = s'.size := by simp [pt]
 obtain ⟨L, h1, h2, h3, h4, h5, h6, h7⟩ := qe hR hv hf 1 e e (List.replicate (cap - s'.size) (.int .u8 0)) (pt.size + (cap - s'.size), pt.size + (cap - s'.size) + 1) (fun i hi => by simp at hi; simp; omega) w' (by
  have e1 : (⟨pt.toList ++ List.replicate (cap - s'.size) (.int .u8 0)⟩ : Array Value) = pt ++ Array.replicate (cap - s'.size) (.int .u8 0) := by
   apply Array.ext'; simp
  rw [e1];exact ⟨rfl, rfl, rfl, rfl⟩)
 refine ⟨_, rfl, _, w', .slice (some ⟨w.heap.size, 0, none⟩) s'.size cap, ?_, ?_, h7⟩
 ·simp only [convert, Sem.run_bind, run_underlying hs, run_underlying hd, run_underlying he, Result.andThen_ok, Conv.stringToBytes, run_choose]
  rw [show (Question.appendCap s'.size 0 e).forced = false from rfl];simp only [re, if_false, Result.andThen_ok, newRow, Sem.run_bind, run_newObj, Sem.run_pure, yZ];simp only [Array.size_append, Array.size_replicate, Array.size_map, w', o, pt, cap, q]
 ·have : VR (ρ.put m.next L) (.slice m.next 0 s'.data.toList.length none) (.slice (some ⟨L.c9, 0, none⟩) s'.size cap) := by
   rw [hlen];refine .slice h1 JB (fun _ => by rw [h3]) (fun _ => ?_)
   rw [h5, h4]; simp [uw]; omega
  rw [<- h2]; exact this
end
end
section
section
variable {base : Nat} {ρ : ep} {m : Mem} {w : World} {P : Program}
theorem Gw (Fv : Nat) : ∀ r c, c < Fv -> Builtin.growBy Fv r c <= 2 * Fv + 768
 | 0, c, h => by simp [Builtin.growBy]; omega
 | r + 1, c, h => by
  simp only [Builtin.growBy];rw [if_neg (by omega)];by_cases h2 : c + (c + 768) / 4 < Fv
  ·exact Gw Fv r _ h2
  ·cases r with
   | zero => simp [Builtin.growBy]; omega
   | succ r => simp only [Builtin.growBy]; rw [if_pos (by omega)]; omega
theorem K6 {Fv old : Nat} (h : old < Fv) : Builtin.nextslicecap Fv old <= 2 * Fv + 768 := by
 unfold Builtin.nextslicecap
 split
 ·omega
 ·split
  ·omega
  ·exact Gw Fv 4 old h
theorem jc (hR : R base ρ m w) {x : EV} {x' : Value} (hx : VR ρ x x') (size : Nat) {n : Nat} {xs : List EV} (h : m.source size x = some (n, xs)) :
  (Builtin.lenOf x').run P w = .ok n w /\ xs.length = n * size /\ ∀ k, k <= n -> ∃ vs : List Value, (Builtin.firstCells size k x').run P w = .ok ⟨vs⟩ w /\ ft ρ (xs.take (k * size)) vs /\ (∀ c ∈ vs, c.oneCell' = true) := by
 cases x <;> simp only [Mem.source, reduceCtorEq, bc, eM] at h
 case fz => cases hx
 case ae =>
  obtain ⟨rfl, rfl⟩ := h
  cases hx
  refine ⟨rfl, by simp, fun k hk => ⟨[], ?_, by simpa using ft.nil, by simp⟩⟩
  rfl
 case str s =>
  cases uf : size.beq 1 <;> simp only [uf, cond_true, cond_false, reduceCtorEq, bc, eM] at h
  obtain ⟨rfl, rfl⟩ := h
  obtain rfl := aR uf
  cases hx with
  | str s' =>
  refine ⟨rfl, by simp, fun k hk => ⟨(s'.data.toList.take k).map fun b => .int .u8 (b.toNat : Int), ?_, ?_, ?_⟩⟩
  ·simp only [Builtin.firstCells, Sem.run_pure]
   congr 1
   apply Array.ext'
   simp
  ·rw [Nat.mul_one, <- List.map_take]
   exact ft.Hn _ _ (R := fun a b => a = b) (fun a b e => by subst e; exact .int _ _) rfl fun i a b h1 h2 => by rw [h1] at h2; cases h2; rfl
  ·intro c hc
   obtain ⟨b, _, rfl⟩ := List.mem_map.1 hc
   rfl
 case slice b off len cap =>
  obtain ⟨cs, mg, h2⟩ := j6.1 h
  cases h2
  refine ⟨by cases hx <;> rfl, uH mg, fun k hk => ?_⟩
  have nH : k * size <= n * size := Nat.mul_le_mul_right _ hk
  have Fy : m.row b off (k * size) = some (xs.take (k * size)) := by
   by_cases FB : k * size = 0
   ·rw [FB, Mem.ng]; simp
   rw [Mem.pX FB];rw [Mem.pX (by omega)] at mg;unfold Mem.G9 at mg ⊢
   split at mg
   ·rename_i ds _ _ _ hg
    cases hl : (off + n * size).ble ds.length <;> simp only [hl, cond_true, cond_false, reduceCtorEq, bc] at mg
    have := qP hl
    have h3 : (off + k * size).ble ds.length = true := A8 (by omega)
    simp only [h3, cond_true];subst mg;rw [List.take_take, Nat.min_eq_left nH]
   ·cases mg
  obtain ⟨a, c, vs, rfl, h3, h4, h5, h6⟩ := nc (P := P) hR hx size hk Fy
  exact ⟨vs, by simpa [Builtin.firstCells] using h3, h4, h5⟩
theorem kill (hR : R base ρ m w) {b : Nat} {L : Loc} (hb : ρ b = some L) : R base ρ (m.set b .dead) w /\ Step ρ m w ρ (m.set b .dead) w := by
 have hl : ∀ c, Live (m.set b .dead) c -> c ≠ b /\ Live m c := by
  intro c hc
  unfold Live at hc ⊢
  rw [Mem.bW] at hc;by_cases e : c = b
  ·rw [if_pos e] at hc; exact absurd rfl hc
  ·rw [if_neg e] at hc; exact ⟨e, hc⟩
 refine ⟨⟨hR.lt, fun c M hM => ?_, fun c d M M' hM HF h1 h2 h3 h4 => hR.inj c d M M' hM HF (hl c h1).2 (hl d h2).2 h3 h4, hR.base, fun c hc => by rw [Mem.bW]; split <;> first | rfl | exact hR.clean c hc⟩, ⟨.refl ρ, fun _ h h' => absurd h h', fh _, fun c hc hn => ?_, fun c _ hd => by rw [Mem.bW]; split <;> first | rfl | exact hd, fh _, fun i hi => ?_, fun _ _ _ => rfl, rfl, rfl, rfl⟩⟩
 ·rw [Mem.bW]
  by_cases e : c = b
  ·rw [if_pos e]; trivial
  ·rw [if_neg e]; exact hR.c9 c M hM
 ·rw [Mem.bW, if_neg (fun e => by subst e; rw [hb] at hn; cases hn)]
 ·rintro ⟨c, M, hM, h1, h2, h3⟩
  exact ⟨c, M, hM, (hl c h1).2, h2, h3⟩
theorem Kc (hR : R base ρ m w) {b : Nat} {L : Loc} (hb : ρ b = some L) {cs0 : List EV} {el0 : Nat} (hm : m.get b = .cells cs0 L.esz el0 false) {o len n c : Nat} {old xs : List EV} {Fo : List Value} (elem : Nat)
  (hold : ∀ (i : Nat) (v : EV), old[i]? = some v -> cs0[o - L.off + i]? = some v /\ L.off <= o) (Ww : old.length = len * L.esz) (Tk : xs.length = n * L.esz) (JB : len + n <= c) (hr : o + c * L.esz <= L.total)
  (hx : ft ρ xs Fo) (hf : ∀ c ∈ Fo, c.oneCell' = true) :
  ∃ (w' : World) (L' : Loc), (storeCells ⟨L.c9, o + len * L.esz, none⟩ Fo).run P w = .ok () w' /\ L'.c9 = L.c9 /\ L'.off = o /\ L'.total = L.total /\ L'.esz = L.esz /\ L'.ro = false /\
   R base (ρ.put m.next L') ((m.new (.cells (old ++ xs) L.esz elem false)).set b .dead) w' /\ Step ρ m w (ρ.put m.next L') ((m.new (.cells (old ++ xs) L.esz elem false)).set b .dead) w' := by
 have hB := hR.c9 b L hb
 rw [hm] at hB;obtain ⟨arr, e, fz, h1, h2, h3, h4, h5, h6, h7, h8⟩ := hB
 obtain ⟨JC, uh⟩ := h7 rfl
 have aeZ := hx.length
 have YT : len * L.esz + n * L.esz <= c * L.esz := by rw [<- Nat.add_mul]; exact Nat.mul_le_mul_right _ JB
 obtain ⟨w', H6, r1, r2, r3, r4, r5, r6, r7, r8, r9⟩ := oT (P := P) (o := o + len * L.esz) Fo 0 w arr h1 (by omega) uh hf
 let L' : Loc := ⟨L.c9, o, L.total, L.esz, false⟩
 have XV : L'.off = o := rfl
 have hn := hR.Uk
 have he := ep.HL L' hn
 have xf : Live m b := by unfold Live; rw [hm]; simp
 have It : b ≠ m.next := by have := hR.lt b L hb; omega
 let m' := (m.new (.cells (old ++ xs) L.esz elem false)).set b .dead
 have fm : m'.get m.next = .cells (old ++ xs) L.esz elem false := by
  show Mem.get (Mem.set _ _ _) _ = _
  rw [Mem.bW, if_neg (Ne.symm It), Mem.fm, if_pos rfl]
 have RA : m'.get b = .dead := by
  show Mem.get (Mem.set _ _ _) _ = _
  rw [Mem.bW, if_pos rfl]
 have iB : ∀ d, d ≠ m.next -> d ≠ b -> m'.get d = m.get d := fun d hd FG => by
  show Mem.get (Mem.set _ _ _) _ = _
  rw [Mem.bW, if_neg FG, Mem.fm, if_neg hd]
 have uR : ∀ d, d ≠ m.next -> Live m' d -> d ≠ b /\ Live m d := by
  intro d hd hl
  have hdb : d ≠ b := fun e => by subst e; exact hl RA
  exact ⟨hdb, by unfold Live at hl ⊢; rwa [iB d hd hdb] at hl⟩
 refine ⟨w', L', r1, rfl, rfl, rfl, rfl, rfl, ⟨?_, ?_, ?_, ?_, fun d hd => by have hd : m.next + 1 <= d := hd; have := hR.lt b L hb; rw [iB d (by omega) (by omega)]; exact hR.clean d (by omega)⟩, ⟨he, ?_, ?_, ?_, fun d hd XO => (Classical.em (d = b)).elim (fun e => by rw [e]; exact RA) (fun e => by have hdn : d ≠ m.next := Nat.ne_of_lt hd; exact (iB d hdn e).trans XO), by omega, ?_, ?_, r7, r8, r9⟩⟩
 ·intro d M hM
  show d < m.next + 1
  unfold ep.put at hM;by_cases e : d = m.next
  ·omega
  ·rw [if_neg e] at hM; have := hR.lt d M hM; omega
 ·intro d M hM
  unfold ep.put at hM;by_cases e : d = m.next
  ·rw [if_pos e] at hM; cases hM
   subst e
   show A7 base _ (m'.get m.next) _ _
   rw [fm];refine ⟨H6, _, fz, r2, r3.trans h2, rfl, rfl, by rw [XV, ja]; show _ <= L.total; omega, ?_, fun _ => ⟨JC, by rw [r3]; exact uh⟩, by simp⟩
   intro i v hi
   rw [r4];by_cases bt : i < old.length
   ·rw [A9 bt] at hi
    obtain ⟨g0, g1⟩ := hold i v hi
    obtain ⟨v', k1, k2, k3⟩ := h6 _ v g0
    rw [if_neg (by rw [XV]; omega)]
    refine ⟨v', ?_, k2.ext he, k3⟩
    rw [show L'.off + i = L.off + (o - L.off + i) by rw [XV]; omega]
    exact k1
   ·rw [BO (by omega)] at hi
    obtain ⟨v', k1, k2⟩ := hx.get _ v hi
    have mG : i - old.length < Fo.length := (rc.1 k1).1
    rw [if_pos (by rw [XV]; omega)]
    refine ⟨v', ?_, k2.ext he, hf v' (List.mem_of_getElem? k1)⟩
    rw [<- k1]; congr 1; rw [XV]; omega
  ·rw [if_neg e] at hM
   show A7 base _ (m'.get d) _ _
   by_cases hd : d = b
   ·subst hd; rw [RA]; trivial
   ·rw [iB d e hd]
    by_cases hl : m.get d = .dead
    ·rw [hl]; trivial
    ·have iQ : M.c9 ≠ L.c9 := fun xi => hd (hR.inj b d L M hb hM xf hl (by rw [h4]) xi.symm).symm
     exact (hR.c9 d M hM).of_heap he (r5 _ iQ)
 ·intro d f M M' hM HF hl zk qW xi
  unfold ep.put at hM HF
  by_cases e : d = m.next <;> by_cases e' : f = m.next
  ·rw [e, e']
  ·rw [if_pos e] at hM; cases hM
   rw [if_neg e'] at HF
   obtain ⟨q1, q2⟩ := uR f e' zk
   exact absurd (hR.inj b f L M' hb HF xf q2 (by rw [h4]) xi).symm q1
  ·rw [if_pos e'] at HF; cases HF
   rw [if_neg e] at hM;obtain ⟨q1, q2⟩ := uR d e hl
   exact absurd (hR.inj d b M L hM hb q2 xf qW xi) q1
  ·rw [if_neg e] at hM; rw [if_neg e'] at HF
   exact hR.inj d f M M' hM HF (uR d e hl).2 (uR f e' zk).2 qW xi
 ·rw [r6]; exact hR.base
 ·intro d hd1 Ir
  unfold ep.put at Ir;by_cases e : d = m.next
  ·omega
  ·rw [if_neg e] at Ir; exact absurd hd1 Ir
 ·show m.next <= m.next + 1; omega
 ·intro d hd Uu
  exact iB d (by omega) (fun e => by subst e; rw [hb] at Uu; cases Uu)
 ·rintro i hi ⟨d, M, hM, hl, qW, xi⟩
  unfold ep.put at hM;by_cases e : d = m.next
  ·rw [if_pos e] at hM; cases hM
   exact ⟨b, L, hb, xf, by rw [h4], xi⟩
  ·rw [if_neg e] at hM
   exact ⟨d, M, hM, (uR d e hl).2, qW, xi⟩
 ·intro i hi hr
  exact r5 i (fun e => hr ⟨b, L, hb, xf, by rw [h4], e.symm⟩)
theorem DD (z : Array Value) (n : Nat) : (Builtin.zeroCells z n).size = n * z.size := by simp [Builtin.zeroCells]
theorem Ry {t u e : TypeId} {du : TypeDesc} {i : TypeInfo} (ht : P.underlying t = some (.slice e)) (hu : P.underlying u = some du) (Gu : (∃ v, du = .slice v) \/ du = .string) (hi : P.info? e = some i) {zv : Value} (hz : ∀ w, (zeroValue e).run P w = .ok zv w)
  (Hy : zv.cells.size = i.size) (hb : i.bytes <= 65536) {a : Option Addr} {len cap n : Nat} {x' : Value} {old xs : List Value} (hn : (Builtin.lenOf x').run P w = .ok n w) (Rp : cap < len + n) (zi : len + n <= room)
  (hold : (Builtin.firstCells i.size len (.slice a len cap)).run P { w with drawn := w.drawn + 1 } = .ok ⟨old⟩ { w with drawn := w.drawn + 1 }) (Vu : (Builtin.firstCells i.size n x').run P { w with drawn := w.drawn + 1 } = .ok ⟨xs⟩ { w with drawn := w.drawn + 1 }) :
  ∃ (w' : World) (c : Nat) (extra : List Value), (Builtin.append_ #[t, u] t #[.slice a len cap, x']).run P w = .ok (.slice (some ⟨w.heap.size, 0, none⟩) (len + n) c) w' /\ len + n <= c /\ extra.length = (c - (len + n)) * i.size /\
   Ih w (.cells ⟨(old ++ xs) ++ extra⟩ e (0, 0)) w' := by
 have hs : fW P e = some i.size := by simp [fW, hi]
 let q : Question := .appendCap (len + n) cap e
 let c := q.cut (w.tape w.drawn q)
 have hc : len + n <= c := Nat.le_add_right _ _
 refine ⟨{ w with drawn := w.drawn + 1, heap := w.heap.push (.cells (⟨old⟩ ++ ⟨xs⟩ ++ Builtin.zeroCells zv.cells (c - (len + n))) e) }, c, (Builtin.zeroCells zv.cells (c - (len + n))).toList, ?_, hc, by simp [DD, Hy], ⟨by simp [<- Array.toList_inj], rfl, rfl, rfl⟩⟩
 have hnc := K6 Rp
 unfold room at zi;have abt : ¬ Builtin.nextslicecap (len + n) cap * i.bytes > 2 ^ 48 := by
  have h1 : Builtin.nextslicecap (len + n) cap * i.bytes <= (2 * 1073741824 + 768) * 65536 := Nat.mul_le_mul (by omega) hb
  omega
 rcases Gu with ⟨v, rfl⟩ | rfl
 all_goals
  unfold Builtin.append_;simp only [List.getElem?_toArray, List.getElem?_cons_zero, List.getElem?_cons_succ, Sem.run_bind, run_underlying ht, Result.andThen_ok, b8 hs, run_underlying hu, Sem.run_pure, re, if_false, Bool.not_false, if_true, hn];rw [if_neg (by omega)];simp only [Sem.run_bind, run_typeInfo hi, Result.andThen_ok];rw [if_neg (by simp only [IntKind.max_i64]; omega)]
  simp only [Sem.run_bind, run_typeInfo hi, Result.andThen_ok];rw [if_neg abt];simp only [Sem.run_bind, run_choose];rw [show (Question.appendCap (len + n) cap e).forced = false from rfl];simp only [re, if_false, Result.andThen_ok, run_askRoom, run_typeInfo hi];rw [hold];simp only [Result.andThen_ok];rw [Vu];simp only [Result.andThen_ok, hz, Sem.run_pure, newRow, Sem.run_bind, run_newObj]
  rfl
theorem rO {t u e : TypeId} {du : TypeDesc} {size : Nat} (ht : P.underlying t = some (.slice e)) (hu : P.underlying u = some du) (Gu : (∃ v, du = .slice v) \/ du = .string) (hs : fW P e = some size)
  {a : Option Addr} {len cap n : Nat} {x' : Value} {xs : List Value} (hn : (Builtin.lenOf x').run P w = .ok n w) (Jx : len + n <= cap) (Vu : (Builtin.firstCells size n x').run P w = .ok ⟨xs⟩ w) :
  (Builtin.append_ #[t, u] t #[.slice a len cap, x']).run P w = (match a with | some b => (storeCells (b.add (len * size)) xs).run P w | none => .ok () w : Result Unit).andThen fun _ w' => .ok (.slice a (len + n) cap) w' := by
 rcases Gu with ⟨v, rfl⟩ | rfl
 all_goals
  unfold Builtin.append_;simp only [List.getElem?_toArray, List.getElem?_cons_zero, List.getElem?_cons_succ, Sem.run_bind, run_underlying ht, Result.andThen_ok, b8 hs, run_underlying hu, Sem.run_pure, re, if_false, Bool.not_false, if_true, hn];rw [if_pos Jx];simp only [Sem.run_bind, Vu, Result.andThen_ok]
  cases a <;> simp
theorem pZ (w : World) : E8 w { w with drawn := w.drawn + 1 } := ⟨rfl, rfl, rfl, rfl⟩
theorem Ft {x : EV} {n : Nat} {xs : List EV} {esz : Nat} {x' : Value} (hx : VR ρ x x') (h : m.source esz x = some (n, xs)) : xs.length = n * esz := by
 cases x <;> simp only [Mem.source, reduceCtorEq, bc, eM] at h
 case fz => cases hx
 case ae => obtain ⟨rfl, rfl⟩ := h; simp
 case str s =>
  cases uf : esz.beq 1 <;> simp only [uf, cond_true, cond_false, reduceCtorEq, bc, eM] at h
  obtain ⟨rfl, rfl⟩ := h
  obtain rfl := aR uf
  simp
 case slice b off len cap =>
  obtain ⟨cs, mg, h2⟩ := j6.1 h
  cases h2
  exact uH mg
theorem tj (hR : R base ρ m w) {t u e : TypeId} {du : TypeDesc} {i : TypeInfo} {z : List EV} (ht : P.underlying t = some (.slice e)) (hu : P.underlying u = some du) (Gu : (∃ v, du = .slice v) \/ du = .string) (hi : P.info? e = some i)
  (hz : nQ P e = some z) (Hy : z.length = i.size) (hb : i.bytes <= 65536) {a : Option Addr} {len cap n : Nat} {x : EV} {x' : Value} (hx : VR ρ x x') {xs : List EV} (jy : m.source i.size x = some (n, xs)) (Rp : cap < len + n) (zi : len + n <= room)
  {old : List EV} {old' : List Value} (hov : ft ρ old old') (Wx : ∀ c ∈ old', c.oneCell' = true) (Ww : old.length = len * i.size)
  (hold : (Builtin.firstCells i.size len (.slice a len cap)).run P { w with drawn := w.drawn + 1 } = .ok ⟨old'⟩ { w with drawn := w.drawn + 1 }) :
  Ai P (Builtin.append_ #[t, u] t #[.slice a len cap, x']) base ρ m w (.slice m.next 0 (len + n) none) (m.new (.cells (old ++ xs) i.size e false)) := by
 obtain ⟨zv, z1, z2, _⟩ := m6 (ρ := ρ) hz
 have Xj : zv.cells.size = i.size := by have := z2.length; simp at this; omega
 obtain ⟨s1, s2, _⟩ := jc (P := P) hR hx i.size jy
 obtain ⟨_, _, s3⟩ := jc (P := P) (hR.quiet (pZ w)) hx i.size jy
 obtain ⟨vs, f1, f2, f3⟩ := s3 n (fh n)
 rw [Ij (by omega)] at f2;obtain ⟨w', c, extra, g1, g2, g3, g4⟩ := Ry (P := P) (w := w) ht hu Gu hi z1 Xj hb s1 Rp zi hold f1
 have VL := hov.append f2
 obtain ⟨L, h1, h2, h3, h4, h5, h6, h7, h8⟩ := Hj hR VL (fun c hc => by
  rcases uy.1 hc with hc | hc
  ·exact Wx c hc
  ·exact f3 c hc) i.size e e extra (0, 0) (AR _) w' g4
 refine ⟨_, w', _, g1, ?_, h7, h8⟩
 rw [<- h2];refine .slice h1 g2 (fun _ => by rw [h3]) (fun _ => ?_)
 have hl1 := hov.length
 have Sw := f2.length
 rw [h5, h4, g3, ja, <- hl1, <- Sw, Ww, s2, <- Nat.add_mul, <- Nat.add_mul];rw [show len + n + (c - (len + n)) = c by omega];simp
theorem H8 (hR : R base ρ m w) {t u e : TypeId} {du : TypeDesc} {i : TypeInfo} {z : List EV} (ht : P.underlying t = some (.slice e)) (hu : P.underlying u = some du) (Gu : (∃ v, du = .slice v) \/ du = .string) (hi : P.info? e = some i)
  (hz : nQ P e = some z) (Hy : z.length = i.size) (hb : i.bytes <= 65536) {s x : EV} {s' x' : Value} (hs : VR ρ s s') (hx : VR ρ x x') {v : EV} {m' : Mem} (h : fP m e i.size s x = some (v, m')) :
  Ai P (Builtin.append_ #[t, u] t #[s', x']) base ρ m w v m' := by
 have uf : fW P e = some i.size := by simp [fW, hi]
 unfold fP at h
 cases jy : m.source i.size x with
 | none => simp [jy] at h
 | some nx =>
 obtain ⟨n, xs⟩ := nx
 simp only [jy] at h;have Tk := Ft hx jy
 obtain ⟨s1, s2, s3⟩ := jc (P := P) hR hx i.size jy
 obtain ⟨vs, f1, f2, f3⟩ := s3 n (fh n)
 rw [Ij (by omega)] at f2
 cases hn : n.beq 0 with
 | true =>
  obtain rfl := aR hn
  simp only [hn, cond_true] at h;have x8 : vs = [] := by
   have := f2.length
   rw [Tk] at this;simp at this
   exact List.eq_nil_of_length_eq_zero this.symm
  subst x8
  cases hs <;> simp only [reduceCtorEq, bc, eM] at h
  case ae =>
   obtain ⟨rfl, rfl⟩ := h
   exact ⟨ρ, w, _, by rw [rO ht hu Gu uf s1 (fh _) f1]; rfl, .ae, hR, .refl _ _ _⟩
  case slice b off len c o L hL hc ho hr =>
   obtain ⟨rfl, rfl⟩ := h
   exact ⟨ρ, w, _, by rw [rO ht hu Gu uf s1 (by omega) f1]; rfl, .slice hL hc ho hr, hR, .refl _ _ _⟩
  case gJ b off a =>
   obtain ⟨rfl, rfl⟩ := h
   exact ⟨ρ, w, _, by rw [rO ht hu Gu uf s1 (by omega) f1]; rfl, .gJ, hR, .refl _ _ _⟩
  case fD b off len c o L hL hc ho =>
   obtain ⟨rfl, rfl⟩ := h
   exact ⟨ρ, w, _, by rw [rO ht hu Gu uf s1 (by omega) f1]; rfl, .fD hL hc ho, hR, .refl _ _ _⟩
 | false =>
  have uu := jY hn
  simp only [hn, cond_false] at h
  cases hs <;> simp only [reduceCtorEq] at h
  case ae =>
   cases MT : n.ble room <;> simp only [MT, cond_true, cond_false, reduceCtorEq, bc, eM] at h
   obtain ⟨rfl, rfl⟩ := h
   have hle := qP MT
   have := tj (P := P) (a := none) (len := 0) (cap := 0) hR ht hu Gu hi hz Hy hb hx jy (by omega) (by omega) (old := []) (old' := []) .nil (by simp) (by simp) rfl
   simpa using this
  case slice b off len c o L hL hc ho hr =>
   cases MT : (len + n).ble room <;> simp only [MT, cond_true, cond_false, reduceCtorEq] at h
   have zi := qP MT
   cases hold : m.row b off (len * i.size) with
   | none => simp [hold] at h
   | some old =>
   simp only [hold] at h
   cases hm : m.get b with
   | dead => simp [hm] at h
   | map es => simp [hm] at h
   | cells cs0 abL el0 ro0 =>
   simp only [hm] at h
   cases ro0 with
   | true => simp at h
   | false =>
   simp only [] at h
   cases he : abL.beq i.size <;> simp only [he, cond_true, cond_false, reduceCtorEq, bc, eM] at h
   obtain rfl := aR he
   obtain ⟨rfl, rfl⟩ := h
   have uw := RM hR hL hm
   have hB := hR.c9 b L hL
   rw [hm] at hB;obtain ⟨_, _, _, _, _, _, qW, _⟩ := hB
   by_cases Jx : len + n <= c
   ·have Fy : ∀ (j : Nat) (v : EV), old[j]? = some v -> cs0[o - L.off + j]? = some v /\ L.off <= o := by
     intro j v hj
     have bt : j < old.length := (rc.1 hj).1
     have Ww := uH hold
     have hlp : 0 < len := by
      rcases Nat.eq_zero_or_pos len with h0 | h0
      ·subst h0; simp at Ww; subst Ww; simp at bt
      ·exact h0
     have ho' := ho hlp
     have iQ : len * i.size ≠ 0 := by intro h0; rw [h0] at Ww; omega
     rw [Mem.pX iQ] at hold;unfold Mem.G9 at hold;simp only [hm] at hold
     cases hl : (off + len * i.size).ble cs0.length <;> simp only [hl, cond_true, cond_false, reduceCtorEq, bc] at hold
     subst hold;rw [List.getElem?_take] at hj
     split at hj
     ·rw [List.getElem?_drop] at hj
      exact ⟨by rw [show o - L.off + j = off + j by omega]; exact hj, by omega⟩
     ·cases hj
    obtain ⟨w', L', a1, a2, a3, a4, a5, a6, a7, a8⟩ := Kc (P := P) hR hL (by rw [uw]; exact hm) e Fy (by rw [uw]; exact uH hold) (by rw [uw]; exact Tk) Jx (hr qW) f2 f3
    rw [uw] at a1 a7 a8;refine ⟨_, w', .slice (some ⟨L.c9, o, none⟩) (len + n) c, ?_, ?_, a7, a8⟩
    ·rw [rO ht hu Gu uf s1 Jx f1]
     simp only [add_eq, a1, Result.andThen_ok]
    ·have hp : (ρ.put m.next L') m.next = some L' := by simp [ep.put]
     rw [<- a2];refine .slice hp Jx (fun _ => by rw [a3]; rfl) (fun _ => ?_)
     rw [a5, a4]; exact hr qW
   ·obtain ⟨a, c', vs0, e1, e2, e3, e4, e5⟩ := nc (P := P) (hR.quiet (pZ w)) (.slice hL hc ho hr) i.size (fh len) hold
    cases e1
    obtain ⟨ρ', w', v', g1, g2, g3, g4⟩ := tj (P := P) hR ht hu Gu hi hz Hy hb hx jy (a := some ⟨L.c9, o, none⟩) (len := len) (cap := c) (by omega) zi e3 e4 (uH hold) (by simpa [Builtin.firstCells] using e2)
    obtain ⟨k1, k2⟩ := kill g3 (g4.ext _ _ hL)
    exact ⟨ρ', w', v', g1, g2, k1, g4.trans k2⟩
  case gJ b off a =>
   cases MT : (0 + n).ble room <;> simp only [MT, cond_true, cond_false, reduceCtorEq] at h
   have zi := qP MT
   cases hold : m.row b off (0 * i.size) with
   | none => rw [hold] at h; cases h
   | some old =>
   rw [hold] at h; simp only at h
   cases Tw : (0 + n).ble 0 <;> simp only [Tw, cond_true, cond_false, bc, eM] at h
   ·obtain ⟨rfl, rfl⟩ := h
    have Uv : 0 < 0 + n := by
     rcases Nat.lt_or_ge 0 (0 + n) with h1 | h1
     ·exact h1
     ·rw [A8 h1] at Tw; cases Tw
    obtain ⟨a', c', vs0, e1, e2, e3, e4, e5⟩ := nc (P := P) (hR.quiet (pZ w)) (.gJ (b := b) (off := off) (a := a)) i.size (fh 0) hold
    cases e1
    exact tj (P := P) hR ht hu Gu hi hz Hy hb hx jy (a := some a) (len := 0) (cap := 0) Uv zi e3 e4 (uH hold) (by simpa [Builtin.firstCells] using e2)
   ·exfalso
    have := qP Tw
    have uu : n = 0 := by omega
    simp [uu] at hn
  case fD b off len c o L hL hc ho =>
   cases MT : (len + n).ble room <;> simp only [MT, cond_true, cond_false, reduceCtorEq] at h
   have zi := qP MT
   cases hold : m.row b off (len * i.size) with
   | none => simp [hold] at h
   | some old =>
   simp only [hold] at h
   cases Tw : (len + n).ble c <;> simp only [Tw, cond_true, cond_false, bc, eM] at h
   ·obtain ⟨rfl, rfl⟩ := h
    have Uv : c < len + n := by
     rcases Nat.lt_or_ge c (len + n) with h1 | h1
     ·exact h1
     ·rw [A8 h1] at Tw; cases Tw
    obtain ⟨a, c', vs0, e1, e2, e3, e4, e5⟩ := nc (P := P) (hR.quiet (pZ w)) (.fD hL hc ho) i.size (fh len) hold
    cases e1
    exact tj (P := P) hR ht hu Gu hi hz Hy hb hx jy (a := some ⟨L.c9, o, none⟩) (len := len) (cap := c) Uv zi e3 e4 (uH hold) (by simpa [Builtin.firstCells] using e2)
   ·have Jx := qP Tw
    obtain ⟨m1, Uw, h2⟩ := j6.1 h
    cases h2
    obtain ⟨w', r1, r2, r3⟩ := pK (P := P) hR hL f2 f3 Uw
    refine ⟨ρ, w', .slice (some ⟨L.c9, o, none⟩) (len + n) c, ?_, .fD hL Jx ho, r2, r3⟩
    rw [rO ht hu Gu uf s1 Jx f1];have : o = L.off + off := ho (by omega)
    subst this;simp only [add_eq, <- Nat.add_assoc] at r1 ⊢
    simp only [r1, Result.andThen_ok]
end
end
end Go.Proofs.YtdiccmapankckaaDoor.Ev
