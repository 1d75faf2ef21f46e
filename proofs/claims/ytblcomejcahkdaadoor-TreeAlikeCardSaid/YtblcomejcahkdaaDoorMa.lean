/- EvTab, EvCore, EvRun, EvComp, EvRel, EvMem, EvGlo, EvGl, EvOpA, EvOpB, EvOpC, EvOpD, EvOpE, EvOpF. -/
import GoSem.Dispatch
import Derived.Calls
import Derived.Laws.Sem
import Derived.Laws.World
import Derived.Laws.Entries
import Derived.KernelRfl
set_option linter.unusedSimpArgs false
set_option linter.unusedVariables false
set_option linter.unusedSectionVars false
section
namespace Go.Proofs.YtblcomejcahkdaaDoor.Ev

theorem beq_ff {a b : Nat} (h : a ≠ b) : a.beq b = false := by
  cases e : a.beq b
  · rfl
  · exact absurd (Nat.eq_of_beq_eq_true e) h
theorem of_beq {a b : Nat} (h : a.beq b = true) : a = b := Nat.eq_of_beq_eq_true h
theorem of_beq_ff {a b : Nat} (h : a.beq b = false) : a ≠ b := by
  rintro rfl
  rw [Nat.beq_refl] at h
  cases h
theorem beq_self (a : Nat) : a.beq a = true := Nat.beq_refl a

def pathAux : Nat → Nat → List Bool
  | 0, _ => []
  | f + 1, k => bif k.beq 0 then [] else bif (k % 2).beq 1 then true :: pathAux f (k / 2) else false :: pathAux f (k / 2 - 1)
def path (k : Nat) : List Bool := pathAux k k

theorem pathAux_inj : ∀ (f g k l : Nat), k ≤ f → l ≤ g → pathAux f k = pathAux g l → k = l := by
  intro f
  induction f with
  | zero =>
    intro g k l hk hl h
    obtain rfl : k = 0 := by omega
    cases g with
    | zero => omega
    | succ g =>
      simp only [pathAux] at h
      by_cases e : l = 0
      · exact e.symm
      · have e1 : l.beq 0 = false := beq_ff e
        rw [e1] at h
        cases e2 : (l % 2).beq 1 <;> simp [e2] at h
  | succ f ih =>
    intro g k l hk hl h
    cases g with
    | zero =>
      obtain rfl : l = 0 := by omega
      simp only [pathAux] at h
      by_cases e : k = 0
      · exact e
      · have e1 : k.beq 0 = false := beq_ff e
        rw [e1] at h
        cases e2 : (k % 2).beq 1 <;> simp [e2] at h
    | succ g =>
      simp only [pathAux] at h
      by_cases e : k = 0
      · by_cases e' : l = 0
        · omega
        · have e1 : l.beq 0 = false := beq_ff e'
          rw [e1] at h
          subst e
          cases e2 : (l % 2).beq 1 <;> simp [e2] at h
      · have e1 : k.beq 0 = false := beq_ff e
        rw [e1] at h
        by_cases e' : l = 0
        · subst e'
          cases e2 : (k % 2).beq 1 <;> simp [e2] at h
        · have e1' : l.beq 0 = false := beq_ff e'
          rw [e1'] at h
          cases e2 : (k % 2).beq 1 <;> cases e2' : (l % 2).beq 1 <;> simp [e2, e2'] at h
          · have := of_beq_ff e2
            have := of_beq_ff e2'
            have := ih g _ _ (by omega) (by omega) h
            omega
          · have := of_beq e2
            have := of_beq e2'
            have := ih g _ _ (by omega) (by omega) h
            omega
theorem path_inj {k l : Nat} (h : path k = path l) : k = l := pathAux_inj _ _ _ _ (Nat.le_refl _) (Nat.le_refl _) h

inductive Tr (α : Type) where
  | leaf
  | node (v : Option α) (l r : Tr α)

def Tr.at {α : Type} : Tr α → List Bool → Option α
  | .leaf, _ => none
  | .node v _ _, [] => v
  | .node _ l r, b :: p => bif b then r.at p else l.at p
def Tr.put {α : Type} (x : α) : List Bool → Tr α → Tr α
  | [], .leaf => .node (some x) .leaf .leaf
  | [], .node _ l r => .node (some x) l r
  | b :: p, .leaf => bif b then .node none .leaf (Tr.put x p .leaf) else .node none (Tr.put x p .leaf) .leaf
  | b :: p, .node v l r => bif b then .node v l (Tr.put x p r) else .node v (Tr.put x p l) r

theorem Tr.at_put_self {α : Type} (x : α) (p : List Bool) : ∀ t : Tr α, (t.put x p).at p = some x := by
  induction p with
  | nil => intro t; cases t <;> rfl
  | cons b p ih => intro t; cases t <;> cases b <;> simp [Tr.put, Tr.at, ih]
theorem Tr.at_put_ne {α : Type} (x : α) (p : List Bool) : ∀ (q : List Bool) (t : Tr α), p ≠ q → (t.put x p).at q = t.at q := by
  induction p with
  | nil =>
    intro q t h
    cases q with
    | nil => exact absurd rfl h
    | cons c q => cases t <;> cases c <;> simp [Tr.put, Tr.at]
  | cons b p ih =>
    intro q t h
    cases q with
    | nil => cases t <;> cases b <;> simp [Tr.put, Tr.at]
    | cons c q =>
      cases t <;> cases b <;> cases c <;> simp [Tr.put, Tr.at] <;> (first | (rw [ih _ _ (fun e => h (by rw [e]))]; try rfl) | skip)

def Tr.get {α : Type} (t : Tr α) (k : Nat) : Option α := t.at (path k)
def Tr.set {α : Type} (t : Tr α) (k : Nat) (x : α) : Tr α := t.put x (path k)
theorem Tr.get_set {α : Type} (t : Tr α) (k l : Nat) (x : α) : (t.set k x).get l = if l = k then some x else t.get l := by
  unfold Tr.get Tr.set
  by_cases h : l = k
  · subst h; rw [if_pos rfl, Tr.at_put_self]
  · rw [if_neg h, Tr.at_put_ne _ _ _ _ (fun e => h (path_inj e).symm)]
theorem Tr.get_leaf {α : Type} (k : Nat) : (Tr.leaf : Tr α).get k = none := by
  unfold Tr.get; cases path k <;> rfl

end Go.Proofs.YtblcomejcahkdaaDoor.Ev
end
section
namespace Go.Proofs.YtblcomejcahkdaaDoor.Ev
open Go

inductive EV where
  | undef
  | bool (b : Bool)
  | int (k : IntKind) (n : Int)
  | str (s : List UInt8)
  | nilptr
  | ptr (b off : Nat)
  | nilslice
  | slice (b off len : Nat) (cap : Option Nat)
  | nilmap
  | map (b : Nat)
  | nilfunc
  | func (f : Nat) (first captured : List EV)
  | niliface
  | iface (t : Nat) (v : EV)
  | agg (cs : List EV)
  | tuple (vs : List EV)
  | fz (t esz : Nat) (els : List (List EV))   -- a row that stays asx it is: with its elements (t: which one; 0: not told)
  | fptr (esz : Nat) (els : List (List EV)) (i k : Nat)   -- a cell of such a row: element i, cell k

def sameOpt : Option Nat → Option Nat → Bool
  | none, none => true
  | some a, some b => a.beq b
  | _, _ => false
def sameBytes : List UInt8 → List UInt8 → Bool
  | [], [] => true
  | a :: x, b :: y => bif a.toNat.beq b.toNat then sameBytes x y else false
  | _, _ => false
def sameInt : Int → Int → Bool
  | .ofNat a, .ofNat b => a.beq b
  | .negSucc a, .negSucc b => a.beq b
  | _, _ => false
def kindNo : IntKind → Nat
  | .i8 => 0 | .i16 => 1 | .i32 => 2 | .i64 => 3 | .u8 => 4 | .u16 => 5 | .u32 => 6 | .u64 => 7
mutual
def EV.same : EV → EV → Bool
  | .undef, .undef | .nilptr, .nilptr | .nilslice, .nilslice | .nilmap, .nilmap | .nilfunc, .nilfunc | .niliface, .niliface => true
  | .bool a, .bool b => a == b
  | .int k a, .int l b => bif (kindNo k).beq (kindNo l) then sameInt a b else false
  | .str a, .str b => sameBytes a b
  | .ptr a i, .ptr b j => bif a.beq b then i.beq j else false
  | .slice a i n c, .slice b j m d => bif a.beq b then bif i.beq j then bif n.beq m then sameOpt c d else false else false else false
  | .map a, .map b => a.beq b
  | .func f a c, .func g b d => bif f.beq g then bif EV.sames a b then EV.sames c d else false else false
  | .iface t v, .iface u w => bif t.beq u then EV.same v w else false
  | .agg a, .agg b => EV.sames a b
  | .tuple a, .tuple b => EV.sames a b
  | .fz t e a, .fz u f b => bif t.beq 0 then false else bif t.beq u then bif e.beq f then EV.samess a b else false else false
  | _, _ => false
def EV.sames : List EV → List EV → Bool
  | [], [] => true
  | a :: x, b :: y => bif EV.same a b then EV.sames x y else false
  | _, _ => false
def EV.samess : List (List EV) → List (List EV) → Bool
  | [], [] => true
  | a :: x, b :: y => bif EV.sames a b then EV.samess x y else false
  | _, _ => false
end

inductive Blk where
  | dead
  | cells (cs : List EV) (esz : Nat) (elem : Nat) (ro : Bool)
  | map (es : List (EV × EV))

structure Mem where
  next : Nat
  tbl : Tr Blk
def Mem.get (m : Mem) (b : Nat) : Blk := (m.tbl.get b).getD .dead
def Mem.set (m : Mem) (b : Nat) (x : Blk) : Mem := ⟨m.next, m.tbl.set b x⟩
def Mem.new (m : Mem) (x : Blk) : Mem := ⟨m.next + 1, m.tbl.set m.next x⟩

def EV.cells : EV → Option (List EV)
  | .undef | .tuple _ => none
  | .agg cs => some cs
  | v => some [v]
def partOf (agg : Option Nat) (cs : List EV) (off : Nat) : Option EV :=
  match agg with
  | none => cs[off]?
  | some n => bif (off + n).ble cs.length then some (.agg ((cs.drop off).take n)) else none
def splice (cs : List EV) (off : Nat) (vs : List EV) : Option (List EV) :=
  bif (off + vs.length).ble cs.length then some (cs.take off ++ vs ++ cs.drop (off + vs.length)) else none
def Mem.load (m : Mem) (agg : Option Nat) : EV → Option EV
  | .ptr b off => match m.get b with
    | .cells cs _ _ _ => partOf agg cs off
    | _ => none
  | .fptr _ els i k => match els[i]? with
    | some el => partOf agg el k
    | none => none
  | _ => none
def Mem.row1 (m : Mem) (b off n : Nat) : Option (List EV) :=
  match m.get b with
  | .cells cs _ _ _ => bif (off + n).ble cs.length then some ((cs.drop off).take n) else none
  | _ => none
def Mem.row (m : Mem) (b off n : Nat) : Option (List EV) := bif n.beq 0 then some [] else m.row1 b off n
theorem Mem.row_pos {m : Mem} {b off n : Nat} (h : n ≠ 0) : m.row b off n = m.row1 b off n := by unfold Mem.row; rw [beq_ff h]; rfl
theorem Mem.row_none {m : Mem} {b off : Nat} : m.row b off 0 = some [] := rfl
def Mem.write (m : Mem) (b off : Nat) (vs : List EV) : Option Mem :=
  match m.get b with
  | .cells cs esz elem ro => bif ro then none else (splice cs off vs).map fun cs => m.set b (.cells cs esz elem ro)
  | _ => none
def Mem.store (m : Mem) (size : Nat) (a x : EV) : Option Mem :=
  match a, x.cells with
  | .ptr b off, some vs => bif vs.length.beq size then m.write b off vs else none
  | _, _ => none

inductive Opd where
  | tmp (t : Nat)
  | const (v : EV)
inductive EqTy where
  | prim (k : Nat)   -- 0 truth, 1 whole number, 2 string, 3 pointer, 4 slice, 5 map, 6 function, 7 interface
  | agg (fields : List (Option Nat × Nat × EqTy))
inductive Cv where
  | int (k : IntKind)
  | same
  | bytes (elem : Nat)
  | text
inductive IOp where
  | mov (x : Opd)
  | pick (c a b : Opd)
  | alloc (elem : Nat) (zero : List EV)
  | box (elem : Nat) (x : Opd)
  | build (zero : List EV) (parts : List (Nat × Nat × Opd))
  | bslice (elem esz len : Nat) (zero : List EV) (parts : List (Nat × Opd))
  | load (agg : Option Nat) (a : Opd)
  | store (size : Nat) (a x : Opd)
  | nilck (x : Opd)
  | bin (op : BinOp) (x y : Opd)
  | eq (neg : Bool) (t : EqTy) (x y : Opd)
  | un (op : UnOp) (x : Opd)
  | conv (c : Cv) (x : Opd)
  | iface (t : Nat) (x : Opd)
  | mkfn (f : Nat) (first captured : List Opd)
  | mkmap
  | mkslice (elem esz : Nat) (zero : List EV) (len cap : Opd)
  | slstr (x : Opd) (lo hi : Option Opd)
  | slsl (esz : Nat) (x : Opd) (lo hi max : Option Opd)
  | slarr (n esz : Nat) (x : Opd) (lo hi max : Option Opd)
  | faddr (off : Nat) (x : Opd)
  | fld (agg : Option Nat) (off : Nat) (x : Opd)
  | iaddr (esz : Nat) (x i : Opd)
  | iaddrArr (n esz : Nat) (x i : Opd)
  | idxstr (x i : Opd)
  | idxagg (n esz : Nat) (agg : Option Nat) (x i : Opd)
  | lookup (kt : Nat) (zero : EV) (ok : Bool) (m k : Opd)
  | mapupd (kt : Nat) (m k x : Opd)
  | delete (kt : Nat) (m k : Opd)
  | lenmap (m : Opd)
  | tassert (t : Nat) (x : Opd)
  | extract (x : Opd) (i : Nat)
  | len (x : Opd)
  | lenstr (x : Opd)
  | lenarr (n : Nat)
  | cap (x : Opd)
  | max (args : List Opd)
  | min (args : List Opd)
  | append (elem esz bytes : Nat) (s x : Opd)
  | copy (esz : Nat) (d s : Opd)
inductive XOp where
  | val (op : IOp)
  | call (f : Opd) (args : List Opd)
  | panic (x : Opd)
  | defer (f : Opd) (args : List Opd)

def srt : IOp → Nat
  | .alloc _ _ | .box _ _ | .bslice _ _ _ _ _ | .mkmap | .mkslice _ _ _ _ _ | .conv (.bytes _) _ => 1
  | .load _ _ => 2
  | .store _ _ _ | .conv .text _ | .lookup _ _ _ _ _ | .mapupd _ _ _ _ | .delete _ _ _ | .lenmap _ | .append _ _ _ _ _ | .copy _ _ _ | .slsl _ _ _ _ _ => 3
  | _ => 0
def sort : XOp → Nat
  | .val op => srt op
  | _ => 3
def optl : Option Opd → List Opd
  | none => []
  | some x => [x]
def opds : IOp → List Opd
  | .mov x | .box _ x | .load _ x | .nilck x | .un _ x | .conv _ x | .iface _ x | .faddr _ x | .fld _ _ x | .lenmap x | .tassert _ x | .extract x _ | .len x | .lenstr x | .cap x => [x]
  | .pick c a b => [c, a, b]
  | .alloc _ _ | .mkmap | .lenarr _ => []
  | .build _ ps => ps.map fun p => p.2.2
  | .bslice _ _ _ _ ps => ps.map fun p => p.2
  | .store _ a x | .bin _ a x | .eq _ _ a x | .mkslice _ _ _ a x | .iaddr _ a x | .iaddrArr _ _ a x | .idxstr a x | .idxagg _ _ _ a x | .lookup _ _ _ a x | .delete _ a x | .append _ _ _ a x | .copy _ a x => [a, x]
  | .mkfn _ a c => a ++ c
  | .slstr x l h => x :: (optl l ++ optl h)
  | .slsl _ x l h m | .slarr _ _ x l h m => x :: (optl l ++ (optl h ++ optl m))
  | .mapupd _ m k x => [m, k, x]
  | .max xs | .min xs => xs
def xopds : XOp → List Opd
  | .val op => opds op
  | .call f xs | .defer f xs => f :: xs
  | .panic x => [x]
def tmpsOf : List Opd → List Nat
  | [] => []
  | .tmp t :: r => t :: tmpsOf r
  | .const _ :: r => tmpsOf r
structure IOper where
  dst : Option Nat
  op : XOp
  guard : Option (Nat × Bool)   -- another temporary, and what it must be
inductive ICode where
  | skip
  | region (ops : List IOper)
  | draw (ops : List IOper) (chk : List (Nat × Nat))
  | seq (a b : ICode)
  | cond (c : Opd) (a b : ICode)
  | block (id : Nat) (a : ICode)
  | loop (a : ICode)
  | exit (id : Nat)
  | ret
inductive IRes where
  | tmp (t : Nat)
  | cell (t : Nat) (agg : Option Nat)
structure IFun where
  ntmps : Nat
  body : ICode
  results : List IRes

structure Fr where
  tmps : Tr EV
  defers : List (Nat × List EV)
def Fr.get (fr : Fr) (t : Nat) : EV := (fr.tmps.get t).getD .undef
def Fr.set (fr : Fr) (t : Nat) (v : EV) : Fr := ⟨fr.tmps.set t v, fr.defers⟩
def Fr.put (fr : Fr) (d : Option Nat) (v : EV) : Fr := match d with | some t => fr.set t v | none => fr
def Fr.eval (fr : Fr) : Opd → EV
  | .tmp t => fr.get t
  | .const v => v

def evBits (op : BinOp) (k : IntKind) (x y : Int) : Option Int :=
  let a := BitVec.ofInt k.bits x
  let b := BitVec.ofInt k.bits y
  match op with
  | .and => some (k.wrap (a &&& b).toNat)
  | .or => some (k.wrap (a ||| b).toNat)
  | .xor => some (k.wrap (a ^^^ b).toNat)
  | .andNot => some (k.wrap (a &&& ~~~b).toNat)
  | _ => none
def evInt (op : BinOp) (k : IntKind) (x y : Int) : Option EV :=
  match op with
  | .add => some (.int k (k.wrap (x + y)))
  | .sub => some (.int k (k.wrap (x - y)))
  | .mul => some (.int k (k.wrap (x * y)))
  | .quo => if y = 0 then none else some (.int k (k.wrap (x.tdiv y)))
  | .rem => if y = 0 then none else some (.int k (x.tmod y))
  | .and | .or | .xor | .andNot => (evBits op k x y).map (.int k)
  | .eql => some (.bool (decide (x = y)))
  | .neq => some (.bool (!decide (x = y)))
  | .lss => some (.bool (decide (x < y)))
  | .leq => some (.bool (decide (x ≤ y)))
  | .gtr => some (.bool (decide (y < x)))
  | .geq => some (.bool (decide (y ≤ x)))
  | .shl | .shr => none
def evShift (op : BinOp) (k : IntKind) (x y : Int) : Option EV :=
  if y < 0 then none else
  match op with
  | .shl => some (.int k (k.wrap (x * 2 ^ min y.toNat k.bits)))
  | .shr => some (.int k (x.fdiv (2 ^ min y.toNat k.bits)))
  | _ => none
def evBin (op : BinOp) (x y : EV) : Option EV :=
  match x, y with
  | .int k a, .int l b => match op with
    | .shl | .shr => evShift op k a b
    | _ => bif (kindNo k).beq (kindNo l) then evInt op k a b else none
  | .str a, .str b => match op with
    | .add => bif (a.length + b.length).ble 4294967296 then some (.str (a ++ b)) else none
    | .eql => some (.bool (sameBytes a b))
    | .neq => some (.bool (!sameBytes a b))
    | _ => none
  | _, _ => none
def evEqPrim (t : Nat) : EV → EV → Option Bool
  | .int k a, .int l b => bif t.beq 1 then bif (kindNo k).beq (kindNo l) then some (decide (a = b)) else none else none
  | .bool a, .bool b => bif t.beq 0 then some (a == b) else none
  | .str a, .str b => bif t.beq 2 then some (sameBytes a b) else none
  | .nilptr, .nilptr => bif t.beq 3 then some true else none
  | .nilptr, .ptr _ _ | .ptr _ _, .nilptr => bif t.beq 3 then some false else none
  | .nilslice, .nilslice => bif t.beq 4 then some true else none
  | .nilslice, .slice _ _ _ _ | .slice _ _ _ _, .nilslice => bif t.beq 4 then some false else none
  | .nilslice, .fz _ _ _ | .fz _ _ _, .nilslice => bif t.beq 4 then some false else none
  | .nilmap, .nilmap => bif t.beq 5 then some true else none
  | .nilmap, .map _ | .map _, .nilmap => bif t.beq 5 then some false else none
  | .nilfunc, .nilfunc => bif t.beq 6 then some true else none
  | .nilfunc, .func _ _ _ | .func _ _ _, .nilfunc => bif t.beq 6 then some false else none
  | .niliface, .iface _ _ | .iface _ _, .niliface => bif t.beq 7 then some false else none
  | _, _ => none
mutual
def evEq : EqTy → EV → EV → Option Bool
  | .prim t, x, y => evEqPrim t x y
  | .agg fs, .agg a, .agg b => evEqs fs a b
  | _, _, _ => none
def evEqs : List (Option Nat × Nat × EqTy) → List EV → List EV → Option Bool
  | [], _, _ => some true
  | (g, off, t) :: r, a, b => match partOf g a off, partOf g b off with
    | some x, some y => match evEq t x y with
      | some true => evEqs r a b
      | o => o
    | _, _ => none
end
def evUn (op : UnOp) (x : EV) : Option EV :=
  match op, x with
  | .neg, .int k n => some (.int k (k.wrap (0 - n)))
  | .xor, .int k n => (evBits .xor k (if k.signed then -1 else k.max) n).map (.int k)
  | .not, .bool b => some (.bool (!b))
  | _, _ => none
def bytesOf : List EV → Option (List UInt8)
  | [] => some []
  | .int .u8 n :: r => (bytesOf r).map (UInt8.ofNat n.toNat :: ·)
  | _ => none
def evConv (c : Cv) (m : Mem) (x : EV) : Option (EV × Mem) :=
  match c, x with
  | .int k, .int _ n => some (.int k (k.wrap n), m)
  | .same, .str s => some (.str s, m)
  | .bytes e, .str s => some (.slice m.next 0 s.length none, m.new (.cells (s.map fun b => .int .u8 (b.toNat : Int)) 1 e false))
  | .text, .nilslice => some (.str [], m)
  | .text, .slice b off n _ => match m.row b off n with
    | some cs => (bytesOf cs).map fun s => (.str s, m)
    | none => none
  | _, _ => none
def bound (x : Option EV) (dflt most : Nat) : Option Nat :=
  match x with
  | none => some dflt
  | some (.int _ (.ofNat i)) => bif i.ble most then some i else none
  | _ => none
def evSlice (esz b off len : Nat) (cap : Option Nat) (lo hi max : Option EV) : Option EV :=
  match cap with
  | some c => match bound max c c with
    | some t => match bound hi len t with
      | some h => match bound lo 0 h with
        | some l => some (.slice b (bif t.beq l then off else off + l * esz) (h - l) (some (t - l)))
        | none => none
      | none => none
    | none => none
  | none => match max with
    | some _ => match bound max len len with
      | some t => match bound hi len t with
        | some h => match bound lo 0 h with
          | some l => some (.slice b (bif t.beq l then off else off + l * esz) (h - l) (some (t - l)))
          | none => none
        | none => none
      | none => none
    | none => match bound hi len len with
      | some h => match bound lo 0 h with
        | some l => some (.slice b (off + l * esz) (h - l) none)
        | none => none
      | none => none
def find (k : EV) : List (EV × EV) → Option EV
  | [] => none
  | (l, v) :: r => bif EV.same k l then some v else find k r
def update (k v : EV) : List (EV × EV) → List (EV × EV)
  | [] => [(k, v)]
  | (l, w) :: r => bif EV.same k l then (k, v) :: r else (l, w) :: update k v r
def erase (k : EV) : List (EV × EV) → List (EV × EV)
  | [] => []
  | (l, w) :: r => bif EV.same k l then r else (l, w) :: erase k r
def keyIs (kt : Nat) : EV → Bool
  | .int _ _ => kt.beq 2
  | .str _ => kt.beq 1
  | .bool _ => kt.beq 0
  | _ => false
def sortOf : EV → Nat
  | .int k _ => 2 + kindNo k | .str _ => 1 | .bool _ => 0 | _ => 99
def sortsOk (k : EV) : List (EV × EV) → Bool
  | [] => true
  | e :: r => bif (sortOf e.1).beq (sortOf k) then sortsOk k r else false
def keysOk (kt : Nat) (k : EV) (es : List (EV × EV)) : Bool := bif keyIs kt k then sortsOk k es else false
def fillIn (cs : List EV) : List (Nat × Nat × EV) → Option (List EV)
  | [] => some cs
  | (off, size, v) :: r => match v.cells with
    | some vs => bif vs.length.beq size then match splice cs off vs with
        | some cs => fillIn cs r
        | none => none
      else none
    | none => none
def copies (n : Nat) (zero : List EV) : List EV := (List.replicate n zero).flatten
def Mem.source (m : Mem) (esz : Nat) : EV → Option (Nat × List EV)
  | .nilslice => some (0, [])
  | .slice b off n _ => (m.row b off (n * esz)).map fun cs => (n, cs)
  | .str s => bif esz.beq 1 then some (s.length, s.map fun b => .int .u8 (b.toNat : Int)) else none
  | .fz _ e els => bif e.beq esz then some (els.length, els.flatten) else none
  | _ => none
def room : Nat := 1073741824
def evAppend (m : Mem) (elem esz : Nat) (s x : EV) : Option (EV × Mem) :=
  match m.source esz x with
  | none => none
  | some (n, xs) =>
    bif n.beq 0 then
      match s with
      | .nilslice => some (.nilslice, m)
      | .slice b off len cap => some (.slice b off len cap, m)
      | .fz t e els => some (.fz t e els, m)
      | _ => none
    else match s with
    | .nilslice => bif n.ble room then some (.slice m.next 0 n none, m.new (.cells xs esz elem false)) else none
    | .slice b off len cap =>
      bif (len + n).ble room then
        match m.row b off (len * esz) with
        | none => none
        | some old => match cap with
          | some c => bif (len + n).ble c then (m.write b (off + len * esz) xs).map fun m => (.slice b off (len + n) (some c), m)
              else some (.slice m.next 0 (len + n) none, m.new (.cells (old ++ xs) esz elem false))
          | none => match m.get b with
            | .cells _ e _ false => bif e.beq esz then some (.slice m.next 0 (len + n) none, (m.new (.cells (old ++ xs) esz elem false)).set b .dead) else none
            | _ => none
      else none
    | _ => none
def evCopy (m : Mem) (esz : Nat) (d s : EV) : Option (EV × Mem) :=
  match d with
  | .nilslice => (m.source esz s).map fun _ => (.int .i64 0, m)
  | .slice b off len _ => match m.source esz s with
    | none => none
    | some (n, xs) => (m.write b off (xs.take (min n len * esz))).map fun m => (.int .i64 (min n len : Nat), m)
  | _ => none
def maxFrom (k : IntKind) (x : Int) : List EV → Option EV
  | [] => some (.int k x)
  | .int l y :: r => bif (kindNo k).beq (kindNo l) then maxFrom k (if y > x then y else x) r else none
  | _ => none
def minFrom (k : IntKind) (x : Int) : List EV → Option EV
  | [] => some (.int k x)
  | .int l y :: r => bif (kindNo k).beq (kindNo l) then minFrom k (if y < x then y else x) r else none
  | _ => none
def evMax : List EV → Option EV
  | .int k x :: r => maxFrom k x r
  | _ => none
def evMin : List EV → Option EV
  | .int k x :: r => minFrom k x r
  | _ => none

inductive R1 where
  | val (v : EV) (m : Mem)

def ofEV (m : Mem) (x : Option EV) : Option R1 := x.map fun v => .val v m
def ofEM (x : Option (EV × Mem)) : Option R1 := x.map fun p => .val p.1 p.2
def ofM (x : Option Mem) : Option R1 := x.map fun m => .val .undef m
def idx (n : Nat) : EV → Option Nat
  | .int _ (.ofNat i) => bif (i + 1).ble n then some i else none
  | _ => none

def evOp (ρ : Opd → EV) (op : IOp) (m : Mem) : Option R1 :=
  match op with
  | .mov x => some (.val (ρ x) m)
  | .pick c a b => match ρ c with | .bool t => some (.val (bif t then ρ a else ρ b) m) | _ => none
  | .alloc elem zero => some (.val (.ptr m.next 0) (m.new (.cells zero zero.length elem false)))
  | .box elem x => match (ρ x).cells with
    | some cs => some (.val (.ptr m.next 0) (m.new (.cells cs cs.length elem false)))
    | none => none
  | .build zero parts => ofEV m ((fillIn zero (parts.map fun p => (p.1, p.2.1, ρ p.2.2))).map .agg)
  | .bslice elem esz len zero parts => match fillIn (copies len zero) (parts.map fun p => (p.1 * esz, esz, ρ p.2)) with
    | some cs => some (.val (.slice m.next 0 len (some len)) (m.new (.cells cs esz elem false)))
    | none => none
  | .load agg a => ofEV m (m.load agg (ρ a))
  | .store size a x => ofM (m.store size (ρ a) (ρ x))
  | .nilck x => match ρ x with
    | .ptr b off => some (.val (.ptr b off) m)
    | .func f a c => some (.val (.func f a c) m)
    | .iface t v => some (.val (.iface t v) m)
    | .fptr e els i k => some (.val (.fptr e els i k) m)
    | _ => none
  | .bin op x y => ofEV m (evBin op (ρ x) (ρ y))
  | .eq neg t x y => ofEV m ((evEq t (ρ x) (ρ y)).map fun b => .bool (neg ^^ b))
  | .un op x => ofEV m (evUn op (ρ x))
  | .conv c x => ofEM (evConv c m (ρ x))
  | .iface t x => some (.val (.iface t (ρ x)) m)
  | .mkfn f a c => some (.val (.func f (a.map ρ) (c.map ρ)) m)
  | .mkmap => some (.val (.map m.next) (m.new (.map [])))
  | .mkslice elem esz zero len cap => match ρ len, ρ cap with
    | .int .i64 (.ofNat l), .int .i64 (.ofNat c) => bif (bif l.ble c then c.ble room else false) then
        some (.val (.slice m.next 0 l (some c)) (m.new (.cells (copies c zero) esz elem false))) else none
    | _, _ => none
  | .slstr x lo hi => match ρ x with
    | .str s => match bound (hi.map ρ) s.length s.length with
      | some h => match bound (lo.map ρ) 0 h with
        | some l => some (.val (.str ((s.take h).drop l)) m)
        | none => none
      | none => none
    | _ => none
  | .slsl esz x lo hi max => match ρ x with
    | .nilslice => match bound (max.map ρ) 0 0, bound (hi.map ρ) 0 0, bound (lo.map ρ) 0 0 with
      | some _, some _, some _ => some (.val .nilslice m)
      | _, _, _ => none
    | .slice b off len (some c) => ofEV m (evSlice esz b off len (some c) (lo.map ρ) (hi.map ρ) (max.map ρ))
    | .slice b off len none => match m.get b with
      | .cells _ e _ _ => bif e.beq esz then ofEV m (evSlice esz b off len none (lo.map ρ) (hi.map ρ) (max.map ρ)) else none
      | _ => none
    | .fz _ e els => match max with
      | none => bif e.beq esz then
          match bound (hi.map ρ) els.length els.length with
          | some h => match bound (lo.map ρ) 0 h with
            | some l => some (.val (.fz 0 e ((els.take h).drop l)) m)
            | none => none
          | none => none
        else none
      | some _ => none
    | _ => none
  | .slarr n esz x lo hi max => match ρ x with
    | .ptr b off => ofEV m (evSlice esz b off n (some n) (lo.map ρ) (hi.map ρ) (max.map ρ))
    | _ => none
  | .faddr off x => match ρ x with
    | .ptr b o => some (.val (.ptr b (o + off)) m)
    | .fptr e els i k => some (.val (.fptr e els i (k + off)) m)
    | _ => none
  | .fld agg off x => match ρ x with
    | .agg cs => ofEV m (partOf agg cs off)
    | _ => none
  | .iaddr esz x i => match ρ x with
    | .slice b off len _ => match idx len (ρ i) with
      | some i => some (.val (.ptr b (off + i * esz)) m)
      | none => none
    | .fz _ e els => bif e.beq esz then match idx els.length (ρ i) with
        | some i => some (.val (.fptr e els i 0) m)
        | none => none
      else none
    | _ => none
  | .iaddrArr n esz x i => match ρ x with
    | .ptr b off => match idx n (ρ i) with
      | some i => some (.val (.ptr b (off + i * esz)) m)
      | none => none
    | _ => none
  | .idxstr x i => match ρ x with
    | .str s => match idx s.length (ρ i) with
      | some i => match s[i]? with
        | some c => some (.val (.int .u8 (c.toNat : Int)) m)
        | none => none
      | none => none
    | _ => none
  | .idxagg n esz agg x i => match ρ x with
    | .agg cs => match idx n (ρ i) with
      | some i => ofEV m (partOf agg cs (i * esz))
      | none => none
    | _ => none
  | .lookup kt zero ok mp k => match ρ mp with
    | .nilmap => bif keyIs kt (ρ k) then some (.val (bif ok then .tuple [zero, .bool false] else zero) m) else none
    | .map b => match m.get b with
      | .map es => bif keysOk kt (ρ k) es then
          match find (ρ k) es with
          | some v => some (.val (bif ok then .tuple [v, .bool true] else v) m)
          | none => some (.val (bif ok then .tuple [zero, .bool false] else zero) m)
        else none
      | _ => none
    | _ => none
  | .mapupd kt mp k x => match ρ mp with
    | .map b => match m.get b with
      | .map es => bif keysOk kt (ρ k) es then some (.val .undef (m.set b (.map (update (ρ k) (ρ x) es)))) else none
      | _ => none
    | _ => none
  | .delete kt mp k => match ρ mp with
    | .nilmap => bif keyIs kt (ρ k) then some (.val (.tuple []) m) else none
    | .map b => match m.get b with
      | .map es => bif keysOk kt (ρ k) es then some (.val (.tuple []) (m.set b (.map (erase (ρ k) es)))) else none
      | _ => none
    | _ => none
  | .lenmap mp => match ρ mp with
    | .nilmap => some (.val (.int .i64 0) m)
    | .map b => match m.get b with
      | .map es => some (.val (.int .i64 (es.length : Int)) m)
      | _ => none
    | _ => none
  | .tassert t x => match ρ x with
    | .iface u v => bif t.beq u then some (.val v m) else none
    | _ => none
  | .extract x i => match ρ x with
    | .tuple vs => ofEV m vs[i]?
    | _ => none
  | .lenstr x => match ρ x with
    | .str s => some (.val (.int .i64 (s.length : Int)) m)
    | _ => none
  | .len x => match ρ x with
    | .nilslice => some (.val (.int .i64 0) m)
    | .slice _ _ n _ => some (.val (.int .i64 (n : Int)) m)
    | .fz _ _ els => some (.val (.int .i64 (els.length : Int)) m)
    | _ => none
  | .lenarr n => some (.val (.int .i64 (n : Int)) m)
  | .cap x => match ρ x with
    | .nilslice => some (.val (.int .i64 0) m)
    | .slice _ _ _ (some c) => some (.val (.int .i64 (c : Int)) m)
    | _ => none
  | .max args => ofEV m (evMax (args.map ρ))
  | .min args => ofEV m (evMin (args.map ρ))
  | .append elem esz _ s x => ofEM (evAppend m elem esz (ρ s) (ρ x))
  | .copy esz d s => ofEM (evCopy m esz (ρ d) (ρ s))

end Go.Proofs.YtblcomejcahkdaaDoor.Ev
end
section
namespace Go.Proofs.YtblcomejcahkdaaDoor.Ev
open Go

inductive Fin where
  | ret (v : EV) (m : Mem)
  | pan (v : EV) (m : Mem)
inductive Out where
  | norm (fr : Fr) (m : Mem)
  | exit (id : Nat) (fr : Fr) (m : Mem)
  | ret (fr : Fr) (m : Mem)
  | pan (v : EV) (fr : Fr) (m : Mem)
abbrev Call := Nat → List EV → Mem → Option Fin

def wantedE (fr : Fr) : Option (Nat × Bool) → Option Bool
  | none => some true
  | some (t, w) => match fr.get t with
    | .bool b => some (b == w)
    | .undef => some false
    | _ => none
def evCall (call : Call) (f : EV) (args : List EV) (m : Mem) : Option Fin :=
  match f with
  | .func g a c => call g (a ++ args ++ c) m
  | _ => none
def evOps (call : Call) : List IOper → Fr → Mem → Option Out
  | [], fr, m => some (.norm fr m)
  | o :: r, fr, m =>
    match wantedE fr o.guard with
    | some true => match o.op with
      | .val op => match evOp fr.eval op m with
        | some (.val v m) => evOps call r (fr.put o.dst v) m
        | none => none
      | .call f args => match evCall call (fr.eval f) (args.map fr.eval) m with
        | some (.ret v m) => evOps call r (fr.put o.dst v) m
        | some (.pan v m) => some (.pan v fr m)
        | none => none
      | .panic x => match fr.eval x with
        | .iface t v => some (.pan (.iface t v) fr m)
        | _ => none
      | .defer f args => match fr.eval f with
        | .func g x y => evOps call r (Fr.put ⟨fr.tmps, (g, x ++ args.map fr.eval ++ y) :: fr.defers⟩ o.dst .undef) m
        | _ => none
    | some false => evOps call r (fr.put o.dst .undef) m
    | none => none

structure Seen where
  i : Nat
  agg : Option Nat
  a : EV
  v : EV
def hasPair (i j : Nat) : List (Nat × Nat) → Bool
  | [] => false
  | (a, b) :: r => bif a.beq i then bif b.beq j then true else hasPair i j r else hasPair i j r
def Mem.stands (m : Mem) (agg : Option Nat) (a v : EV) : Bool :=
  match m.load agg a with
  | some x => EV.same x v
  | none => false
def checkSeen (chk : List (Nat × Nat)) (j : Nat) (m : Mem) : List Seen → Bool
  | [] => true
  | s :: r => bif hasPair s.i j chk then (bif m.stands s.agg s.a s.v then checkSeen chk j m r else false) else checkSeen chk j m r
def checkSnap (chk : List (Nat × Nat)) (i : Nat) (agg : Option Nat) (a v : EV) : List (Nat × Mem) → Bool
  | [] => true
  | (j, m) :: r => bif hasPair i j chk then (bif m.stands agg a v then checkSnap chk i agg a v r else false) else checkSnap chk i agg a v r
def checkOld (chk : List (Nat × Nat)) (i n : Nat) : List (Nat × Mem) → Bool
  | [] => true
  | (j, m) :: r => bif hasPair i j chk then (bif m.next.beq n then checkOld chk i n r else false) else checkOld chk i n r
def isF : EV → Bool
  | .fptr _ _ _ _ => true
  | _ => false
def evDraw (call : Call) (chk : List (Nat × Nat)) (B0 : Nat) : List IOper → Nat → Fr → Mem → List (Nat × Mem) → List Seen → Option Out
  | [], _, fr, m, _, _ => some (.norm fr m)
  | o :: r, i, fr, m, snaps, seen =>
    match wantedE fr o.guard with
    | some true => match o.op with
      | .val op => match srt op with
        | 0 => match evOp fr.eval op m with
          | some (.val v _) => evDraw call chk B0 r (i + 1) (fr.put o.dst v) m snaps seen
          | none => none
        | 1 => match evOp fr.eval op ⟨B0 + i, m.tbl⟩ with
          | some (.val v m1) => evDraw call chk B0 r (i + 1) (fr.put o.dst v) ⟨m.next, m1.tbl⟩ snaps seen
          | none => none
        | 2 => match op with
          | .load agg a => match m.load agg (fr.eval a) with
            | some v => bif isF (fr.eval a) then
                (bif checkOld chk i m.next snaps then evDraw call chk B0 r (i + 1) (fr.put o.dst v) m snaps seen else none)
              else bif checkSnap chk i agg (fr.eval a) v snaps then
                evDraw call chk B0 r (i + 1) (fr.put o.dst v) m snaps (⟨i, agg, fr.eval a, v⟩ :: seen) else none
            | none => none
          | _ => none
        | _ => match evOp fr.eval op m with
          | some (.val v m') => bif checkSeen chk i m' seen then evDraw call chk B0 r (i + 1) (fr.put o.dst v) m' ((i, m) :: snaps) seen else none
          | none => none
      | .call f args => match evCall call (fr.eval f) (args.map fr.eval) m with
        | some (.ret v m') => bif checkSeen chk i m' seen then evDraw call chk B0 r (i + 1) (fr.put o.dst v) m' ((i, m) :: snaps) seen else none
        | _ => none
      | _ => none
    | some false => evDraw call chk B0 r (i + 1) (fr.put o.dst .undef) m snaps seen
    | none => none

def iter (body : Fr → Mem → Option Out) : Nat → Fr → Mem → Option Out
  | 0, _, _ => none
  | n + 1, fr, m => match body fr m with
    | some (.norm fr m) => iter body n fr m
    | o => o
def evCode (call : Call) (n : Nat) : ICode → Fr → Mem → Option Out
  | .skip, fr, m => some (.norm fr m)
  | .region ops, fr, m => evOps call ops fr m
  | .draw ops chk, fr, m => evDraw call chk m.next ops 0 fr ⟨m.next + ops.length, m.tbl⟩ [] []
  | .seq a b, fr, m => match evCode call n a fr m with
    | some (.norm fr m) => evCode call n b fr m
    | o => o
  | .cond c a b, fr, m => match fr.eval c with
    | .bool t => bif t then evCode call n a fr m else evCode call n b fr m
    | _ => none
  | .block id a, fr, m => match evCode call n a fr m with
    | some (.exit j fr m) => bif j.beq id then some (.norm fr m) else some (.exit j fr m)
    | o => o
  | .loop a, fr, m => iter (evCode call n a) n fr m
  | .exit id, fr, m => some (.exit id fr m)
  | .ret, fr, m => some (.ret fr m)

def evRes (fr : Fr) (m : Mem) : IRes → Option EV
  | .tmp t => some (fr.get t)
  | .cell t agg => m.load agg (fr.get t)
def evResults (fr : Fr) (m : Mem) : List IRes → Option (List EV)
  | [] => some []
  | r :: rs => match evRes fr m r with
    | some v => (evResults fr m rs).map (v :: ·)
    | none => none
def one (vs : List EV) : EV := match vs with | [v] => v | vs => .tuple vs
def args0 : List EV → Nat → Tr EV → Tr EV
  | [], _, t => t
  | v :: r, i, t => args0 r (i + 1) (t.set i v)
inductive Ent where
  | go (F : IFun)
  | ext (g : List EV → Option EV)
  | pure (g : List EV → Option EV)   -- its blocks are its own, and are forgotten
  | spec (g : List EV → Mem → Option Fin)   -- asx it is known to be
  | dgo (F : IFun) (D : List (Nat × Option Nat × IFun))   -- with calls that wait for its end; their code by number, and where the panic is put that is asked for first
def evBody (call : Call) (n : Nat) (F : IFun) (args : List EV) (m : Mem) : Option Fin :=
  bif args.length.ble F.ntmps then match evCode call n F.body ⟨args0 args 0 .leaf, []⟩ m with
  | some (.norm fr m) => match fr.defers with
    | [] => (evResults fr m F.results).map fun vs => .ret (one vs) m
    | _ => none
  | some (.ret fr m) => match fr.defers with
    | [] => (evResults fr m F.results).map fun vs => .ret (one vs) m
    | _ => none
  | some (.pan v fr m) => match fr.defers with
    | [] => some (.pan v m)
    | _ => none
  | _ => none
  else none
def dfind (g : Nat) : List (Nat × Option Nat × IFun) → Option (Option Nat × IFun)
  | [] => none
  | (h, b, F) :: r => bif h.beq g then some (b, F) else dfind g r
def evBodyR (call : Call) (n : Nat) (d : Nat) (F : IFun) (args : List EV) (u : Option EV) (m : Mem) : Option Mem :=
  bif args.length.ble F.ntmps then match evCode call n F.body (Fr.set ⟨args0 args 0 .leaf, []⟩ d (u.getD .niliface)) m with
  | some (.norm fr m) => match fr.defers with
    | [] => (evResults fr m F.results).map fun _ => m
    | _ => none
  | some (.ret fr m) => match fr.defers with
    | [] => (evResults fr m F.results).map fun _ => m
    | _ => none
  | _ => none
  else none
def evLeave (call : Call) (n : Nat) (rs : List IRes) (D : List (Nat × Option Nat × IFun)) (fr : Fr) : List (Nat × List EV) → Option EV → Mem → Option Fin
  | [], none, m => (evResults fr m rs).map fun vs => .ret (one vs) m
  | [], some v, m => some (.pan v m)
  | (g, args) :: ds, u, m => match dfind g D with
    | some (some d, F) => match evBodyR call n d F args u m with
      | some m => evLeave call n rs D fr ds none m
      | none => none
    | some (none, F) => match evBody call n F args m with
      | some (.ret _ m) => evLeave call n rs D fr ds u m
      | some (.pan v m) => match u with
        | none => evLeave call n rs D fr ds (some v) m
        | some _ => none
      | none => none
    | none => none
def evBodyD (call : Call) (n : Nat) (F : IFun) (D : List (Nat × Option Nat × IFun)) (args : List EV) (m : Mem) : Option Fin :=
  bif args.length.ble F.ntmps then match evCode call n F.body ⟨args0 args 0 .leaf, []⟩ m with
  | some (.norm fr m) => evLeave call n F.results D fr fr.defers none m
  | some (.ret fr m) => evLeave call n F.results D fr fr.defers none m
  | some (.pan v fr m) => evLeave call n F.results D fr fr.defers (some v) m
  | _ => none
  else none
def evEnt (call : Call) (n : Nat) (e : Ent) (args : List EV) (m : Mem) : Option Fin :=
  match e with
  | .go F => evBody call n F args m
  | .ext g => (g args).map fun v => .ret v m
  | .pure g => (g args).map fun v => .ret v m
  | .spec g => g args m
  | .dgo F D => evBodyD call n F D args m
def evFun (T : Nat → Option Ent) : Nat → Call
  | 0, _, _, _ => none
  | n + 1, f, args, m => match T f with
    | some e => evEnt (evFun T n) n e args m
    | none => none

end Go.Proofs.YtblcomejcahkdaaDoor.Ev
end
section
namespace Go.Proofs.YtblcomejcahkdaaDoor.Ev
open Go

def flatE : EV → Bool
  | .undef | .agg _ | .tuple _ => false
  | _ => true
def cV : Nat → Value → Option EV
  | 0, _ => none
  | n + 1, v => match v with
    | .bool b => some (.bool b)
    | .int k x => some (.int k x)
    | .string s => some (.str s.data.toList)
    | .pointer none => some .nilptr
    | .slice none 0 0 => some .nilslice
    | .map none => some .nilmap
    | .nilFunc => some .nilfunc
    | .nilIface => some .niliface
    | .func (.func f) a c => match a.toList.mapM (cV n), c.toList.mapM (cV n) with
      | some x, some y => some (.func f x y)
      | _, _ => none
    | .iface t x => (cV n x).map (.iface t)
    | .agg cs => match cs.toList.mapM (cV n) with
      | some x => bif x.all flatE then some (.agg x) else none
      | none => none
    | .tuple vs => (vs.toList.mapM (cV n)).map .tuple
    | _ => none
def cOpd (G : List Nat) : Operand → Option Opd
  | .tmp t => some (.tmp t)
  | .const v => (cV 30 v).map .const
  | .global g => bif G.contains g then some (.const (.ptr g 0)) else none
  | .func f => some (.const (.func f [] []))
def cOpds (G : List Nat) (xs : List Operand) : Option (List Opd) := xs.mapM (cOpd G)
def cOpt (G : List Nat) : Option Operand → Option (Option Opd)
  | none => some none
  | some x => (cOpd G x).map some

section
variable (P : Program) (G : List Nat)
def cAgg (t : TypeId) : Option (Option Nat) :=
  match P.underlying t, P.info? t with
  | some (.struct _), some i | some (.array _ _), some i => some (some i.size)
  | some _, some _ => some none
  | _, _ => none
def cSize (t : TypeId) : Option Nat := (P.info? t).map (·.size)
def cZero (t : TypeId) : Option EV := ((P.info? t).bind (·.zero)).bind (cV 30)
def cZeros (t : TypeId) : Option (List EV) := (cZero P t).bind EV.cells
def cEqTy : Nat → TypeId → Option EqTy
  | 0, _ => none
  | n + 1, t => match P.underlying t with
    | some .bool => some (.prim 0)
    | some (.int _) => some (.prim 1)
    | some .string => some (.prim 2)
    | some (.pointer _) => some (.prim 3)
    | some (.slice _) => some (.prim 4)
    | some (.map _ _) => some (.prim 5)
    | some (.func _ _ _) => some (.prim 6)
    | some (.interface _) => some (.prim 7)
    | some (.struct fs) =>
      bif P.stoodInHeld t then none else
      (fs.toList.mapM fun (f : Field) => match cAgg P f.type, cEqTy n f.type with
        | some g, some e => bif f.name != "_" then some (g, f.offset, e) else none
        | _, _ => none).map .agg
    | _ => none
def cParts (places : Nat → Option (Nat × Nat)) (parts : List (Nat × Operand)) : Option (List (Nat × Nat × Opd)) :=
  parts.mapM fun p => match places p.1, cOpd G p.2 with
    | some (o, s), some x => some (o, s, x)
    | _, _ => none
def cKey (t : TypeId) : Option Nat :=
  match P.underlying t with
  | some .bool => some 0
  | some .string => some 1
  | some (.int _) => some 2
  | _ => none
def uSlice0 (t : TypeId) : Option TypeId := match P.underlying t with | some (.slice e) => some e | _ => none
def srcOk (t : TypeId) : Bool := match P.underlying t with | some (.slice _) | some .string => true | _ => false
def cBuiltin (b : Builtin) (argTypes : List TypeId) (args : List Opd) : Option IOp :=
  match b, argTypes, args with
  | .len, [t], [x] => match P.underlying t with
    | some .string => some (.lenstr x)
    | some (.slice _) => some (.len x)
    | some (.array n _) => some (.lenarr n)
    | some (.map _ _) => some (.lenmap x)
    | _ => none
  | .cap, [t], [x] => match P.underlying t with
    | some (.slice _) => some (.cap x)
    | _ => none
  | .max, _, args => some (.max args)
  | .min, _, args => some (.min args)
  | .append, [t, u], [s, x] => (uSlice0 P t).bind fun e => (bif srcOk P u then some () else none).bind fun _ => (P.info? e).bind fun i => (cZeros P e).bind fun z =>
      (bif z.length.beq i.size then some () else none).bind fun _ => bif i.bytes.ble 65536 then some (.append e i.size i.bytes s x) else none
  | .copy, [t, _], [d, s] => match P.underlying t with
    | some (.slice e) => match cSize P e with
      | some n => some (.copy n d s)
      | none => none
    | _ => none
  | .delete, [t, _], [m, k] => match P.underlying t with
    | some (.map kt _) => (cKey P kt).map fun c => .delete c m k
    | _ => none
  | _, _, _ => none
def uSlice (t : TypeId) : Option TypeId := match P.underlying t with | some (.slice e) => some e | _ => none
def uArray (t : TypeId) : Option (Nat × TypeId) := match P.underlying t with | some (.array n e) => some (n, e) | _ => none
def uStruct (t : TypeId) : Option (Array Field) := match P.underlying t with | some (.struct fs) => some fs | _ => none
def uMap (t : TypeId) : Option (TypeId × TypeId) := match P.underlying t with | some (.map k e) => some (k, e) | _ => none
def uString (t : TypeId) : Option Unit := match P.underlying t with | some .string => some () | _ => none
def uInt (t : TypeId) : Option IntKind := match P.underlying t with | some (.int k) => some k | _ => none
def uIface (t : TypeId) : Option Unit := match P.underlying t with | some (.interface _) => some () | _ => none
def uOther (t : TypeId) : Option Unit := match P.underlying t with | some (.interface _) => none | some _ => some () | none => none
def must (b : Bool) : Option Unit := bif b then some () else none
def cEq (neg : Bool) (t : TypeId) (x y : Opd) : Option IOp :=
  bif P.eqGuardType P.depth t then (uIface P t).map fun _ => .eq neg (.prim 7) x y else (cEqTy P 20 t).map fun e => .eq neg e x y
def or1 (x y : Option IOp) : Option IOp := match x with | some r => some r | none => y
def cOp (o : Oper) : Option IOp :=
  match o.op with
  | .move x => (cOpd G x).map .mov
  | .assign x => (cOpd G x).map .mov
  | .pick c a b => (cOpd G c).bind fun c => (cOpd G a).bind fun a => (cOpd G b).map fun b => .pick c a b
  | .alloc e => (cZeros P e).map (.alloc e)
  | .box e x => (cOpd G x).map (.box e)
  | .build t parts => (cZeros P t).bind fun z => or1
      ((uStruct P t).bind fun fs => (must (fs.toList.all fun f => (cSize P f.type).isSome)).bind fun _ => (cParts G (fun i => (fs[i]?).bind fun f => (cSize P f.type).map fun s => (f.offset, s)) parts.toList).map (.build z))
      ((uArray P t).bind fun q => (cSize P q.2).bind fun s => (cParts G (fun i => some (i * s, s)) parts.toList).map (.build z))
  | .buildSlice t len parts => (uSlice P t).bind fun e => (cSize P e).bind fun s => (cZeros P e).bind fun z => (parts.toList.mapM (fun p => (cOpd G p.2).map fun x => (p.1, x))).bind fun ps =>
      (must (z.length.beq s)).bind fun _ => (must ((len * s).ble 16777216)).map fun _ => .bslice e s len z ps
  | .load t a => (cAgg P t).bind fun g => (cOpd G a).map fun a => .load g a
  | .store t a x => (cSize P t).bind fun s => (cOpd G a).bind fun a => (cOpd G x).map fun x => .store s a x
  | .nilCheck x => (cOpd G x).map .nilck
  | .binOp op t x y _ => (cOpd G x).bind fun x => (cOpd G y).bind fun y => match op with
      | .eql => cEq P false t x y
      | .neq => cEq P true t x y
      | op => some (.bin op x y)
  | .unOp op _ x => (cOpd G x).map (.un op)
  | .convert s d x => (cOpd G x).bind fun x => or1
      ((uOther P s).bind fun _ => (uInt P d).map fun k => .conv (.int k) x)
      (or1 ((uString P s).bind fun _ => (uString P d).map fun _ => .conv .same x)
      (or1 ((uString P s).bind fun _ => (uSlice P d).bind fun e => (uInt P e).bind fun k => (must ((kindNo k).beq 4)).map fun _ => .conv (.bytes e) x)
        ((uSlice P s).bind fun e => (uString P d).bind fun _ => (uInt P e).bind fun k => (must ((kindNo k).beq 4)).map fun _ => .conv .text x)))
  | .makeInterface t x => (uOther P t).bind fun _ => (cOpd G x).map (.iface t)
  | .makeFunc (.func f) a c => (cOpds G a.toList).bind fun a => (cOpds G c.toList).map fun c => .mkfn f a c
  | .makeMap t none => (uMap P t).map fun _ => .mkmap
  | .makeMap t (some (.const (.int _ _))) => (uMap P t).map fun _ => .mkmap
  | .makeSlice t l c => (uSlice P t).bind fun e => (P.info? e).bind fun i => (cZeros P e).bind fun z => (cOpd G l).bind fun l => (cOpd G c).bind fun c =>
      (must (z.length.beq i.size)).bind fun _ => (must (i.bytes.ble 65536)).map fun _ => .mkslice e i.size z l c
  | .slice t x lo hi mx => (must (!(mx.isSome && hi.isNone))).bind fun _ => (cOpd G x).bind fun x => (cOpt G lo).bind fun lo => (cOpt G hi).bind fun hi => (cOpt G mx).bind fun mx => or1
      ((uArray P t).bind fun q => (cSize P q.2).map fun s => .slarr q.1 s x lo hi mx)
      (or1 ((uSlice P t).bind fun e => (cSize P e).map fun s => .slsl s x lo hi mx)
        ((uString P t).bind fun _ => (must mx.isNone).map fun _ => .slstr x lo hi))
  | .fieldAddr s x f => (uStruct P s).bind fun fs => (cOpd G x).bind fun x => (fs[f]?).bind fun f => (cSize P f.type).bind fun s => (must (Nat.ble 1 s)).map fun _ => .faddr f.offset x
  | .field s x f => (uStruct P s).bind fun fs => (cOpd G x).bind fun x => (fs[f]?).bind fun f => (cAgg P f.type).map fun g => .fld g f.offset x
  | .indexAddr t x i => (cOpd G x).bind fun x => (cOpd G i).bind fun i => or1
      ((uSlice P t).bind fun e => (cSize P e).map fun s => .iaddr s x i)
      ((uArray P t).bind fun q => (cSize P q.2).map fun s => .iaddrArr q.1 s x i)
  | .index t x i => (cOpd G x).bind fun x => (cOpd G i).bind fun i => or1
      ((uString P t).map fun _ => .idxstr x i)
      ((uArray P t).bind fun q => (cSize P q.2).bind fun s => (cAgg P q.2).map fun g => .idxagg q.1 s g x i)
  | .lookup t m k ok => (uMap P t).bind fun q => (cKey P q.1).bind fun c => (cZero P q.2).bind fun z => (cOpd G m).bind fun m => (cOpd G k).map fun k => .lookup c z ok m k
  | .mapUpdate t m k x => (uMap P t).bind fun q => (cKey P q.1).bind fun c => (cOpd G m).bind fun m => (cOpd G k).bind fun k => (cOpd G x).map fun x => .mapupd c m k x
  | .insert t m k x => (uMap P t).bind fun q => (cKey P q.1).bind fun c => (cOpd G m).bind fun m => (cOpd G k).bind fun k => (cOpd G x).map fun x => .mapupd c m k x
  | .typeAssert x _ t false => (uOther P t).bind fun _ => (cOpd G x).map (.tassert t)
  | .extract x i => (cOpd G x).map fun x => .extract x i
  | .call c => (cOpds G c.args.toList).bind fun a => match c.callee with
    | .builtin b => cBuiltin P b c.argTypes.toList a
    | _ => none
  | _ => none
def cXOp (o : Oper) : Option XOp :=
  match o.op with
  | .call ⟨.value f, xs, _⟩ => (cOpds G xs.toList).bind fun a => (cOpd G f).map fun f => .call f a
  | .defer ⟨.value f, xs, _⟩ => (cOpds G xs.toList).bind fun a => (cOpd G f).map fun f => .defer f a
  | .panic x => (cOpd G x).map .panic
  | _ => (cOp P G o).map .val

def dstOk (n : Nat) : Option Nat → Bool
  | some d => Nat.ble (d + 1) n
  | none => true
def cOper (n : Nat) (ops : Array Oper) (o : Oper) : Option IOper :=
  match cXOp P G o with
  | none => none
  | some op => bif dstOk n o.dst then
      match o.guard with
      | none => some ⟨o.dst, op, none⟩
      | some (j, w) => match (ops[j]?).bind (·.dst) with
        | some t => some ⟨o.dst, op, some (t, w)⟩
        | none => none
    else none
def plainEdge (e : Edge) : Bool := match e.ground with | .textOnly _ | .gcOnly _ => false | _ => true
def befores : List Oper → List (List Nat) → List (List Nat)
  | [], acc => acc
  | o :: r, acc => befores r (acc ++ [(o.after.toList.filter plainEdge).flatMap fun e => e.on :: acc.getD e.on []])
def maskOf (accm : List Nat) : List Edge → Nat
  | [] => 0
  | e :: r => bif plainEdge e then (2 ^ e.on ||| accm.getD e.on 0) ||| maskOf accm r else maskOf accm r
def masks : List Oper → List Nat → List Nat
  | [], acc => acc
  | o :: r, acc => masks r (acc ++ [maskOf acc o.after.toList])
def named (o : IOper) : List Nat :=
  o.dst.toList ++ tmpsOf (xopds o.op) ++ (match o.guard with | some (t, _) => [t] | none => [])
def goDown : List Oper → Nat → Bool
  | [], _ => true
  | o :: r, i => (o.after.toList.all fun e => !plainEdge e || Nat.ble (e.on + 1) i) && goDown r (i + 1)
def pairs (n : Nat) : List (Nat × Nat) := (List.range n).flatMap fun j => (List.range j).map fun i => (i, j)
def drawPairs (ops : List Oper) (is : List IOper) : Option (List (Nat × Nat)) :=
  let msk := masks ops []
  let open_ := (pairs is.length).filter fun (i, j) => !(msk.getD j 0).testBit i
  let at_ (i : Nat) : Nat := ((is[i]?).map fun o => sort o.op).getD 3
  let nm (i : Nat) : List Nat := ((is[i]?).map named).getD []
  let dst (i : Nat) : Option Nat := (is[i]?).bind (·.dst)
  bif goDown ops 0 && open_.all fun (i, j) => !(at_ i == 3 && at_ j == 3) &&
      (match dst i with | some t => !(nm j).contains t | none => true) && (match dst j with | some t => !(nm i).contains t | none => true)
  then some (open_.flatMap fun (i, j) => bif at_ i == 2 && at_ j == 3 then [(i, j)] else bif at_ i == 3 && at_ j == 2 then [(j, i)] else [])
  else none
def cCode (n : Nat) : Code → Option ICode
  | .skip => some .skip
  | .region _ ops false => (ops.toList.mapM (cOper P G n ops)).map .region
  | .region _ ops true => match ops.toList.mapM (cOper P G n ops) with
    | some is => (drawPairs ops.toList is).map (.draw is)
    | none => none
  | .seq a b => match cCode n a, cCode n b with
    | some a, some b => some (.seq a b)
    | _, _ => none
  | .cond c a b => match cOpd G c, cCode n a, cCode n b with
    | some c, some a, some b => some (.cond c a b)
    | _, _, _ => none
  | .block id a => (cCode n a).map (.block id)
  | .loop a => (cCode n a).map .loop
  | .exit id => some (.exit id)
  | .ret => some .ret
  | .scope a => cCode n a
  | .label _ => some .skip
  | _ => none
def isRec (o : Oper) : Bool := match o.op, o.guard with
  | .call ⟨.builtin .recover, xs, _⟩, none => xs.isEmpty
  | _, _ => false
def cCodeR (n : Nat) : Code → Option (Nat × ICode)
  | .region _ ops false => match ops.toList with
    | o :: r => bif isRec o then match o.dst with
        | some d => bif Nat.ble (d + 1) n then (r.mapM (cOper P G n ops)).map fun is => (d, .region is) else none
        | none => none
      else none
    | [] => none
  | .seq a b => match cCodeR n a, cCode P G n b with
    | some (d, a), some b => some (d, .seq a b)
    | _, _ => none
  | _ => none
def cRes : ResultVar → Option IRes
  | .tmp t => some (.tmp t)
  | .cell a t => (cAgg P t).map (.cell a)
def cFun (f : Func) : Option IFun :=
  match f.body with
  | none => none
  | some c => bif f.name == "runtime.NumGoroutine" then none else match cCode P G f.ntmps c, f.results.toList.mapM (cRes P) with
    | some b, some r => some ⟨f.ntmps, b, r⟩
    | _, _ => none
def cFunR (f : Func) : Option (Nat × IFun) :=
  match f.body with
  | none => none
  | some c => bif f.name == "runtime.NumGoroutine" then none else match cCodeR P G f.ntmps c, f.results.toList.mapM (cRes P) with
    | some (d, b), some r => some (d, ⟨f.ntmps, b, r⟩)
    | _, _ => none
end

def noOps (P : Program) (G : List Nat) (n : Nat) : Code → List String
  | .region _ ops d => (ops.toList.filter fun o => (cOper P G n ops o).isNone).map (fun o => o.pos ++ " op") ++
      (match ops.toList.mapM (cOper P G n ops) with | some is => if d && (drawPairs ops.toList is).isNone then ["an open order " ++ ((ops[0]?).map (·.pos)).getD ""] else [] | none => [])
  | .seq a b | .cond _ a b => noOps P G n a ++ noOps P G n b
  | .block _ a | .loop a | .scope a => noOps P G n a
  | .skip | .exit _ | .ret | .label _ => []
  | .goto _ => ["goto"]
  | .rangeFunc .. => ["rangeFunc"]
  | .refuse w => ["refuse " ++ w]
end Go.Proofs.YtblcomejcahkdaaDoor.Ev
end
section
namespace Go.Proofs.YtblcomejcahkdaaDoor.Ev
open Go

structure Loc where
  blk : Nat
  off : Nat
  total : Nat
  esz : Nat
  ro : Bool
abbrev Ren := Nat → Option Loc

mutual
inductive VR (ρ : Ren) : EV → Value → Prop
  | undef : VR ρ .undef undef
  | bool (b : Bool) : VR ρ (.bool b) (.bool b)
  | int (k : IntKind) (n : Int) : VR ρ (.int k n) (.int k n)
  | str (s : ByteArray) : VR ρ (.str s.data.toList) (.string s)
  | nilptr : VR ρ .nilptr (.pointer none)
  | ptr {b off : Nat} {L : Loc} (h : ρ b = some L) : VR ρ (.ptr b off) (.pointer (some ⟨L.blk, L.off + off, none⟩))
  | nilslice : VR ρ .nilslice (.slice none 0 0)
  | slice {b off len c o : Nat} {L : Loc} (h : ρ b = some L) (hc : len ≤ c) (ho : 0 < len → o = L.off + off) (hr : L.ro = false → o + c * L.esz ≤ L.total) :
      VR ρ (.slice b off len none) (.slice (some ⟨L.blk, o, none⟩) len c)
  | sliceE {b off : Nat} {a : Addr} : VR ρ (.slice b off 0 (some 0)) (.slice (some a) 0 0)
  | sliceC {b off len c o : Nat} {L : Loc} (h : ρ b = some L) (hc : len ≤ c) (ho : 0 < c → o = L.off + off) : VR ρ (.slice b off len (some c)) (.slice (some ⟨L.blk, o, none⟩) len c)
  | nilmap : VR ρ .nilmap (.map none)
  | map {b : Nat} {L : Loc} (h : ρ b = some L) : VR ρ (.map b) (.map (some L.blk))
  | nilfunc : VR ρ .nilfunc .nilFunc
  | func {f : Nat} {x y : List EV} {x' y' : List Value} (hx : VRs ρ x x') (hy : VRs ρ y y') : VR ρ (.func f x y) (.func (.func f) ⟨x'⟩ ⟨y'⟩)
  | niliface : VR ρ .niliface .nilIface
  | iface {t : Nat} {v : EV} {v' : Value} (h : VR ρ v v') : VR ρ (.iface t v) (.iface t v')
  | agg {x : List EV} {x' : List Value} (h : VRs ρ x x') (hf : ∀ c ∈ x', c.oneCell' = true) : VR ρ (.agg x) (.agg ⟨x'⟩)
  | tuple {x : List EV} {x' : List Value} (h : VRs ρ x x') : VR ρ (.tuple x) (.tuple ⟨x'⟩)
inductive VRs (ρ : Ren) : List EV → List Value → Prop
  | nil : VRs ρ [] []
  | cons {v : EV} {v' : Value} {x : List EV} {x' : List Value} (h : VR ρ v v') (hs : VRs ρ x x') : VRs ρ (v :: x) (v' :: x')
end

def Ext (ρ ρ' : Ren) : Prop := ∀ b L, ρ b = some L → ρ' b = some L
theorem Ext.refl (ρ : Ren) : Ext ρ ρ := fun _ _ h => h
theorem Ext.trans {ρ ρ' ρ'' : Ren} (h : Ext ρ ρ') (h' : Ext ρ' ρ'') : Ext ρ ρ'' := fun b L e => h' b L (h b L e)

mutual
theorem VR.ext {ρ ρ' : Ren} (e : Ext ρ ρ') : ∀ {v : EV} {v' : Value}, VR ρ v v' → VR ρ' v v'
  | _, _, .undef => .undef
  | _, _, .bool b => .bool b
  | _, _, .int k n => .int k n
  | _, _, .str s => .str s
  | _, _, .nilptr => .nilptr
  | _, _, .ptr h => .ptr (e _ _ h)
  | _, _, .nilslice => .nilslice
  | _, _, .slice h hc ho hr => .slice (e _ _ h) hc ho hr
  | _, _, .sliceC h hc ho => .sliceC (e _ _ h) hc ho
  | _, _, .sliceE => .sliceE
  | _, _, .nilmap => .nilmap
  | _, _, .map h => .map (e _ _ h)
  | _, _, .nilfunc => .nilfunc
  | _, _, .func hx hy => .func (VRs.ext e hx) (VRs.ext e hy)
  | _, _, .niliface => .niliface
  | _, _, .iface h => .iface (VR.ext e h)
  | _, _, .agg h hf => .agg (VRs.ext e h) hf
  | _, _, .tuple h => .tuple (VRs.ext e h)
theorem VRs.ext {ρ ρ' : Ren} (e : Ext ρ ρ') : ∀ {x : List EV} {x' : List Value}, VRs ρ x x' → VRs ρ' x x'
  | _, _, .nil => .nil
  | _, _, .cons h hs => .cons (VR.ext e h) (VRs.ext e hs)
end

theorem VRs.length {ρ : Ren} : ∀ {x : List EV} {x' : List Value}, VRs ρ x x' → x.length = x'.length
  | _, _, .nil => rfl
  | _, _, .cons _ hs => by simp [VRs.length hs]
theorem VRs.get {ρ : Ren} : ∀ {x : List EV} {x' : List Value}, VRs ρ x x' → ∀ (i : Nat) (v : EV), x[i]? = some v → ∃ v', x'[i]? = some v' ∧ VR ρ v v'
  | _, _, .nil, i, v, h => by simp at h
  | _, _, .cons (v := a) (v' := a') h0 hs, i, v, h => by
    cases i with
    | zero => simp at h; subst h; exact ⟨a', rfl, h0⟩
    | succ i => simp at h; obtain ⟨v', hv, hr⟩ := hs.get i v h; exact ⟨v', by simpa using hv, hr⟩
theorem VRs.of_get {ρ : Ren} : ∀ {x : List EV} {x' : List Value}, x.length = x'.length → (∀ (i : Nat) (v : EV) (v' : Value), x[i]? = some v → x'[i]? = some v' → VR ρ v v') → VRs ρ x x'
  | [], [], _, _ => .nil
  | [], _ :: _, h, _ => by simp at h
  | _ :: _, [], h, _ => by simp at h
  | a :: x, a' :: x', h, hg => .cons (hg 0 a a' rfl rfl) (VRs.of_get (by simpa using h) fun i v v' hv hv' => hg (i + 1) v v' (by simpa using hv) (by simpa using hv'))
theorem VRs.append {ρ : Ren} : ∀ {x y : List EV} {x' y' : List Value}, VRs ρ x x' → VRs ρ y y' → VRs ρ (x ++ y) (x' ++ y')
  | _, _, _, _, .nil, h => h
  | _, _, _, _, .cons h hs, k => .cons h (hs.append k)
theorem VRs.take {ρ : Ren} {x : List EV} {x' : List Value} (h : VRs ρ x x') (n : Nat) : VRs ρ (x.take n) (x'.take n) := by
  refine VRs.of_get (by simp [h.length]) fun i v v' hv hv' => ?_
  rw [List.getElem?_take] at hv hv'
  split at hv
  · obtain ⟨u, hu, hr⟩ := h.get i v hv
    rename_i hlt
    rw [if_pos hlt] at hv'
    rw [hu] at hv'; cases hv'; exact hr
  · cases hv
theorem VRs.drop {ρ : Ren} {x : List EV} {x' : List Value} (h : VRs ρ x x') (n : Nat) : VRs ρ (x.drop n) (x'.drop n) := by
  refine VRs.of_get (by simp [h.length]) fun i v v' hv hv' => ?_
  rw [List.getElem?_drop] at hv hv'
  obtain ⟨u, hu, hr⟩ := h.get _ v hv
  rw [hu] at hv'; cases hv'; exact hr
theorem VRs.map_of {ρ : Ren} {α β : Type} (f : α → EV) (g : β → Value) {R : α → β → Prop} (hfg : ∀ a b, R a b → VR ρ (f a) (g b)) : ∀ {l : List α} {l' : List β}, l.length = l'.length → (∀ (i : Nat) (a : α) (b : β), l[i]? = some a → l'[i]? = some b → R a b) → VRs ρ (l.map f) (l'.map g)
  | [], [], _, _ => .nil
  | [], _ :: _, h, _ => by simp at h
  | _ :: _, [], h, _ => by simp at h
  | a :: x, a' :: x', h, hg => .cons (hfg _ _ (hg 0 a a' rfl rfl)) (VRs.map_of f g hfg (by simpa using h) fun i v v' hv hv' => hg (i + 1) v v' (by simpa using hv) (by simpa using hv'))

def Live (m : Mem) (b : Nat) : Prop := m.get b ≠ .dead
def Free (fz : Nat × Nat) (n : Nat) : Prop := ∀ i, i < n → ¬ (fz.1 ≤ i ∧ i < fz.2)
def EntR (ρ : Ren) (e : EV × EV) (d : MapEntry) : Prop := VR ρ e.1 d.key ∧ VR ρ e.2 d.val
def BlkR (base : Nat) (ρ : Ren) (B : Blk) (L : Loc) (w : World) : Prop :=
  match B with
  | .dead => True
  | .cells cs esz _ ro => ∃ arr e fz, w.heap[L.blk]? = some (.cells arr e fz) ∧ arr.size = L.total ∧ L.esz = esz ∧ L.ro = ro ∧ L.off + cs.length ≤ L.total ∧
      (∀ (i : Nat) (v : EV), cs[i]? = some v → ∃ v', arr[L.off + i]? = some v' ∧ VR ρ v v' ∧ v'.oneCell' = true) ∧
      (ro = false → base ≤ L.blk ∧ Free fz arr.size) ∧ (ro = true → L.blk < base)
  | .map es => ∃ ds c, w.heap[L.blk]? = some (.map ds c) ∧ es.length = ds.size ∧ (∀ (i : Nat) (e : EV × EV) (d : MapEntry), es[i]? = some e → ds[i]? = some d → EntR ρ e d) ∧ base ≤ L.blk ∧ L.ro = false

structure R (base : Nat) (ρ : Ren) (m : Mem) (w : World) : Prop where
  lt : ∀ b L, ρ b = some L → b < m.next
  blk : ∀ b L, ρ b = some L → BlkR base ρ (m.get b) L w
  inj : ∀ b c L L', ρ b = some L → ρ c = some L' → Live m b → Live m c → L.ro = false → L.blk = L'.blk → b = c
  base : base ≤ w.heap.size
  clean : ∀ b, m.next ≤ b → m.get b = .dead

def rng (ρ : Ren) (m : Mem) (i : Nat) : Prop := ∃ b L, ρ b = some L ∧ Live m b ∧ L.ro = false ∧ L.blk = i

structure Step (ρ : Ren) (m : Mem) (w : World) (ρ' : Ren) (m' : Mem) (w' : World) : Prop where
  ext : Ext ρ ρ'
  new : ∀ b, ρ b = none → ρ' b ≠ none → m.next ≤ b
  next : m.next ≤ m'.next
  same : ∀ b, b < m.next → ρ b = none → m'.get b = m.get b
  dead : ∀ b, b < m.next → m.get b = .dead → m'.get b = .dead
  size : w.heap.size ≤ w'.heap.size
  rng : ∀ i, i < w.heap.size → rng ρ' m' i → rng ρ m i
  kept : ∀ i, i < w.heap.size → ¬ Ev.rng ρ m i → w'.heap[i]? = w.heap[i]?
  os : w'.os = w.os
  tape : w'.tape = w.tape
  output : w'.output = w.output

theorem Step.refl (ρ : Ren) (m : Mem) (w : World) : Step ρ m w ρ m w :=
  ⟨.refl ρ, fun _ h h' => absurd h h', Nat.le_refl _, fun _ _ _ => rfl, fun _ _ h => h, Nat.le_refl _, fun _ _ h => h, fun _ _ _ => rfl, rfl, rfl, rfl⟩
theorem Step.trans {ρ ρ1 ρ2 : Ren} {m m1 m2 : Mem} {w w1 w2 : World} (h : Step ρ m w ρ1 m1 w1) (k : Step ρ1 m1 w1 ρ2 m2 w2) : Step ρ m w ρ2 m2 w2 := by
  refine ⟨h.ext.trans k.ext, ?_, Nat.le_trans h.next k.next, ?_, fun b hb hd => k.dead b (Nat.lt_of_lt_of_le hb h.next) (h.dead b hb hd), Nat.le_trans h.size k.size, ?_, ?_, k.os.trans h.os, k.tape.trans h.tape, k.output.trans h.output⟩
  · intro b hb hb2
    cases e : ρ1 b with
    | none => exact Nat.le_trans h.next (k.new b e hb2)
    | some L => exact h.new b hb (by rw [e]; simp)
  · intro b hb hn
    have h1 : ρ1 b = none := by
      cases e : ρ1 b with
      | none => rfl
      | some L => have := h.new b hn (by rw [e]; simp); omega
    rw [k.same b (Nat.lt_of_lt_of_le hb h.next) h1, h.same b hb hn]
  · intro i hi hr
    exact h.rng i hi (k.rng i (Nat.lt_of_lt_of_le hi h.size) hr)
  · intro i hi hr
    rw [k.kept i (Nat.lt_of_lt_of_le hi h.size) (fun hr1 => hr (h.rng i hi hr1)), h.kept i hi hr]

theorem Mem.get_set (m : Mem) (b c : Nat) (x : Blk) : (m.set b x).get c = if c = b then x else m.get c := by
  unfold Mem.get Mem.set
  simp only [Tr.get_set]
  split <;> rfl
theorem Mem.get_new (m : Mem) (c : Nat) (x : Blk) : (m.new x).get c = if c = m.next then x else m.get c := by
  unfold Mem.get Mem.new
  simp only [Tr.get_set]
  split <;> rfl
theorem Mem.next_new (m : Mem) (x : Blk) : (m.new x).next = m.next + 1 := rfl
theorem Mem.next_set (m : Mem) (b : Nat) (x : Blk) : (m.set b x).next = m.next := rfl

structure Quiet (w w' : World) : Prop where
  heap : w'.heap = w.heap
  os : w'.os = w.os
  tape : w'.tape = w.tape
  output : w'.output = w.output
theorem Quiet.refl (w : World) : Quiet w w := ⟨rfl, rfl, rfl, rfl⟩
theorem BlkR.of_heap {base : Nat} {ρ ρ' : Ren} (e : Ext ρ ρ') {B : Blk} {L : Loc} {w w' : World} (hh : w'.heap[L.blk]? = w.heap[L.blk]?) (h : BlkR base ρ B L w) : BlkR base ρ' B L w' := by
  unfold BlkR at *
  cases B with
  | dead => trivial
  | cells cs esz el ro =>
    obtain ⟨arr, e', fz, h1, h2, h3, h4, h5, h6, h7⟩ := h
    refine ⟨arr, e', fz, by rw [hh]; exact h1, h2, h3, h4, h5, fun i v hv => ?_, h7⟩
    obtain ⟨v', g1, g2, g3⟩ := h6 i v hv
    exact ⟨v', g1, g2.ext e, g3⟩
  | map es =>
    obtain ⟨ds, c, h1, h2, h3, h4⟩ := h
    exact ⟨ds, c, by rw [hh]; exact h1, h2, fun i a d ha hd => ⟨(h3 i a d ha hd).1.ext e, (h3 i a d ha hd).2.ext e⟩, h4⟩
theorem R.quiet {base : Nat} {ρ : Ren} {m : Mem} {w w' : World} (q : Quiet w w') (h : R base ρ m w) : R base ρ m w' :=
  ⟨h.lt, fun b L hb => (h.blk b L hb).of_heap (.refl ρ) (by rw [q.heap]), h.inj, by rw [q.heap]; exact h.base, h.clean⟩
theorem Step.quiet {ρ : Ren} {m : Mem} {w w' : World} (q : Quiet w w') : Step ρ m w ρ m w' :=
  ⟨.refl ρ, fun _ h h' => absurd h h', Nat.le_refl _, fun _ _ _ => rfl, fun _ _ h => h, by rw [q.heap]; exact Nat.le_refl _, fun _ _ h => h, fun _ _ _ => by rw [q.heap], q.os, q.tape, q.output⟩

structure Grew (w : World) (o : Obj) (w' : World) : Prop where
  heap : w'.heap = w.heap.push o
  os : w'.os = w.os
  tape : w'.tape = w.tape
  output : w'.output = w.output
theorem Grew.old {w w' : World} {o : Obj} (g : Grew w o w') (i : Nat) (h : i < w.heap.size) : w'.heap[i]? = w.heap[i]? := by
  rw [g.heap, Array.getElem?_push]; simp; omega
theorem Grew.new {w w' : World} {o : Obj} (g : Grew w o w') : w'.heap[w.heap.size]? = some o := by rw [g.heap]; simp
theorem BlkR.lt {base : Nat} {ρ : Ren} {B : Blk} {L : Loc} {w : World} (h : BlkR base ρ B L w) (hl : B ≠ .dead) : L.blk < w.heap.size := by
  cases B with
  | dead => exact absurd rfl hl
  | cells cs esz el ro => obtain ⟨arr, e', fz, h1, _⟩ := h; exact (Array.getElem?_eq_some_iff.1 h1).1
  | map es => obtain ⟨ds, c, h1, _⟩ := h; exact (Array.getElem?_eq_some_iff.1 h1).1

def Ren.put (ρ : Ren) (b : Nat) (L : Loc) : Ren := fun c => if c = b then some L else ρ c
theorem Ren.ext_put {ρ : Ren} {b : Nat} (L : Loc) (h : ρ b = none) : Ext ρ (ρ.put b L) := by
  intro c M hc
  unfold Ren.put
  by_cases e : c = b
  · subst e; rw [h] at hc; cases hc
  · rw [if_neg e]; exact hc
theorem R.nnone {base : Nat} {ρ : Ren} {m : Mem} {w : World} (h : R base ρ m w) : ρ m.next = none := by
  cases e : ρ m.next with
  | none => rfl
  | some L => have := h.lt _ _ e; omega

structure RN (base : Nat) (ρ : Ren) (m : Mem) (w : World) : Prop where
  free : ρ m.next = none
  blk : ∀ b L, ρ b = some L → BlkR base ρ (m.get b) L w
  inj : ∀ b c L L', ρ b = some L → ρ c = some L' → Live m b → Live m c → L.ro = false → L.blk = L'.blk → b = c
  base : base ≤ w.heap.size
theorem R.n {base : Nat} {ρ : Ren} {m : Mem} {w : World} (h : R base ρ m w) : RN base ρ m w := ⟨h.nnone, h.blk, h.inj, h.base⟩
structure Made (base : Nat) (ρ : Ren) (m : Mem) (w : World) (ρ' : Ren) (B : Blk) (w' : World) : Prop where
  blk : ∀ b L, ρ' b = some L → BlkR base ρ' ((m.new B).get b) L w'
  inj : ∀ b c L L', ρ' b = some L → ρ' c = some L' → Live (m.new B) b → Live (m.new B) c → L.ro = false → L.blk = L'.blk → b = c
  base : base ≤ w'.heap.size
  ext : Ext ρ ρ'
  dom : ∀ b, b ≠ m.next → ρ' b = ρ b
  loc : ∃ L, ρ' m.next = some L ∧ L.blk = w.heap.size
  size : w'.heap.size = w.heap.size + 1
  old : ∀ i, i < w.heap.size → w'.heap[i]? = w.heap[i]?
  os : w'.os = w.os
  tape : w'.tape = w.tape
  output : w'.output = w.output
theorem new_made {base : Nat} {ρ : Ren} {m : Mem} {w w' : World} (h : RN base ρ m w) (B : Blk) (o : Obj) (g : Grew w o w') (L : Loc) (hb : L.blk = w.heap.size)
    (hB : BlkR base (ρ.put m.next L) B L w') : Made base ρ m w (ρ.put m.next L) B w' := by
  have hn := h.free
  have he := Ren.ext_put L hn
  have hsz : w'.heap.size = w.heap.size + 1 := by rw [g.heap]; simp
  have live_lt : ∀ b M, ρ b = some M → Live m b → M.blk < w.heap.size := fun b M hM hl => (h.blk b M hM).lt hl
  have get_old : ∀ b, b ≠ m.next → (m.new B).get b = m.get b := fun b hne => by rw [Mem.get_new, if_neg hne]
  refine ⟨?_, ?_, ?_, he, fun b hne => if_neg hne, ⟨L, if_pos rfl, hb⟩, hsz, fun i hi => g.old i hi, g.os, g.tape, g.output⟩
  · intro b M hM
    unfold Ren.put at hM
    by_cases e : b = m.next
    · rw [if_pos e] at hM; cases hM
      rw [Mem.get_new, if_pos e]; exact hB
    · rw [if_neg e] at hM
      rw [get_old b e]
      by_cases hl : m.get b = .dead
      · rw [hl]; trivial
      · exact (h.blk b M hM).of_heap he (g.old _ (live_lt b M hM hl))
  · intro b c M M' hM hM' hl hl' hro heq
    unfold Ren.put at hM hM'
    by_cases e : b = m.next <;> by_cases e' : c = m.next
    · rw [e, e']
    · rw [if_pos e] at hM; cases hM
      rw [if_neg e'] at hM'
      have := live_lt c M' hM' (by unfold Live at hl' ⊢; rwa [get_old c e'] at hl')
      omega
    · rw [if_pos e'] at hM'; cases hM'
      rw [if_neg e] at hM
      have := live_lt b M hM (by unfold Live at hl ⊢; rwa [get_old b e] at hl)
      omega
    · rw [if_neg e] at hM; rw [if_neg e'] at hM'
      exact h.inj b c M M' hM hM' (by unfold Live at hl ⊢; rwa [get_old b e] at hl) (by unfold Live at hl' ⊢; rwa [get_old c e'] at hl') hro heq
  · have := h.base; omega
theorem Made.whole {base : Nat} {ρ ρ' : Ren} {m : Mem} {w w' : World} {B : Blk} (h : R base ρ m w) (k : Made base ρ m w ρ' B w') : R base ρ' (m.new B) w' ∧ Step ρ m w ρ' (m.new B) w' := by
  have get_old : ∀ b, b ≠ m.next → (m.new B).get b = m.get b := fun b hne => by rw [Mem.get_new, if_neg hne]
  refine ⟨⟨?_, k.blk, k.inj, k.base, fun b hb => by rw [Mem.next_new] at hb; rw [get_old b (by omega)]; exact h.clean b (by omega)⟩, ⟨k.ext, ?_, ?_, ?_, fun b hb hd => by rw [get_old b (by omega)]; exact hd, by have := k.size; omega, ?_, fun i hi _ => k.old i hi, k.os, k.tape, k.output⟩⟩
  · intro b M hM
    rw [Mem.next_new]
    by_cases e : b = m.next
    · omega
    · rw [k.dom b e] at hM; have := h.lt b M hM; omega
  · intro b hb1 hb2
    by_cases e : b = m.next
    · omega
    · rw [k.dom b e] at hb2; exact absurd hb1 hb2
  · rw [Mem.next_new]; omega
  · intro b hlt _
    exact get_old b (by omega)
  · rintro i hi ⟨b, M, hM, hl, hro, heq⟩
    by_cases e : b = m.next
    · subst e
      obtain ⟨L, h1, h2⟩ := k.loc
      rw [h1] at hM; cases hM; omega
    · rw [k.dom b e] at hM
      exact ⟨b, M, hM, by unfold Live at hl ⊢; rwa [get_old b e] at hl, hro, heq⟩
end Go.Proofs.YtblcomejcahkdaaDoor.Ev
end
section
namespace Go.Proofs.YtblcomejcahkdaaDoor.Ev
open Go

theorem run_typeInfo {P : Program} {t : TypeId} {i : TypeInfo} (h : P.info? t = some i) (w : World) : (typeInfo t).run P w = .ok i w := by
  simp [typeInfo, h]
theorem run_sizeOf' {P : Program} {t : TypeId} {n : Nat} (h : cSize P t = some n) (w : World) : (sizeOf t).run P w = .ok n w := by
  unfold cSize at h
  obtain ⟨i, hi, rfl⟩ := Option.map_eq_some_iff.1 h
  simp [sizeOf, run_typeInfo hi]
theorem isAgg_run {P : Program} {t : TypeId} {g : Option Nat} (h : cAgg P t = some g) (w : World) :
    (isAgg t).run P w = .ok g.isSome w ∧ ∀ n, g = some n → (sizeOf t).run P w = .ok n w := by
  unfold cAgg at h
  cases hu : P.underlying t with
  | none => rw [hu] at h; simp at h
  | some d =>
    cases hi : P.info? t with
    | none => rw [hu, hi] at h; cases d <;> simp at h
    | some i =>
      rw [hu, hi] at h
      have hs : (sizeOf t).run P w = .ok i.size w := by simp [sizeOf, run_typeInfo hi]
      cases d <;> simp at h <;> subst h <;> simp [isAgg, run_underlying hu] <;> exact hs

theorem cell_at {w : World} {b o : Nat} {arr : Array Value} {e : TypeId} {fz : Nat × Nat} (h : w.heap[b]? = some (.cells arr e fz)) : w.cell? ⟨b, o, none⟩ = arr[o]? := by
  simp [World.cell?, h]
theorem frozen_at {w : World} {b o : Nat} {arr : Array Value} {e : TypeId} {fz : Nat × Nat} (h : w.heap[b]? = some (.cells arr e fz)) (hf : Free fz arr.size) (ho : o < arr.size) : w.frozen? ⟨b, o, none⟩ = false := by
  have := hf o ho
  simp [World.frozen?, h]
  omega

section
variable {base : Nat} {ρ : Ren} {m : Mem} {w : World}
theorem R.cell (h : R base ρ m w) {b : Nat} {L : Loc} (hb : ρ b = some L) {cs : List EV} {esz el : Nat} {ro : Bool} (hg : m.get b = .cells cs esz el ro) (i : Nat) (v : EV) (hi : cs[i]? = some v) :
    ∃ v', w.cell? ⟨L.blk, L.off + i, none⟩ = some v' ∧ VR ρ v v' ∧ v'.oneCell' = true := by
  have := h.blk b L hb
  rw [hg] at this
  obtain ⟨arr, e, fz, h1, _, _, _, _, h6, _⟩ := this
  obtain ⟨v', g1, g2, g3⟩ := h6 i v hi
  exact ⟨v', by rw [cell_at h1]; exact g1, g2, g3⟩
theorem R.cells (h : R base ρ m w) {b : Nat} {L : Loc} (hb : ρ b = some L) {cs : List EV} {esz el : Nat} {ro : Bool} (hg : m.get b = .cells cs esz el ro) (off n : Nat) (hl : off + n ≤ cs.length) :
    ∃ vs : List Value, vs.length = n ∧ (∀ j, j < n → w.cell? ⟨L.blk, L.off + off + j, none⟩ = vs[j]?) ∧ VRs ρ ((cs.drop off).take n) vs ∧ ∀ c ∈ vs, c.oneCell' = true := by
  induction n generalizing off with
  | zero => exact ⟨[], rfl, fun j hj => absurd hj (by omega), by simpa using VRs.nil, by simp⟩
  | succ n ih =>
    obtain ⟨vs, h1, h2, h3, h4⟩ := ih (off + 1) (by omega)
    have hlt : off < cs.length := by omega
    obtain ⟨v', g1, g2, g3⟩ := h.cell hb hg off cs[off] (List.getElem?_eq_getElem hlt)
    refine ⟨v' :: vs, by simp [h1], ?_, ?_, ?_⟩
    · intro j hj
      cases j with
      | zero => simpa using g1
      | succ j => have := h2 j (by omega); rw [show L.off + off + (j + 1) = L.off + (off + 1) + j by omega]; simpa using this
    · rw [List.drop_eq_getElem_cons hlt, List.take_succ_cons]
      exact .cons g2 h3
    · intro c hc
      rcases List.mem_cons.1 hc with rfl | hc
      · exact g3
      · exact h4 c hc
end

theorem loadCellsFrom_run {P : Program} {w : World} {b o : Nat} : ∀ (vs : List Value) (i : Nat) (acc : Array Value), (∀ j, j < vs.length → w.cell? ⟨b, o + i + j, none⟩ = vs[j]?) →
    (loadCellsFrom ⟨b, o, none⟩ i vs.length acc).run P w = .ok (acc ++ (⟨vs⟩ : Array Value)) w
  | [], i, acc, _ => by simp [loadCellsFrom]
  | v :: vs, i, acc, h => by
    have h0 := h 0 (by simp)
    simp at h0
    have ih := loadCellsFrom_run (P := P) (w := w) (b := b) (o := o) vs (i + 1) (acc.push v) (fun j hj => by
      have := h (j + 1) (by simpa using hj)
      rw [show o + (i + 1) + j = o + i + (j + 1) by omega]; simpa using this)
    simp only [List.length_cons, loadCellsFrom, Sem.run_bind, run_load, Addr.add_lit, h0, Result.andThen_ok, ih]
    congr 1
    simp
theorem loadCells_run {P : Program} {w : World} {b o : Nat} (vs : List Value) (n : Nat) (hn : vs.length = n) (h : ∀ j, j < n → w.cell? ⟨b, o + j, none⟩ = vs[j]?) :
    (loadCells ⟨b, o, none⟩ n).run P w = .ok ⟨vs⟩ w := by
  subst hn
  have := loadCellsFrom_run (P := P) (w := w) (b := b) (o := o) vs 0 #[] (fun j hj => by simpa using h j hj)
  simpa [loadCells] using this

section
variable {base : Nat} {ρ : Ren} {m : Mem} {w : World} {P : Program}
theorem loadVar_sound (hR : R base ρ m w) {t : TypeId} {g : Option Nat} (hg : cAgg P t = some g) {e v : EV} {a' : Value} (ha : VR ρ e a') (h : m.load g e = some v) :
    ∃ a v', a' = .pointer (some a) ∧ (loadVar t a).run P w = .ok v' w ∧ VR ρ v v' := by
  cases e <;> simp [Mem.load] at h
  case fptr => cases ha
  rename_i b off
  cases ha with
  | @ptr _ _ L hb =>
  refine ⟨⟨L.blk, L.off + off, none⟩, ?_⟩
  cases hm : m.get b with
  | dead => simp [hm] at h
  | map es => simp [hm] at h
  | cells cs esz el ro =>
    simp [hm] at h
    obtain ⟨hag, hsz⟩ := isAgg_run hg w
    cases g with
    | none =>
      simp [partOf] at h
      obtain ⟨v', h1, h2, _⟩ := hR.cell hb hm off v (by simpa using h)
      exact ⟨v', rfl, by simp [loadVar, hag, h1], h2⟩
    | some n =>
      simp only [partOf] at h
      cases hl : (off + n).ble cs.length <;> simp [hl] at h
      subst h
      obtain ⟨vs, h1, h2, h3, h4⟩ := hR.cells hb hm off n (Nat.le_of_ble_eq_true hl)
      refine ⟨.agg ⟨vs⟩, rfl, ?_, .agg h3 h4⟩
      simp [loadVar, hag, hsz n rfl, loadCells_run vs n h1 h2]
theorem row_sound (hR : R base ρ m w) {b off n : Nat} {L : Loc} (hb : ρ b = some L) {xs : List EV} (h : m.row b off n = some xs) :
    ∃ vs : List Value, vs.length = n ∧ xs.length = n ∧ (loadCells ⟨L.blk, L.off + off, none⟩ n).run P w = .ok ⟨vs⟩ w ∧ VRs ρ xs vs ∧ ∀ c ∈ vs, c.oneCell' = true := by
  by_cases hn : n = 0
  · subst hn
    rw [Mem.row_none] at h; cases h
    exact ⟨[], rfl, rfl, rfl, .nil, by simp⟩
  rw [Mem.row_pos hn] at h
  unfold Mem.row1 at h
  cases hm : m.get b with
  | dead => simp [hm] at h
  | map es => simp [hm] at h
  | cells cs esz el ro =>
    simp only [hm] at h
    cases hl : (off + n).ble cs.length <;> simp [hl] at h
    have hl' := Nat.le_of_ble_eq_true hl
    obtain ⟨vs, h1, h2, h3, h4⟩ := hR.cells hb hm off n hl'
    refine ⟨vs, h1, ?_, loadCells_run vs n h1 h2, h ▸ h3, h4⟩
    subst h; simp; omega

theorem R.same_get {m1 : Mem} (hR : R base ρ m w) (hn : m1.next = m.next) (hg : ∀ b, m1.get b = m.get b) : R base ρ m1 w ∧ Step ρ m w ρ m1 w := by
  have hl : ∀ b, Live m1 b ↔ Live m b := fun b => by unfold Live; rw [hg]
  refine ⟨⟨fun b L h => by rw [hn]; exact hR.lt b L h, fun b L h => by rw [hg]; exact hR.blk b L h, fun b c L L' h1 h2 h3 h4 => hR.inj b c L L' h1 h2 ((hl b).1 h3) ((hl c).1 h4), hR.base, fun b h => by rw [hg]; exact hR.clean b (by rw [← hn]; exact h)⟩,
    ⟨.refl ρ, fun _ h h' => absurd h h', by rw [hn]; exact Nat.le_refl _, fun b _ _ => hg b, fun b _ h => by rw [hg]; exact h, Nat.le_refl _, fun i _ h => ?_, fun _ _ _ => rfl, rfl, rfl, rfl⟩⟩
  obtain ⟨b, L, h1, h2, h3, h4⟩ := h
  exact ⟨b, L, h1, (hl b).1 h2, h3, h4⟩
theorem write_nil {m m1 : Mem} {b off : Nat} (h : m.write b off [] = some m1) : m1.next = m.next ∧ ∀ c, m1.get c = m.get c := by
  unfold Mem.write at h
  cases hm : m.get b with
  | dead => simp [hm] at h
  | map es => simp [hm] at h
  | cells cs e t ro =>
    simp only [hm] at h
    cases ro <;> simp only [cond_true, cond_false, reduceCtorEq] at h
    obtain ⟨cs1, h1, rfl⟩ := Option.map_eq_some_iff.1 h
    unfold splice at h1
    cases hl : (off + ([] : List EV).length).ble cs.length <;> simp only [hl, cond_true, cond_false, reduceCtorEq, Option.some.injEq] at h1
    have : cs1 = cs := by rw [← h1]; simp
    subst this
    refine ⟨rfl, fun c => ?_⟩
    rw [Mem.get_set]
    split
    · rename_i e; subst e; exact hm.symm
    · rfl
theorem storeCells_run {b o : Nat} {e : TypeId} {fz : Nat × Nat} : ∀ (vs : List Value) (i : Nat) (w : World) (arr : Array Value), w.heap[b]? = some (.cells arr e fz) → o + i + vs.length ≤ arr.size → Free fz arr.size →
    (∀ c ∈ vs, c.oneCell' = true) → ∃ w' arr', (storeCells ⟨b, o, none⟩ vs i).run P w = .ok () w' ∧ w'.heap[b]? = some (.cells arr' e fz) ∧ arr'.size = arr.size ∧
      (∀ j, arr'[j]? = if o + i ≤ j ∧ j < o + i + vs.length then vs[j - (o + i)]? else arr[j]?) ∧ (∀ k, k ≠ b → w'.heap[k]? = w.heap[k]?) ∧ w'.heap.size = w.heap.size ∧ w'.os = w.os ∧ w'.tape = w.tape ∧ w'.output = w.output
  | [], i, w, arr, h, _, _, _ => ⟨w, arr, rfl, h, rfl, fun j => by rw [if_neg (fun h => by have h2 := h.2; simp at h2; omega)], fun _ _ => rfl, rfl, rfl, rfl, rfl⟩
  | v :: vs, i, w, arr, h, hl, hf, hv => by
    simp at hl
    have hlt : o + i < arr.size := by omega
    have hc : w.cell? ⟨b, o + i, none⟩ = some arr[o + i] := by rw [cell_at h, Array.getElem?_eq_getElem hlt]
    have hfr := frozen_at h hf hlt
    have hv0 := hv v (by simp)
    have hbw : b < w.heap.size := (Array.getElem?_eq_some_iff.1 h).1
    have hheap : (w.setCell ⟨b, o + i, none⟩ v).heap[b]? = some (.cells (arr.setIfInBounds (o + i) v) e fz) := by
      simp [World.setCell, Array.getElem?_modify, h]
    have hother : ∀ k, k ≠ b → (w.setCell ⟨b, o + i, none⟩ v).heap[k]? = w.heap[k]? := by
      intro k hk
      simp [World.setCell, Array.getElem?_modify, Ne.symm hk]
    obtain ⟨w', arr', r1, r2, r3, r4, r5, r6, r7, r8, r9⟩ := storeCells_run (b := b) (o := o) vs (i + 1) (w.setCell ⟨b, o + i, none⟩ v) (arr.setIfInBounds (o + i) v) hheap (by simp; omega) (by simpa using hf) (fun c hc => hv c (by simp [hc]))
    refine ⟨w', arr', ?_, r2, by simpa using r3, ?_, fun k hk => (r5 k hk).trans (hother k hk), by simpa using r6, r7, r8, r9⟩
    · simp only [storeCells, Sem.run_bind, Addr.add_lit, run_store P w _ v _ hv0, hc, hfr, if_false, Result.andThen_ok, Bool.false_eq_true]
      exact r1
    · intro j
      rw [r4 j]
      by_cases hj : j = o + i
      · subst hj
        rw [if_neg (by omega), if_pos (by simp)]
        simp [hlt]
      · by_cases hj2 : o + (i + 1) ≤ j ∧ j < o + (i + 1) + vs.length
        · rw [if_pos hj2, if_pos (by simp; omega)]
          rw [show j - (o + i) = (j - (o + (i + 1))) + 1 by omega]
          simp
        · rw [if_neg hj2, if_neg (by simp; omega)]
          rw [Array.getElem?_setIfInBounds_ne (by omega)]
end

theorem splice_get {cs vs ds : List EV} {off : Nat} (h : splice cs off vs = some ds) : ds.length = cs.length ∧ off + vs.length ≤ cs.length ∧
    ∀ j, ds[j]? = if off ≤ j ∧ j < off + vs.length then vs[j - off]? else cs[j]? := by
  unfold splice at h
  cases hl : (off + vs.length).ble cs.length <;> simp [hl] at h
  have hl' := Nat.le_of_ble_eq_true hl
  subst h
  refine ⟨by simp; omega, hl', fun j => ?_⟩
  by_cases h1 : j < off
  · rw [if_neg (by omega), List.getElem?_append_left (by simp; omega), List.getElem?_take, if_pos h1]
  · rw [List.getElem?_append_right (by simp; omega)]
    have hm : min off cs.length = off := by omega
    simp only [List.length_take, hm]
    by_cases h2 : j < off + vs.length
    · rw [if_pos ⟨by omega, h2⟩, List.getElem?_append_left (by omega)]
    · rw [if_neg (by omega), List.getElem?_append_right (by omega), List.getElem?_drop]
      congr 1
      omega

section
variable {base : Nat} {ρ : Ren} {m m' : Mem} {w : World} {P : Program}
theorem write_sound (hR : R base ρ m w) {b off : Nat} {L : Loc} (hb : ρ b = some L) {vs : List EV} {vs' : List Value} (hv : VRs ρ vs vs') (hf : ∀ c ∈ vs', c.oneCell' = true) (h : m.write b off vs = some m') :
    ∃ w', (storeCells ⟨L.blk, L.off + off, none⟩ vs').run P w = .ok () w' ∧ R base ρ m' w' ∧ Step ρ m w ρ m' w' := by
  unfold Mem.write at h
  cases hm : m.get b with
  | dead => simp [hm] at h
  | map es => simp [hm] at h
  | cells cs esz el ro =>
    simp only [hm] at h
    cases ro with
    | true => simp at h
    | false =>
    simp only [cond_false] at h
    obtain ⟨ds, hs, rfl⟩ := Option.map_eq_some_iff.1 h
    obtain ⟨s1, s2, s3⟩ := splice_get hs
    have hB := hR.blk b L hb
    rw [hm] at hB
    obtain ⟨arr, e, fz, h1, h2, h3, h4, h5, h6, h7, h8⟩ := hB
    obtain ⟨hbase, hfree⟩ := h7 rfl
    have hlen := hv.length
    obtain ⟨w', arr', r1, r2, r3, r4, r5, r6, r7, r8, r9⟩ := storeCells_run (P := P) (o := L.off + off) vs' 0 w arr h1 (by omega) hfree hf
    have hlv : Live m b := by unfold Live; rw [hm]; simp
    have hget : ∀ c, c ≠ b → (m.set b (.cells ds esz el false)).get c = m.get c := fun c hc => by rw [Mem.get_set, if_neg hc]
    have hlive : ∀ c, Live (m.set b (.cells ds esz el false)) c → Live m c := by
      intro c hc
      by_cases e : c = b
      · subst e; exact hlv
      · unfold Live at hc ⊢; rwa [hget c e] at hc
    have hbw : L.blk < w.heap.size := (Array.getElem?_eq_some_iff.1 h1).1
    refine ⟨w', r1, ⟨hR.lt, ?_, ?_, by rw [r6]; exact hR.base, fun c hc => by rw [hget c (fun e => by subst e; have := hR.lt _ _ hb; rw [Mem.next_set] at hc; omega)]; exact hR.clean c hc⟩, ⟨.refl ρ, fun _ h h' => absurd h h', Nat.le_refl _, ?_, fun c hc hd => by rw [hget c (fun e => by subst e; rw [hm] at hd; cases hd)]; exact hd, by omega, ?_, ?_, r7, r8, r9⟩⟩
    · intro c M hM
      by_cases e : c = b
      · subst e
        rw [hb] at hM; cases hM
        rw [Mem.get_set, if_pos rfl]
        refine ⟨arr', _, fz, r2, by omega, h3, h4, by omega, ?_, fun _ => ⟨hbase, by rw [r3]; exact hfree⟩, h8⟩
        intro i v hi
        rw [s3 i] at hi
        rw [r4]
        by_cases hin : off ≤ i ∧ i < off + vs.length
        · rw [if_pos hin] at hi
          rw [if_pos (by omega)]
          obtain ⟨v', g1, g2⟩ := hv.get _ v hi
          rw [show L.off + i - (L.off + off + 0) = i - off by omega]
          exact ⟨v', g1, g2, hf v' (List.mem_of_getElem? g1)⟩
        · rw [if_neg hin] at hi
          rw [if_neg (by omega)]
          exact h6 i v hi
      · rw [hget c e]
        by_cases hl : m.get c = .dead
        · rw [hl]; trivial
        · have hne : M.blk ≠ L.blk := fun heq => e (hR.inj b c L M hb hM hlv hl (by rw [h4]) heq.symm).symm
          exact (hR.blk c M hM).of_heap (.refl ρ) (r5 _ hne)
    · intro c d M M' hM hM' hl hl' hro heq
      exact hR.inj c d M M' hM hM' (hlive c hl) (hlive d hl') hro heq
    · intro c hc hn
      exact hget c (fun e => by subst e; rw [hb] at hn; cases hn)
    · rintro i hi ⟨c, M, hM, hl, hro, heq⟩
      exact ⟨c, M, hM, hlive c hl, hro, heq⟩
    · intro i hi hr
      exact r5 i (fun e => hr ⟨b, L, hb, hlv, by rw [h4], e.symm⟩)
theorem newRow_made (hR : RN base ρ m w) {cs : List EV} {vs : List Value} (hv : VRs ρ cs vs) (hf : ∀ c ∈ vs, c.oneCell' = true) (esz el : Nat) (t : TypeId) (extra : List Value) (fz : Nat × Nat) (hfree : Free fz (vs.length + extra.length)) (w' : World)
    (g : Grew w (.cells ⟨vs ++ extra⟩ t fz) w') : ∃ L, ρ.put m.next L m.next = some L ∧ L.blk = w.heap.size ∧ L.off = 0 ∧ L.total = vs.length + extra.length ∧ L.esz = esz ∧ L.ro = false ∧
      Made base ρ m w (ρ.put m.next L) (.cells cs esz el false) w' := by
  let L : Loc := ⟨w.heap.size, 0, vs.length + extra.length, esz, false⟩
  have he := Ren.ext_put L hR.free
  have hlen := hv.length
  have a := new_made hR (.cells cs esz el false) _ g L rfl (by
    refine ⟨⟨vs ++ extra⟩, t, fz, g.new, by simp [L], rfl, rfl, by simp [L]; omega, ?_, fun _ => ⟨hR.base, by simpa using hfree⟩, by simp⟩
    intro i v hi
    obtain ⟨v', g1, g2⟩ := hv.get i v hi
    refine ⟨v', ?_, g2.ext he, hf v' (List.mem_of_getElem? g1)⟩
    have hlt : i < vs.length := (List.getElem?_eq_some_iff.1 g1).1
    simp [L, List.getElem?_append_left hlt, g1])
  exact ⟨L, by simp [Ren.put], rfl, rfl, rfl, rfl, rfl, a⟩
theorem newRow_sound (hR : R base ρ m w) {cs : List EV} {vs : List Value} (hv : VRs ρ cs vs) (hf : ∀ c ∈ vs, c.oneCell' = true) (esz el : Nat) (t : TypeId) (extra : List Value) (fz : Nat × Nat) (hfree : Free fz (vs.length + extra.length)) (w' : World)
    (g : Grew w (.cells ⟨vs ++ extra⟩ t fz) w') : ∃ L, ρ.put m.next L m.next = some L ∧ L.blk = w.heap.size ∧ L.off = 0 ∧ L.total = vs.length + extra.length ∧ L.esz = esz ∧ L.ro = false ∧
      R base (ρ.put m.next L) (m.new (.cells cs esz el false)) w' ∧ Step ρ m w (ρ.put m.next L) (m.new (.cells cs esz el false)) w' := by
  obtain ⟨L, h1, h2, h3, h4, h5, h6, h7⟩ := newRow_made hR.n hv hf esz el t extra fz hfree w' g
  exact ⟨L, h1, h2, h3, h4, h5, h6, h7.whole hR⟩
end

theorem free_zero (n : Nat) : Free (0, 0) n := fun i _ => by simp
theorem VR.cells {ρ : Ren} {v : EV} {v' : Value} (h : VR ρ v v') {cs : List EV} (hc : v.cells = some cs) : VRs ρ cs v'.cells.toList ∧ ∀ c ∈ v'.cells.toList, c.oneCell' = true := by
  cases h <;> simp only [EV.cells, Option.some.injEq, reduceCtorEq] at hc <;> subst hc
  case agg h hf => exact ⟨h, hf⟩
  case ptr h => exact ⟨.cons (.ptr h) .nil, by simp [Value.cells, Value.oneCell']⟩
  case slice h1 h2 h3 h4 => exact ⟨.cons (.slice h1 h2 h3 h4) .nil, by simp [Value.cells, Value.oneCell']⟩
  case sliceC h1 h2 h3 => exact ⟨.cons (.sliceC h1 h2 h3) .nil, by simp [Value.cells, Value.oneCell']⟩
  case map h => exact ⟨.cons (.map h) .nil, by simp [Value.cells, Value.oneCell']⟩
  case func h1 h2 => exact ⟨.cons (.func h1 h2) .nil, by simp [Value.cells, Value.oneCell']⟩
  case iface h => exact ⟨.cons (.iface h) .nil, by simp [Value.cells, Value.oneCell']⟩
  all_goals exact ⟨.cons (by constructor) .nil, by simp [Value.cells, Value.oneCell']⟩

end Go.Proofs.YtblcomejcahkdaaDoor.Ev
end
section
namespace Go.Proofs.YtblcomejcahkdaaDoor.Ev
def globIn : List (Nat × List (List UInt8)) → Nat → Option (List (List UInt8))
  | [], _ => none
  | (g, l) :: r, b => if b = g then some l else globIn r b
def tabIn : List (Nat × List Int) → Nat → Option (List Int)
  | [], _ => none
  | (g, l) :: r, b => if b = g then some l else tabIn r b
end Go.Proofs.YtblcomejcahkdaaDoor.Ev
end
section
namespace Go.Proofs.YtblcomejcahkdaaDoor.Ev
def L_tree_words : List (List UInt8) := [[102, 110], [118, 97, 114], [105, 102], [101, 108, 115, 101], [119, 104, 105, 108, 101], [102, 111, 114], [98, 114, 101, 97, 107], [99, 111, 110, 116, 105, 110, 117, 101], [114, 101, 116, 117, 114, 110], [112, 114, 105, 110, 116], [108, 101, 110], [110, 101, 119], [116, 114, 117, 101], [102, 97, 108, 115, 101], [110, 105, 108], [105, 110, 116], [98, 111, 111, 108], [97, 114, 114]]
def L_tree_signs : List (List UInt8) := [[], [124, 124], [38, 38], [61, 61], [33, 61], [60], [60, 61], [62], [62, 61], [43], [45], [43, 37], [45, 37], [42], [47], [37], [42, 37]]
def L_internal_strconv_uint64pow10 : List Int := [1, 10, 100, 1000, 10000, 100000, 1000000, 10000000, 100000000, 1000000000, 10000000000, 100000000000, 1000000000000, 10000000000000, 100000000000000, 1000000000000000, 10000000000000000, 100000000000000000, 1000000000000000000, 10000000000000000000]
def globs : List (Nat × List (List UInt8)) := [(1, L_tree_words), (0, L_tree_signs)]
def glob (b : Nat) : Option (List (List UInt8)) := globIn globs b
def tabs : List (Nat × List Int) := [(2, L_internal_strconv_uint64pow10)]
def tabl (b : Nat) : Option (List Int) := tabIn tabs b
end Go.Proofs.YtblcomejcahkdaaDoor.Ev
end
section
namespace Go.Proofs.YtblcomejcahkdaaDoor.Ev
open Go

def Globs (G : List Nat) (ρ : Ren) : Prop := ∀ g, G.contains g = true → ∃ L, ρ g = some L ∧ L.blk = g ∧ L.off = 0 ∧ ∀ l, tabl g = some l → L.total = l.length
theorem Globs.ext {G : List Nat} {ρ ρ' : Ren} (e : Ext ρ ρ') (h : Globs G ρ) : Globs G ρ' := fun g hg => let ⟨L, a, b, c, d⟩ := h g hg; ⟨L, e _ _ a, b, c, d⟩

theorem mapM_some {α β : Type} (f : α → Option β) : ∀ {l : List α} {r : List β}, l.mapM f = some r → l.length = r.length ∧ ∀ (i : Nat) (x : α) (y : β), l[i]? = some x → r[i]? = some y → f x = some y
  | [], r, h => by simp at h; subst h; simp
  | a :: l, r, h => by
    rw [List.mapM_cons] at h
    cases ha : f a with
    | none => simp [ha] at h
    | some b =>
      cases hl : l.mapM f with
      | none => simp [ha, hl] at h
      | some bs =>
        simp [ha, hl] at h
        subst h
        obtain ⟨h1, h2⟩ := mapM_some f hl
        refine ⟨by simp [h1], fun i x y hx hy => ?_⟩
        cases i with
        | zero => simp at hx hy; subst hx hy; exact ha
        | succ i => simp at hx hy; exact h2 i x y hx hy

theorem flat_one {ρ : Ren} {e : EV} {v : Value} (h : VR ρ e v) (hf : flatE e = true) : v.oneCell' = true := by
  cases h <;> first | rfl | simp [flatE] at hf
theorem cV_sound {ρ : Ren} : ∀ (n : Nat) (v : Value) (e : EV), cV n v = some e → VR ρ e v := by
  intro n
  induction n with
  | zero => intro v e h; simp [cV] at h
  | succ n ih =>
    have list : ∀ (l : List Value) (r : List EV), l.mapM (cV n) = some r → VRs ρ r l := by
      intro l r h
      obtain ⟨h1, h2⟩ := mapM_some _ h
      exact VRs.of_get h1.symm fun i v v' hv hv' => ih _ _ (h2 i v' v hv' hv)
    intro v e h
    unfold cV at h
    split at h
    · cases h; constructor
    · cases h; constructor
    · cases h; constructor
    · cases h; constructor
    · cases h; constructor
    · cases h; constructor
    · cases h; constructor
    · cases h; constructor
    · rename_i f a c
      cases ha : a.toList.mapM (cV n) with
      | none => simp [ha] at h
      | some x =>
        cases hc : c.toList.mapM (cV n) with
        | none => simp [ha, hc] at h
        | some y => simp [ha, hc] at h; subst h; exact .func (list _ _ ha) (list _ _ hc)
    · obtain ⟨x, hx, rfl⟩ := Option.map_eq_some_iff.1 h
      exact .iface (ih _ _ hx)
    · rename_i cs
      cases hx : cs.toList.mapM (cV n) with
      | none => simp [hx] at h
      | some x =>
        simp only [hx] at h
        cases hf : x.all flatE <;> simp [hf] at h
        subst h
        have hl := list _ _ hx
        refine .agg hl fun c hc => ?_
        obtain ⟨i, hi⟩ := List.mem_iff_getElem?.1 hc
        have hlt : i < x.length := by rw [hl.length]; exact (List.getElem?_eq_some_iff.1 hi).1
        obtain ⟨v', h1, h2⟩ := hl.get i x[i] (List.getElem?_eq_getElem hlt)
        rw [hi] at h1; cases h1
        exact flat_one h2 (List.all_eq_true.1 hf _ (List.getElem_mem hlt))
    · obtain ⟨x, hx, rfl⟩ := Option.map_eq_some_iff.1 h
      exact .tuple (list _ _ hx)
    · cases h

structure FR (ρ : Ren) (n : Nat) (fr : Fr) (a : Act) : Prop where
  size : a.tmps.size = n
  tmp : ∀ t, VR ρ (fr.get t) (a.tmps.getD t undef)
theorem FR.ext {ρ ρ' : Ren} {n : Nat} {fr : Fr} {a : Act} (e : Ext ρ ρ') (h : FR ρ n fr a) : FR ρ' n fr a := ⟨h.size, fun t => (h.tmp t).ext e⟩
theorem Fr.get_set (fr : Fr) (d t : Nat) (v : EV) : (fr.set d v).get t = if t = d then v else fr.get t := by
  unfold Fr.get Fr.set
  simp only [Tr.get_set]
  split <;> rfl
theorem FR.put {ρ : Ren} {n : Nat} {fr : Fr} {a : Act} (h : FR ρ n fr a) {d : Option Nat} (hd : ∀ x, d = some x → x < n) {v : EV} {v' : Value} (hv : VR ρ v v') : FR ρ n (fr.put d v) (a.put d v') := by
  cases d with
  | none => exact h
  | some d =>
    have hlt := hd d rfl
    refine ⟨by simp [Act.put, h.size], fun t => ?_⟩
    simp only [Fr.put, Fr.get_set, Act.put]
    by_cases e : t = d
    · subst e
      rw [if_pos rfl]
      rw [Array.getD_eq_getD_getElem?, Array.getElem?_setIfInBounds_self_of_lt (by rw [h.size]; exact hlt)]
      exact hv
    · rw [if_neg e]
      rw [Array.getD_eq_getD_getElem?, Array.getElem?_setIfInBounds_ne (by omega), ← Array.getD_eq_getD_getElem?]
      exact h.tmp t
section
variable {G : List Nat} {ρ : Ren} {n : Nat} {fr : Fr} {a : Act}
theorem cOpd_sound (hG : Globs G ρ) (hF : FR ρ n fr a) {x : Operand} {y : Opd} (h : cOpd G x = some y) : VR ρ (fr.eval y) (a.eval x) := by
  cases x with
  | tmp t => simp [cOpd] at h; subst h; exact hF.tmp t
  | const v => simp [cOpd] at h; obtain ⟨e, he, rfl⟩ := h; exact cV_sound _ _ _ he
  | global g =>
    simp only [cOpd] at h
    cases hg : G.contains g <;> simp only [hg, cond_true, cond_false, reduceCtorEq, Option.some.injEq] at h
    subst h
    obtain ⟨L, h1, h2, h3, _⟩ := hG g hg
    have := VR.ptr (off := 0) h1
    rw [h2, h3] at this
    exact this
  | func f => simp [cOpd] at h; subst h; exact .func .nil .nil
theorem cOpds_sound (hG : Globs G ρ) (hF : FR ρ n fr a) {xs : List Operand} {ys : List Opd} (h : cOpds G xs = some ys) : VRs ρ (ys.map fr.eval) (xs.map a.eval) := by
  obtain ⟨h1, h2⟩ := mapM_some _ h
  exact VRs.map_of _ _ (R := fun y x => cOpd G x = some y) (fun y x hxy => cOpd_sound hG hF hxy) h1.symm fun i y x hy hx => h2 i x y hx hy
inductive OptR (ρ : Ren) : Option EV → Option Value → Prop
  | none : OptR ρ none none
  | some {v : EV} {v' : Value} (h : VR ρ v v') : OptR ρ (some v) (some v')
theorem cOpt_sound (hG : Globs G ρ) (hF : FR ρ n fr a) {x : Option Operand} {y : Option Opd} (h : cOpt G x = some y) : OptR ρ (y.map fr.eval) (x.map a.eval) := by
  cases x with
  | none => simp [cOpt] at h; subst h; exact .none
  | some x => simp [cOpt] at h; obtain ⟨z, hz, rfl⟩ := h; exact .some (cOpd_sound hG hF hz)
end

def Good (base : Nat) (ρ : Ren) (m : Mem) (w : World) (v : EV) (m' : Mem) (r : Result Next) : Prop :=
  ∃ ρ' w' v', (r = .ok (.value v') w' ∨ (r = .ok .skip w' ∧ v' = undef)) ∧ VR ρ' v v' ∧ R base ρ' m' w' ∧ Step ρ m w ρ' m' w'
section
variable {base : Nat} {ρ : Ren} {m : Mem} {w : World} {P : Program}
theorem Good.still (hR : R base ρ m w) {v : EV} {v' : Value} {s : Sem Value} (h : s.run P w = .ok v' w) (hv : VR ρ v v') :
    Good base ρ m w v m ((do pure (Next.value (← s)) : Sem Next).run P w) :=
  ⟨ρ, w, v', .inl (by simp [h]), hv, hR, .refl _ _ _⟩
theorem Good.quiet (hR : R base ρ m w) {v : EV} {v' : Value} {s : Sem Value} {w' : World} (h : s.run P w = .ok v' w') (q : Quiet w w') (hv : VR ρ v v') :
    Good base ρ m w v m ((do pure (Next.value (← s)) : Sem Next).run P w) :=
  ⟨ρ, w', v', .inl (by simp [h]), hv, hR.quiet q, .quiet q⟩

theorem sameBytes_eq : ∀ {a b : List UInt8}, sameBytes a b = decide (a = b)
  | [], [] => rfl
  | [], _ :: _ => by simp [sameBytes]
  | _ :: _, [] => by simp [sameBytes]
  | x :: a, y :: b => by
    simp only [sameBytes, List.cons.injEq]
    cases h : x.toNat.beq y.toNat with
    | true =>
      have : x = y := UInt8.toNat_inj.1 (of_beq h)
      simp [this, sameBytes_eq (a := a) (b := b)]
    | false =>
      have : x ≠ y := fun e => of_beq_ff h (by rw [e])
      simp [this]
theorem kindNo_inj {k l : IntKind} (h : (kindNo k).beq (kindNo l) = true) : k = l := by
  have := of_beq h
  cases k <;> cases l <;> simp [kindNo] at this <;> rfl
theorem bits_sound {op : BinOp} {k : IntKind} {x y n : Int} (h : evBits op k x y = some n) : Op.intBits op k x y = (Pure.pure (.int k n) : Sem Value) := by
  cases op <;> simp only [evBits, reduceCtorEq, Option.some.injEq] at h <;> subst h <;> rfl
theorem evBin_int {op : BinOp} {t : TypeId} {k l : IntKind} {x y : Int} {v : EV} (h : evBin op (.int k x) (.int l y) = some v) : ∃ v', VR ρ v v' ∧ (binOp op t (.int k x) (.int l y)).run P w = .ok v' w := by
  simp only [evBin] at h
  cases op
  case shl =>
    simp only [evShift] at h
    split at h
    · cases h
    · rename_i hn; cases h; exact ⟨_, .int _ _, by simp [binOp, Op.shift, hn]⟩
  case shr =>
    simp only [evShift] at h
    split at h
    · cases h
    · rename_i hn; cases h; exact ⟨_, .int _ _, by simp [binOp, Op.shift, hn]⟩
  all_goals
    simp only [] at h
    cases hk : (kindNo k).beq (kindNo l) <;> simp only [hk, cond_true, cond_false, reduceCtorEq] at h
    obtain rfl := kindNo_inj hk
    simp only [evInt] at h
  case add => cases h; exact ⟨_, .int _ _, by simp [binOp, Op.intArith]⟩
  case sub => cases h; exact ⟨_, .int _ _, by simp [binOp, Op.intArith]⟩
  case mul => cases h; exact ⟨_, .int _ _, by simp [binOp, Op.intArith]⟩
  case quo => split at h <;> cases h; rename_i hy; exact ⟨_, .int _ _, by simp [binOp, Op.intDiv, hy]⟩
  case rem => split at h <;> cases h; rename_i hy; exact ⟨_, .int _ _, by simp [binOp, Op.intDiv, hy]⟩
  case eql => cases h; exact ⟨_, .bool _, by simp [binOp, Op.intCmp]; rfl⟩
  case neq => cases h; exact ⟨_, .bool _, by simp [binOp, Op.intCmp]; rfl⟩
  case lss => cases h; exact ⟨_, .bool _, by simp [binOp, Op.intCmp]⟩
  case leq => cases h; exact ⟨_, .bool _, by simp [binOp, Op.intCmp]⟩
  case gtr => cases h; exact ⟨_, .bool _, by simp [binOp, Op.intCmp]⟩
  case geq => cases h; exact ⟨_, .bool _, by simp [binOp, Op.intCmp]⟩
  all_goals
    obtain ⟨n, hn, rfl⟩ := Option.map_eq_some_iff.1 h
    exact ⟨_, .int _ _, by simp [binOp, bits_sound hn]⟩
theorem bytes_list (s : ByteArray) : s.toList = s.data.toList := by
  have aux : ∀ (s : ByteArray) (i : Nat) (acc : List UInt8), ByteArray.toList.loop s i acc = acc.reverse ++ s.data.toList.drop i := by
    intro s i acc
    fun_induction ByteArray.toList.loop s i acc with
    | case1 i acc h ih =>
      rw [ih]
      have hlt : i < s.data.toList.length := by simpa using h
      have hg : s.get! i = s.data.toList[i] := by
        simp [ByteArray.get!, getElem!_def]
        rw [Array.getElem?_eq_getElem (by simpa using h)]
      rw [List.drop_eq_getElem_cons hlt, hg]
      simp
    | case2 i acc h =>
      rw [List.drop_of_length_le (by simpa using h)]
      simp
  simp [ByteArray.toList, aux]
theorem list_beq (a b : List UInt8) : (a == b) = decide (a = b) := by rw [Bool.eq_iff_iff]; simp
theorem evBin_str {op : BinOp} {t : TypeId} {x y : ByteArray} {v : EV} (h : evBin op (.str x.data.toList) (.str y.data.toList) = some v) : ∃ v', VR ρ v v' ∧ (binOp op t (.string x) (.string y)).run P w = .ok v' w := by
  simp only [evBin] at h
  cases op <;> simp only [reduceCtorEq, Option.some.injEq] at h
  case add =>
    cases hl : (x.data.toList.length + y.data.toList.length).ble 4294967296 <;> simp only [hl, cond_true, cond_false, reduceCtorEq, Option.some.injEq] at h
    subst h
    have hle := Nat.le_of_ble_eq_true hl
    refine ⟨.string (x ++ y), ?_, ?_⟩
    · have := VR.str (ρ := ρ) (x ++ y)
      rw [ByteArray.data_append, Array.toList_append] at this
      exact this
    · have hx : x.size = x.data.toList.length := rfl
      have hy : y.size = y.data.toList.length := rfl
      have : ¬ ((x.size + y.size : Nat) : Int) > IntKind.i64.max := by
        rw [hx, hy]; simp only [IntKind.max_i64]; omega
      simp only [binOp, Op.stringOp]
      rw [if_neg this]
      rfl
  case eql =>
    subst h
    exact ⟨_, .bool _, by simp only [binOp, Op.stringOp, bytes_list, sameBytes_eq, list_beq]; rfl⟩
  case neq =>
    subst h
    exact ⟨_, .bool _, by simp only [binOp, Op.stringOp, bytes_list, sameBytes_eq, list_beq]; rfl⟩
theorem evBin_sound {op : BinOp} {t : TypeId} {x y v : EV} {x' y' : Value} (hx : VR ρ x x') (hy : VR ρ y y') (h : evBin op x y = some v) :
    ∃ v', VR ρ v v' ∧ (binOp op t x' y').run P w = .ok v' w := by
  cases hx <;> cases hy <;> first
    | exact evBin_int h
    | exact evBin_str h
    | (simp [evBin] at h; done)
theorem eqGuard_other {op : BinOp} {t : TypeId} {x y : Operand} {a b : Value} (h : op ≠ .eql) (h' : op ≠ .neq) : eqGuard op t x y a b = (Pure.pure () : Sem Unit) := by
  cases op <;> first | rfl | exact absurd rfl h | exact absurd rfl h'
theorem evUn_sound {op : UnOp} {x v : EV} {x' : Value} (hx : VR ρ x x') (h : evUn op x = some v) : ∃ v', VR ρ v v' ∧ (Op.unary op x').run P w = .ok v' w := by
  cases hx <;> cases op <;> simp only [evUn, reduceCtorEq, Option.some.injEq] at h
  case int.neg => subst h; exact ⟨_, .int _ _, by simp [Op.unary, Op.intArith]⟩
  case int.xor =>
    obtain ⟨n, hn, rfl⟩ := Option.map_eq_some_iff.1 h
    exact ⟨_, .int _ _, by simp [Op.unary, bits_sound hn]⟩
  case bool.not => subst h; exact ⟨_, .bool _, by simp [Op.unary]⟩
end
end Go.Proofs.YtblcomejcahkdaaDoor.Ev
end
section
namespace Go.Proofs.YtblcomejcahkdaaDoor.Ev
open Go
set_option maxHeartbeats 1000000
section
variable {base : Nat} {ρ : Ren} {m : Mem} {w : World} {P : Program}

theorem part_sound {t : TypeId} {g : Option Nat} (hg : cAgg P t = some g) {cs : List EV} {cs' : List Value} (hv : VRs ρ cs cs') (hf : ∀ c ∈ cs', c.oneCell' = true) {off : Nat} {v : EV} (h : partOf g cs off = some v) :
    ∃ v', VR ρ v v' ∧ (part t (⟨cs'⟩ : Array Value) off).run P w = .ok v' w := by
  obtain ⟨hag, hsz⟩ := isAgg_run (P := P) hg w
  cases g with
  | none =>
    obtain ⟨v', h1, h2⟩ := hv.get off v h
    exact ⟨v', h2, by simp [part, hag, h1]⟩
  | some n =>
    simp only [partOf] at h
    cases hl : (off + n).ble cs.length <;> simp only [hl, cond_true, cond_false, reduceCtorEq, Option.some.injEq] at h
    subst h
    refine ⟨.agg ⟨(cs'.drop off).take n⟩, .agg ((hv.drop off).take n) (fun c hc => hf c (List.mem_of_mem_drop (List.mem_of_mem_take hc))), ?_⟩
    simp only [part, Sem.run_bind, hag, Result.andThen_ok, Option.isSome_some, if_true, hsz n rfl, Sem.run_pure]
    congr 2
    apply Array.ext'
    simp [List.extract_eq_take_drop]

def EqPrimAt (t : Nat) (d : TypeDesc) : Prop :=
  match t with
  | 0 => d = .bool
  | 1 => ∃ k, d = .int k
  | 2 => d = .string
  | 3 => ∃ e, d = .pointer e
  | 4 => ∃ e, d = .slice e
  | 5 => ∃ k e, d = .map k e
  | 6 => ∃ p r v, d = .func p r v
  | 7 => ∃ ms, d = .interface ms
  | _ => False
theorem bytes_beq (a b : ByteArray) : (a == b) = decide (a.data.toList = b.data.toList) := by
  cases a; cases b
  rename_i x y
  show (x == y) = decide (x.toList = y.toList)
  rw [Bool.eq_iff_iff]
  simp [Array.toList_inj]
theorem eqPrim_sound {k : Nat} {t : TypeId} {d : TypeDesc} (hu : P.underlying t = some d) (hk : EqPrimAt k d) {x y : EV} {x' y' : Value} (hx : VR ρ x x') (hy : VR ρ y y') {b : Bool} (h : evEqPrim k x y = some b) (n : Nat) :
    (Op.equalIn (n + 1) t x' y').run P w = .ok b w := by
  cases hx <;> cases hy <;> simp only [evEqPrim, reduceCtorEq] at h
  case bool.bool a c =>
    cases hb : k.beq 0 <;> simp only [hb, cond_true, cond_false, reduceCtorEq, Option.some.injEq] at h
    rw [of_beq hb] at hk; subst hk; subst h
    simp [Op.equalIn, run_underlying hu]
  case int.int k1 a l c =>
    cases hb : k.beq 1 <;> simp only [hb, cond_true, cond_false, reduceCtorEq] at h
    cases hkl : (kindNo k1).beq (kindNo l) <;> simp only [hkl, cond_true, cond_false, reduceCtorEq, Option.some.injEq] at h
    obtain rfl := kindNo_inj hkl
    rw [of_beq hb] at hk; obtain ⟨kk, rfl⟩ := hk; subst h
    simp [Op.equalIn, run_underlying hu]; rfl
  case str.str a c =>
    cases hb : k.beq 2 <;> simp only [hb, cond_true, cond_false, reduceCtorEq, Option.some.injEq] at h
    rw [of_beq hb] at hk; subst hk; subst h
    simp [Op.equalIn, run_underlying hu, sameBytes_eq, bytes_beq]
  case nilptr.nilptr =>
    cases hb : k.beq 3 <;> simp only [hb, cond_true, cond_false, reduceCtorEq, Option.some.injEq] at h
    rw [of_beq hb] at hk; obtain ⟨e, rfl⟩ := hk; subst h
    simp [Op.equalIn, run_underlying hu]
  case nilptr.ptr =>
    cases hb : k.beq 3 <;> simp only [hb, cond_true, cond_false, reduceCtorEq, Option.some.injEq] at h
    rw [of_beq hb] at hk; obtain ⟨e, rfl⟩ := hk; subst h
    simp [Op.equalIn, run_underlying hu]
  case ptr.nilptr =>
    cases hb : k.beq 3 <;> simp only [hb, cond_true, cond_false, reduceCtorEq, Option.some.injEq] at h
    rw [of_beq hb] at hk; obtain ⟨e, rfl⟩ := hk; subst h
    simp [Op.equalIn, run_underlying hu]
  case nilslice.nilslice =>
    cases hb : k.beq 4 <;> simp only [hb, cond_true, cond_false, reduceCtorEq, Option.some.injEq] at h
    rw [of_beq hb] at hk; obtain ⟨e, rfl⟩ := hk; subst h
    simp [Op.equalIn, run_underlying hu]
  case nilslice.slice =>
    cases hb : k.beq 4 <;> simp only [hb, cond_true, cond_false, reduceCtorEq, Option.some.injEq] at h
    rw [of_beq hb] at hk; obtain ⟨e, rfl⟩ := hk; subst h
    simp [Op.equalIn, run_underlying hu]
  case nilslice.sliceE =>
    cases hb : k.beq 4 <;> simp only [hb, cond_true, cond_false, reduceCtorEq, Option.some.injEq] at h
    rw [of_beq hb] at hk; obtain ⟨e, rfl⟩ := hk; subst h
    simp [Op.equalIn, run_underlying hu]
  case nilslice.sliceC =>
    cases hb : k.beq 4 <;> simp only [hb, cond_true, cond_false, reduceCtorEq, Option.some.injEq] at h
    rw [of_beq hb] at hk; obtain ⟨e, rfl⟩ := hk; subst h
    simp [Op.equalIn, run_underlying hu]
  case slice.nilslice =>
    cases hb : k.beq 4 <;> simp only [hb, cond_true, cond_false, reduceCtorEq, Option.some.injEq] at h
    rw [of_beq hb] at hk; obtain ⟨e, rfl⟩ := hk; subst h
    simp [Op.equalIn, run_underlying hu]
  case sliceE.nilslice =>
    cases hb : k.beq 4 <;> simp only [hb, cond_true, cond_false, reduceCtorEq, Option.some.injEq] at h
    rw [of_beq hb] at hk; obtain ⟨e, rfl⟩ := hk; subst h
    simp [Op.equalIn, run_underlying hu]
  case sliceC.nilslice =>
    cases hb : k.beq 4 <;> simp only [hb, cond_true, cond_false, reduceCtorEq, Option.some.injEq] at h
    rw [of_beq hb] at hk; obtain ⟨e, rfl⟩ := hk; subst h
    simp [Op.equalIn, run_underlying hu]
  case nilmap.nilmap =>
    cases hb : k.beq 5 <;> simp only [hb, cond_true, cond_false, reduceCtorEq, Option.some.injEq] at h
    rw [of_beq hb] at hk; obtain ⟨e, f, rfl⟩ := hk; subst h
    simp [Op.equalIn, run_underlying hu]
  case nilmap.map =>
    cases hb : k.beq 5 <;> simp only [hb, cond_true, cond_false, reduceCtorEq, Option.some.injEq] at h
    rw [of_beq hb] at hk; obtain ⟨e, f, rfl⟩ := hk; subst h
    simp [Op.equalIn, run_underlying hu]
  case map.nilmap =>
    cases hb : k.beq 5 <;> simp only [hb, cond_true, cond_false, reduceCtorEq, Option.some.injEq] at h
    rw [of_beq hb] at hk; obtain ⟨e, f, rfl⟩ := hk; subst h
    simp [Op.equalIn, run_underlying hu]
  case nilfunc.nilfunc =>
    cases hb : k.beq 6 <;> simp only [hb, cond_true, cond_false, reduceCtorEq, Option.some.injEq] at h
    rw [of_beq hb] at hk; obtain ⟨p, r, v, rfl⟩ := hk; subst h
    simp [Op.equalIn, run_underlying hu]
  case nilfunc.func =>
    cases hb : k.beq 6 <;> simp only [hb, cond_true, cond_false, reduceCtorEq, Option.some.injEq] at h
    rw [of_beq hb] at hk; obtain ⟨p, r, v, rfl⟩ := hk; subst h
    simp [Op.equalIn, run_underlying hu]
  case func.nilfunc =>
    cases hb : k.beq 6 <;> simp only [hb, cond_true, cond_false, reduceCtorEq, Option.some.injEq] at h
    rw [of_beq hb] at hk; obtain ⟨p, r, v, rfl⟩ := hk; subst h
    simp [Op.equalIn, run_underlying hu]
  case niliface.iface =>
    cases hb : k.beq 7 <;> simp only [hb, cond_true, cond_false, reduceCtorEq, Option.some.injEq] at h
    rw [of_beq hb] at hk; obtain ⟨ms, rfl⟩ := hk; subst h
    simp [Op.equalIn, run_underlying hu]
  case iface.niliface =>
    cases hb : k.beq 7 <;> simp only [hb, cond_true, cond_false, reduceCtorEq, Option.some.injEq] at h
    rw [of_beq hb] at hk; obtain ⟨ms, rfl⟩ := hk; subst h
    simp [Op.equalIn, run_underlying hu]

theorem cEqTy_prim {n : Nat} {t : TypeId} {k : Nat} (h : cEqTy P (n + 1) t = some (.prim k)) : ∃ d, P.underlying t = some d ∧ EqPrimAt k d := by
  unfold cEqTy at h
  cases hu : P.underlying t with
  | none => simp [hu] at h
  | some d =>
    rw [hu] at h
    refine ⟨d, rfl, ?_⟩
    cases d <;> simp at h <;> (try (subst h; simp [EqPrimAt]; done))
    · cases hs : P.stoodInHeld t <;> simp [hs] at h

def eqBody (n : Nat) (xs ys : Array Value) : Field → Option Bool × Unit → Sem (ForInStep (Option Bool × Unit)) := fun f _ =>
  if f.name ≠ "_" then do
    let a ← part f.type xs f.offset
    let b ← part f.type ys f.offset
    let r ← Op.equalIn n f.type a b
    if (!r) = true then pure (ForInStep.done (some false, ())) else pure (ForInStep.yield (none, ()))
  else pure (ForInStep.yield (none, ()))
theorem cEqTy_struct {n : Nat} {t : TypeId} {es : List (Option Nat × Nat × EqTy)} (h : cEqTy P (n + 1) t = some (.agg es)) :
    ∃ fs, P.underlying t = some (.struct fs) ∧ P.stoodInHeld t = false ∧ fs.toList.mapM (fun (f : Field) => match cAgg P f.type, cEqTy P n f.type with
        | some g, some e => bif f.name != "_" then some (g, f.offset, e) else none
        | _, _ => none) = some es := by
  unfold cEqTy at h
  cases hu : P.underlying t with
  | none => simp [hu] at h
  | some d =>
    rw [hu] at h
    cases d <;> simp only [reduceCtorEq, Option.some.injEq] at h
    rename_i fs
    cases hs : P.stoodInHeld t <;> simp only [hs, cond_true, cond_false, reduceCtorEq] at h
    obtain ⟨es', he, h2⟩ := Option.map_eq_some_iff.1 h
    cases h2
    exact ⟨fs, rfl, rfl, he⟩
theorem eqs_loop (n : Nat) {a b : List EV} {a' b' : List Value} (ha : VRs ρ a a') (hb : VRs ρ b b') (fa : ∀ c ∈ a', c.oneCell' = true) (fb : ∀ c ∈ b', c.oneCell' = true) (k : Nat)
    (ih : ∀ (t : TypeId) (e : EqTy), cEqTy P n t = some e → ∀ (x y : EV) (x' y' : Value), VR ρ x x' → VR ρ y y' → ∀ r, evEq e x y = some r → (Op.equalIn k t x' y').run P w = .ok r w) :
    ∀ (fs : List Field) (es : List (Option Nat × Nat × EqTy)), fs.mapM (fun (f : Field) => match cAgg P f.type, cEqTy P n f.type with
        | some g, some e => bif f.name != "_" then some (g, f.offset, e) else none
        | _, _ => none) = some es → ∀ r, evEqs es a b = some r → (forIn fs (none, ()) (eqBody k ⟨a'⟩ ⟨b'⟩)).run P w = .ok (if r then (none, ()) else (some false, ())) w := by
  intro fs
  induction fs with
  | nil =>
    intro es h r hr
    simp at h
    subst h
    simp [evEqs] at hr
    subst hr
    rfl
  | cons f fs ihf =>
    intro es h r hr
    rw [List.mapM_cons] at h
    cases hg : cAgg P f.type with
    | none => simp [hg] at h
    | some g =>
    cases he : cEqTy P n f.type with
    | none => simp [hg, he] at h
    | some e =>
    cases hn : f.name != "_" with
    | false => simp [hg, he, hn] at h
    | true =>
    cases hm : fs.mapM (fun (f : Field) => match cAgg P f.type, cEqTy P n f.type with
        | some g, some e => bif f.name != "_" then some (g, f.offset, e) else none
        | _, _ => none) with
    | none => simp [hg, he, hn, hm] at h
    | some es' =>
      simp [hg, he, hn, hm] at h
      subst h
      simp only [evEqs] at hr
      cases hx : partOf g a f.offset with
      | none => simp [hx] at hr
      | some x =>
      cases hy : partOf g b f.offset with
      | none => simp [hx, hy] at hr
      | some y =>
      simp only [hx, hy] at hr
      obtain ⟨x', vx, rx⟩ := part_sound (P := P) (w := w) hg ha fa hx
      obtain ⟨y', vy, ry⟩ := part_sound (P := P) (w := w) hg hb fb hy
      have hne : f.name ≠ "_" := by simpa using hn
      cases hq : evEq e x y with
      | none => simp [hq] at hr
      | some q =>
        have hrun := ih _ _ he x y x' y' vx vy q hq
        rw [hq] at hr
        cases q with
        | true =>
          simp only [] at hr
          have := ihf es' hm r hr
          simp only [List.forIn_cons, eqBody, if_pos hne, Sem.run_bind, rx, ry, hrun, Result.andThen_ok]
          simpa using this
        | false =>
          simp at hr
          subst hr
          simp only [List.forIn_cons, eqBody, if_pos hne, Sem.run_bind, rx, ry, hrun, Result.andThen_ok]
          rfl
theorem evEq_sound : ∀ (n : Nat) (t : TypeId) (e : EqTy), cEqTy P n t = some e → ∀ k, n ≤ k → ∀ (x y : EV) (x' y' : Value), VR ρ x x' → VR ρ y y' → ∀ r, evEq e x y = some r → (Op.equalIn k t x' y').run P w = .ok r w := by
  intro n
  induction n with
  | zero => intro t e h; simp [cEqTy] at h
  | succ n ih =>
    intro t e h k hk x y x' y' hx hy r hr
    obtain ⟨k, rfl⟩ : ∃ j, k = j + 1 := ⟨k - 1, by omega⟩
    cases e with
    | prim q =>
      obtain ⟨d, hu, hd⟩ := cEqTy_prim h
      exact eqPrim_sound hu hd hx hy (by simpa [evEq] using hr) k
    | agg es =>
      obtain ⟨fs, hu, hs, hm⟩ := cEqTy_struct h
      cases x <;> (try (simp [evEq] at hr; done))
      cases y <;> (try (simp [evEq] at hr; done))
      cases hx with
      | agg ha fa =>
      cases hy with
      | agg hb fb =>
      simp only [evEq] at hr
      have hl := eqs_loop n ha hb fa fb k (fun t e he x y x' y' vx vy r hr => ih t e he k (by omega) x y x' y' vx vy r hr) fs.toList es hm r hr
      unfold Op.equalIn
      simp only [Sem.run_bind, run_underlying hu, Result.andThen_ok, run_program, hs, Bool.false_eq_true, if_false]
      rw [Array.forIn_toList] at hl
      unfold eqBody at hl
      rw [hl]
      cases r <;> rfl
theorem bound_sound {x : Option EV} {x' : Option Value} (hx : OptR ρ x x') {dflt most r : Nat} (h : bound x dflt most = some r) :
    (x' = none ∧ r = dflt) ∨ (∃ v', x' = some v' ∧ r ≤ most ∧ ∀ code, (Instr.sliceBound v' most code).run P w = .ok r w) := by
  cases hx with
  | none => simp [bound] at h; exact .inl ⟨rfl, h.symm⟩
  | some hv =>
    right
    cases hv <;> simp only [bound, reduceCtorEq] at h
    rename_i k n
    cases n with
    | negSucc n => simp at h
    | ofNat i =>
      simp only [] at h
      cases hl : i.ble most <;> simp only [hl, cond_true, cond_false, reduceCtorEq, Option.some.injEq] at h
      subst h
      have hle := Nat.le_of_ble_eq_true hl
      refine ⟨_, rfl, hle, fun code => ?_⟩
      simp only [Instr.sliceBound, asIntOf, Sem.run_bind, Sem.run_pure, Result.andThen_ok]
      rw [if_pos ⟨Int.natCast_nonneg _, Int.ofNat_le.2 hle⟩]
      rfl
theorem bounds_sound {lo hi mx : Option EV} {lo' hi' mx' : Option Value} (hlo : OptR ρ lo lo') (hhi : OptR ρ hi hi') (hmx : OptR ρ mx mx') (hmh : mx'.isSome = true → hi'.isSome = true) (s : Bool) {n len t h l c : Nat} (hn : len = n)
    (h1 : (mx = none ∧ t = c) ∨ (∃ k, bound mx k c = some t ∧ mx ≠ none)) (h2 : bound hi len t = some h) (h3 : bound lo 0 h = some l) :
    (Instr.sliceBounds s n c lo' hi' mx').run P w = .ok (l, h, t) w ∧ l ≤ h ∧ (hi ≠ none → h ≤ t) ∧ (mx ≠ none → t ≤ c) := by
  subst hn
  have e1 : (mx' = none ∧ t = c ∧ mx = none) ∨ (∃ v', mx' = some v' ∧ (∀ code, (Instr.sliceBound v' c code).run P w = .ok t w) ∧ t ≤ c) := by
    rcases h1 with ⟨rfl, rfl⟩ | ⟨k, hb, hne⟩
    · cases hmx; exact .inl ⟨rfl, rfl, rfl⟩
    · rcases bound_sound (P := P) (w := w) hmx hb with ⟨rfl, _⟩ | ⟨v', rfl, hle, hr⟩
      · cases hmx; exact absurd rfl hne
      · exact .inr ⟨v', rfl, hr, hle⟩
  have e2 : l ≤ h ∧ (hi ≠ none → h ≤ t) ∧ (mx ≠ none → t ≤ c) := by
    refine ⟨?_, fun hne => ?_, fun hne => ?_⟩
    · rcases bound_sound (P := P) (w := w) hlo h3 with ⟨_, rfl⟩ | ⟨vl, _, hll, _⟩ <;> omega
    · rcases bound_sound (P := P) (w := w) hhi h2 with ⟨rfl, _⟩ | ⟨vl, _, hll, _⟩
      · cases hhi; exact absurd rfl hne
      · exact hll
    · rcases e1 with ⟨_, _, rfl⟩ | ⟨_, _, _, h⟩
      · exact absurd rfl hne
      · exact h
  refine ⟨?_, e2⟩
  unfold Instr.sliceBounds
  rcases e1 with ⟨rfl, rfl, _⟩ | ⟨vm, rfl, hrm, _⟩ <;> rcases bound_sound (P := P) (w := w) hhi h2 with ⟨rfl, rfl⟩ | ⟨vh, rfl, hlh, hrh⟩
  · rcases bound_sound (P := P) (w := w) hlo h3 with ⟨rfl, rfl⟩ | ⟨vl, rfl, hll, hrl⟩
    · simp only [Sem.run_bind, Result.andThen_ok, Sem.run_pure]
    · simp only [Sem.run_bind, Result.andThen_ok, Sem.run_pure, hrl]
  · rcases bound_sound (P := P) (w := w) hlo h3 with ⟨rfl, rfl⟩ | ⟨vl, rfl, hll, hrl⟩
    · simp only [Sem.run_bind, Result.andThen_ok, Sem.run_pure, hrh]
    · simp only [Sem.run_bind, Result.andThen_ok, Sem.run_pure, hrl, hrh]
  · simp at hmh
  · rcases bound_sound (P := P) (w := w) hlo h3 with ⟨rfl, rfl⟩ | ⟨vl, rfl, hll, hrl⟩
    · simp only [Sem.run_bind, Result.andThen_ok, Sem.run_pure, hrm, hrh]
    · simp only [Sem.run_bind, Result.andThen_ok, Sem.run_pure, hrm, hrl, hrh]
end
end Go.Proofs.YtblcomejcahkdaaDoor.Ev
end
section
namespace Go.Proofs.YtblcomejcahkdaaDoor.Ev
open Go
section
variable {base : Nat} {ρ : Ren} {m : Mem} {w : World} {P : Program}

theorem bound_mono {x : Option EV} {d k k' r : Nat} (hk : k ≤ k') (h : bound x d k = some r) : bound x d k' = some r := by
  unfold bound at *
  split at h
  · exact h
  · rename_i i
    cases hl : i.ble k <;> simp only [hl, cond_true, cond_false, reduceCtorEq, Option.some.injEq] at h
    subst h
    have : i.ble k' = true := Nat.ble_eq_true_of_le (Nat.le_trans (Nat.le_of_ble_eq_true hl) hk)
    simp [this]
  · cases h
def cutV (a : Option Addr) (size l h t : Nat) : Value := .slice (if t = l then a else a.map (·.add (l * size))) (h - l) (t - l)
theorem add_eq (b o n : Nat) : (⟨b, o, none⟩ : Addr).add n = ⟨b, o + n, none⟩ := Addr.add_lit b o n

theorem slice_known {esz b off len c : Nat} {lo hi mx : Option EV} {lo' hi' mx' : Option Value} (hlo : OptR ρ lo lo') (hhi : OptR ρ hi hi') (hmx : OptR ρ mx mx') (hmh : mx'.isSome = true → hi'.isSome = true)
    {L : Loc} (hL : ρ b = some L) (hlen : len ≤ c) {o : Nat} (ho : 0 < c → o = L.off + off) (s : Bool) {v : EV} (h : evSlice esz b off len (some c) lo hi mx = some v) :
    ∃ l hh t, (Instr.sliceBounds s len c lo' hi' mx').run P w = .ok (l, hh, t) w ∧ VR ρ v (cutV (some ⟨L.blk, o, none⟩) esz l hh t) := by
  unfold evSlice at h
  cases h1 : bound mx c c with
  | none => simp [h1] at h
  | some t =>
  cases h2 : bound hi len t with
  | none => simp [h1, h2] at h
  | some hh =>
  cases h3 : bound lo 0 hh with
  | none => simp [h1, h2, h3] at h
  | some l =>
    simp only [h1, h2, h3, Option.some.injEq] at h
    subst h
    obtain ⟨r, hle, hle2, hle3⟩ := bounds_sound (P := P) (w := w) hlo hhi hmx hmh s (n := len) rfl (t := t) (h := hh) (l := l) (c := c) (by
      cases mx with
      | none => simp [bound] at h1; exact .inl ⟨rfl, h1.symm⟩
      | some x => exact .inr ⟨c, h1, by simp⟩) h2 h3
    refine ⟨l, hh, t, r, ?_⟩
    have ht : hh ≤ t := by
      cases hi with
      | some x => exact hle2 (by simp)
      | none =>
        simp [bound] at h2
        cases mx with
        | none => simp [bound] at h1; omega
        | some x => cases hmx; cases hhi; simp at hmh
    have htc : t ≤ c := by
      cases mx with
      | none => simp [bound] at h1; omega
      | some x => exact hle3 (by simp)
    unfold cutV
    by_cases e : t = l
    · subst e
      rw [if_pos rfl, beq_self, cond_true]
      exact .sliceC hL (by omega) (fun hp => by omega)
    · rw [if_neg e, beq_ff e, cond_false]
      simp only [Option.map_some, add_eq]
      exact .sliceC hL (by omega) (fun hp => by rw [ho (by omega)]; omega)
theorem slice_empty {esz b off : Nat} {a : Addr} {lo hi mx : Option EV} {lo' hi' mx' : Option Value} (hlo : OptR ρ lo lo') (hhi : OptR ρ hi hi') (hmx : OptR ρ mx mx') (hmh : mx'.isSome = true → hi'.isSome = true)
    (s : Bool) {v : EV} (h : evSlice esz b off 0 (some 0) lo hi mx = some v) :
    ∃ l hh t, (Instr.sliceBounds s 0 0 lo' hi' mx').run P w = .ok (l, hh, t) w ∧ VR ρ v (cutV (some a) esz l hh t) := by
  unfold evSlice at h
  cases h1 : bound mx 0 0 with
  | none => simp [h1] at h
  | some t =>
  cases h2 : bound hi 0 t with
  | none => simp [h1, h2] at h
  | some hh =>
  cases h3 : bound lo 0 hh with
  | none => simp [h1, h2, h3] at h
  | some l =>
    simp only [h1, h2, h3, Option.some.injEq] at h
    subst h
    obtain ⟨r, hle, hle2, hle3⟩ := bounds_sound (P := P) (w := w) hlo hhi hmx hmh s (n := 0) rfl (t := t) (h := hh) (l := l) (c := 0) (by
      cases mx with
      | none => simp [bound] at h1; exact .inl ⟨rfl, h1.symm⟩
      | some x => exact .inr ⟨0, h1, by simp⟩) h2 h3
    refine ⟨l, hh, t, r, ?_⟩
    have ht : hh ≤ t := by
      cases hi with
      | some x => exact hle2 (by simp)
      | none =>
        simp [bound] at h2
        cases mx with
        | none => simp [bound] at h1; omega
        | some x => cases hmx; cases hhi; simp at hmh
    have htc : t ≤ 0 := by
      cases mx with
      | none => simp [bound] at h1; omega
      | some x => exact hle3 (by simp)
    have e1 : t = 0 := by omega
    have e2 : hh = 0 := by omega
    have e3 : l = 0 := by omega
    subst e1 e2 e3
    unfold cutV
    exact .sliceE
theorem slice_open {esz b off len c : Nat} {lo hi mx : Option EV} {lo' hi' mx' : Option Value} (hlo : OptR ρ lo lo') (hhi : OptR ρ hi hi') (hmx : OptR ρ mx mx') (hmh : mx'.isSome = true → hi'.isSome = true)
    {L : Loc} (hL : ρ b = some L) (hlen : len ≤ c) {o : Nat} (ho : 0 < len → o = L.off + off) (hr : L.ro = false → o + c * L.esz ≤ L.total) (he : L.esz = esz) (s : Bool) {v : EV} (h : evSlice esz b off len none lo hi mx = some v) :
    ∃ l hh t, (Instr.sliceBounds s len c lo' hi' mx').run P w = .ok (l, hh, t) w ∧ VR ρ v (cutV (some ⟨L.blk, o, none⟩) esz l hh t) := by
  unfold evSlice at h
  cases mx with
  | some x =>
    simp only [] at h
    cases h1 : bound (some x) len len with
    | none => simp [h1] at h
    | some t =>
    cases h2 : bound hi len t with
    | none => simp [h1, h2] at h
    | some hh =>
    cases h3 : bound lo 0 hh with
    | none => simp [h1, h2, h3] at h
    | some l =>
      simp only [h1, h2, h3, Option.some.injEq] at h
      subst h
      obtain ⟨r, hle, hle2, _⟩ := bounds_sound (P := P) (w := w) hlo hhi hmx hmh s (n := len) rfl (t := t) (h := hh) (l := l) (c := c) (.inr ⟨len, bound_mono hlen h1, by simp⟩) h2 h3
      refine ⟨l, hh, t, r, ?_⟩
      have ht : hh ≤ t := by
        cases hi with
        | some x => exact hle2 (by simp)
        | none => cases hmx; cases hhi; simp at hmh
      have htl : t ≤ len := by
        rcases bound_sound (P := P) (w := w) hmx h1 with ⟨e, _⟩ | ⟨_, _, h, _⟩
        · cases hmx; cases e
        · exact h
      unfold cutV
      by_cases e : t = l
      · subst e
        rw [if_pos rfl, beq_self, cond_true]
        exact .sliceC hL (by omega) (fun hp => by omega)
      · rw [if_neg e, beq_ff e, cond_false]
        simp only [Option.map_some, add_eq]
        exact .sliceC hL (by omega) (fun hp => by rw [ho (by omega)]; omega)
  | none =>
    simp only [] at h
    cases h2 : bound hi len len with
    | none => simp [h2] at h
    | some hh =>
    cases h3 : bound lo 0 hh with
    | none => simp [h2, h3] at h
    | some l =>
      simp only [h2, h3, Option.some.injEq] at h
      subst h
      obtain ⟨r, hle, hle2, _⟩ := bounds_sound (P := P) (w := w) hlo hhi hmx hmh s (n := len) rfl (t := c) (h := hh) (l := l) (c := c) (.inl ⟨rfl, rfl⟩) (bound_mono hlen h2) h3
      refine ⟨l, hh, c, r, ?_⟩
      have ht : hh ≤ len := by
        rcases bound_sound (P := P) (w := w) hhi h2 with ⟨_, e⟩ | ⟨_, _, h, _⟩ <;> omega
      unfold cutV
      by_cases e : c = l
      · rw [if_pos e]
        refine .slice hL (by omega) (fun hp => by omega) (fun hro => ?_)
        have := hr hro
        subst e
        rw [Nat.sub_self, Nat.zero_mul]
        omega
      · rw [if_neg e]
        simp only [Option.map_some, add_eq]
        refine .slice hL (by omega) (fun hp => by rw [ho (by omega)]; omega) (fun hro => ?_)
        have := hr hro
        subst he
        have : l * L.esz + (c - l) * L.esz = c * L.esz := by rw [← Nat.add_mul]; congr 1; omega
        omega
theorem esz_of (hR : R base ρ m w) {b : Nat} {L : Loc} (hL : ρ b = some L) {cs : List EV} {e el : Nat} {ro : Bool} (hm : m.get b = .cells cs e el ro) : L.esz = e := by
  have := hR.blk b L hL
  rw [hm] at this
  obtain ⟨_, _, _, _, _, h, _⟩ := this
  exact h
theorem idx_sound {n i : Nat} {x : EV} {x' : Value} (hx : VR ρ x x') (h : idx n x = some i) : ∃ k, x' = .int k (i : Int) ∧ i < n := by
  cases hx <;> simp only [idx, reduceCtorEq] at h
  rename_i k z
  cases z with
  | negSucc z => simp at h
  | ofNat z =>
    simp only [] at h
    cases hl : (z + 1).ble n <;> simp only [hl, cond_true, cond_false, reduceCtorEq, Option.some.injEq] at h
    subst h
    exact ⟨k, rfl, Nat.le_of_ble_eq_true hl⟩
theorem iaddr_sound {t e : TypeId} {s : Nat} (hu : P.underlying t = some (.slice e)) (hs : cSize P e = some s) {b off len : Nat} {cap : Option Nat} {x' y' : Value} {y : EV} (hx : VR ρ (.slice b off len cap) x') (hy : VR ρ y y') {i : Nat} (h : idx len y = some i) :
    ∃ v', VR ρ (.ptr b (off + i * s)) v' ∧ (Instr.indexAt t x' y').run P w = .ok v' w := by
  obtain ⟨k, rfl, hlt⟩ := idx_sound hy h
  cases hx with
  | @slice _ _ _ c o L hL hc ho hr =>
    refine ⟨_, .ptr hL, ?_⟩
    simp only [Instr.indexAt, asIntOf, Sem.run_bind, Sem.run_pure, Result.andThen_ok, run_underlying hu]
    rw [if_pos ⟨Int.natCast_nonneg _, Int.ofNat_lt.2 hlt⟩]
    simp [run_sizeOf' hs, add_eq, ho (by omega), Nat.add_assoc]
  | sliceE => omega
  | @sliceC _ _ _ c o L hL hc ho =>
    refine ⟨_, .ptr hL, ?_⟩
    simp only [Instr.indexAt, asIntOf, Sem.run_bind, Sem.run_pure, Result.andThen_ok, run_underlying hu]
    rw [if_pos ⟨Int.natCast_nonneg _, Int.ofNat_lt.2 hlt⟩]
    simp [run_sizeOf' hs, add_eq, ho (by omega), Nat.add_assoc]
theorem iaddrArr_sound {t e : TypeId} {n s : Nat} (hu : P.underlying t = some (.array n e)) (hs : cSize P e = some s) {b off : Nat} {x' y' : Value} {y : EV} (hx : VR ρ (.ptr b off) x') (hy : VR ρ y y') {i : Nat} (h : idx n y = some i) :
    ∃ v', VR ρ (.ptr b (off + i * s)) v' ∧ (Instr.indexAt t x' y').run P w = .ok v' w := by
  obtain ⟨k, rfl, hlt⟩ := idx_sound hy h
  cases hx with
  | @ptr _ _ L hL =>
    refine ⟨_, .ptr hL, ?_⟩
    simp only [Instr.indexAt, asIntOf, Sem.run_bind, Sem.run_pure, Result.andThen_ok, run_underlying hu, Instr.sureAddr]
    rw [if_pos ⟨Int.natCast_nonneg _, Int.ofNat_lt.2 hlt⟩]
    simp [run_sizeOf' hs, add_eq, Nat.add_assoc]
theorem faddr_sound {t : TypeId} {fs : Array Field} {k : Nat} {f : Field} {s : Nat} (hu : P.underlying t = some (.struct fs)) (hf : fs[k]? = some f) (hs : cSize P f.type = some (s + 1)) {b off : Nat} {x' : Value} (hx : VR ρ (.ptr b off) x') :
    ∃ v', VR ρ (.ptr b (off + f.offset)) v' ∧ (Instr.fieldAt t x' k).run P w = .ok v' w := by
  cases hx with
  | @ptr _ _ L hL =>
    refine ⟨_, .ptr hL, ?_⟩
    simp only [Instr.fieldAt, Sem.run_bind, run_underlying hu, Result.andThen_ok, hf, Instr.sureAddr, Sem.run_pure, fieldPlace, run_sizeOf' hs]
    rw [if_neg (by omega)]
    simp [add_eq, Nat.add_assoc]
theorem field_sound {t : TypeId} {fs : Array Field} {k : Nat} {f : Field} {g : Option Nat} (hu : P.underlying t = some (.struct fs)) (hf : fs[k]? = some f) (hg : cAgg P f.type = some g) {cs : List EV} {x' : Value} (hx : VR ρ (.agg cs) x') {v : EV} (h : partOf g cs f.offset = some v) :
    ∃ v', VR ρ v v' ∧ (Instr.field t x' k).run P w = .ok v' w := by
  cases hx with
  | agg hv hfl =>
    obtain ⟨v', h1, h2⟩ := part_sound (P := P) (w := w) hg hv hfl h
    exact ⟨v', h1, by simp only [Instr.field, Sem.run_bind, run_underlying hu, Result.andThen_ok, hf, asAgg, Sem.run_pure, h2]⟩
theorem idxagg_sound {t e : TypeId} {n s : Nat} {g : Option Nat} (hu : P.underlying t = some (.array n e)) (hs : cSize P e = some s) (hg : cAgg P e = some g) {cs : List EV} {x' y' : Value} {y : EV} (hx : VR ρ (.agg cs) x') (hy : VR ρ y y') {i : Nat} (hi : idx n y = some i) {v : EV} (h : partOf g cs (i * s) = some v) :
    ∃ v', VR ρ v v' ∧ (Instr.index t x' y').run P w = .ok v' w := by
  obtain ⟨k, rfl, hlt⟩ := idx_sound hy hi
  cases hx with
  | agg hv hfl =>
    obtain ⟨v', h1, h2⟩ := part_sound (P := P) (w := w) hg hv hfl h
    refine ⟨v', h1, ?_⟩
    simp only [Instr.index, asIntOf, Sem.run_bind, Sem.run_pure, Result.andThen_ok, run_underlying hu]
    rw [if_pos ⟨Int.natCast_nonneg _, Int.ofNat_lt.2 hlt⟩]
    simp only [Sem.run_bind, run_sizeOf' hs, Result.andThen_ok, Int.toNat_natCast, h2]
theorem idxstr_sound {t : TypeId} (hu : P.underlying t = some .string) {s : ByteArray} {y : EV} {y' : Value} (hy : VR ρ y y') {i : Nat} (hi : idx s.data.toList.length y = some i) {c : UInt8} (h : s.data.toList[i]? = some c) :
    (Instr.index t (.string s) y').run P w = .ok (.int .u8 (c.toNat : Int)) w := by
  obtain ⟨k, rfl, hlt⟩ := idx_sound hy hi
  simp only [Instr.index, asIntOf, Sem.run_bind, Sem.run_pure, Result.andThen_ok, run_underlying hu]
  have : s[i]? = some c := by
    have hl : i < s.size := hlt
    rw [getElem?_pos s i hl]
    rw [List.getElem?_eq_getElem hlt] at h
    injection h with h
    show some (s.data[i]'hl) = some c
    rw [← h]
    simp
  simp [this]
theorem slstr_sound {t : TypeId} (hu : P.underlying t = some .string) {s : ByteArray} {lo hi : Option EV} {lo' hi' : Option Value} (hlo : OptR ρ lo lo') (hhi : OptR ρ hi hi') {l h : Nat} (h2 : bound hi s.data.toList.length s.data.toList.length = some h) (h3 : bound lo 0 h = some l) :
    ∃ v', VR ρ (.str ((s.data.toList.take h).drop l)) v' ∧ (Instr.sliceAt t (.string s) lo' hi' none).run P w = .ok v' w := by
  obtain ⟨r, hle, _⟩ := bounds_sound (P := P) (w := w) hlo hhi .none (by simp) false (n := s.size) (len := s.data.toList.length) rfl (t := s.size) (h := h) (l := l) (c := s.size) (.inl ⟨rfl, rfl⟩) h2 h3
  refine ⟨.string (s.extract l h), ?_, ?_⟩
  · have := VR.str (ρ := ρ) (s.extract l h)
    rw [show (s.extract l h).data.toList = (s.data.toList.take h).drop l by
      rw [ByteArray.data_extract, Array.toList_extract, List.extract_eq_take_drop, List.drop_take]] at this
    exact this
  · simp only [Instr.sliceAt, Instr.slice, Sem.run_bind, run_underlying hu, Result.andThen_ok, Option.isSome_none, Bool.false_eq_true, if_false, r, Sem.run_pure]
end
end Go.Proofs.YtblcomejcahkdaaDoor.Ev
end
section
namespace Go.Proofs.YtblcomejcahkdaaDoor.Ev
open Go
section
variable {base : Nat} {ρ : Ren} {m : Mem} {w : World} {P : Program}

theorem zero_sound {t : TypeId} {e : EV} (h : cZero P t = some e) : ∃ v, (∀ w, (zeroValue t).run P w = .ok v w) ∧ VR ρ e v := by
  unfold cZero at h
  cases hi : P.info? t with
  | none => simp [hi] at h
  | some i =>
    cases hz : i.zero with
    | none => simp [hi, hz] at h
    | some v =>
      simp [hi, hz] at h
      exact ⟨v, fun w => by simp [zeroValue, run_typeInfo hi, hz], cV_sound _ _ _ h⟩
theorem zeros_sound {t : TypeId} {z : List EV} (h : cZeros P t = some z) : ∃ v, (∀ w, (zeroValue t).run P w = .ok v w) ∧ VRs ρ z v.cells.toList ∧ ∀ c ∈ v.cells.toList, c.oneCell' = true := by
  unfold cZeros at h
  cases he : cZero P t with
  | none => simp [he] at h
  | some e =>
    simp [he] at h
    obtain ⟨v, h1, h2⟩ := zero_sound (ρ := ρ) he
    exact ⟨v, h1, h2.cells h⟩

theorem foldl_set (vs : List Value) : ∀ (k : Nat) (cs : Array Value) (off : Nat), off + k + vs.length ≤ cs.size →
    ∃ ds : Array Value, (vs.zipIdx k).foldl (fun (cs : Array Value) (x : Value × Nat) => cs.setIfInBounds (off + x.2) x.1) cs = ds ∧ ds.size = cs.size ∧
      ∀ j : Nat, ds[j]? = if off + k ≤ j ∧ j < off + k + vs.length then vs[j - (off + k)]? else cs[j]? := by
  induction vs with
  | nil => intro k cs off _; exact ⟨cs, rfl, rfl, fun j => by rw [if_neg (fun h => by have := h.2; simp at this; omega)]⟩
  | cons v vs ih =>
    intro k cs off h
    simp at h
    obtain ⟨ds, h1, h2, h3⟩ := ih (k + 1) (cs.setIfInBounds (off + k) v) off (by simp; omega)
    refine ⟨ds, by simpa [List.zipIdx_cons] using h1, by simpa using h2, fun j => ?_⟩
    rw [h3 j]
    by_cases hj : j = off + k
    · subst hj
      rw [if_neg (by omega), if_pos (by simp)]
      simp [show off + k < cs.size by omega]
    · by_cases hj2 : off + (k + 1) ≤ j ∧ j < off + (k + 1) + vs.length
      · rw [if_pos hj2, if_pos (by simp; omega), show j - (off + k) = (j - (off + (k + 1))) + 1 by omega]
        simp
      · rw [if_neg hj2, if_neg (by simp; omega), Array.getElem?_setIfInBounds_ne (by omega)]
theorem fill_sound {place : Nat → Option (Nat × Nat)} : ∀ (ps : List (Nat × Nat × EV)) (qs : List (Nat × Value)) (cs : List EV) (cs' : Array Value), VRs ρ cs cs'.toList → (∀ c ∈ cs'.toList, c.oneCell' = true) → ps.length = qs.length →
    (∀ (i : Nat) (p : Nat × Nat × EV) (q : Nat × Value), ps[i]? = some p → qs[i]? = some q → place q.1 = some (p.1, p.2.1) ∧ VR ρ p.2.2 q.2) → ∀ ds, fillIn cs ps = some ds →
    ∃ ds', Instr.fill place cs' qs = some ds' ∧ VRs ρ ds ds'.toList ∧ (∀ c ∈ ds'.toList, c.oneCell' = true) ∧ ds'.size = cs'.size := by
  intro ps
  induction ps with
  | nil =>
    intro qs cs cs' hv hf hl hp ds h
    cases qs with
    | nil => simp [fillIn] at h; subst h; exact ⟨cs', rfl, hv, hf, rfl⟩
    | cons q qs => simp at hl
  | cons p ps ih =>
    intro qs cs cs' hv hf hl hp ds h
    cases qs with
    | nil => simp at hl
    | cons q qs =>
      obtain ⟨off, size, x⟩ := p
      obtain ⟨i, x'⟩ := q
      obtain ⟨hplace, hx⟩ := hp 0 _ _ rfl rfl
      simp only at hplace hx
      simp only [fillIn] at h
      cases hc : x.cells with
      | none => simp [hc] at h
      | some vs =>
        simp only [hc] at h
        cases hb : vs.length.beq size <;> simp only [hb, cond_true, cond_false, reduceCtorEq] at h
        have hb' := of_beq hb
        cases hs : splice cs off vs with
        | none => simp [hs] at h
        | some es =>
          simp only [hs] at h
          obtain ⟨hvs, hfs⟩ := hx.cells hc
          have hlen := hvs.length
          have hlcs := hv.length
          obtain ⟨s1, s2, s3⟩ := splice_get hs
          obtain ⟨es', e1, e2, e3⟩ := foldl_set x'.cells.toList 0 cs' off (by rw [← hlen]; simp at hlcs; omega)
          have hvs2 : VRs ρ es es'.toList := by
            refine VRs.of_get (by simp at hlcs ⊢; omega) fun j v v' hj hj' => ?_
            rw [s3 j] at hj
            rw [Array.getElem?_toList, e3 j] at hj'
            by_cases hin : off ≤ j ∧ j < off + vs.length
            · rw [if_pos hin] at hj
              rw [if_pos (by omega)] at hj'
              obtain ⟨u, g1, g2⟩ := hvs.get _ _ hj
              rw [show j - (off + 0) = j - off by omega, g1] at hj'
              cases hj'; exact g2
            · rw [if_neg hin] at hj
              rw [if_neg (by omega)] at hj'
              obtain ⟨u, g1, g2⟩ := hv.get _ _ hj
              rw [Array.getElem?_toList, hj'] at g1
              cases g1; exact g2
          have hf2 : ∀ c ∈ es'.toList, c.oneCell' = true := by
            intro c hc
            obtain ⟨j, hj⟩ := List.mem_iff_getElem?.1 hc
            rw [Array.getElem?_toList, e3 j] at hj
            by_cases hin : off + 0 ≤ j ∧ j < off + 0 + x'.cells.toList.length
            · rw [if_pos hin] at hj; exact hfs c (List.mem_of_getElem? hj)
            · rw [if_neg hin] at hj; exact hf c (by rw [← Array.getElem?_toList] at hj; exact List.mem_of_getElem? hj)
          obtain ⟨ds', f1, f2, f3, f4⟩ := ih qs es es' hvs2 hf2 (by simpa using hl) (fun i p q hp' hq' => hp (i + 1) p q (by simpa using hp') (by simpa using hq')) ds h
          refine ⟨ds', ?_, f2, f3, by rw [f4, e2]⟩
          unfold Instr.fill
          simp only [hplace]
          have hsz : x'.cells.size = size := by rw [← hb', hlen]; simp
          rw [if_neg]
          · have he : Array.foldl (fun (cs : Array Value) (x : Value × Nat) => cs.setIfInBounds (off + x.2) x.1) cs' x'.cells.zipIdx = es' := by
              rw [← e1, ← Array.foldl_toList, Array.toList_zipIdx]
            exact he ▸ f1
          · simp [hsz]
            simp at hlcs
            omega
theorem parts_sound {G : List Nat} (hG : Globs G ρ) {n : Nat} {fr : Fr} {a : Act} (hF : FR ρ n fr a) {places : Nat → Option (Nat × Nat)} {parts : List (Nat × Operand)} {ps : List (Nat × Nat × Opd)} (h : cParts G places parts = some ps) :
    (ps.map fun p => (p.1, p.2.1, fr.eval p.2.2)).length = (parts.map fun p => (p.1, a.eval p.2)).length ∧
    ∀ (i : Nat) (p : Nat × Nat × EV) (q : Nat × Value), (ps.map fun p => (p.1, p.2.1, fr.eval p.2.2))[i]? = some p → (parts.map fun p => (p.1, a.eval p.2))[i]? = some q → places q.1 = some (p.1, p.2.1) ∧ VR ρ p.2.2 q.2 := by
  obtain ⟨h1, h2⟩ := mapM_some _ h
  refine ⟨by simp [h1], fun i p q hp hq => ?_⟩
  rw [List.getElem?_map] at hp hq
  obtain ⟨p0, hp0, rfl⟩ := Option.map_eq_some_iff.1 hp
  obtain ⟨q0, hq0, rfl⟩ := Option.map_eq_some_iff.1 hq
  have := h2 i q0 p0 hq0 hp0
  cases hpl : places q0.1 with
  | none => simp [hpl] at this
  | some os =>
    obtain ⟨o, s⟩ := os
    cases hx : cOpd G q0.2 with
    | none => simp [hpl, hx] at this
    | some x =>
      simp [hpl, hx] at this
      subst this
      exact ⟨rfl, cOpd_sound hG hF hx⟩

theorem copies_get (z : List EV) : ∀ (n i : Nat), i < n * z.length → (copies n z)[i]? = z[i % z.length]?
  | 0, i, h => by simp at h
  | n + 1, i, h => by
    unfold copies at *
    rw [List.replicate_succ, List.flatten_cons]
    by_cases hi : i < z.length
    · rw [List.getElem?_append_left hi, Nat.mod_eq_of_lt hi]
    · rw [List.getElem?_append_right (by omega)]
      have := copies_get z n (i - z.length) (by rw [Nat.add_mul] at h; omega)
      unfold copies at this
      rw [this, Nat.mod_eq_sub_mod (by omega : i ≥ z.length)]
theorem copies_length (n : Nat) (z : List EV) : (copies n z).length = n * z.length := by
  simp [copies]
theorem copies_sound {z : List EV} {z' : Array Value} (hz : VRs ρ z z'.toList) (hf : ∀ c ∈ z'.toList, c.oneCell' = true) (n : Nat) :
    VRs ρ (copies n z) ((Array.range (n * z.length)).map (fun i => z'[i % z'.size]!)).toList ∧ (∀ c ∈ ((Array.range (n * z.length)).map (fun i => z'[i % z'.size]!)).toList, c.oneCell' = true) := by
  have hl := hz.length
  have key : ∀ i v', ((Array.range (n * z.length)).map (fun i => z'[i % z'.size]!)).toList[i]? = some v' → i < n * z.length ∧ z'[i % z'.size]? = some v' := by
    intro i v' h
    rw [Array.getElem?_toList, Array.getElem?_map] at h
    obtain ⟨j, hj, rfl⟩ := Option.map_eq_some_iff.1 h
    rw [Array.getElem?_range] at hj
    split at hj
    · rename_i hlt
      cases hj
      refine ⟨hlt, ?_⟩
      have hpos : 0 < z'.size := by
        rcases Nat.eq_zero_or_pos z'.size with h0 | h0
        · simp at hl; rw [hl, h0] at hlt; simp at hlt
        · exact h0
      have hm : i % z'.size < z'.size := Nat.mod_lt _ hpos
      rw [getElem!_pos z' _ hm, Array.getElem?_eq_getElem hm]
    · cases hj
  refine ⟨VRs.of_get (by simp [copies_length]) fun i v v' hv hv' => ?_, fun c hc => ?_⟩
  · obtain ⟨hlt, h2⟩ := key i v' hv'
    rw [copies_get z n i hlt] at hv
    obtain ⟨u, g1, g2⟩ := hz.get _ _ hv
    rw [Array.getElem?_toList, show z.length = z'.size by simpa using hl, h2] at g1
    cases g1; exact g2
  · obtain ⟨i, hi⟩ := List.mem_iff_getElem?.1 hc
    obtain ⟨_, h2⟩ := key i c hi
    rw [← Array.getElem?_toList] at h2
    exact hf c (List.mem_of_getElem? h2)

theorem conv_int {s d : TypeId} {ds : TypeDesc} {k : IntKind} (hs : P.underlying s = some ds) (hd : P.underlying d = some (.int k)) (l : IntKind) (n : Int) : (convert s d (.int l n)).run P w = .ok (.int k (k.wrap n)) w := by
  simp [convert, run_underlying hs, run_underlying hd, Conv.intToInt]
theorem conv_same {s d : TypeId} {ds : TypeDesc} (hs : P.underlying s = some ds) (hd : P.underlying d = some .string) (x : ByteArray) : (convert s d (.string x)).run P w = .ok (.string x) w := by
  simp [convert, run_underlying hs, run_underlying hd]
theorem bytes_loop : ∀ (vs : List Value) (xs : List EV) (s : List UInt8) (acc : ByteArray), VRs ρ xs vs → bytesOf xs = some s →
    (forIn vs acc fun c (s : ByteArray) => (match c with
      | .int .u8 n => pure (ForInStep.yield (s.push (UInt8.ofNat n.toNat)))
      | _ => do
        stuck "bytesToString: byte expected"
        pure (ForInStep.yield s) : Sem (ForInStep ByteArray))).run P w = .ok ⟨⟨acc.data.toList ++ s⟩⟩ w := by
  intro vs
  induction vs with
  | nil =>
    intro xs s acc hv h
    cases hv
    simp [bytesOf] at h
    subst h
    simp
  | cons v vs ih =>
    intro xs s acc hv h
    cases hv with
    | @cons x _ xs _ hx hxs =>
      cases hx with
      | int k n =>
        cases k <;> (try (simp [bytesOf] at h; done))
        simp only [bytesOf] at h
        obtain ⟨s', hs', rfl⟩ := Option.map_eq_some_iff.1 h
        have := ih xs s' (acc.push (UInt8.ofNat n.toNat)) hxs hs'
        simp only [List.forIn_cons, Sem.run_bind, Sem.run_pure, Result.andThen_ok, this]
        simp
      | _ => simp [bytesOf] at h
end
end Go.Proofs.YtblcomejcahkdaaDoor.Ev
end
section
namespace Go.Proofs.YtblcomejcahkdaaDoor.Ev
open Go
section
variable {base : Nat} {ρ : Ren} {m : Mem} {w : World} {P : Program}

def Runs (P : Program) (s : Sem Value) (base : Nat) (ρ : Ren) (m : Mem) (w : World) (v : EV) (m' : Mem) : Prop :=
  ∃ ρ' w' v', s.run P w = .ok v' w' ∧ VR ρ' v v' ∧ R base ρ' m' w' ∧ Step ρ m w ρ' m' w'
theorem Runs.good {s : Sem Value} {v : EV} {m' : Mem} (h : Runs P s base ρ m w v m') : Good base ρ m w v m' ((do pure (Next.value (← s)) : Sem Next).run P w) := by
  obtain ⟨ρ', w', v', h1, h2, h3, h4⟩ := h
  exact ⟨ρ', w', v', .inl (by simp [h1]), h2, h3, h4⟩
def RunsM (P : Program) (s : Sem Value) (base : Nat) (ρ : Ren) (m : Mem) (w : World) (v : EV) (B : Blk) : Prop :=
  ∃ ρ' w' v', s.run P w = .ok v' w' ∧ VR ρ' v v' ∧ Made base ρ m w ρ' B w'
theorem RunsM.runs {s : Sem Value} {v : EV} {B : Blk} (hR : R base ρ m w) (h : RunsM P s base ρ m w v B) : Runs P s base ρ m w v (m.new B) := by
  obtain ⟨ρ', w', v', h1, h2, h3⟩ := h
  obtain ⟨a, b⟩ := h3.whole hR
  exact ⟨ρ', w', v', h1, h2, a, b⟩
theorem grew_alloc (w : World) (o : Obj) : Grew w o { w with heap := w.heap.push o } := ⟨rfl, rfl, rfl, rfl⟩

theorem newVar_made (hR : RN base ρ m w) {cs : List EV} {x : Value} (hv : VRs ρ cs x.cells.toList) (hf : ∀ c ∈ x.cells.toList, c.oneCell' = true) (el : Nat) (t : TypeId) :
    RunsM P (do pure (.pointer (some (← newVar t x)))) base ρ m w (.ptr m.next 0) (.cells cs cs.length el false) := by
  obtain ⟨L, h1, h2, h3, _, _, _, h4⟩ := newRow_made hR hv hf cs.length el t [] (0, 0) (free_zero _) { w with heap := w.heap.push (.cells x.cells t) } (by
    have := grew_alloc w (.cells x.cells t)
    simpa using this)
  refine ⟨_, _, _, ?_, .ptr h1, h4⟩
  simp only [newVar, newRow, Sem.run_bind, run_newObj, Result.andThen_ok, Sem.run_pure]
  rw [h2, h3]
theorem alloc_made (hR : RN base ρ m w) {t : TypeId} {z : List EV} (hz : cZeros P t = some z) :
    RunsM P (Instr.alloc t true (.tuple #[])) base ρ m w (.ptr m.next 0) (.cells z z.length t false) := by
  obtain ⟨v, h1, h2, h3⟩ := zeros_sound (ρ := ρ) hz
  have := newVar_made (P := P) hR h2 h3 t t
  obtain ⟨ρ', w', v', e1, e2⟩ := this
  exact ⟨ρ', w', v', by
    rw [← e1]
    simp only [Instr.alloc, Sem.run_bind, h1, Result.andThen_ok], e2⟩
theorem box_made (hR : RN base ρ m w) {t : TypeId} {x : EV} {x' : Value} (hx : VR ρ x x') {cs : List EV} (hc : x.cells = some cs) :
    RunsM P (Instr.box t x') base ρ m w (.ptr m.next 0) (.cells cs cs.length t false) :=
  newVar_made hR (hx.cells hc).1 (hx.cells hc).2 t t
theorem row_new (hR : RN base ρ m w) {cs : List EV} {vs : Array Value} (hv : VRs ρ cs vs.toList) (hf : ∀ c ∈ vs.toList, c.oneCell' = true) (esz el : Nat) (t : TypeId) {n c : Nat} (hn : n ≤ c) (hc : c * esz = vs.size) (known : Bool) :
    RunsM P (do pure (.slice (some (← newRow t vs)) n c)) base ρ m w (.slice m.next 0 n (if known then some c else none)) (.cells cs esz el false) := by
  obtain ⟨L, h1, h2, h3, h4, h5, h6, h7⟩ := newRow_made hR hv hf esz el t [] (0, 0) (free_zero _) { w with heap := w.heap.push (.cells vs t) } (by
    have := grew_alloc w (.cells vs t)
    simpa using this)
  refine ⟨_, _, .slice (some ⟨w.heap.size, 0, none⟩) n c, ?_, ?_, h7⟩
  · simp only [newRow, Sem.run_bind, run_newObj, Result.andThen_ok, Sem.run_pure]
  · rw [← h2]
    cases known with
    | true => exact .sliceC h1 hn (fun _ => by rw [h3])
    | false =>
      refine .slice h1 hn (fun _ => by rw [h3]) (fun _ => ?_)
      rw [h5, h4, hc]; simp
theorem bslice_made (hR : RN base ρ m w) {t e : TypeId} {s len : Nat} {z : List EV} (hu : P.underlying t = some (.slice e)) (hs : cSize P e = some s) (hz : cZeros P e = some z) (hzs : z.length = s) (hl : len * s ≤ 2 ^ 24)
    {ps : List (Nat × Nat × EV)} {qs : List (Nat × Value)} (hlen : ps.length = qs.length)
    (hp : ∀ (i : Nat) (p : Nat × Nat × EV) (q : Nat × Value), ps[i]? = some p → qs[i]? = some q → (p.1 = q.1 * s ∧ p.2.1 = s) ∧ VR ρ p.2.2 q.2) {cs : List EV} (h : fillIn (copies len z) ps = some cs) :
    RunsM P (Instr.buildSlice t len ⟨qs⟩) base ρ m w (.slice m.next 0 len (some len)) (.cells cs s e false) := by
  obtain ⟨zv, z1, z2, z3⟩ := zeros_sound (ρ := ρ) hz
  have hzsz : zv.cells.size = s := by have := z2.length; simp at this; omega
  obtain ⟨c1, c2⟩ := copies_sound z2 z3 len
  rw [hzs] at c1 c2
  have harr : ∀ zc : Array Value, len * s = 0 → ((Array.range (len * s)).map fun i => zc[i % zc.size]!) = (Array.range (len * s)).map fun i => zv.cells[i % zv.cells.size]! := by
    intro zc h0
    rw [h0]; simp only [Array.range_zero', List.map_toArray, List.map_nil]
  obtain ⟨ds', f1, f2, f3, f4⟩ := fill_sound (ρ := ρ) (place := fun i => some (i * s, s)) ps qs _ _ c1 c2 hlen (fun i p q hp' hq' => by
    obtain ⟨⟨e1, e2⟩, e3⟩ := hp i p q hp' hq'
    exact ⟨by rw [e1, e2], e3⟩) cs h
  obtain ⟨ρ', w', v', r1, r2⟩ := row_new (P := P) hR f2 f3 s e e (Nat.le_refl len) (by rw [f4]; simp) true
  refine ⟨ρ', w', v', ?_, r2⟩
  rw [← r1]
  unfold Instr.buildSlice
  simp only [Sem.run_bind, run_underlying hu, Result.andThen_ok, run_sizeOf' hs]
  rw [if_neg (by omega)]
  by_cases h0 : len * s = 0
  · simp only [if_pos h0, Sem.run_bind, Sem.run_pure, Result.andThen_ok, harr _ h0, f1]
  · simp only [if_neg h0, Sem.run_bind, Sem.run_pure, Result.andThen_ok, z1, f1]
theorem mkslice_made (hR : RN base ρ m w) {t e : TypeId} {i : TypeInfo} {z : List EV} (hu : P.underlying t = some (.slice e)) (hi : P.info? e = some i) (hz : cZeros P e = some z) (hzs : z.length = i.size) (hb : i.bytes ≤ 65536) {l c : Nat} (hlc : l ≤ c) (hc : c ≤ room) :
    RunsM P (Instr.makeSlice t (.int .i64 (l : Int)) (.int .i64 (c : Int))) base ρ m w (.slice m.next 0 l (some c)) (.cells (copies c z) i.size e false) := by
  obtain ⟨zv, z1, z2, z3⟩ := zeros_sound (ρ := ρ) hz
  obtain ⟨c1, c2⟩ := copies_sound z2 z3 c
  rw [hzs] at c1 c2
  have hs : cSize P e = some i.size := by simp [cSize, hi]
  have harr : ∀ zc : Array Value, c * i.size = 0 → ((Array.range (c * i.size)).map fun i => zc[i % zc.size]!) = (Array.range (c * i.size)).map fun i => zv.cells[i % zv.cells.size]! := by
    intro zc h0
    rw [h0]; simp only [Array.range_zero', List.map_toArray, List.map_nil]
  obtain ⟨ρ', w', v', r1, r2⟩ := row_new (P := P) hR c1 c2 i.size e e hlc (by simp) true
  refine ⟨ρ', w', v', ?_, r2⟩
  rw [← r1]
  unfold room at hc
  have wl : IntKind.i64.wrap (l : Int) = l := by unfold IntKind.wrap; simp [IntKind.bits, IntKind.signed]; omega
  have wc : IntKind.i64.wrap (c : Int) = c := by unfold IntKind.wrap; simp [IntKind.bits, IntKind.signed]; omega
  have hbc : (i.bytes : Int) * (c : Int) ≤ 2 ^ 48 := by
    have : i.bytes * c ≤ 65536 * 1073741824 := Nat.mul_le_mul hb hc
    have h2 : ((i.bytes * c : Nat) : Int) ≤ ((65536 * 1073741824 : Nat) : Int) := Int.ofNat_le.2 this
    simp at h2
    omega
  unfold Instr.makeSlice
  simp only [Sem.run_bind, run_underlying hu, Result.andThen_ok, asInt, asIntOf, Sem.run_pure, run_typeInfo hi, wl, wc]
  have t1 : (decide ((c : Int) < 0) || decide ((i.bytes : Int) * (c : Int) > 2 ^ 48)) = false := by
    simp only [Bool.or_eq_false_iff, decide_eq_false_iff_not]
    exact ⟨by omega, by omega⟩
  rw [if_neg (by
    simp only [t1, Bool.false_or, Bool.or_eq_true, decide_eq_true_eq, not_or]
    exact ⟨by omega, by omega⟩)]
  simp only [Sem.run_bind, run_askRoom, Result.andThen_ok, run_sizeOf' hs, Int.toNat_natCast]
  by_cases h0 : c * i.size = 0
  · simp only [if_pos h0, Sem.run_bind, Sem.run_pure, Result.andThen_ok, harr _ h0]
  · simp only [if_neg h0, Sem.run_bind, Sem.run_pure, Result.andThen_ok, z1]
theorem mkmap_made (hR : RN base ρ m w) : RunsM P (do pure (.map (some (← newObj (.map #[] 0))))) base ρ m w (.map m.next) (.map []) := by
  have g := grew_alloc w (.map #[] 0)
  let L : Loc := ⟨w.heap.size, 0, 0, 0, false⟩
  have a := new_made hR (.map []) _ g L rfl ⟨#[], 0, g.new, rfl, fun i e d he => by simp at he, hR.base, rfl⟩
  refine ⟨_, _, .map (some w.heap.size), ?_, VR.map (L := L) (by simp [Ren.put]), a⟩
  simp only [Sem.run_bind, run_newObj, Result.andThen_ok, Sem.run_pure]

theorem row_le {b off n : Nat} {xs : List EV} (h : m.row b off n = some xs) : xs.length = n := by
  by_cases hn : n = 0
  · subst hn
    rw [Mem.row_none] at h; cases h; rfl
  rw [Mem.row_pos hn] at h
  unfold Mem.row1 at h
  split at h
  · rename_i cs _ _ _ _
    cases hl : (off + n).ble cs.length <;> simp only [hl, cond_true, cond_false, reduceCtorEq, Option.some.injEq] at h
    subst h
    have := Nat.le_of_ble_eq_true hl
    simp; omega
  · cases h
theorem row_zero {b off : Nat} {xs : List EV} (h : m.row b off 0 = some xs) : xs = [] := List.eq_nil_of_length_eq_zero (row_le h)
theorem slice_cells (hR : R base ρ m w) {b off len n : Nat} {cap : Option Nat} {x' : Value} (hx : VR ρ (.slice b off len cap) x') (size : Nat) (hn : n ≤ len) {xs : List EV} (h : m.row b off (n * size) = some xs) :
    ∃ (a : Addr) (c : Nat) (vs : List Value), x' = .slice (some a) len c ∧ (loadCells a (n * size)).run P w = .ok ⟨vs⟩ w ∧ VRs ρ xs vs ∧ (∀ c ∈ vs, c.oneCell' = true) ∧ vs.length = n * size := by
  rcases Nat.eq_zero_or_pos (n * size) with h0 | h0
  · rw [h0] at h ⊢
    obtain rfl := row_zero h
    cases hx with
    | slice => exact ⟨_, _, [], rfl, rfl, .nil, by simp, rfl⟩
    | sliceC => exact ⟨_, _, [], rfl, rfl, .nil, by simp, rfl⟩
    | sliceE => exact ⟨_, _, [], rfl, rfl, .nil, by simp, rfl⟩
  · have hp : 0 < n := Nat.pos_of_mul_pos_right h0
    cases hx with
    | @slice _ _ _ c o L hL hc ho hr =>
      obtain ⟨vs, h1, h2, h3, h4, h5⟩ := row_sound (P := P) hR hL h
      rw [← ho (by omega)] at h3
      exact ⟨_, _, vs, rfl, h3, h4, h5, h1⟩
    | sliceE => omega
    | @sliceC _ _ _ c o L hL hc ho =>
      obtain ⟨vs, h1, h2, h3, h4, h5⟩ := row_sound (P := P) hR hL h
      rw [← ho (by omega)] at h3
      exact ⟨_, _, vs, rfl, h3, h4, h5, h1⟩
theorem text_sound (hR : R base ρ m w) {s d e : TypeId} (hs : P.underlying s = some (.slice e)) (he : P.underlying e = some (.int .u8)) (hd : P.underlying d = some .string) {x : EV} {x' : Value} (hx : VR ρ x x') {v : EV} {m' : Mem} (h : evConv .text m x = some (v, m')) :
    Runs P (convert s d x') base ρ m w v m' := by
  cases x <;> simp only [evConv, reduceCtorEq, Option.some.injEq, Prod.mk.injEq] at h
  case nilslice =>
    obtain ⟨rfl, rfl⟩ := h
    cases hx
    exact ⟨ρ, w, .string .empty, by simp [convert, run_underlying hs, run_underlying he, run_underlying hd, Conv.bytesToString], .str .empty, hR, .refl _ _ _⟩
  case slice b off n cap =>
    cases hr : m.row b off n with
    | none => simp [hr] at h
    | some cs =>
      simp only [hr] at h
      obtain ⟨t, ht, h2⟩ := Option.map_eq_some_iff.1 h
      cases h2
      obtain ⟨a, c, vs, rfl, h3, h4, h5, h6⟩ := slice_cells (P := P) (n := n) hR hx 1 (Nat.le_refl n) (by rw [Nat.mul_one]; exact hr)
      rw [Nat.mul_one] at h3
      have hl := bytes_loop (P := P) (w := w) vs cs t .empty h4 ht
      refine ⟨ρ, w, .string ⟨⟨t⟩⟩, ?_, .str ⟨⟨t⟩⟩, hR, .refl _ _ _⟩
      simp only [convert, Sem.run_bind, run_underlying hs, run_underlying hd, run_underlying he, Result.andThen_ok, Conv.bytesToString, h3]
      rw [← Array.forIn_toList]
      have e0 : (ByteArray.empty.data.toList ++ t) = t := rfl
      rw [e0] at hl
      have hl2 := congrArg (fun r : Result ByteArray => r.andThen fun a w' => (pure (Value.string a) : Sem Value).run P w') hl
      exact hl2
theorem markStringish_new (h : Array Obj) (arr : Array Value) (e : TypeId) (tape : Nat → Question → Nat) (d : Nat) (os : Os) (out : Array (Nat × ByteArray)) :
    (markStringish ⟨h.size, 0, none⟩).run P ⟨h.push (.cells arr e), tape, d, os, out⟩ = .ok () ⟨h.push (.cells arr e (arr.size, arr.size + 1)), tape, d, os, out⟩ := by
  have hsh : World.shape? ⟨h.push (.cells arr e), tape, d, os, out⟩ h.size = some (e, arr.size) := by simp [World.shape?]
  simp only [markStringish, Sem.run_bind, run_shape, Result.andThen_ok, hsh, run_freeze]
  simp only [World.freeze, if_neg (show ¬ (1 = 0) by decide)]
  congr 2
  apply Array.ext_getElem?
  intro i
  rw [Array.getElem?_modify, Array.getElem?_push, Array.getElem?_push]
  by_cases hi : i = h.size
  · subst hi; simp
  · rw [if_neg (fun e => hi e.symm)]
    simp [hi]
theorem bytes_made (hR : RN base ρ m w) {s d e : TypeId} (hs : P.underlying s = some .string) (hd : P.underlying d = some (.slice e)) (he : P.underlying e = some (.int .u8)) {x : EV} {x' : Value} (hx : VR ρ x x') {v : EV} {m' : Mem} (h : evConv (.bytes e) m x = some (v, m')) :
    ∃ B, m' = m.new B ∧ RunsM P (convert s d x') base ρ m w v B := by
  cases hx <;> simp only [evConv, reduceCtorEq, Option.some.injEq, Prod.mk.injEq] at h
  rename_i s'
  obtain ⟨rfl, rfl⟩ := h
  let q : Question := .appendCap s'.size 0 e
  have hq : q.forced = false := rfl
  let cap := q.cut (w.tape w.drawn q)
  have hcap : s'.size ≤ cap := Nat.le_add_right _ _
  let elems : Array Value := s'.data.map fun b => .int .u8 (b.toNat : Int)
  let o : Obj := .cells (elems ++ Array.replicate (cap - s'.size) (.int .u8 0)) e (elems.size + (cap - s'.size), elems.size + (cap - s'.size) + 1)
  let w' : World := { w with drawn := w.drawn + 1, heap := w.heap.push o }
  have hlen : s'.data.toList.length = s'.size := rfl
  have hv : VRs ρ (s'.data.toList.map fun b => EV.int .u8 (b.toNat : Int)) elems.toList := by
    rw [show elems.toList = s'.data.toList.map fun b => Value.int .u8 (b.toNat : Int) by simp [elems]]
    exact VRs.map_of _ _ (R := fun a b => a = b) (fun a b e => by subst e; exact .int _ _) rfl fun i a b h1 h2 => by rw [h1] at h2; cases h2; rfl
  have hf : ∀ c ∈ elems.toList, c.oneCell' = true := by
    intro c hc
    simp [elems] at hc
    obtain ⟨b, _, rfl⟩ := hc
    rfl
  have hes : elems.size = s'.size := by simp [elems]
  obtain ⟨L, h1, h2, h3, h4, h5, h6, h7⟩ := newRow_made hR hv hf 1 e e (List.replicate (cap - s'.size) (.int .u8 0)) (elems.size + (cap - s'.size), elems.size + (cap - s'.size) + 1) (fun i hi => by simp at hi; simp; omega) w' (by
    have e1 : (⟨elems.toList ++ List.replicate (cap - s'.size) (.int .u8 0)⟩ : Array Value) = elems ++ Array.replicate (cap - s'.size) (.int .u8 0) := by
      apply Array.ext'; simp
    rw [e1]
    exact ⟨rfl, rfl, rfl, rfl⟩)
  refine ⟨_, rfl, _, w', .slice (some ⟨w.heap.size, 0, none⟩) s'.size cap, ?_, ?_, h7⟩
  · simp only [convert, Sem.run_bind, run_underlying hs, run_underlying hd, run_underlying he, Result.andThen_ok, Conv.stringToBytes, run_choose]
    rw [show (Question.appendCap s'.size 0 e).forced = false from rfl]
    simp only [Bool.false_eq_true, if_false, Result.andThen_ok, newRow, Sem.run_bind, run_newObj, Sem.run_pure, markStringish_new]
    simp only [Array.size_append, Array.size_replicate, Array.size_map, w', o, elems, cap, q]
  · have : VR (ρ.put m.next L) (.slice m.next 0 s'.data.toList.length none) (.slice (some ⟨L.blk, 0, none⟩) s'.size cap) := by
      rw [hlen]
      refine .slice h1 hcap (fun _ => by rw [h3]) (fun _ => ?_)
      rw [h5, h4]; simp [hes]; omega
    rw [← h2]; exact this
end
end Go.Proofs.YtblcomejcahkdaaDoor.Ev
end
section
namespace Go.Proofs.YtblcomejcahkdaaDoor.Ev
open Go
section
variable {base : Nat} {ρ : Ren} {m : Mem} {w : World} {P : Program}

theorem growBy_le (need : Nat) : ∀ r c, c < need → Builtin.growBy need r c ≤ 2 * need + 768
  | 0, c, h => by simp [Builtin.growBy]; omega
  | r + 1, c, h => by
    simp only [Builtin.growBy]
    rw [if_neg (by omega)]
    by_cases h2 : c + (c + 768) / 4 < need
    · exact growBy_le need r _ h2
    · cases r with
      | zero => simp [Builtin.growBy]; omega
      | succ r => simp only [Builtin.growBy]; rw [if_pos (by omega)]; omega
theorem nextcap_le {need old : Nat} (h : old < need) : Builtin.nextslicecap need old ≤ 2 * need + 768 := by
  unfold Builtin.nextslicecap
  split
  · omega
  · split
    · omega
    · exact growBy_le need 4 old h

theorem source_sound (hR : R base ρ m w) {x : EV} {x' : Value} (hx : VR ρ x x') (size : Nat) {n : Nat} {xs : List EV} (h : m.source size x = some (n, xs)) :
    (Builtin.lenOf x').run P w = .ok n w ∧ xs.length = n * size ∧ ∀ k, k ≤ n → ∃ vs : List Value, (Builtin.firstCells size k x').run P w = .ok ⟨vs⟩ w ∧ VRs ρ (xs.take (k * size)) vs ∧ (∀ c ∈ vs, c.oneCell' = true) := by
  cases x <;> simp only [Mem.source, reduceCtorEq, Option.some.injEq, Prod.mk.injEq] at h
  case fz => cases hx
  case nilslice =>
    obtain ⟨rfl, rfl⟩ := h
    cases hx
    refine ⟨rfl, by simp, fun k hk => ⟨[], ?_, by simpa using VRs.nil, by simp⟩⟩
    rfl
  case str s =>
    cases hsz : size.beq 1 <;> simp only [hsz, cond_true, cond_false, reduceCtorEq, Option.some.injEq, Prod.mk.injEq] at h
    obtain ⟨rfl, rfl⟩ := h
    obtain rfl := of_beq hsz
    cases hx with
    | str s' =>
    refine ⟨rfl, by simp, fun k hk => ⟨(s'.data.toList.take k).map fun b => .int .u8 (b.toNat : Int), ?_, ?_, ?_⟩⟩
    · simp only [Builtin.firstCells, Sem.run_pure]
      congr 1
      apply Array.ext'
      simp
    · rw [Nat.mul_one, ← List.map_take]
      exact VRs.map_of _ _ (R := fun a b => a = b) (fun a b e => by subst e; exact .int _ _) rfl fun i a b h1 h2 => by rw [h1] at h2; cases h2; rfl
    · intro c hc
      obtain ⟨b, _, rfl⟩ := List.mem_map.1 hc
      rfl
  case slice b off len cap =>
    obtain ⟨cs, hcs, h2⟩ := Option.map_eq_some_iff.1 h
    cases h2
    refine ⟨by cases hx <;> rfl, row_le hcs, fun k hk => ?_⟩
    have hk' : k * size ≤ n * size := Nat.mul_le_mul_right _ hk
    have hrow : m.row b off (k * size) = some (xs.take (k * size)) := by
      by_cases hk0 : k * size = 0
      · rw [hk0, Mem.row_none]; simp
      rw [Mem.row_pos hk0]
      rw [Mem.row_pos (by omega)] at hcs
      unfold Mem.row1 at hcs ⊢
      split at hcs
      · rename_i ds _ _ _ hg
        cases hl : (off + n * size).ble ds.length <;> simp only [hl, cond_true, cond_false, reduceCtorEq, Option.some.injEq] at hcs
        have := Nat.le_of_ble_eq_true hl
        have h3 : (off + k * size).ble ds.length = true := Nat.ble_eq_true_of_le (by omega)
        simp only [h3, cond_true]
        subst hcs
        rw [List.take_take, Nat.min_eq_left hk']
      · cases hcs
    obtain ⟨a, c, vs, rfl, h3, h4, h5, h6⟩ := slice_cells (P := P) hR hx size hk hrow
    exact ⟨vs, by simpa [Builtin.firstCells] using h3, h4, h5⟩

theorem kill (hR : R base ρ m w) {b : Nat} {L : Loc} (hb : ρ b = some L) : R base ρ (m.set b .dead) w ∧ Step ρ m w ρ (m.set b .dead) w := by
  have hl : ∀ c, Live (m.set b .dead) c → c ≠ b ∧ Live m c := by
    intro c hc
    unfold Live at hc ⊢
    rw [Mem.get_set] at hc
    by_cases e : c = b
    · rw [if_pos e] at hc; exact absurd rfl hc
    · rw [if_neg e] at hc; exact ⟨e, hc⟩
  refine ⟨⟨hR.lt, fun c M hM => ?_, fun c d M M' hM hM' h1 h2 h3 h4 => hR.inj c d M M' hM hM' (hl c h1).2 (hl d h2).2 h3 h4, hR.base, fun c hc => by rw [Mem.get_set]; split <;> first | rfl | exact hR.clean c hc⟩, ⟨.refl ρ, fun _ h h' => absurd h h', Nat.le_refl _, fun c hc hn => ?_, fun c _ hd => by rw [Mem.get_set]; split <;> first | rfl | exact hd, Nat.le_refl _, fun i hi => ?_, fun _ _ _ => rfl, rfl, rfl, rfl⟩⟩
  · rw [Mem.get_set]
    by_cases e : c = b
    · rw [if_pos e]; trivial
    · rw [if_neg e]; exact hR.blk c M hM
  · rw [Mem.get_set, if_neg (fun e => by subst e; rw [hb] at hn; cases hn)]
  · rintro ⟨c, M, hM, h1, h2, h3⟩
    exact ⟨c, M, hM, (hl c h1).2, h2, h3⟩

theorem append_here (hR : R base ρ m w) {b : Nat} {L : Loc} (hb : ρ b = some L) {cs0 : List EV} {el0 : Nat} (hm : m.get b = .cells cs0 L.esz el0 false) {o len n c : Nat} {old xs : List EV} {xs' : List Value} (elem : Nat)
    (hold : ∀ (i : Nat) (v : EV), old[i]? = some v → cs0[o - L.off + i]? = some v ∧ L.off ≤ o) (hol : old.length = len * L.esz) (hxl : xs.length = n * L.esz) (hcap : len + n ≤ c) (hr : o + c * L.esz ≤ L.total)
    (hx : VRs ρ xs xs') (hf : ∀ c ∈ xs', c.oneCell' = true) :
    ∃ (w' : World) (L' : Loc), (storeCells ⟨L.blk, o + len * L.esz, none⟩ xs').run P w = .ok () w' ∧ L'.blk = L.blk ∧ L'.off = o ∧ L'.total = L.total ∧ L'.esz = L.esz ∧ L'.ro = false ∧
      R base (ρ.put m.next L') ((m.new (.cells (old ++ xs) L.esz elem false)).set b .dead) w' ∧ Step ρ m w (ρ.put m.next L') ((m.new (.cells (old ++ xs) L.esz elem false)).set b .dead) w' := by
  have hB := hR.blk b L hb
  rw [hm] at hB
  obtain ⟨arr, e, fz, h1, h2, h3, h4, h5, h6, h7, h8⟩ := hB
  obtain ⟨hbase, hfree⟩ := h7 rfl
  have hxl' := hx.length
  have hcm : len * L.esz + n * L.esz ≤ c * L.esz := by rw [← Nat.add_mul]; exact Nat.mul_le_mul_right _ hcap
  obtain ⟨w', arr', r1, r2, r3, r4, r5, r6, r7, r8, r9⟩ := storeCells_run (P := P) (o := o + len * L.esz) xs' 0 w arr h1 (by omega) hfree hf
  let L' : Loc := ⟨L.blk, o, L.total, L.esz, false⟩
  have hLo : L'.off = o := rfl
  have hn := hR.nnone
  have he := Ren.ext_put L' hn
  have hlv : Live m b := by unfold Live; rw [hm]; simp
  have hbn : b ≠ m.next := by have := hR.lt b L hb; omega
  let m' := (m.new (.cells (old ++ xs) L.esz elem false)).set b .dead
  have get_new : m'.get m.next = .cells (old ++ xs) L.esz elem false := by
    show Mem.get (Mem.set _ _ _) _ = _
    rw [Mem.get_set, if_neg (Ne.symm hbn), Mem.get_new, if_pos rfl]
  have get_b : m'.get b = .dead := by
    show Mem.get (Mem.set _ _ _) _ = _
    rw [Mem.get_set, if_pos rfl]
  have get_old : ∀ d, d ≠ m.next → d ≠ b → m'.get d = m.get d := fun d hd hd' => by
    show Mem.get (Mem.set _ _ _) _ = _
    rw [Mem.get_set, if_neg hd', Mem.get_new, if_neg hd]
  have live_old : ∀ d, d ≠ m.next → Live m' d → d ≠ b ∧ Live m d := by
    intro d hd hl
    have hdb : d ≠ b := fun e => by subst e; exact hl get_b
    exact ⟨hdb, by unfold Live at hl ⊢; rwa [get_old d hd hdb] at hl⟩
  refine ⟨w', L', r1, rfl, rfl, rfl, rfl, rfl, ⟨?_, ?_, ?_, ?_, fun d hd => by have hd : m.next + 1 ≤ d := hd; have := hR.lt b L hb; rw [get_old d (by omega) (by omega)]; exact hR.clean d (by omega)⟩, ⟨he, ?_, ?_, ?_, fun d hd hdd => (Classical.em (d = b)).elim (fun e => by rw [e]; exact get_b) (fun e => by have hdn : d ≠ m.next := Nat.ne_of_lt hd; exact (get_old d hdn e).trans hdd), by omega, ?_, ?_, r7, r8, r9⟩⟩
  · intro d M hM
    show d < m.next + 1
    unfold Ren.put at hM
    by_cases e : d = m.next
    · omega
    · rw [if_neg e] at hM; have := hR.lt d M hM; omega
  · intro d M hM
    unfold Ren.put at hM
    by_cases e : d = m.next
    · rw [if_pos e] at hM; cases hM
      subst e
      show BlkR base _ (m'.get m.next) _ _
      rw [get_new]
      refine ⟨arr', _, fz, r2, r3.trans h2, rfl, rfl, by rw [hLo, List.length_append]; show _ ≤ L.total; omega, ?_, fun _ => ⟨hbase, by rw [r3]; exact hfree⟩, by simp⟩
      intro i v hi
      rw [r4]
      by_cases hlt : i < old.length
      · rw [List.getElem?_append_left hlt] at hi
        obtain ⟨g0, g1⟩ := hold i v hi
        obtain ⟨v', k1, k2, k3⟩ := h6 _ v g0
        rw [if_neg (by rw [hLo]; omega)]
        refine ⟨v', ?_, k2.ext he, k3⟩
        rw [show L'.off + i = L.off + (o - L.off + i) by rw [hLo]; omega]
        exact k1
      · rw [List.getElem?_append_right (by omega)] at hi
        obtain ⟨v', k1, k2⟩ := hx.get _ v hi
        have hlt2 : i - old.length < xs'.length := (List.getElem?_eq_some_iff.1 k1).1
        rw [if_pos (by rw [hLo]; omega)]
        refine ⟨v', ?_, k2.ext he, hf v' (List.mem_of_getElem? k1)⟩
        rw [← k1]; congr 1; rw [hLo]; omega
    · rw [if_neg e] at hM
      show BlkR base _ (m'.get d) _ _
      by_cases hd : d = b
      · subst hd; rw [get_b]; trivial
      · rw [get_old d e hd]
        by_cases hl : m.get d = .dead
        · rw [hl]; trivial
        · have hne : M.blk ≠ L.blk := fun heq => hd (hR.inj b d L M hb hM hlv hl (by rw [h4]) heq.symm).symm
          exact (hR.blk d M hM).of_heap he (r5 _ hne)
  · intro d f M M' hM hM' hl hl' hro heq
    unfold Ren.put at hM hM'
    by_cases e : d = m.next <;> by_cases e' : f = m.next
    · rw [e, e']
    · rw [if_pos e] at hM; cases hM
      rw [if_neg e'] at hM'
      obtain ⟨q1, q2⟩ := live_old f e' hl'
      exact absurd (hR.inj b f L M' hb hM' hlv q2 (by rw [h4]) heq).symm q1
    · rw [if_pos e'] at hM'; cases hM'
      rw [if_neg e] at hM
      obtain ⟨q1, q2⟩ := live_old d e hl
      exact absurd (hR.inj d b M L hM hb q2 hlv hro heq) q1
    · rw [if_neg e] at hM; rw [if_neg e'] at hM'
      exact hR.inj d f M M' hM hM' (live_old d e hl).2 (live_old f e' hl').2 hro heq
  · rw [r6]; exact hR.base
  · intro d hd1 hd2
    unfold Ren.put at hd2
    by_cases e : d = m.next
    · omega
    · rw [if_neg e] at hd2; exact absurd hd1 hd2
  · show m.next ≤ m.next + 1; omega
  · intro d hd hnone
    exact get_old d (by omega) (fun e => by subst e; rw [hb] at hnone; cases hnone)
  · rintro i hi ⟨d, M, hM, hl, hro, heq⟩
    unfold Ren.put at hM
    by_cases e : d = m.next
    · rw [if_pos e] at hM; cases hM
      exact ⟨b, L, hb, hlv, by rw [h4], heq⟩
    · rw [if_neg e] at hM
      exact ⟨d, M, hM, (live_old d e hl).2, hro, heq⟩
  · intro i hi hr
    exact r5 i (fun e => hr ⟨b, L, hb, hlv, by rw [h4], e.symm⟩)

theorem zeroCells_size (z : Array Value) (n : Nat) : (Builtin.zeroCells z n).size = n * z.size := by simp [Builtin.zeroCells]
theorem grow_run {t u e : TypeId} {du : TypeDesc} {i : TypeInfo} (ht : P.underlying t = some (.slice e)) (hu : P.underlying u = some du) (hdu : (∃ v, du = .slice v) ∨ du = .string) (hi : P.info? e = some i) {zv : Value} (hz : ∀ w, (zeroValue e).run P w = .ok zv w)
    (hzs : zv.cells.size = i.size) (hb : i.bytes ≤ 65536) {a : Option Addr} {len cap n : Nat} {x' : Value} {old xs : List Value} (hn : (Builtin.lenOf x').run P w = .ok n w) (hgrow : cap < len + n) (hroom : len + n ≤ room)
    (hold : (Builtin.firstCells i.size len (.slice a len cap)).run P { w with drawn := w.drawn + 1 } = .ok ⟨old⟩ { w with drawn := w.drawn + 1 }) (hnew : (Builtin.firstCells i.size n x').run P { w with drawn := w.drawn + 1 } = .ok ⟨xs⟩ { w with drawn := w.drawn + 1 }) :
    ∃ (w' : World) (c : Nat) (extra : List Value), (Builtin.append_ #[t, u] t #[.slice a len cap, x']).run P w = .ok (.slice (some ⟨w.heap.size, 0, none⟩) (len + n) c) w' ∧ len + n ≤ c ∧ extra.length = (c - (len + n)) * i.size ∧
      Grew w (.cells ⟨(old ++ xs) ++ extra⟩ e (0, 0)) w' := by
  have hs : cSize P e = some i.size := by simp [cSize, hi]
  let q : Question := .appendCap (len + n) cap e
  let c := q.cut (w.tape w.drawn q)
  have hc : len + n ≤ c := Nat.le_add_right _ _
  refine ⟨{ w with drawn := w.drawn + 1, heap := w.heap.push (.cells (⟨old⟩ ++ ⟨xs⟩ ++ Builtin.zeroCells zv.cells (c - (len + n))) e) }, c, (Builtin.zeroCells zv.cells (c - (len + n))).toList, ?_, hc, by simp [zeroCells_size, hzs], ⟨by simp [← Array.toList_inj], rfl, rfl, rfl⟩⟩
  have hnc := nextcap_le hgrow
  unfold room at hroom
  have hbig : ¬ Builtin.nextslicecap (len + n) cap * i.bytes > 2 ^ 48 := by
    have h1 : Builtin.nextslicecap (len + n) cap * i.bytes ≤ (2 * 1073741824 + 768) * 65536 := Nat.mul_le_mul (by omega) hb
    omega
  rcases hdu with ⟨v, rfl⟩ | rfl
  all_goals
    unfold Builtin.append_
    simp only [List.getElem?_toArray, List.getElem?_cons_zero, List.getElem?_cons_succ, Sem.run_bind, run_underlying ht, Result.andThen_ok, run_sizeOf' hs, run_underlying hu, Sem.run_pure, Bool.false_eq_true, if_false, Bool.not_false, if_true, hn]
    rw [if_neg (by omega)]
    simp only [Sem.run_bind, run_typeInfo hi, Result.andThen_ok]
    rw [if_neg (by simp only [IntKind.max_i64]; omega)]
    simp only [Sem.run_bind, run_typeInfo hi, Result.andThen_ok]
    rw [if_neg hbig]
    simp only [Sem.run_bind, run_choose]
    rw [show (Question.appendCap (len + n) cap e).forced = false from rfl]
    simp only [Bool.false_eq_true, if_false, Result.andThen_ok, run_askRoom, run_typeInfo hi]
    rw [hold]
    simp only [Result.andThen_ok]
    rw [hnew]
    simp only [Result.andThen_ok, hz, Sem.run_pure, newRow, Sem.run_bind, run_newObj]
    rfl
theorem fits_run {t u e : TypeId} {du : TypeDesc} {size : Nat} (ht : P.underlying t = some (.slice e)) (hu : P.underlying u = some du) (hdu : (∃ v, du = .slice v) ∨ du = .string) (hs : cSize P e = some size)
    {a : Option Addr} {len cap n : Nat} {x' : Value} {xs : List Value} (hn : (Builtin.lenOf x').run P w = .ok n w) (hfit : len + n ≤ cap) (hnew : (Builtin.firstCells size n x').run P w = .ok ⟨xs⟩ w) :
    (Builtin.append_ #[t, u] t #[.slice a len cap, x']).run P w = (match a with | some b => (storeCells (b.add (len * size)) xs).run P w | none => .ok () w : Result Unit).andThen fun _ w' => .ok (.slice a (len + n) cap) w' := by
  rcases hdu with ⟨v, rfl⟩ | rfl
  all_goals
    unfold Builtin.append_
    simp only [List.getElem?_toArray, List.getElem?_cons_zero, List.getElem?_cons_succ, Sem.run_bind, run_underlying ht, Result.andThen_ok, run_sizeOf' hs, run_underlying hu, Sem.run_pure, Bool.false_eq_true, if_false, Bool.not_false, if_true, hn]
    rw [if_pos hfit]
    simp only [Sem.run_bind, hnew, Result.andThen_ok]
    cases a <;> simp
theorem quiet_drawn (w : World) : Quiet w { w with drawn := w.drawn + 1 } := ⟨rfl, rfl, rfl, rfl⟩
theorem rowsource_len {x : EV} {n : Nat} {xs : List EV} {esz : Nat} {x' : Value} (hx : VR ρ x x') (h : m.source esz x = some (n, xs)) : xs.length = n * esz := by
  cases x <;> simp only [Mem.source, reduceCtorEq, Option.some.injEq, Prod.mk.injEq] at h
  case fz => cases hx
  case nilslice => obtain ⟨rfl, rfl⟩ := h; simp
  case str s =>
    cases hsz : esz.beq 1 <;> simp only [hsz, cond_true, cond_false, reduceCtorEq, Option.some.injEq, Prod.mk.injEq] at h
    obtain ⟨rfl, rfl⟩ := h
    obtain rfl := of_beq hsz
    simp
  case slice b off len cap =>
    obtain ⟨cs, hcs, h2⟩ := Option.map_eq_some_iff.1 h
    cases h2
    exact row_le hcs
theorem grow_sound (hR : R base ρ m w) {t u e : TypeId} {du : TypeDesc} {i : TypeInfo} {z : List EV} (ht : P.underlying t = some (.slice e)) (hu : P.underlying u = some du) (hdu : (∃ v, du = .slice v) ∨ du = .string) (hi : P.info? e = some i)
    (hz : cZeros P e = some z) (hzs : z.length = i.size) (hb : i.bytes ≤ 65536) {a : Option Addr} {len cap n : Nat} {x : EV} {x' : Value} (hx : VR ρ x x') {xs : List EV} (hsrc : m.source i.size x = some (n, xs)) (hgrow : cap < len + n) (hroom : len + n ≤ room)
    {old : List EV} {old' : List Value} (hov : VRs ρ old old') (hof : ∀ c ∈ old', c.oneCell' = true) (hol : old.length = len * i.size)
    (hold : (Builtin.firstCells i.size len (.slice a len cap)).run P { w with drawn := w.drawn + 1 } = .ok ⟨old'⟩ { w with drawn := w.drawn + 1 }) :
    Runs P (Builtin.append_ #[t, u] t #[.slice a len cap, x']) base ρ m w (.slice m.next 0 (len + n) none) (m.new (.cells (old ++ xs) i.size e false)) := by
  obtain ⟨zv, z1, z2, _⟩ := zeros_sound (ρ := ρ) hz
  have hzsz : zv.cells.size = i.size := by have := z2.length; simp at this; omega
  obtain ⟨s1, s2, _⟩ := source_sound (P := P) hR hx i.size hsrc
  obtain ⟨_, _, s3⟩ := source_sound (P := P) (hR.quiet (quiet_drawn w)) hx i.size hsrc
  obtain ⟨vs, f1, f2, f3⟩ := s3 n (Nat.le_refl n)
  rw [List.take_of_length_le (by omega)] at f2
  obtain ⟨w', c, extra, g1, g2, g3, g4⟩ := grow_run (P := P) (w := w) ht hu hdu hi z1 hzsz hb s1 hgrow hroom hold f1
  have hcells := hov.append f2
  obtain ⟨L, h1, h2, h3, h4, h5, h6, h7, h8⟩ := newRow_sound hR hcells (fun c hc => by
    rcases List.mem_append.1 hc with hc | hc
    · exact hof c hc
    · exact f3 c hc) i.size e e extra (0, 0) (free_zero _) w' g4
  refine ⟨_, w', _, g1, ?_, h7, h8⟩
  rw [← h2]
  refine .slice h1 g2 (fun _ => by rw [h3]) (fun _ => ?_)
  have hl1 := hov.length
  have hl2 := f2.length
  rw [h5, h4, g3, List.length_append, ← hl1, ← hl2, hol, s2, ← Nat.add_mul, ← Nat.add_mul]
  rw [show len + n + (c - (len + n)) = c by omega]
  simp
theorem append_sound (hR : R base ρ m w) {t u e : TypeId} {du : TypeDesc} {i : TypeInfo} {z : List EV} (ht : P.underlying t = some (.slice e)) (hu : P.underlying u = some du) (hdu : (∃ v, du = .slice v) ∨ du = .string) (hi : P.info? e = some i)
    (hz : cZeros P e = some z) (hzs : z.length = i.size) (hb : i.bytes ≤ 65536) {s x : EV} {s' x' : Value} (hs : VR ρ s s') (hx : VR ρ x x') {v : EV} {m' : Mem} (h : evAppend m e i.size s x = some (v, m')) :
    Runs P (Builtin.append_ #[t, u] t #[s', x']) base ρ m w v m' := by
  have hsz : cSize P e = some i.size := by simp [cSize, hi]
  unfold evAppend at h
  cases hsrc : m.source i.size x with
  | none => simp [hsrc] at h
  | some nx =>
  obtain ⟨n, xs⟩ := nx
  simp only [hsrc] at h
  have hxl := rowsource_len hx hsrc
  obtain ⟨s1, s2, s3⟩ := source_sound (P := P) hR hx i.size hsrc
  obtain ⟨vs, f1, f2, f3⟩ := s3 n (Nat.le_refl n)
  rw [List.take_of_length_le (by omega)] at f2
  cases hn : n.beq 0 with
  | true =>
    obtain rfl := of_beq hn
    simp only [hn, cond_true] at h
    have hvs : vs = [] := by
      have := f2.length
      rw [hxl] at this
      simp at this
      exact List.eq_nil_of_length_eq_zero this.symm
    subst hvs
    cases hs <;> simp only [reduceCtorEq, Option.some.injEq, Prod.mk.injEq] at h
    case nilslice =>
      obtain ⟨rfl, rfl⟩ := h
      exact ⟨ρ, w, _, by rw [fits_run ht hu hdu hsz s1 (Nat.le_refl _) f1]; rfl, .nilslice, hR, .refl _ _ _⟩
    case slice b off len c o L hL hc ho hr =>
      obtain ⟨rfl, rfl⟩ := h
      exact ⟨ρ, w, _, by rw [fits_run ht hu hdu hsz s1 (by omega) f1]; rfl, .slice hL hc ho hr, hR, .refl _ _ _⟩
    case sliceE b off a =>
      obtain ⟨rfl, rfl⟩ := h
      exact ⟨ρ, w, _, by rw [fits_run ht hu hdu hsz s1 (by omega) f1]; rfl, .sliceE, hR, .refl _ _ _⟩
    case sliceC b off len c o L hL hc ho =>
      obtain ⟨rfl, rfl⟩ := h
      exact ⟨ρ, w, _, by rw [fits_run ht hu hdu hsz s1 (by omega) f1]; rfl, .sliceC hL hc ho, hR, .refl _ _ _⟩
  | false =>
    have hn0 := of_beq_ff hn
    simp only [hn, cond_false] at h
    cases hs <;> simp only [reduceCtorEq] at h
    case nilslice =>
      cases hrm : n.ble room <;> simp only [hrm, cond_true, cond_false, reduceCtorEq, Option.some.injEq, Prod.mk.injEq] at h
      obtain ⟨rfl, rfl⟩ := h
      have hle := Nat.le_of_ble_eq_true hrm
      have := grow_sound (P := P) (a := none) (len := 0) (cap := 0) hR ht hu hdu hi hz hzs hb hx hsrc (by omega) (by omega) (old := []) (old' := []) .nil (by simp) (by simp) rfl
      simpa using this
    case slice b off len c o L hL hc ho hr =>
      cases hrm : (len + n).ble room <;> simp only [hrm, cond_true, cond_false, reduceCtorEq] at h
      have hroom := Nat.le_of_ble_eq_true hrm
      cases hold : m.row b off (len * i.size) with
      | none => simp [hold] at h
      | some old =>
      simp only [hold] at h
      cases hm : m.get b with
      | dead => simp [hm] at h
      | map es => simp [hm] at h
      | cells cs0 esz0 el0 ro0 =>
      simp only [hm] at h
      cases ro0 with
      | true => simp at h
      | false =>
      simp only [] at h
      cases he : esz0.beq i.size <;> simp only [he, cond_true, cond_false, reduceCtorEq, Option.some.injEq, Prod.mk.injEq] at h
      obtain rfl := of_beq he
      obtain ⟨rfl, rfl⟩ := h
      have hes := esz_of hR hL hm
      have hB := hR.blk b L hL
      rw [hm] at hB
      obtain ⟨_, _, _, _, _, _, hro, _⟩ := hB
      by_cases hfit : len + n ≤ c
      · have hrow : ∀ (j : Nat) (v : EV), old[j]? = some v → cs0[o - L.off + j]? = some v ∧ L.off ≤ o := by
          intro j v hj
          have hlt : j < old.length := (List.getElem?_eq_some_iff.1 hj).1
          have hol := row_le hold
          have hlp : 0 < len := by
            rcases Nat.eq_zero_or_pos len with h0 | h0
            · subst h0; simp at hol; subst hol; simp at hlt
            · exact h0
          have ho' := ho hlp
          have hne : len * i.size ≠ 0 := by intro h0; rw [h0] at hol; omega
          rw [Mem.row_pos hne] at hold
          unfold Mem.row1 at hold
          simp only [hm] at hold
          cases hl : (off + len * i.size).ble cs0.length <;> simp only [hl, cond_true, cond_false, reduceCtorEq, Option.some.injEq] at hold
          subst hold
          rw [List.getElem?_take] at hj
          split at hj
          · rw [List.getElem?_drop] at hj
            exact ⟨by rw [show o - L.off + j = off + j by omega]; exact hj, by omega⟩
          · cases hj
        obtain ⟨w', L', a1, a2, a3, a4, a5, a6, a7, a8⟩ := append_here (P := P) hR hL (by rw [hes]; exact hm) e hrow (by rw [hes]; exact row_le hold) (by rw [hes]; exact hxl) hfit (hr hro) f2 f3
        rw [hes] at a1 a7 a8
        refine ⟨_, w', .slice (some ⟨L.blk, o, none⟩) (len + n) c, ?_, ?_, a7, a8⟩
        · rw [fits_run ht hu hdu hsz s1 hfit f1]
          simp only [add_eq, a1, Result.andThen_ok]
        · have hp : (ρ.put m.next L') m.next = some L' := by simp [Ren.put]
          rw [← a2]
          refine .slice hp hfit (fun _ => by rw [a3]; rfl) (fun _ => ?_)
          rw [a5, a4]; exact hr hro
      · obtain ⟨a, c', vs0, e1, e2, e3, e4, e5⟩ := slice_cells (P := P) (hR.quiet (quiet_drawn w)) (.slice hL hc ho hr) i.size (Nat.le_refl len) hold
        cases e1
        obtain ⟨ρ', w', v', g1, g2, g3, g4⟩ := grow_sound (P := P) hR ht hu hdu hi hz hzs hb hx hsrc (a := some ⟨L.blk, o, none⟩) (len := len) (cap := c) (by omega) hroom e3 e4 (row_le hold) (by simpa [Builtin.firstCells] using e2)
        obtain ⟨k1, k2⟩ := kill g3 (g4.ext _ _ hL)
        exact ⟨ρ', w', v', g1, g2, k1, g4.trans k2⟩
    case sliceE b off a =>
      cases hrm : (0 + n).ble room <;> simp only [hrm, cond_true, cond_false, reduceCtorEq] at h
      have hroom := Nat.le_of_ble_eq_true hrm
      cases hold : m.row b off (0 * i.size) with
      | none => rw [hold] at h; cases h
      | some old =>
      rw [hold] at h; simp only at h
      cases hft : (0 + n).ble 0 <;> simp only [hft, cond_true, cond_false, Option.some.injEq, Prod.mk.injEq] at h
      · obtain ⟨rfl, rfl⟩ := h
        have hnf : 0 < 0 + n := by
          rcases Nat.lt_or_ge 0 (0 + n) with h1 | h1
          · exact h1
          · rw [Nat.ble_eq_true_of_le h1] at hft; cases hft
        obtain ⟨a', c', vs0, e1, e2, e3, e4, e5⟩ := slice_cells (P := P) (hR.quiet (quiet_drawn w)) (.sliceE (b := b) (off := off) (a := a)) i.size (Nat.le_refl 0) hold
        cases e1
        exact grow_sound (P := P) hR ht hu hdu hi hz hzs hb hx hsrc (a := some a) (len := 0) (cap := 0) hnf hroom e3 e4 (row_le hold) (by simpa [Builtin.firstCells] using e2)
      · exfalso
        have := Nat.le_of_ble_eq_true hft
        have hn0 : n = 0 := by omega
        simp [hn0] at hn
    case sliceC b off len c o L hL hc ho =>
      cases hrm : (len + n).ble room <;> simp only [hrm, cond_true, cond_false, reduceCtorEq] at h
      have hroom := Nat.le_of_ble_eq_true hrm
      cases hold : m.row b off (len * i.size) with
      | none => simp [hold] at h
      | some old =>
      simp only [hold] at h
      cases hft : (len + n).ble c <;> simp only [hft, cond_true, cond_false, Option.some.injEq, Prod.mk.injEq] at h
      · obtain ⟨rfl, rfl⟩ := h
        have hnf : c < len + n := by
          rcases Nat.lt_or_ge c (len + n) with h1 | h1
          · exact h1
          · rw [Nat.ble_eq_true_of_le h1] at hft; cases hft
        obtain ⟨a, c', vs0, e1, e2, e3, e4, e5⟩ := slice_cells (P := P) (hR.quiet (quiet_drawn w)) (.sliceC hL hc ho) i.size (Nat.le_refl len) hold
        cases e1
        exact grow_sound (P := P) hR ht hu hdu hi hz hzs hb hx hsrc (a := some ⟨L.blk, o, none⟩) (len := len) (cap := c) hnf hroom e3 e4 (row_le hold) (by simpa [Builtin.firstCells] using e2)
      · have hfit := Nat.le_of_ble_eq_true hft
        obtain ⟨m1, hm1, h2⟩ := Option.map_eq_some_iff.1 h
        cases h2
        obtain ⟨w', r1, r2, r3⟩ := write_sound (P := P) hR hL f2 f3 hm1
        refine ⟨ρ, w', .slice (some ⟨L.blk, o, none⟩) (len + n) c, ?_, .sliceC hL hfit ho, r2, r3⟩
        rw [fits_run ht hu hdu hsz s1 hfit f1]
        have : o = L.off + off := ho (by omega)
        subst this
        simp only [add_eq, ← Nat.add_assoc] at r1 ⊢
        simp only [r1, Result.andThen_ok]
end
end Go.Proofs.YtblcomejcahkdaaDoor.Ev
end
