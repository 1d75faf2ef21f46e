/- An evaluator of loaded Go code over named blocks: values, memory, operations, code. Definitions alone. -/
import Derived.Test.YthlbifjgnhdonaaEvTab
namespace Go.Proofs.Ythlbifjgnhdonaa.Ev
open Go

/-- Values. A block is named by a number; 'slice b off len cap': cap none: not known. -/
inductive EV where
  | undef
  | bool (b : Bool)
  | int (k : IntKind) (n : Int)
  | str (s : List UInt8)
  | nilptr
  | ptr (b off : Nat)
  | nilslice
  | slice (b off len : Nat) (cap : Option Nat)
  | nilmap
  | map (b : Nat)
  | nilfunc
  | func (f : Nat) (first captured : List EV)
  | niliface
  | iface (t : Nat) (v : EV)
  | agg (cs : List EV)
  | tuple (vs : List EV)

def sameOpt : Option Nat → Option Nat → Bool
  | none, none => true
  | some a, some b => a.beq b
  | _, _ => false
def sameBytes : List UInt8 → List UInt8 → Bool
  | [], [] => true
  | a :: x, b :: y => bif a.toNat.beq b.toNat then sameBytes x y else false
  | _, _ => false
def sameInt : Int → Int → Bool
  | .ofNat a, .ofNat b => a.beq b
  | .negSucc a, .negSucc b => a.beq b
  | _, _ => false
def kindNo : IntKind → Nat
  | .i8 => 0 | .i16 => 1 | .i32 => 2 | .i64 => 3 | .u8 => 4 | .u16 => 5 | .u32 => 6 | .u64 => 7
mutual
def EV.same : EV → EV → Bool
  | .undef, .undef | .nilptr, .nilptr | .nilslice, .nilslice | .nilmap, .nilmap | .nilfunc, .nilfunc | .niliface, .niliface => true
  | .bool a, .bool b => a == b
  | .int k a, .int l b => bif (kindNo k).beq (kindNo l) then sameInt a b else false
  | .str a, .str b => sameBytes a b
  | .ptr a i, .ptr b j => bif a.beq b then i.beq j else false
  | .slice a i n c, .slice b j m d => bif a.beq b then bif i.beq j then bif n.beq m then sameOpt c d else false else false else false
  | .map a, .map b => a.beq b
  | .func f a c, .func g b d => bif f.beq g then bif EV.sames a b then EV.sames c d else false else false
  | .iface t v, .iface u w => bif t.beq u then EV.same v w else false
  | .agg a, .agg b => EV.sames a b
  | .tuple a, .tuple b => EV.sames a b
  | _, _ => false
def EV.sames : List EV → List EV → Bool
  | [], [] => true
  | a :: x, b :: y => bif EV.same a b then EV.sames x y else false
  | _, _ => false
end

/-- What a block is. -/
inductive Blk where
  | dead
  | cells (cs : List EV) (esz : Nat) (elem : Nat) (ro : Bool)
  | map (es : List (EV × EV))

structure Mem where
  next : Nat
  tbl : Tr Blk
def Mem.get (m : Mem) (b : Nat) : Blk := (m.tbl.get b).getD .dead
def Mem.set (m : Mem) (b : Nat) (x : Blk) : Mem := ⟨m.next, m.tbl.set b x⟩
def Mem.new (m : Mem) (x : Blk) : Mem := ⟨m.next + 1, m.tbl.set m.next x⟩

/-- A value's cells. -/
def EV.cells : EV → Option (List EV)
  | .undef | .tuple _ => none
  | .agg cs => some cs
  | v => some [v]
/-- A part of a row of cells, as a value: one cell, or so many. -/
def partOf (agg : Option Nat) (cs : List EV) (off : Nat) : Option EV :=
  match agg with
  | none => cs[off]?
  | some n => bif (off + n).ble cs.length then some (.agg ((cs.drop off).take n)) else none
def splice (cs : List EV) (off : Nat) (vs : List EV) : Option (List EV) :=
  bif (off + vs.length).ble cs.length then some (cs.take off ++ vs ++ cs.drop (off + vs.length)) else none
def Mem.load (m : Mem) (agg : Option Nat) : EV → Option EV
  | .ptr b off => match m.get b with
    | .cells cs _ _ _ => partOf agg cs off
    | _ => none
  | _ => none
/-- So many cells from a place on. -/
def Mem.row1 (m : Mem) (b off n : Nat) : Option (List EV) :=
  match m.get b with
  | .cells cs _ _ _ => bif (off + n).ble cs.length then some ((cs.drop off).take n) else none
  | _ => none
/-- None at all: nothing is looked at. -/
def Mem.row (m : Mem) (b off n : Nat) : Option (List EV) := bif n.beq 0 then some [] else m.row1 b off n
theorem Mem.row_pos {m : Mem} {b off n : Nat} (h : n ≠ 0) : m.row b off n = m.row1 b off n := by unfold Mem.row; rw [beq_ff h]; rfl
theorem Mem.row_none {m : Mem} {b off : Nat} : m.row b off 0 = some [] := rfl
def Mem.write (m : Mem) (b off : Nat) (vs : List EV) : Option Mem :=
  match m.get b with
  | .cells cs esz elem ro => bif ro then none else (splice cs off vs).map fun cs => m.set b (.cells cs esz elem ro)
  | _ => none
def Mem.store (m : Mem) (size : Nat) (a x : EV) : Option Mem :=
  match a, x.cells with
  | .ptr b off, some vs => bif vs.length.beq size then m.write b off vs else none
  | _, _ => none

inductive Opd where
  | tmp (t : Nat)
  | const (v : EV)
/-- How values are compared. -/
inductive EqTy where
  | prim (k : Nat)   -- 0 truth, 1 whole number, 2 string, 3 pointer, 4 slice, 5 map, 6 function, 7 interface
  | agg (fields : List (Option Nat × Nat × EqTy))
/-- Conversions. -/
inductive Cv where
  | int (k : IntKind)
  | same
  | bytes (elem : Nat)
  | text
inductive IOp where
  | mov (x : Opd)
  | pick (c a b : Opd)
  | alloc (elem : Nat) (zero : List EV)
  | box (elem : Nat) (x : Opd)
  | build (zero : List EV) (parts : List (Nat × Nat × Opd))
  | bslice (elem esz len : Nat) (zero : List EV) (parts : List (Nat × Opd))
  | load (agg : Option Nat) (a : Opd)
  | store (size : Nat) (a x : Opd)
  | nilck (x : Opd)
  | bin (op : BinOp) (x y : Opd)
  | eq (neg : Bool) (t : EqTy) (x y : Opd)
  | un (op : UnOp) (x : Opd)
  | conv (c : Cv) (x : Opd)
  | iface (t : Nat) (x : Opd)
  | mkfn (f : Nat) (first captured : List Opd)
  | mkmap
  | mkslice (elem esz : Nat) (zero : List EV) (len cap : Opd)
  | slstr (x : Opd) (lo hi : Option Opd)
  | slsl (esz : Nat) (x : Opd) (lo hi max : Option Opd)
  | slarr (n esz : Nat) (x : Opd) (lo hi max : Option Opd)
  | faddr (off : Nat) (x : Opd)
  | fld (agg : Option Nat) (off : Nat) (x : Opd)
  | iaddr (esz : Nat) (x i : Opd)
  | iaddrArr (n esz : Nat) (x i : Opd)
  | idxstr (x i : Opd)
  | idxagg (n esz : Nat) (agg : Option Nat) (x i : Opd)
  | lookup (kt : Nat) (zero : EV) (ok : Bool) (m k : Opd)
  | mapupd (kt : Nat) (m k x : Opd)
  | delete (kt : Nat) (m k : Opd)
  | lenmap (m : Opd)
  | tassert (t : Nat) (x : Opd)
  | extract (x : Opd) (i : Nat)
  | len (x : Opd)
  | lenstr (x : Opd)
  | lenarr (n : Nat)
  | cap (x : Opd)
  | max (args : List Opd)
  | min (args : List Opd)
  | append (elem esz bytes : Nat) (s x : Opd)
  | copy (esz : Nat) (d s : Opd)
/-- What tells a value by itself; a call; what ends the function; what waits for its end. -/
inductive XOp where
  | val (op : IOp)
  | call (f : Opd) (args : List Opd)
  | panic (x : Opd)
  | defer (f : Opd) (args : List Opd)

/-- What an operation is for the order: 0 looks at no memory, 1 makes a block, 2 reads a cell, 3 acts. -/
def srt : IOp → Nat
  | .alloc _ _ | .box _ _ | .bslice _ _ _ _ _ | .mkmap | .mkslice _ _ _ _ _ | .conv (.bytes _) _ => 1
  | .load _ _ => 2
  | .store _ _ _ | .conv .text _ | .lookup _ _ _ _ _ | .mapupd _ _ _ _ | .delete _ _ _ | .lenmap _ | .append _ _ _ _ _ | .copy _ _ _ | .slsl _ _ _ _ _ => 3
  | _ => 0
def sort : XOp → Nat
  | .val op => srt op
  | _ => 3
/-- The operands of an operation. -/
def optl : Option Opd → List Opd
  | none => []
  | some x => [x]
def opds : IOp → List Opd
  | .mov x | .box _ x | .load _ x | .nilck x | .un _ x | .conv _ x | .iface _ x | .faddr _ x | .fld _ _ x | .lenmap x | .tassert _ x | .extract x _ | .len x | .lenstr x | .cap x => [x]
  | .pick c a b => [c, a, b]
  | .alloc _ _ | .mkmap | .lenarr _ => []
  | .build _ ps => ps.map fun p => p.2.2
  | .bslice _ _ _ _ ps => ps.map fun p => p.2
  | .store _ a x | .bin _ a x | .eq _ _ a x | .mkslice _ _ _ a x | .iaddr _ a x | .iaddrArr _ _ a x | .idxstr a x | .idxagg _ _ _ a x | .lookup _ _ _ a x | .delete _ a x | .append _ _ _ a x | .copy _ a x => [a, x]
  | .mkfn _ a c => a ++ c
  | .slstr x l h => x :: (optl l ++ optl h)
  | .slsl _ x l h m | .slarr _ _ x l h m => x :: (optl l ++ (optl h ++ optl m))
  | .mapupd _ m k x => [m, k, x]
  | .max xs | .min xs => xs
def xopds : XOp → List Opd
  | .val op => opds op
  | .call f xs | .defer f xs => f :: xs
  | .panic x => [x]
def tmpsOf : List Opd → List Nat
  | [] => []
  | .tmp t :: r => t :: tmpsOf r
  | .const _ :: r => tmpsOf r
structure IOper where
  dst : Option Nat
  op : XOp
  guard : Option (Nat × Bool)   -- another temporary, and what it must be
inductive ICode where
  | skip
  | region (ops : List IOper)
  | draw (ops : List IOper) (chk : List (Nat × Nat))
  | seq (a b : ICode)
  | cond (c : Opd) (a b : ICode)
  | block (id : Nat) (a : ICode)
  | loop (a : ICode)
  | exit (id : Nat)
  | ret
inductive IRes where
  | tmp (t : Nat)
  | cell (t : Nat) (agg : Option Nat)
structure IFun where
  ntmps : Nat
  body : ICode
  results : List IRes

/-- What is at hand in a call. -/
structure Fr where
  tmps : Tr EV
  defers : List (Nat × List EV)
def Fr.get (fr : Fr) (t : Nat) : EV := (fr.tmps.get t).getD .undef
def Fr.set (fr : Fr) (t : Nat) (v : EV) : Fr := ⟨fr.tmps.set t v, fr.defers⟩
def Fr.put (fr : Fr) (d : Option Nat) (v : EV) : Fr := match d with | some t => fr.set t v | none => fr
def Fr.eval (fr : Fr) : Opd → EV
  | .tmp t => fr.get t
  | .const v => v

/-! ### Whole numbers -/
def evBits (op : BinOp) (k : IntKind) (x y : Int) : Option Int :=
  let a := BitVec.ofInt k.bits x
  let b := BitVec.ofInt k.bits y
  match op with
  | .and => some (k.wrap (a &&& b).toNat)
  | .or => some (k.wrap (a ||| b).toNat)
  | .xor => some (k.wrap (a ^^^ b).toNat)
  | .andNot => some (k.wrap (a &&& ~~~b).toNat)
  | _ => none
def evInt (op : BinOp) (k : IntKind) (x y : Int) : Option EV :=
  match op with
  | .add => some (.int k (k.wrap (x + y)))
  | .sub => some (.int k (k.wrap (x - y)))
  | .mul => some (.int k (k.wrap (x * y)))
  | .quo => if y = 0 then none else some (.int k (k.wrap (x.tdiv y)))
  | .rem => if y = 0 then none else some (.int k (x.tmod y))
  | .and | .or | .xor | .andNot => (evBits op k x y).map (.int k)
  | .eql => some (.bool (decide (x = y)))
  | .neq => some (.bool (!decide (x = y)))
  | .lss => some (.bool (decide (x < y)))
  | .leq => some (.bool (decide (x ≤ y)))
  | .gtr => some (.bool (decide (y < x)))
  | .geq => some (.bool (decide (y ≤ x)))
  | .shl | .shr => none
def evShift (op : BinOp) (k : IntKind) (x y : Int) : Option EV :=
  if y < 0 then none else
  match op with
  | .shl => some (.int k (k.wrap (x * 2 ^ min y.toNat k.bits)))
  | .shr => some (.int k (x.fdiv (2 ^ min y.toNat k.bits)))
  | _ => none
def evBin (op : BinOp) (x y : EV) : Option EV :=
  match x, y with
  | .int k a, .int l b => match op with
    | .shl | .shr => evShift op k a b
    | _ => bif (kindNo k).beq (kindNo l) then evInt op k a b else none
  | .str a, .str b => match op with
    | .add => bif (a.length + b.length).ble 4294967296 then some (.str (a ++ b)) else none
    | .eql => some (.bool (sameBytes a b))
    | .neq => some (.bool (!sameBytes a b))
    | _ => none
  | _, _ => none
/-- Values that are compared as they are. -/
def evEqPrim (t : Nat) : EV → EV → Option Bool
  | .int k a, .int l b => bif t.beq 1 then bif (kindNo k).beq (kindNo l) then some (decide (a = b)) else none else none
  | .bool a, .bool b => bif t.beq 0 then some (a == b) else none
  | .str a, .str b => bif t.beq 2 then some (sameBytes a b) else none
  | .nilptr, .nilptr => bif t.beq 3 then some true else none
  | .nilptr, .ptr _ _ | .ptr _ _, .nilptr => bif t.beq 3 then some false else none
  | .nilslice, .nilslice => bif t.beq 4 then some true else none
  | .nilslice, .slice _ _ _ _ | .slice _ _ _ _, .nilslice => bif t.beq 4 then some false else none
  | .nilmap, .nilmap => bif t.beq 5 then some true else none
  | .nilmap, .map _ | .map _, .nilmap => bif t.beq 5 then some false else none
  | .nilfunc, .nilfunc => bif t.beq 6 then some true else none
  | .nilfunc, .func _ _ _ | .func _ _ _, .nilfunc => bif t.beq 6 then some false else none
  | .niliface, .iface _ _ | .iface _ _, .niliface => bif t.beq 7 then some false else none
  | _, _ => none
mutual
def evEq : EqTy → EV → EV → Option Bool
  | .prim t, x, y => evEqPrim t x y
  | .agg fs, .agg a, .agg b => evEqs fs a b
  | _, _, _ => none
def evEqs : List (Option Nat × Nat × EqTy) → List EV → List EV → Option Bool
  | [], _, _ => some true
  | (g, off, t) :: r, a, b => match partOf g a off, partOf g b off with
    | some x, some y => match evEq t x y with
      | some true => evEqs r a b
      | o => o
    | _, _ => none
end
def evUn (op : UnOp) (x : EV) : Option EV :=
  match op, x with
  | .neg, .int k n => some (.int k (k.wrap (0 - n)))
  | .xor, .int k n => (evBits .xor k (if k.signed then -1 else k.max) n).map (.int k)
  | .not, .bool b => some (.bool (!b))
  | _, _ => none
def bytesOf : List EV → Option (List UInt8)
  | [] => some []
  | .int .u8 n :: r => (bytesOf r).map (UInt8.ofNat n.toNat :: ·)
  | _ => none
def evConv (c : Cv) (m : Mem) (x : EV) : Option (EV × Mem) :=
  match c, x with
  | .int k, .int _ n => some (.int k (k.wrap n), m)
  | .same, .str s => some (.str s, m)
  | .bytes e, .str s => some (.slice m.next 0 s.length none, m.new (.cells (s.map fun b => .int .u8 (b.toNat : Int)) 1 e false))
  | .text, .nilslice => some (.str [], m)
  | .text, .slice b off n _ => match m.row b off n with
    | some cs => (bytesOf cs).map fun s => (.str s, m)
    | none => none
  | _, _ => none
/-- A bound of a slice expression: absent, or a number up to some limit. -/
def bound (x : Option EV) (dflt most : Nat) : Option Nat :=
  match x with
  | none => some dflt
  | some (.int _ (.ofNat i)) => bif i.ble most then some i else none
  | _ => none
def evSlice (esz b off len : Nat) (cap : Option Nat) (lo hi max : Option EV) : Option EV :=
  match cap with
  | some c => match bound max c c with
    | some t => match bound hi len t with
      | some h => match bound lo 0 h with
        | some l => some (.slice b (bif t.beq l then off else off + l * esz) (h - l) (some (t - l)))
        | none => none
      | none => none
    | none => none
  | none => match max with
    | some _ => match bound max len len with
      | some t => match bound hi len t with
        | some h => match bound lo 0 h with
          | some l => some (.slice b (bif t.beq l then off else off + l * esz) (h - l) (some (t - l)))
          | none => none
        | none => none
      | none => none
    | none => match bound hi len len with
      | some h => match bound lo 0 h with
        | some l => some (.slice b (off + l * esz) (h - l) none)
        | none => none
      | none => none
/-- A map's entries. -/
def find (k : EV) : List (EV × EV) → Option EV
  | [] => none
  | (l, v) :: r => bif EV.same k l then some v else find k r
def update (k v : EV) : List (EV × EV) → List (EV × EV)
  | [] => [(k, v)]
  | (l, w) :: r => bif EV.same k l then (k, v) :: r else (l, w) :: update k v r
def erase (k : EV) : List (EV × EV) → List (EV × EV)
  | [] => []
  | (l, w) :: r => bif EV.same k l then r else (l, w) :: erase k r
/-- Keys that are compared as they are: 0 truths, 1 strings, 2 whole numbers; all of one sort. -/
def keyIs (kt : Nat) : EV → Bool
  | .int _ _ => kt.beq 2
  | .str _ => kt.beq 1
  | .bool _ => kt.beq 0
  | _ => false
def sortOf : EV → Nat
  | .int k _ => 2 + kindNo k | .str _ => 1 | .bool _ => 0 | _ => 99
def sortsOk (k : EV) : List (EV × EV) → Bool
  | [] => true
  | e :: r => bif (sortOf e.1).beq (sortOf k) then sortsOk k r else false
def keysOk (kt : Nat) (k : EV) (es : List (EV × EV)) : Bool := bif keyIs kt k then sortsOk k es else false
def fillIn (cs : List EV) : List (Nat × Nat × EV) → Option (List EV)
  | [] => some cs
  | (off, size, v) :: r => match v.cells with
    | some vs => bif vs.length.beq size then match splice cs off vs with
        | some cs => fillIn cs r
        | none => none
      else none
    | none => none
def copies (n : Nat) (zero : List EV) : List EV := (List.replicate n zero).flatten
/-- The cells of what is appended, or copied, and how many elements they are. -/
def Mem.source (m : Mem) (esz : Nat) : EV → Option (Nat × List EV)
  | .nilslice => some (0, [])
  | .slice b off n _ => (m.row b off (n * esz)).map fun cs => (n, cs)
  | .str s => bif esz.beq 1 then some (s.length, s.map fun b => .int .u8 (b.toNat : Int)) else none
  | _ => none
def room : Nat := 1073741824
def evAppend (m : Mem) (elem esz : Nat) (s x : EV) : Option (EV × Mem) :=
  match m.source esz x with
  | none => none
  | some (n, xs) =>
    bif n.beq 0 then
      match s with
      | .nilslice => some (.nilslice, m)
      | .slice b off len cap => some (.slice b off len cap, m)
      | _ => none
    else match s with
    | .nilslice => bif n.ble room then some (.slice m.next 0 n none, m.new (.cells xs esz elem false)) else none
    | .slice b off len cap =>
      bif (len + n).ble room then
        match m.row b off (len * esz) with
        | none => none
        | some old => match cap with
          | some c => bif (len + n).ble c then (m.write b (off + len * esz) xs).map fun m => (.slice b off (len + n) (some c), m)
              else some (.slice m.next 0 (len + n) none, m.new (.cells (old ++ xs) esz elem false))
          | none => match m.get b with
            | .cells _ e _ false => bif e.beq esz then some (.slice m.next 0 (len + n) none, (m.new (.cells (old ++ xs) esz elem false)).set b .dead) else none
            | _ => none
      else none
    | _ => none
def evCopy (m : Mem) (esz : Nat) (d s : EV) : Option (EV × Mem) :=
  match d with
  | .nilslice => (m.source esz s).map fun _ => (.int .i64 0, m)
  | .slice b off len _ => match m.source esz s with
    | none => none
    | some (n, xs) => (m.write b off (xs.take (min n len * esz))).map fun m => (.int .i64 (min n len : Nat), m)
  | _ => none
def maxFrom (k : IntKind) (x : Int) : List EV → Option EV
  | [] => some (.int k x)
  | .int l y :: r => bif (kindNo k).beq (kindNo l) then maxFrom k (if y > x then y else x) r else none
  | _ => none
def minFrom (k : IntKind) (x : Int) : List EV → Option EV
  | [] => some (.int k x)
  | .int l y :: r => bif (kindNo k).beq (kindNo l) then minFrom k (if y < x then y else x) r else none
  | _ => none
def evMax : List EV → Option EV
  | .int k x :: r => maxFrom k x r
  | _ => none
def evMin : List EV → Option EV
  | .int k x :: r => minFrom k x r
  | _ => none

inductive R1 where
  | val (v : EV) (m : Mem)

def ofEV (m : Mem) (x : Option EV) : Option R1 := x.map fun v => .val v m
def ofEM (x : Option (EV × Mem)) : Option R1 := x.map fun p => .val p.1 p.2
def ofM (x : Option Mem) : Option R1 := x.map fun m => .val .undef m
def idx (n : Nat) : EV → Option Nat
  | .int _ (.ofNat i) => bif (i + 1).ble n then some i else none
  | _ => none

/-- An operation, but for what a call does. -/
def evOp (ρ : Opd → EV) (op : IOp) (m : Mem) : Option R1 :=
  match op with
  | .mov x => some (.val (ρ x) m)
  | .pick c a b => match ρ c with | .bool t => some (.val (bif t then ρ a else ρ b) m) | _ => none
  | .alloc elem zero => some (.val (.ptr m.next 0) (m.new (.cells zero zero.length elem false)))
  | .box elem x => match (ρ x).cells with
    | some cs => some (.val (.ptr m.next 0) (m.new (.cells cs cs.length elem false)))
    | none => none
  | .build zero parts => ofEV m ((fillIn zero (parts.map fun p => (p.1, p.2.1, ρ p.2.2))).map .agg)
  | .bslice elem esz len zero parts => match fillIn (copies len zero) (parts.map fun p => (p.1 * esz, esz, ρ p.2)) with
    | some cs => some (.val (.slice m.next 0 len (some len)) (m.new (.cells cs esz elem false)))
    | none => none
  | .load agg a => ofEV m (m.load agg (ρ a))
  | .store size a x => ofM (m.store size (ρ a) (ρ x))
  | .nilck x => match ρ x with
    | .ptr b off => some (.val (.ptr b off) m)
    | .func f a c => some (.val (.func f a c) m)
    | .iface t v => some (.val (.iface t v) m)
    | _ => none
  | .bin op x y => ofEV m (evBin op (ρ x) (ρ y))
  | .eq neg t x y => ofEV m ((evEq t (ρ x) (ρ y)).map fun b => .bool (neg ^^ b))
  | .un op x => ofEV m (evUn op (ρ x))
  | .conv c x => ofEM (evConv c m (ρ x))
  | .iface t x => some (.val (.iface t (ρ x)) m)
  | .mkfn f a c => some (.val (.func f (a.map ρ) (c.map ρ)) m)
  | .mkmap => some (.val (.map m.next) (m.new (.map [])))
  | .mkslice elem esz zero len cap => match ρ len, ρ cap with
    | .int .i64 (.ofNat l), .int .i64 (.ofNat c) => bif (bif l.ble c then c.ble room else false) then
        some (.val (.slice m.next 0 l (some c)) (m.new (.cells (copies c zero) esz elem false))) else none
    | _, _ => none
  | .slstr x lo hi => match ρ x with
    | .str s => match bound (hi.map ρ) s.length s.length with
      | some h => match bound (lo.map ρ) 0 h with
        | some l => some (.val (.str ((s.take h).drop l)) m)
        | none => none
      | none => none
    | _ => none
  | .slsl esz x lo hi max => match ρ x with
    | .nilslice => match bound (max.map ρ) 0 0, bound (hi.map ρ) 0 0, bound (lo.map ρ) 0 0 with
      | some _, some _, some _ => some (.val .nilslice m)
      | _, _, _ => none
    | .slice b off len (some c) => ofEV m (evSlice esz b off len (some c) (lo.map ρ) (hi.map ρ) (max.map ρ))
    | .slice b off len none => match m.get b with
      | .cells _ e _ _ => bif e.beq esz then ofEV m (evSlice esz b off len none (lo.map ρ) (hi.map ρ) (max.map ρ)) else none
      | _ => none
    | _ => none
  | .slarr n esz x lo hi max => match ρ x with
    | .ptr b off => ofEV m (evSlice esz b off n (some n) (lo.map ρ) (hi.map ρ) (max.map ρ))
    | _ => none
  | .faddr off x => match ρ x with
    | .ptr b o => some (.val (.ptr b (o + off)) m)
    | _ => none
  | .fld agg off x => match ρ x with
    | .agg cs => ofEV m (partOf agg cs off)
    | _ => none
  | .iaddr esz x i => match ρ x with
    | .slice b off len _ => match idx len (ρ i) with
      | some i => some (.val (.ptr b (off + i * esz)) m)
      | none => none
    | _ => none
  | .iaddrArr n esz x i => match ρ x with
    | .ptr b off => match idx n (ρ i) with
      | some i => some (.val (.ptr b (off + i * esz)) m)
      | none => none
    | _ => none
  | .idxstr x i => match ρ x with
    | .str s => match idx s.length (ρ i) with
      | some i => match s[i]? with
        | some c => some (.val (.int .u8 (c.toNat : Int)) m)
        | none => none
      | none => none
    | _ => none
  | .idxagg n esz agg x i => match ρ x with
    | .agg cs => match idx n (ρ i) with
      | some i => ofEV m (partOf agg cs (i * esz))
      | none => none
    | _ => none
  | .lookup kt zero ok mp k => match ρ mp with
    | .nilmap => bif keyIs kt (ρ k) then some (.val (bif ok then .tuple [zero, .bool false] else zero) m) else none
    | .map b => match m.get b with
      | .map es => bif keysOk kt (ρ k) es then
          match find (ρ k) es with
          | some v => some (.val (bif ok then .tuple [v, .bool true] else v) m)
          | none => some (.val (bif ok then .tuple [zero, .bool false] else zero) m)
        else none
      | _ => none
    | _ => none
  | .mapupd kt mp k x => match ρ mp with
    | .map b => match m.get b with
      | .map es => bif keysOk kt (ρ k) es then some (.val .undef (m.set b (.map (update (ρ k) (ρ x) es)))) else none
      | _ => none
    | _ => none
  | .delete kt mp k => match ρ mp with
    | .nilmap => bif keyIs kt (ρ k) then some (.val (.tuple []) m) else none
    | .map b => match m.get b with
      | .map es => bif keysOk kt (ρ k) es then some (.val (.tuple []) (m.set b (.map (erase (ρ k) es)))) else none
      | _ => none
    | _ => none
  | .lenmap mp => match ρ mp with
    | .nilmap => some (.val (.int .i64 0) m)
    | .map b => match m.get b with
      | .map es => some (.val (.int .i64 (es.length : Int)) m)
      | _ => none
    | _ => none
  | .tassert t x => match ρ x with
    | .iface u v => bif t.beq u then some (.val v m) else none
    | _ => none
  | .extract x i => match ρ x with
    | .tuple vs => ofEV m vs[i]?
    | _ => none
  | .lenstr x => match ρ x with
    | .str s => some (.val (.int .i64 (s.length : Int)) m)
    | _ => none
  | .len x => match ρ x with
    | .nilslice => some (.val (.int .i64 0) m)
    | .slice _ _ n _ => some (.val (.int .i64 (n : Int)) m)
    | _ => none
  | .lenarr n => some (.val (.int .i64 (n : Int)) m)
  | .cap x => match ρ x with
    | .nilslice => some (.val (.int .i64 0) m)
    | .slice _ _ _ (some c) => some (.val (.int .i64 (c : Int)) m)
    | _ => none
  | .max args => ofEV m (evMax (args.map ρ))
  | .min args => ofEV m (evMin (args.map ρ))
  | .append elem esz _ s x => ofEM (evAppend m elem esz (ρ s) (ρ x))
  | .copy esz d s => ofEM (evCopy m esz (ρ d) (ρ s))

end Go.Proofs.Ythlbifjgnhdonaa.Ev
