/- From loaded code to the evaluator's code, by the program's tables. -/
import Derived.Test.YthlbifjgnhdonaaEvRun
namespace Go.Proofs.Ythlbifjgnhdonaa.Ev
open Go

def flatE : EV → Bool
  | .undef | .agg _ | .tuple _ => false
  | _ => true
def cV : Nat → Value → Option EV
  | 0, _ => none
  | n + 1, v => match v with
    | .bool b => some (.bool b)
    | .int k x => some (.int k x)
    | .string s => some (.str s.data.toList)
    | .pointer none => some .nilptr
    | .slice none 0 0 => some .nilslice
    | .map none => some .nilmap
    | .nilFunc => some .nilfunc
    | .nilIface => some .niliface
    | .func (.func f) a c => match a.toList.mapM (cV n), c.toList.mapM (cV n) with
      | some x, some y => some (.func f x y)
      | _, _ => none
    | .iface t x => (cV n x).map (.iface t)
    | .agg cs => match cs.toList.mapM (cV n) with
      | some x => bif x.all flatE then some (.agg x) else none
      | none => none
    | .tuple vs => (vs.toList.mapM (cV n)).map .tuple
    | _ => none
def cOpd (G : List Nat) : Operand → Option Opd
  | .tmp t => some (.tmp t)
  | .const v => (cV 30 v).map .const
  | .global g => bif G.contains g then some (.const (.ptr g 0)) else none
  | .func f => some (.const (.func f [] []))
def cOpds (G : List Nat) (xs : List Operand) : Option (List Opd) := xs.mapM (cOpd G)
def cOpt (G : List Nat) : Option Operand → Option (Option Opd)
  | none => some none
  | some x => (cOpd G x).map some

section
variable (P : Program) (G : List Nat)
def cAgg (t : TypeId) : Option (Option Nat) :=
  match P.underlying t, P.info? t with
  | some (.struct _), some i | some (.array _ _), some i => some (some i.size)
  | some _, some _ => some none
  | _, _ => none
def cSize (t : TypeId) : Option Nat := (P.info? t).map (·.size)
/-- A type's zero value, and its cells. -/
def cZero (t : TypeId) : Option EV := ((P.info? t).bind (·.zero)).bind (cV 30)
def cZeros (t : TypeId) : Option (List EV) := (cZero P t).bind EV.cells
def cEqTy : Nat → TypeId → Option EqTy
  | 0, _ => none
  | n + 1, t => match P.underlying t with
    | some .bool => some (.prim 0)
    | some (.int _) => some (.prim 1)
    | some .string => some (.prim 2)
    | some (.pointer _) => some (.prim 3)
    | some (.slice _) => some (.prim 4)
    | some (.map _ _) => some (.prim 5)
    | some (.func _ _ _) => some (.prim 6)
    | some (.interface _) => some (.prim 7)
    | some (.struct fs) =>
      bif P.stoodInHeld t then none else
      (fs.toList.mapM fun (f : Field) => match cAgg P f.type, cEqTy n f.type with
        | some g, some e => bif f.name != "_" then some (g, f.offset, e) else none
        | _, _ => none).map .agg
    | _ => none
def cParts (places : Nat → Option (Nat × Nat)) (parts : List (Nat × Operand)) : Option (List (Nat × Nat × Opd)) :=
  parts.mapM fun p => match places p.1, cOpd G p.2 with
    | some (o, s), some x => some (o, s, x)
    | _, _ => none
/-- A key's type: 0 truths, 1 strings, 2 whole numbers. -/
def cKey (t : TypeId) : Option Nat :=
  match P.underlying t with
  | some .bool => some 0
  | some .string => some 1
  | some (.int _) => some 2
  | _ => none
def uSlice0 (t : TypeId) : Option TypeId := match P.underlying t with | some (.slice e) => some e | _ => none
def srcOk (t : TypeId) : Bool := match P.underlying t with | some (.slice _) | some .string => true | _ => false
def cBuiltin (b : Builtin) (argTypes : List TypeId) (args : List Opd) : Option IOp :=
  match b, argTypes, args with
  | .len, [t], [x] => match P.underlying t with
    | some .string => some (.lenstr x)
    | some (.slice _) => some (.len x)
    | some (.array n _) => some (.lenarr n)
    | some (.map _ _) => some (.lenmap x)
    | _ => none
  | .cap, [t], [x] => match P.underlying t with
    | some (.slice _) => some (.cap x)
    | _ => none
  | .max, _, args => some (.max args)
  | .min, _, args => some (.min args)
  | .append, [t, u], [s, x] => (uSlice0 P t).bind fun e => (bif srcOk P u then some () else none).bind fun _ => (P.info? e).bind fun i => (cZeros P e).bind fun z =>
      (bif z.length.beq i.size then some () else none).bind fun _ => bif i.bytes.ble 65536 then some (.append e i.size i.bytes s x) else none
  | .copy, [t, _], [d, s] => match P.underlying t with
    | some (.slice e) => match cSize P e with
      | some n => some (.copy n d s)
      | none => none
    | _ => none
  | .delete, [t, _], [m, k] => match P.underlying t with
    | some (.map kt _) => (cKey P kt).map fun c => .delete c m k
    | _ => none
  | _, _, _ => none
def uSlice (t : TypeId) : Option TypeId := match P.underlying t with | some (.slice e) => some e | _ => none
def uArray (t : TypeId) : Option (Nat × TypeId) := match P.underlying t with | some (.array n e) => some (n, e) | _ => none
def uStruct (t : TypeId) : Option (Array Field) := match P.underlying t with | some (.struct fs) => some fs | _ => none
def uMap (t : TypeId) : Option (TypeId × TypeId) := match P.underlying t with | some (.map k e) => some (k, e) | _ => none
def uString (t : TypeId) : Option Unit := match P.underlying t with | some .string => some () | _ => none
def uInt (t : TypeId) : Option IntKind := match P.underlying t with | some (.int k) => some k | _ => none
def uIface (t : TypeId) : Option Unit := match P.underlying t with | some (.interface _) => some () | _ => none
def uOther (t : TypeId) : Option Unit := match P.underlying t with | some (.interface _) => none | some _ => some () | none => none
def must (b : Bool) : Option Unit := bif b then some () else none
def cEq (neg : Bool) (t : TypeId) (x y : Opd) : Option IOp :=
  bif P.eqGuardType P.depth t then (uIface P t).map fun _ => .eq neg (.prim 7) x y else (cEqTy P 20 t).map fun e => .eq neg e x y
/-- The first way that is not none. -/
def or1 (x y : Option IOp) : Option IOp := match x with | some r => some r | none => y
def cOp (o : Oper) : Option IOp :=
  match o.op with
  | .move x => (cOpd G x).map .mov
  | .assign x => (cOpd G x).map .mov
  | .pick c a b => (cOpd G c).bind fun c => (cOpd G a).bind fun a => (cOpd G b).map fun b => .pick c a b
  | .alloc e => (cZeros P e).map (.alloc e)
  | .box e x => (cOpd G x).map (.box e)
  | .build t parts => (cZeros P t).bind fun z => or1
      ((uStruct P t).bind fun fs => (must (fs.toList.all fun f => (cSize P f.type).isSome)).bind fun _ => (cParts G (fun i => (fs[i]?).bind fun f => (cSize P f.type).map fun s => (f.offset, s)) parts.toList).map (.build z))
      ((uArray P t).bind fun q => (cSize P q.2).bind fun s => (cParts G (fun i => some (i * s, s)) parts.toList).map (.build z))
  | .buildSlice t len parts => (uSlice P t).bind fun e => (cSize P e).bind fun s => (cZeros P e).bind fun z => (parts.toList.mapM (fun p => (cOpd G p.2).map fun x => (p.1, x))).bind fun ps =>
      (must (z.length.beq s)).bind fun _ => (must ((len * s).ble 16777216)).map fun _ => .bslice e s len z ps
  | .load t a => (cAgg P t).bind fun g => (cOpd G a).map fun a => .load g a
  | .store t a x => (cSize P t).bind fun s => (cOpd G a).bind fun a => (cOpd G x).map fun x => .store s a x
  | .nilCheck x => (cOpd G x).map .nilck
  | .binOp op t x y _ => (cOpd G x).bind fun x => (cOpd G y).bind fun y => match op with
      | .eql => cEq P false t x y
      | .neq => cEq P true t x y
      | op => some (.bin op x y)
  | .unOp op _ x => (cOpd G x).map (.un op)
  | .convert s d x => (cOpd G x).bind fun x => or1
      ((uOther P s).bind fun _ => (uInt P d).map fun k => .conv (.int k) x)
      (or1 ((uString P s).bind fun _ => (uString P d).map fun _ => .conv .same x)
      (or1 ((uString P s).bind fun _ => (uSlice P d).bind fun e => (uInt P e).bind fun k => (must ((kindNo k).beq 4)).map fun _ => .conv (.bytes e) x)
        ((uSlice P s).bind fun e => (uString P d).bind fun _ => (uInt P e).bind fun k => (must ((kindNo k).beq 4)).map fun _ => .conv .text x)))
  | .makeInterface t x => (uOther P t).bind fun _ => (cOpd G x).map (.iface t)
  | .makeFunc (.func f) a c => (cOpds G a.toList).bind fun a => (cOpds G c.toList).map fun c => .mkfn f a c
  | .makeMap t none => (uMap P t).map fun _ => .mkmap
  | .makeMap t (some (.const (.int _ _))) => (uMap P t).map fun _ => .mkmap
  | .makeSlice t l c => (uSlice P t).bind fun e => (P.info? e).bind fun i => (cZeros P e).bind fun z => (cOpd G l).bind fun l => (cOpd G c).bind fun c =>
      (must (z.length.beq i.size)).bind fun _ => (must (i.bytes.ble 65536)).map fun _ => .mkslice e i.size z l c
  | .slice t x lo hi mx => (must (!(mx.isSome && hi.isNone))).bind fun _ => (cOpd G x).bind fun x => (cOpt G lo).bind fun lo => (cOpt G hi).bind fun hi => (cOpt G mx).bind fun mx => or1
      ((uArray P t).bind fun q => (cSize P q.2).map fun s => .slarr q.1 s x lo hi mx)
      (or1 ((uSlice P t).bind fun e => (cSize P e).map fun s => .slsl s x lo hi mx)
        ((uString P t).bind fun _ => (must mx.isNone).map fun _ => .slstr x lo hi))
  | .fieldAddr s x f => (uStruct P s).bind fun fs => (cOpd G x).bind fun x => (fs[f]?).bind fun f => (cSize P f.type).bind fun s => (must (Nat.ble 1 s)).map fun _ => .faddr f.offset x
  | .field s x f => (uStruct P s).bind fun fs => (cOpd G x).bind fun x => (fs[f]?).bind fun f => (cAgg P f.type).map fun g => .fld g f.offset x
  | .indexAddr t x i => (cOpd G x).bind fun x => (cOpd G i).bind fun i => or1
      ((uSlice P t).bind fun e => (cSize P e).map fun s => .iaddr s x i)
      ((uArray P t).bind fun q => (cSize P q.2).map fun s => .iaddrArr q.1 s x i)
  | .index t x i => (cOpd G x).bind fun x => (cOpd G i).bind fun i => or1
      ((uString P t).map fun _ => .idxstr x i)
      ((uArray P t).bind fun q => (cSize P q.2).bind fun s => (cAgg P q.2).map fun g => .idxagg q.1 s g x i)
  | .lookup t m k ok => (uMap P t).bind fun q => (cKey P q.1).bind fun c => (cZero P q.2).bind fun z => (cOpd G m).bind fun m => (cOpd G k).map fun k => .lookup c z ok m k
  | .mapUpdate t m k x => (uMap P t).bind fun q => (cKey P q.1).bind fun c => (cOpd G m).bind fun m => (cOpd G k).bind fun k => (cOpd G x).map fun x => .mapupd c m k x
  | .insert t m k x => (uMap P t).bind fun q => (cKey P q.1).bind fun c => (cOpd G m).bind fun m => (cOpd G k).bind fun k => (cOpd G x).map fun x => .mapupd c m k x
  | .typeAssert x _ t false => (uOther P t).bind fun _ => (cOpd G x).map (.tassert t)
  | .extract x i => (cOpd G x).map fun x => .extract x i
  | .call c => (cOpds G c.args.toList).bind fun a => match c.callee with
    | .builtin b => cBuiltin P b c.argTypes.toList a
    | _ => none
  | _ => none
def cXOp (o : Oper) : Option XOp :=
  match o.op with
  | .call ⟨.value f, xs, _⟩ => (cOpds G xs.toList).bind fun a => (cOpd G f).map fun f => .call f a
  | .defer ⟨.value f, xs, _⟩ => (cOpds G xs.toList).bind fun a => (cOpd G f).map fun f => .defer f a
  | .panic x => (cOpd G x).map .panic
  | _ => (cOp P G o).map .val

def dstOk (n : Nat) : Option Nat → Bool
  | some d => Nat.ble (d + 1) n
  | none => true
def cOper (n : Nat) (ops : Array Oper) (o : Oper) : Option IOper :=
  match cXOp P G o with
  | none => none
  | some op => bif dstOk n o.dst then
      match o.guard with
      | none => some ⟨o.dst, op, none⟩
      | some (j, w) => match (ops[j]?).bind (·.dst) with
        | some t => some ⟨o.dst, op, some (t, w)⟩
        | none => none
    else none
/-- Which operations must stand ahead of each one: of all edges that bind in every order. -/
def plainEdge (e : Edge) : Bool := match e.ground with | .textOnly _ | .gcOnly _ => false | _ => true
def befores : List Oper → List (List Nat) → List (List Nat)
  | [], acc => acc
  | o :: r, acc => befores r (acc ++ [(o.after.toList.filter plainEdge).flatMap fun e => e.on :: acc.getD e.on []])
/-- The same, as numbers' bits. -/
def maskOf (accm : List Nat) : List Edge → Nat
  | [] => 0
  | e :: r => bif plainEdge e then (2 ^ e.on ||| accm.getD e.on 0) ||| maskOf accm r else maskOf accm r
def masks : List Oper → List Nat → List Nat
  | [], acc => acc
  | o :: r, acc => masks r (acc ++ [maskOf acc o.after.toList])
def named (o : IOper) : List Nat :=
  o.dst.toList ++ tmpsOf (xopds o.op) ++ (match o.guard with | some (t, _) => [t] | none => [])
/-- All edges that bind go back. -/
def goDown : List Oper → Nat → Bool
  | [], _ => true
  | o :: r, i => (o.after.toList.all fun e => !plainEdge e || Nat.ble (e.on + 1) i) && goDown r (i + 1)
def pairs (n : Nat) : List (Nat × Nat) := (List.range n).flatMap fun j => (List.range j).map fun i => (i, j)
/-- Pairs of a load and an operation that acts, of which neither need be first; none: an order is open that matters. -/
def drawPairs (ops : List Oper) (is : List IOper) : Option (List (Nat × Nat)) :=
  let msk := masks ops []
  let open_ := (pairs is.length).filter fun (i, j) => !(msk.getD j 0).testBit i
  let at_ (i : Nat) : Nat := ((is[i]?).map fun o => sort o.op).getD 3
  let nm (i : Nat) : List Nat := ((is[i]?).map named).getD []
  let dst (i : Nat) : Option Nat := (is[i]?).bind (·.dst)
  bif goDown ops 0 && open_.all fun (i, j) => !(at_ i == 3 && at_ j == 3) &&
      (match dst i with | some t => !(nm j).contains t | none => true) && (match dst j with | some t => !(nm i).contains t | none => true)
  then some (open_.flatMap fun (i, j) => bif at_ i == 2 && at_ j == 3 then [(i, j)] else bif at_ i == 3 && at_ j == 2 then [(j, i)] else [])
  else none
def cCode (n : Nat) : Code → Option ICode
  | .skip => some .skip
  | .region _ ops false => (ops.toList.mapM (cOper P G n ops)).map .region
  | .region _ ops true => match ops.toList.mapM (cOper P G n ops) with
    | some is => (drawPairs ops.toList is).map (.draw is)
    | none => none
  | .seq a b => match cCode n a, cCode n b with
    | some a, some b => some (.seq a b)
    | _, _ => none
  | .cond c a b => match cOpd G c, cCode n a, cCode n b with
    | some c, some a, some b => some (.cond c a b)
    | _, _, _ => none
  | .block id a => (cCode n a).map (.block id)
  | .loop a => (cCode n a).map .loop
  | .exit id => some (.exit id)
  | .ret => some .ret
  | .scope a => cCode n a
  | .label _ => some .skip
  | _ => none
def cRes : ResultVar → Option IRes
  | .tmp t => some (.tmp t)
  | .cell a t => (cAgg P t).map (.cell a)
def cFun (f : Func) : Option IFun :=
  match f.body with
  | none => none
  | some c => bif f.name == "runtime.NumGoroutine" then none else match cCode P G f.ntmps c, f.results.toList.mapM (cRes P) with
    | some b, some r => some ⟨f.ntmps, b, r⟩
    | _, _ => none
end

/-! ### Why a function is not taken (for the one who looks) -/
def noOps (P : Program) (G : List Nat) (n : Nat) : Code → List String
  | .region _ ops d => (ops.toList.filter fun o => (cOper P G n ops o).isNone).map (fun o => o.pos ++ " op") ++
      (match ops.toList.mapM (cOper P G n ops) with | some is => if d && (drawPairs ops.toList is).isNone then ["an open order " ++ ((ops[0]?).map (·.pos)).getD ""] else [] | none => [])
  | .seq a b | .cond _ a b => noOps P G n a ++ noOps P G n b
  | .block _ a | .loop a | .scope a => noOps P G n a
  | .skip | .exit _ | .ret | .label _ => []
  | .goto _ => ["goto"]
  | .rangeFunc .. => ["rangeFunc"]
  | .refuse w => ["refuse " ++ w]
end Go.Proofs.Ythlbifjgnhdonaa.Ev
