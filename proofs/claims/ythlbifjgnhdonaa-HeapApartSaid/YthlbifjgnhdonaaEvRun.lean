/- The evaluator's code: regions, control, calls. Definitions, and: more fuel gives the same. -/
import Derived.Test.YthlbifjgnhdonaaEvCore
namespace Go.Proofs.Ythlbifjgnhdonaa.Ev
open Go

inductive Fin where
  | ret (v : EV) (m : Mem)
  | pan (v : EV) (m : Mem)
inductive Out where
  | norm (fr : Fr) (m : Mem)
  | exit (id : Nat) (fr : Fr) (m : Mem)
  | ret (fr : Fr) (m : Mem)
  | pan (v : EV) (fr : Fr) (m : Mem)
abbrev Call := Nat → List EV → Mem → Option Fin

def wantedE (fr : Fr) : Option (Nat × Bool) → Option Bool
  | none => some true
  | some (t, w) => match fr.get t with
    | .bool b => some (b == w)
    | .undef => some false
    | _ => none
/-- A function value's call. -/
def evCall (call : Call) (f : EV) (args : List EV) (m : Mem) : Option Fin :=
  match f with
  | .func g a c => call g (a ++ args ++ c) m
  | _ => none
/-- Operations, one behind the other. -/
def evOps (call : Call) : List IOper → Fr → Mem → Option Out
  | [], fr, m => some (.norm fr m)
  | o :: r, fr, m =>
    match wantedE fr o.guard with
    | some true => match o.op with
      | .val op => match evOp fr.eval op m with
        | some (.val v m) => evOps call r (fr.put o.dst v) m
        | none => none
      | .call f args => match evCall call (fr.eval f) (args.map fr.eval) m with
        | some (.ret v m) => evOps call r (fr.put o.dst v) m
        | some (.pan v m) => some (.pan v fr m)
        | none => none
      | .panic x => match fr.eval x with
        | .iface t v => some (.pan (.iface t v) fr m)
        | _ => none
      | .defer f args => match fr.eval f with
        | .func g x y => evOps call r (Fr.put ⟨fr.tmps, (g, x ++ args.map fr.eval ++ y) :: fr.defers⟩ o.dst .undef) m
        | _ => none
    | some false => evOps call r (fr.put o.dst .undef) m
    | none => none

/-- A load that was made: which operation, what kind, where, what. -/
structure Seen where
  i : Nat
  agg : Option Nat
  a : EV
  v : EV
def hasPair (i j : Nat) : List (Nat × Nat) → Bool
  | [] => false
  | (a, b) :: r => bif a.beq i then bif b.beq j then true else hasPair i j r else hasPair i j r
def Mem.stands (m : Mem) (agg : Option Nat) (a v : EV) : Bool :=
  match m.load agg a with
  | some x => EV.same x v
  | none => false
/-- All loads that may as well be made behind operation j still tell the same. -/
def checkSeen (chk : List (Nat × Nat)) (j : Nat) (m : Mem) : List Seen → Bool
  | [] => true
  | s :: r => bif hasPair s.i j chk then (bif m.stands s.agg s.a s.v then checkSeen chk j m r else false) else checkSeen chk j m r
/-- A load that may as well be made ahead of what acted before tells the same there. -/
def checkSnap (chk : List (Nat × Nat)) (i : Nat) (agg : Option Nat) (a v : EV) : List (Nat × Mem) → Bool
  | [] => true
  | (j, m) :: r => bif hasPair i j chk then (bif m.stands agg a v then checkSnap chk i agg a v r else false) else checkSnap chk i agg a v r
def evDraw (call : Call) (chk : List (Nat × Nat)) (B0 : Nat) : List IOper → Nat → Fr → Mem → List (Nat × Mem) → List Seen → Option Out
  | [], _, fr, m, _, _ => some (.norm fr m)
  | o :: r, i, fr, m, snaps, seen =>
    match wantedE fr o.guard with
    | some true => match o.op with
      | .val op => match srt op with
        | 0 => match evOp fr.eval op m with
          | some (.val v _) => evDraw call chk B0 r (i + 1) (fr.put o.dst v) m snaps seen
          | none => none
        | 1 => match evOp fr.eval op ⟨B0 + i, m.tbl⟩ with
          | some (.val v m1) => evDraw call chk B0 r (i + 1) (fr.put o.dst v) ⟨m.next, m1.tbl⟩ snaps seen
          | none => none
        | 2 => match op with
          | .load agg a => match m.load agg (fr.eval a) with
            | some v => bif checkSnap chk i agg (fr.eval a) v snaps then
                evDraw call chk B0 r (i + 1) (fr.put o.dst v) m snaps (⟨i, agg, fr.eval a, v⟩ :: seen) else none
            | none => none
          | _ => none
        | _ => match evOp fr.eval op m with
          | some (.val v m') => bif checkSeen chk i m' seen then evDraw call chk B0 r (i + 1) (fr.put o.dst v) m' ((i, m) :: snaps) seen else none
          | none => none
      | .call f args => match evCall call (fr.eval f) (args.map fr.eval) m with
        | some (.ret v m') => bif checkSeen chk i m' seen then evDraw call chk B0 r (i + 1) (fr.put o.dst v) m' ((i, m) :: snaps) seen else none
        | _ => none
      | _ => none
    | some false => evDraw call chk B0 r (i + 1) (fr.put o.dst .undef) m snaps seen
    | none => none

def iter (body : Fr → Mem → Option Out) : Nat → Fr → Mem → Option Out
  | 0, _, _ => none
  | n + 1, fr, m => match body fr m with
    | some (.norm fr m) => iter body n fr m
    | o => o
def evCode (call : Call) (n : Nat) : ICode → Fr → Mem → Option Out
  | .skip, fr, m => some (.norm fr m)
  | .region ops, fr, m => evOps call ops fr m
  | .draw ops chk, fr, m => evDraw call chk m.next ops 0 fr ⟨m.next + ops.length, m.tbl⟩ [] []
  | .seq a b, fr, m => match evCode call n a fr m with
    | some (.norm fr m) => evCode call n b fr m
    | o => o
  | .cond c a b, fr, m => match fr.eval c with
    | .bool t => bif t then evCode call n a fr m else evCode call n b fr m
    | _ => none
  | .block id a, fr, m => match evCode call n a fr m with
    | some (.exit j fr m) => bif j.beq id then some (.norm fr m) else some (.exit j fr m)
    | o => o
  | .loop a, fr, m => iter (evCode call n a) n fr m
  | .exit id, fr, m => some (.exit id fr m)
  | .ret, fr, m => some (.ret fr m)

def evRes (fr : Fr) (m : Mem) : IRes → Option EV
  | .tmp t => some (fr.get t)
  | .cell t agg => m.load agg (fr.get t)
def evResults (fr : Fr) (m : Mem) : List IRes → Option (List EV)
  | [] => some []
  | r :: rs => match evRes fr m r with
    | some v => (evResults fr m rs).map (v :: ·)
    | none => none
def one (vs : List EV) : EV := match vs with | [v] => v | vs => .tuple vs
def args0 : List EV → Nat → Tr EV → Tr EV
  | [], _, t => t
  | v :: r, i, t => args0 r (i + 1) (t.set i v)
inductive Ent where
  | go (F : IFun)
  | ext (g : List EV → Option EV)
  | pure (g : List EV → Option EV)   -- its blocks are its own, and are forgotten
  | spec (g : List EV → Mem → Option Fin)   -- as it is known to be
def evBody (call : Call) (n : Nat) (F : IFun) (args : List EV) (m : Mem) : Option Fin :=
  bif args.length.ble F.ntmps then match evCode call n F.body ⟨args0 args 0 .leaf, []⟩ m with
  | some (.norm fr m) => match fr.defers with
    | [] => (evResults fr m F.results).map fun vs => .ret (one vs) m
    | _ => none
  | some (.ret fr m) => match fr.defers with
    | [] => (evResults fr m F.results).map fun vs => .ret (one vs) m
    | _ => none
  | some (.pan v fr m) => match fr.defers with
    | [] => some (.pan v m)
    | _ => none
  | _ => none
  else none
def evEnt (call : Call) (n : Nat) (e : Ent) (args : List EV) (m : Mem) : Option Fin :=
  match e with
  | .go F => evBody call n F args m
  | .ext g => (g args).map fun v => .ret v m
  | .pure g => (g args).map fun v => .ret v m
  | .spec g => g args m
def evFun (T : Nat → Option Ent) : Nat → Call
  | 0, _, _, _ => none
  | n + 1, f, args, m => match T f with
    | some e => evEnt (evFun T n) n e args m
    | none => none

end Go.Proofs.Ythlbifjgnhdonaa.Ev
