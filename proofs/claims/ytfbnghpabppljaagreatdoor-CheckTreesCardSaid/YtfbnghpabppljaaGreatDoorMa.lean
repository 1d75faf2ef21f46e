/- EvGlo, EvGl, EvTab, EvCore, EvRun, EvComp, EvRel, EvMem, EvOpA, EvOpB, EvOpC, EvOpD, EvOpE, EvOpF. -/
import Derived.KernelRfl
import GoSem.Dispatch
import Derived.Calls
import Derived.Laws.Sem
import Derived.Laws.World
import Derived.Laws.Entries
set_option linter.unusedSimpArgs false
set_option linter.unusedVariables false
set_option linter.unusedSectionVars false
set_option linter.defProp false
set_option maxRecDepth 20000
set_option maxHeartbeats 8000000
namespace Go.Proofs.YtfbnghpabppljaaGreatDoor.Ev
open Go
abbrev bQ:= @Option.some.injEq
abbrev mH:= @Option.map_eq_some_iff
abbrev jE:= @List.getElem?_eq_getElem
abbrev sY:= @Prod.mk.injEq
abbrev mu:= @List.getElem?_eq_some_iff
abbrev w6:= @List.length_append
abbrev cR:= @Nat.le_refl
abbrev cQ:= @Nat.lt_of_lt_of_le
abbrev rI:= @Nat.le_of_ble_eq_true
abbrev nZ:= @Nat.zero_le
abbrev rF:= @Bool.false_eq_true
abbrev rC:= @Bool.and_eq_true
abbrev zqm:= @Option.some.inj
abbrev vt:= @Classical.byContradiction
abbrev rB:= @List.getElem?_append_left
abbrev yy:= @List.getElem?_append_right
abbrev Ah:= @List.mem_cons_of_mem
abbrev OZ:= @List.length_drop
abbrev IA:= @List.mem_singleton
abbrev qn:= @List.mem_cons
abbrev ji:= @Nat.le_trans
abbrev uP:= @List.take_of_length_le
abbrev Ag:= @List.mem_append
abbrev oX:= @List.getElem_mem
abbrev sx:= @Nat.ble_eq_true_of_le
section
def AW:List (Nat×List (List UInt8))->Nat->Option (List (List UInt8))
 |[],_=>none
 |(g,l)::r,b=>if b=g then some l else AW r b
def tabIn:List (Nat×List Int)->Nat->Option (List Int)
 |[],_=>none
 |(g,l)::r,b=>if b=g then some l else tabIn r b
end
section
def L_tree_words:List (List UInt8):=[[102,110],[118,97,114],[105,102],[101,108,115,101],[119,104,105,108,101],[102,111,114],[98,114,101,97,107],[99,111,110,116,105,110,117,101],[114,101,116,117,114,110],[112,114,105,110,116],[108,101,110],[110,101,119],[116,114,117,101],[102,97,108,115,101],[110,105,108],[105,110,116],[98,111,111,108],[97,114,114]]
def globs:List (Nat×List (List UInt8)):=[(0,L_tree_words)]
def xW(b:Nat):Option (List (List UInt8)):=AW globs b
def af4:List (Nat×List Int):=[]
def tabl(b:Nat):Option (List Int):=tabIn af4 b
end
section
theorem jC{a b:Nat}(h:a≠b):a.beq b=false:=by
 cases e:a.beq b
 ·rfl
 ·exact absurd (Nat.eq_of_beq_eq_true e) h
theorem bf{a b:Nat}(h:a.beq b=true):a=b:=Nat.eq_of_beq_eq_true h
theorem my{a b:Nat}(h:a.beq b=false):a≠b:=by
 rintro rfl;rw[Nat.beq_refl]at h;cases h
theorem dN(a:Nat):a.beq a=true:=Nat.beq_refl a
def rQ:Nat->Nat->List Bool
 |0,_=>[]
 |f+1,k=>bif k.beq 0 then[]else bif (k % 2).beq 1 then true::rQ f (k/2)else false::rQ f (k/2- 1)
def path(k:Nat):List Bool:=rQ k k
theorem Jo:∀(f g k l:Nat),k<=f->l<=g->rQ f k=rQ g l->k=l:=by
 intro f
 induction f with
 |zero=>
  intro g k l hk hl h;obtain rfl:k=0:=by omega
  cases g with
  |zero=>omega
  |succ g=>
   simp only[rQ]at h;by_cases e:l=0
   ·exact e.symm
   ·have e1:l.beq 0=false:=jC e;rw[e1]at h;cases e2:(l % 2).beq 1<;>simp[e2]at h
 |succ f ih=>
  intro g k l hk hl h;cases g with
  |zero=>
   obtain rfl:l=0:=by omega
   simp only[rQ]at h;by_cases e:k=0
   ·exact e
   ·have e1:k.beq 0=false:=jC e;rw[e1]at h;cases e2:(k % 2).beq 1<;>simp[e2]at h
  |succ g=>
   simp only[rQ]at h;by_cases e:k=0
   ·by_cases e':l=0
    ·omega
    ·have e1:l.beq 0=false:=jC e';rw[e1]at h;subst e;cases e2:(l % 2).beq 1<;>simp[e2]at h
   ·have e1:k.beq 0=false:=jC e;rw[e1]at h;by_cases e':l=0
    ·subst e';cases e2:(k % 2).beq 1<;>simp[e2]at h
    ·have e1':l.beq 0=false:=jC e';rw[e1']at h;cases e2:(k % 2).beq 1<;>cases e2':(l % 2).beq 1<;>simp[e2,e2']at h
     ·have:=my e2;have:=my e2';have:=ih g _ _ (by omega) (by omega) h;omega
     ·have:=bf e2;have:=bf e2';have:=ih g _ _ (by omega) (by omega) h;omega
theorem Jn{k l:Nat}(h:path k=path l):k=l:=Jo _ _ _ _ (cR _) (cR _) h
inductive Tr(α:Type) where
 |leaf
 |node (v:Option α) (l r:Tr α)
def Tr.at{α:Type}:Tr α->List Bool->Option α
 | .leaf,_=>none
 | .node v _ _,[]=>v
 | .node _ l r,b::p=>bif b then r.at p else l.at p
def Tr.put{α:Type}(x:α):List Bool->Tr α->Tr α
 |[],.leaf=>.node (some x) .leaf .leaf
 |[],.node _ l r=>.node (some x) l r
 |b::p,.leaf=>bif b then .node none .leaf (Tr.put x p .leaf)else .node none (Tr.put x p .leaf) .leaf
 |b::p,.node v l r=>bif b then .node v l (Tr.put x p r)else .node v (Tr.put x p l) r
theorem Tr.Lr{α:Type}(x:α)(p:List Bool):∀t:Tr α,(t.put x p).at p=some x:=by
 induction p with
 |nil=>intro t;cases t<;>rfl
 |cons b p ih=>intro t;cases t<;>cases b<;>simp[Tr.put,Tr.at,ih]
theorem Tr.Tk{α:Type}(x:α)(p:List Bool):∀(q:List Bool) (t:Tr α),p≠q->(t.put x p).at q=t.at q:=by
 induction p with
 |nil=>
  intro q t h;cases q with
  |nil=>exact absurd rfl h
  |cons c q=>cases t<;>cases c<;>simp[Tr.put,Tr.at]
 |cons b p ih=>
  intro q t h;cases q with
  |nil=>cases t<;>cases b<;>simp[Tr.put,Tr.at]
  |cons c q=>
   cases t<;>cases b<;>cases c<;>simp[Tr.put,Tr.at]<;>(first|(rw[ih _ _ (fun e=>h (by rw[e]))];try rfl)|skip)
def Tr.get{α:Type}(t:Tr α)(k:Nat):Option α:=t.at (path k)
def Tr.set{α:Type}(t:Tr α)(k:Nat)(x:α):Tr α:=t.put x (path k)
theorem Tr.ct{α:Type}(t:Tr α)(k l:Nat)(x:α):(t.set k x).get l=if l=k then some x else t.get l:=by
 unfold Tr.get Tr.set;by_cases h:l=k
 ·subst h;rw[if_pos rfl,Tr.Lr]
 ·rw[if_neg h,Tr.Tk _ _ _ _ (fun e=>h (Jn e).symm)]
theorem Tr.zy{α:Type}(k:Nat):(Tr.leaf:Tr α).get k=none:=by
 unfold Tr.get;cases path k<;>rfl
end
section
inductive EV where
 |undef
 |bool (b:Bool)
 |int (k:IntKind) (n:Int)
 |str (s:List UInt8)
 |bM
 |ptr (b off:Nat)
 |aa
 |slice (b off len:Nat) (cap:Option Nat)
 |bN
 |map (b:Nat)
 |bS
 |func (f:Nat) (first captured:List EV)
 |aP
 |iface (t:Nat) (v:EV)
 |agg (cs:List EV)
 |tuple (vs:List EV)
 |fz (t esz:Nat) (els:List (List EV))   -- a row T8 stays fw it is:with its elements (t:af0 one;0:not told)
 |gu (esz:Nat) (els:List (List EV)) (i k:Nat)   -- a cell of asR a row:akj i,cell k
def yL:Option Nat->Option Nat->Bool
 |none,none=>true
 |some a,some b=>a.beq b
 |_,_=>false
def mw:List UInt8->List UInt8->Bool
 |[],[]=>true
 |a::x,b::y=>bif a.toNat.beq b.toNat then mw x y else false
 |_,_=>false
def uj:Int->Int->Bool
 | .ofNat a,.ofNat b=>a.beq b
 | .negSucc a,.negSucc b=>a.beq b
 |_,_=>false
def cx:IntKind->Nat
 | .i8=>0| .i16=>1| .i32=>2| .i64=>3| .u8=>4| .u16=>5| .u32=>6| .u64=>7
mutual
def EV.same:EV->EV->Bool
 | .undef,.undef| .bM,.bM| .aa,.aa| .bN,.bN| .bS,.bS| .aP,.aP=>true
 | .bool a,.bool b=>a==b
 | .int k a,.int l b=>bif (cx k).beq (cx l)then uj a b else false
 | .str a,.str b=>mw a b
 | .ptr a i,.ptr b j=>bif a.beq b then i.beq j else false
 | .slice a i n c,.slice b j m d=>bif a.beq b then bif i.beq j then bif n.beq m then yL c d else false else false else false
 | .map a,.map b=>a.beq b
 | .func f a c,.func g b d=>bif f.beq g then bif EV.oV a b then EV.oV c d else false else false
 | .iface t v,.iface u w=>bif t.beq u then EV.same v w else false
 | .agg a,.agg b=>EV.oV a b
 | .tuple a,.tuple b=>EV.oV a b
 | .fz t e a,.fz u f b=>bif t.beq 0 then false else bif t.beq u then bif e.beq f then EV.sy a b else false else false
 |_,_=>false
def EV.oV:List EV->List EV->Bool
 |[],[]=>true
 |a::x,b::y=>bif EV.same a b then EV.oV x y else false
 |_,_=>false
def EV.sy:List (List EV)->List (List EV)->Bool
 |[],[]=>true
 |a::x,b::y=>bif EV.oV a b then EV.sy x y else false
 |_,_=>false
end
inductive bX where
 |dead
 |cells (cs:List EV) (esz:Nat) (elem:Nat) (ro:Bool)
 |map (es:List (EV×EV))
structure Mem where
 next:Nat
 ja:Tr bX
def Mem.get(m:Mem)(b:Nat):bX:=(m.ja.get b).getD .dead
def Mem.set(m:Mem)(b:Nat)(x:bX):Mem:=⟨m.next,m.ja.set b x⟩
def Mem.new(m:Mem)(x:bX):Mem:=⟨m.next+1,m.ja.set m.next x⟩
def EV.cells:EV->Option (List EV)
 | .undef| .tuple _=>none
 | .agg cs=>some cs
 |v=>some [v]
def partOf(agg:Option Nat)(cs:List EV)(off:Nat):Option EV:=
 match agg with
 |none=>cs[off]?
 |some n=>bif (off+n).ble cs.length then some (.agg ((cs.drop off).take n))else none
def kW(cs:List EV)(off:Nat)(vs:List EV):Option (List EV):=
 bif (off+vs.length).ble cs.length then some (cs.take off++vs++cs.drop (off+vs.length))else none
def Mem.load(m:Mem)(agg:Option Nat):EV->Option EV
 | .ptr b off=>match m.get b with
  | .cells cs _ _ _=>partOf agg cs off
  |_=>none
 | .gu _ els i k=>match els[i]? with
  |some el=>partOf agg el k
  |none=>none
 |_=>none
def Mem.E6(m:Mem)(b off n:Nat):Option (List EV):=
 match m.get b with
 | .cells cs _ _ _=>bif (off+n).ble cs.length then some ((cs.drop off).take n)else none
 |_=>none
def Mem.row(m:Mem)(b off n:Nat):Option (List EV):=bif n.beq 0 then some []else m.E6 b off n
theorem Mem.qz{m:Mem}{b off n:Nat}(h:n≠0):m.row b off n=m.E6 b off n:=by unfold Mem.row;rw[jC h];rfl
theorem Mem.od{m:Mem}{b off:Nat}:m.row b off 0=some []:=rfl
def Mem.write(m:Mem)(b off:Nat)(vs:List EV):Option Mem:=
 match m.get b with
 | .cells cs esz elem ro=>bif ro then none else(kW cs off vs).map fun cs=>m.set b (.cells cs esz elem ro)
 |_=>none
def Mem.store(m:Mem)(size:Nat)(a x:EV):Option Mem:=
 match a,x.cells with
 | .ptr b off,some vs=>bif vs.length.beq size then m.write b off vs else none
 |_,_=>none
inductive bm where
 |tmp (t:Nat)
 |const (v:EV)
inductive ua where
 |bG (k:Nat)   -- 0 aqw,1 whole number,2 string,3 pointer,4 slice,5 map,6 aiu,7 interface
 |agg (fields:List (Option Nat×Nat×ua))
inductive Cv where
 |int (k:IntKind)
 |same
 |bytes (elem:Nat)
 |text
inductive oa where
 |tA (x:bm)
 |pick (c a b:bm)
 |alloc (elem:Nat) (zero:List EV)
 |box (elem:Nat) (x:bm)
 |build (zero:List EV) (parts:List (Nat×Nat×bm))
 |aG (elem esz len:Nat) (zero:List EV) (parts:List (Nat×bm))
 |load (agg:Option Nat) (a:bm)
 |store (size:Nat) (a x:bm)
 |lU (x:bm)
 |bin (op:BinOp) (x y:bm)
 |eq (neg:Bool) (t:ua) (x y:bm)
 |un (op:UnOp) (x:bm)
 |conv (c:Cv) (x:bm)
 |iface (t:Nat) (x:bm)
 |AJ (f:Nat) (first captured:List bm)
 |uR
 |jI (elem esz:Nat) (zero:List EV) (len cap:bm)
 |ob (x:bm) (lo hi:Option bm)
 |pE (esz:Nat) (x:bm) (lo hi max:Option bm)
 |xp (n esz:Nat) (x:bm) (lo hi max:Option bm)
 |xA (off:Nat) (x:bm)
 |CC (agg:Option Nat) (off:Nat) (x:bm)
 |eZ (esz:Nat) (x i:bm)
 |oC (n esz:Nat) (x i:bm)
 |kB (x i:bm)
 |vU (n esz:Nat) (agg:Option Nat) (x i:bm)
 |lookup (kt:Nat) (zero:EV) (ok:Bool) (m k:bm)
 |pi (kt:Nat) (m k x:bm)
 |delete (kt:Nat) (m k:bm)
 |sG (m:bm)
 |rN (t:Nat) (x:bm)
 |extract (x:bm) (i:Nat)
 |len (x:bm)
 |gj (x:bm)
 |vS (n:Nat)
 |cap (x:bm)
 |max (args:List bm)
 |min (args:List bm)
 |append (elem esz bytes:Nat) (s x:bm)
 |copy (esz:Nat) (d s:bm)
inductive Aj where
 |val (op:oa)
 |call (f:bm) (args:List bm)
 |panic (x:bm)
 |defer (f:bm) (args:List bm)
def dG:oa->Nat
 | .alloc _ _| .box _ _| .aG _ _ _ _ _| .uR| .jI _ _ _ _ _| .conv (.bytes _) _=>1
 | .load _ _=>2
 | .store _ _ _| .conv .text _| .lookup _ _ _ _ _| .pi _ _ _ _| .delete _ _ _| .sG _| .append _ _ _ _ _| .copy _ _ _| .pE _ _ _ _ _=>3
 |_=>0
def sort:Aj->Nat
 | .val op=>dG op
 |_=>3
def Di:Option bm->List bm
 |none=>[]
 |some x=>[x]
def ku:oa->List bm
 | .tA x| .box _ x| .load _ x| .lU x| .un _ x| .conv _ x| .iface _ x| .xA _ x| .CC _ _ x| .sG x| .rN _ x| .extract x _| .len x| .gj x| .cap x=>[x]
 | .pick c a b=>[c,a,b]
 | .alloc _ _| .uR| .vS _=>[]
 | .build _ ps=>ps.map fun p=>p.2.2
 | .aG _ _ _ _ ps=>ps.map fun p=>p.2
 | .store _ a x| .bin _ a x| .eq _ _ a x| .jI _ _ _ a x| .eZ _ a x| .oC _ _ a x| .kB a x| .vU _ _ _ a x| .lookup _ _ _ a x| .delete _ a x| .append _ _ _ a x| .copy _ a x=>[a,x]
 | .AJ _ a c=>a++c
 | .ob x l h=>x::(Di l++Di h)
 | .pE _ x l h m| .xp _ _ x l h m=>x::(Di l++(Di h++Di m))
 | .pi _ m k x=>[m,k,x]
 | .max xs| .min xs=>xs
def qQ:Aj->List bm
 | .val op=>ku op
 | .call f xs| .defer f xs=>f::xs
 | .panic x=>[x]
def tmpsOf:List bm->List Nat
 |[]=>[]
 | .tmp t::r=>t::tmpsOf r
 | .const _::r=>tmpsOf r
structure bd where
 dst:Option Nat
 op:Aj
 guard:Option (Nat×Bool)   -- akn ae5,and what it ph be
inductive ar where
 |skip
 |region (ops:List bd)
 |draw (ops:List bd) (chk:List (Nat×Nat))
 |seq (a b:ar)
 |cond (c:bm) (a b:ar)
 |block (id:Nat) (a:ar)
 |loop (a:ar)
 |exit (id:Nat)
 |ret
inductive ns where
 |tmp (t:Nat)
 |cell (t:Nat) (agg:Option Nat)
structure aC where
 ntmps:Nat
 body:ar
 results:List ns
structure Fr where
 tmps:Tr EV
 defers:List (Nat×List EV)
def Fr.get(fr:Fr)(t:Nat):EV:=(fr.tmps.get t).getD .undef
def Fr.set(fr:Fr)(t:Nat)(v:EV):Fr:=⟨fr.tmps.set t v,fr.defers⟩
def Fr.put(fr:Fr)(d:Option Nat)(v:EV):Fr:=match d with|some t=>fr.set t v|none=>fr
def Fr.eval(fr:Fr):bm->EV
 | .tmp t=>fr.get t
 | .const v=>v
def sP(op:BinOp)(k:IntKind)(x y:Int):Option Int:=
 let a:=BitVec.ofInt k.bits x
 let b:=BitVec.ofInt k.bits y
 match op with
 | .and=>some (k.wrap (a&&&b).toNat)
 | .or=>some (k.wrap (a|||b).toNat)
 | .xor=>some (k.wrap (a^^^b).toNat)
 | .andNot=>some (k.wrap (a&&& ~~~b).toNat)
 |_=>none
def pU(op:BinOp)(k:IntKind)(x y:Int):Option EV:=
 match op with
 | .add=>some (.int k (k.wrap (x+y)))
 | .sub=>some (.int k (k.wrap (x- y)))
 | .mul=>some (.int k (k.wrap (x*y)))
 | .quo=>if y=0 then none else some (.int k (k.wrap (x.tdiv y)))
 | .rem=>if y=0 then none else some (.int k (x.tmod y))
 | .and| .or| .xor| .andNot=>(sP op k x y).map (.int k)
 | .eql=>some (.bool (decide (x=y)))
 | .neq=>some (.bool (!decide (x=y)))
 | .lss=>some (.bool (decide (x<y)))
 | .leq=>some (.bool (decide (x<=y)))
 | .gtr=>some (.bool (decide (y<x)))
 | .geq=>some (.bool (decide (y<=x)))
 | .shl| .shr=>none
def uJ(op:BinOp)(k:IntKind)(x y:Int):Option EV:=
 if y<0 then none else
 match op with
 | .shl=>some (.int k (k.wrap (x*2^min y.toNat k.bits)))
 | .shr=>some (.int k (x.fdiv (2^min y.toNat k.bits)))
 |_=>none
def eV(op:BinOp)(x y:EV):Option EV:=
 match x,y with
 | .int k a,.int l b=>match op with
  | .shl| .shr=>uJ op k a b
  |_=>bif (cx k).beq (cx l)then pU op k a b else none
 | .str a,.str b=>match op with
  | .add=>bif (a.length+b.length).ble 4294967296 then some (.str (a++b))else none
  | .eql=>some (.bool (mw a b))
  | .neq=>some (.bool (!mw a b))
  |_=>none
 |_,_=>none
def ew(t:Nat):EV->EV->Option Bool
 | .int k a,.int l b=>bif t.beq 1 then bif (cx k).beq (cx l)then some (decide (a=b))else none else none
 | .bool a,.bool b=>bif t.beq 0 then some (a==b)else none
 | .str a,.str b=>bif t.beq 2 then some (mw a b)else none
 | .bM,.bM=>bif t.beq 3 then some true else none
 | .bM,.ptr _ _| .ptr _ _,.bM=>bif t.beq 3 then some false else none
 | .aa,.aa=>bif t.beq 4 then some true else none
 | .aa,.slice _ _ _ _| .slice _ _ _ _,.aa=>bif t.beq 4 then some false else none
 | .aa,.fz _ _ _| .fz _ _ _,.aa=>bif t.beq 4 then some false else none
 | .bN,.bN=>bif t.beq 5 then some true else none
 | .bN,.map _| .map _,.bN=>bif t.beq 5 then some false else none
 | .bS,.bS=>bif t.beq 6 then some true else none
 | .bS,.func _ _ _| .func _ _ _,.bS=>bif t.beq 6 then some false else none
 | .aP,.iface _ _| .iface _ _,.aP=>bif t.beq 7 then some false else none
 |_,_=>none
mutual
def ft:ua->EV->EV->Option Bool
 | .bG t,x,y=>ew t x y
 | .agg fs,.agg a,.agg b=>rq fs a b
 |_,_,_=>none
def rq:List (Option Nat×Nat×ua)->List EV->List EV->Option Bool
 |[],_,_=>some true
 |(g,off,t)::r,a,b=>match partOf g a off,partOf g b off with
  |some x,some y=>match ft t x y with
   |some true=>rq r a b
   |o=>o
  |_,_=>none
end
def D6(op:UnOp)(x:EV):Option EV:=
 match op,x with
 | .neg,.int k n=>some (.int k (k.wrap (0- n)))
 | .xor,.int k n=>(sP .xor k (if k.signed then -1 else k.max) n).map (.int k)
 | .not,.bool b=>some (.bool (!b))
 |_,_=>none
def bytesOf:List EV->Option (List UInt8)
 |[]=>some []
 | .int .u8 n::r=>(bytesOf r).map (UInt8.ofNat n.toNat:: ·)
 |_=>none
def l8(c:Cv)(m:Mem)(x:EV):Option (EV×Mem):=
 match c,x with
 | .int k,.int _ n=>some (.int k (k.wrap n),m)
 | .same,.str s=>some (.str s,m)
 | .bytes e,.str s=>some (.slice m.next 0 s.length none,m.new (.cells (s.map fun b=>.int .u8 (b.toNat:Int)) 1 e false))
 | .text,.aa=>some (.str [],m)
 | .text,.slice b off n _=>match m.row b off n with
  |some cs=>(bytesOf cs).map fun s=>(.str s,m)
  |none=>none
 |_,_=>none
def aS(x:Option EV)(abq vP:Nat):Option Nat:=
 match x with
 |none=>some abq
 |some (.int _ (.ofNat i))=>bif i.ble vP then some i else none
 |_=>none
def cW(esz b off len:Nat)(cap:Option Nat)(lo hi max:Option EV):Option EV:=
 match cap with
 |some c=>match aS max c c with
  |some t=>match aS hi len t with
   |some h=>match aS lo 0 h with
    |some l=>some (.slice b (bif t.beq l then off else off+l*esz) (h- l) (some (t- l)))
    |none=>none
   |none=>none
  |none=>none
 |none=>match max with
  |some _=>match aS max len len with
   |some t=>match aS hi len t with
    |some h=>match aS lo 0 h with
     |some l=>some (.slice b (bif t.beq l then off else off+l*esz) (h- l) (some (t- l)))
     |none=>none
    |none=>none
   |none=>none
  |none=>match aS hi len len with
   |some h=>match aS lo 0 h with
    |some l=>some (.slice b (off+l*esz) (h- l) none)
    |none=>none
   |none=>none
def find(k:EV):List (EV×EV)->Option EV
 |[]=>none
 |(l,v)::r=>bif EV.same k l then some v else find k r
def update(k v:EV):List (EV×EV)->List (EV×EV)
 |[]=>[(k,v)]
 |(l,w)::r=>bif EV.same k l then(k,v)::r else(l,w)::update k v r
def erase(k:EV):List (EV×EV)->List (EV×EV)
 |[]=>[]
 |(l,w)::r=>bif EV.same k l then r else(l,w)::erase k r
def oB(kt:Nat):EV->Bool
 | .int _ _=>kt.beq 2
 | .str _=>kt.beq 1
 | .bool _=>kt.beq 0
 |_=>false
def ni:EV->Nat
 | .int k _=>2+cx k| .str _=>1| .bool _=>0|_=>99
def pw(k:EV):List (EV×EV)->Bool
 |[]=>true
 |e::r=>bif (ni e.1).beq (ni k)then pw k r else false
def jB(kt:Nat)(k:EV)(es:List (EV×EV)):Bool:=bif oB kt k then pw k es else false
def eQ(cs:List EV):List (Nat×Nat×EV)->Option (List EV)
 |[]=>some cs
 |(off,size,v)::r=>match v.cells with
  |some vs=>bif vs.length.beq size then match kW cs off vs with
   |some cs=>eQ cs r
   |none=>none
   else none
  |none=>none
def eA(n:Nat)(zero:List EV):List EV:=(List.replicate n zero).flatten
def Mem.source(m:Mem)(esz:Nat):EV->Option (Nat×List EV)
 | .aa=>some (0,[])
 | .slice b off n _=>(m.row b off (n*esz)).map fun cs=>(n,cs)
 | .str s=>bif esz.beq 1 then some (s.length,s.map fun b=>.int .u8 (b.toNat:Int))else none
 | .fz _ e els=>bif e.beq esz then some (els.length,els.flatten)else none
 |_=>none
def room:Nat:=1073741824
def cM(m:Mem)(elem esz:Nat)(s x:EV):Option (EV×Mem):=
 match m.source esz x with
 |none=>none
 |some (n,xs)=>
  bif n.beq 0 then
   match s with
   | .aa=>some (.aa,m)
   | .slice b off len cap=>some (.slice b off len cap,m)
   | .fz t e els=>some (.fz t e els,m)
   |_=>none
  else match s with
  | .aa=>bif n.ble room then some (.slice m.next 0 n none,m.new (.cells xs esz elem false))else none
  | .slice b off len cap=>
   bif (len+n).ble room then
    match m.row b off (len*esz)with
    |none=>none
    |some old=>match cap with
     |some c=>bif (len+n).ble c then(m.write b (off+len*esz) xs).map fun m=>(.slice b off (len+n) (some c),m)
      else some (.slice m.next 0 (len+n) none,m.new (.cells (old++xs) esz elem false))
     |none=>match m.get b with
      | .cells _ e _ false=>bif e.beq esz then some (.slice m.next 0 (len+n) none,(m.new (.cells (old++xs) esz elem false)).set b .dead)else none
      |_=>none
   else none
  |_=>none
def x7(m:Mem)(esz:Nat)(d s:EV):Option (EV×Mem):=
 match d with
 | .aa=>(m.source esz s).map fun _=>(.int .i64 0,m)
 | .slice b off len _=>match m.source esz s with
  |none=>none
  |some (n,xs)=>(m.write b off (xs.take (min n len*esz))).map fun m=>(.int .i64 (min n len:Nat),m)
 |_=>none
def ng(k:IntKind)(x:Int):List EV->Option EV
 |[]=>some (.int k x)
 | .int l y::r=>bif (cx k).beq (cx l)then ng k (if y>x then y else x) r else none
 |_=>none
def qB(k:IntKind)(x:Int):List EV->Option EV
 |[]=>some (.int k x)
 | .int l y::r=>bif (cx k).beq (cx l)then qB k (if y<x then y else x) r else none
 |_=>none
def sl:List EV->Option EV
 | .int k x::r=>ng k x r
 |_=>none
def BD:List EV->Option EV
 | .int k x::r=>qB k x r
 |_=>none
inductive R1 where
 |val (v:EV) (m:Mem)
def jb(m:Mem)(x:Option EV):Option R1:=x.map fun v=>.val v m
def w8(x:Option (EV×Mem)):Option R1:=x.map fun p=>.val p.1 p.2
def ofM(x:Option Mem):Option R1:=x.map fun m=>.val .undef m
def idx(n:Nat):EV->Option Nat
 | .int _ (.ofNat i)=>bif (i+1).ble n then some i else none
 |_=>none
def aL(ρ:bm->EV)(op:oa)(m:Mem):Option R1:=
 match op with
 | .tA x=>some (.val (ρ x) m)
 | .pick c a b=>match ρ c with| .bool t=>some (.val (bif t then ρ a else ρ b) m)|_=>none
 | .alloc elem zero=>some (.val (.ptr m.next 0) (m.new (.cells zero zero.length elem false)))
 | .box elem x=>match (ρ x).cells with
  |some cs=>some (.val (.ptr m.next 0) (m.new (.cells cs cs.length elem false)))
  |none=>none
 | .build zero parts=>jb m ((eQ zero (parts.map fun p=>(p.1,p.2.1,ρ p.2.2))).map .agg)
 | .aG elem esz len zero parts=>match eQ (eA len zero) (parts.map fun p=>(p.1*esz,esz,ρ p.2))with
  |some cs=>some (.val (.slice m.next 0 len (some len)) (m.new (.cells cs esz elem false)))
  |none=>none
 | .load agg a=>jb m (m.load agg (ρ a))
 | .store size a x=>ofM (m.store size (ρ a) (ρ x))
 | .lU x=>match ρ x with
  | .ptr b off=>some (.val (.ptr b off) m)
  | .func f a c=>some (.val (.func f a c) m)
  | .iface t v=>some (.val (.iface t v) m)
  | .gu e els i k=>some (.val (.gu e els i k) m)
  |_=>none
 | .bin op x y=>jb m (eV op (ρ x) (ρ y))
 | .eq neg t x y=>jb m ((ft t (ρ x) (ρ y)).map fun b=>.bool (neg^^b))
 | .un op x=>jb m (D6 op (ρ x))
 | .conv c x=>w8 (l8 c m (ρ x))
 | .iface t x=>some (.val (.iface t (ρ x)) m)
 | .AJ f a c=>some (.val (.func f (a.map ρ) (c.map ρ)) m)
 | .uR=>some (.val (.map m.next) (m.new (.map [])))
 | .jI elem esz zero len cap=>match ρ len,ρ cap with
  | .int .i64 (.ofNat l),.int .i64 (.ofNat c)=>bif (bif l.ble c then c.ble room else false)then
    some (.val (.slice m.next 0 l (some c)) (m.new (.cells (eA c zero) esz elem false)))else none
  |_,_=>none
 | .ob x lo hi=>match ρ x with
  | .str s=>match aS (hi.map ρ) s.length s.length with
   |some h=>match aS (lo.map ρ) 0 h with
    |some l=>some (.val (.str ((s.take h).drop l)) m)
    |none=>none
   |none=>none
  |_=>none
 | .pE esz x lo hi max=>match ρ x with
  | .aa=>match aS (max.map ρ) 0 0,aS (hi.map ρ) 0 0,aS (lo.map ρ) 0 0 with
   |some _,some _,some _=>some (.val .aa m)
   |_,_,_=>none
  | .slice b off len (some c)=>jb m (cW esz b off len (some c) (lo.map ρ) (hi.map ρ) (max.map ρ))
  | .slice b off len none=>match m.get b with
   | .cells _ e _ _=>bif e.beq esz then jb m (cW esz b off len none (lo.map ρ) (hi.map ρ) (max.map ρ))else none
   |_=>none
  | .fz _ e els=>match max with
   |none=>bif e.beq esz then
    match aS (hi.map ρ) els.length els.length with
    |some h=>match aS (lo.map ρ) 0 h with
     |some l=>some (.val (.fz 0 e ((els.take h).drop l)) m)
     |none=>none
    |none=>none
    else none
   |some _=>none
  |_=>none
 | .xp n esz x lo hi max=>match ρ x with
  | .ptr b off=>jb m (cW esz b off n (some n) (lo.map ρ) (hi.map ρ) (max.map ρ))
  |_=>none
 | .xA off x=>match ρ x with
  | .ptr b o=>some (.val (.ptr b (o+off)) m)
  | .gu e els i k=>some (.val (.gu e els i (k+off)) m)
  |_=>none
 | .CC agg off x=>match ρ x with
  | .agg cs=>jb m (partOf agg cs off)
  |_=>none
 | .eZ esz x i=>match ρ x with
  | .slice b off len _=>match idx len (ρ i)with
   |some i=>some (.val (.ptr b (off+i*esz)) m)
   |none=>none
  | .fz _ e els=>bif e.beq esz then match idx els.length (ρ i)with
    |some i=>some (.val (.gu e els i 0) m)
    |none=>none
   else none
  |_=>none
 | .oC n esz x i=>match ρ x with
  | .ptr b off=>match idx n (ρ i)with
   |some i=>some (.val (.ptr b (off+i*esz)) m)
   |none=>none
  |_=>none
 | .kB x i=>match ρ x with
  | .str s=>match idx s.length (ρ i)with
   |some i=>match s[i]? with
    |some c=>some (.val (.int .u8 (c.toNat:Int)) m)
    |none=>none
   |none=>none
  |_=>none
 | .vU n esz agg x i=>match ρ x with
  | .agg cs=>match idx n (ρ i)with
   |some i=>jb m (partOf agg cs (i*esz))
   |none=>none
  |_=>none
 | .lookup kt zero ok mp k=>match ρ mp with
  | .bN=>bif oB kt (ρ k)then some (.val (bif ok then .tuple [zero,.bool false]else zero) m)else none
  | .map b=>match m.get b with
   | .map es=>bif jB kt (ρ k) es then
     match find (ρ k) es with
     |some v=>some (.val (bif ok then .tuple [v,.bool true]else v) m)
     |none=>some (.val (bif ok then .tuple [zero,.bool false]else zero) m)
    else none
   |_=>none
  |_=>none
 | .pi kt mp k x=>match ρ mp with
  | .map b=>match m.get b with
   | .map es=>bif jB kt (ρ k) es then some (.val .undef (m.set b (.map (update (ρ k) (ρ x) es))))else none
   |_=>none
  |_=>none
 | .delete kt mp k=>match ρ mp with
  | .bN=>bif oB kt (ρ k)then some (.val (.tuple []) m)else none
  | .map b=>match m.get b with
   | .map es=>bif jB kt (ρ k) es then some (.val (.tuple []) (m.set b (.map (erase (ρ k) es))))else none
   |_=>none
  |_=>none
 | .sG mp=>match ρ mp with
  | .bN=>some (.val (.int .i64 0) m)
  | .map b=>match m.get b with
   | .map es=>some (.val (.int .i64 (es.length:Int)) m)
   |_=>none
  |_=>none
 | .rN t x=>match ρ x with
  | .iface u v=>bif t.beq u then some (.val v m)else none
  |_=>none
 | .extract x i=>match ρ x with
  | .tuple vs=>jb m vs[i]?
  |_=>none
 | .gj x=>match ρ x with
  | .str s=>some (.val (.int .i64 (s.length:Int)) m)
  |_=>none
 | .len x=>match ρ x with
  | .aa=>some (.val (.int .i64 0) m)
  | .slice _ _ n _=>some (.val (.int .i64 (n:Int)) m)
  | .fz _ _ els=>some (.val (.int .i64 (els.length:Int)) m)
  |_=>none
 | .vS n=>some (.val (.int .i64 (n:Int)) m)
 | .cap x=>match ρ x with
  | .aa=>some (.val (.int .i64 0) m)
  | .slice _ _ _ (some c)=>some (.val (.int .i64 (c:Int)) m)
  |_=>none
 | .max args=>jb m (sl (args.map ρ))
 | .min args=>jb m (BD (args.map ρ))
 | .append elem esz _ s x=>w8 (cM m elem esz (ρ s) (ρ x))
 | .copy esz d s=>w8 (x7 m esz (ρ d) (ρ s))
end
section
inductive Fin where
 |ret (v:EV) (m:Mem)
 |jk (v:EV) (m:Mem)
inductive Out where
 |norm (fr:Fr) (m:Mem)
 |exit (id:Nat) (fr:Fr) (m:Mem)
 |ret (fr:Fr) (m:Mem)
 |jk (v:EV) (fr:Fr) (m:Mem)
abbrev Call:=Nat->List EV->Mem->Option Fin
def bt(fr:Fr):Option (Nat×Bool)->Option Bool
 |none=>some true
 |some (t,w)=>match fr.get t with
  | .bool b=>some (b==w)
  | .undef=>some false
  |_=>none
def ie(call:Call)(f:EV)(args:List EV)(m:Mem):Option Fin:=
 match f with
 | .func g a c=>call g (a++args++c) m
 |_=>none
def jx(call:Call):List bd->Fr->Mem->Option Out
 |[],fr,m=>some (.norm fr m)
 |o::r,fr,m=>
  match bt fr o.guard with
  |some true=>match o.op with
   | .val op=>match aL fr.eval op m with
    |some (.val v m)=>jx call r (fr.put o.dst v) m
    |none=>none
   | .call f args=>match ie call (fr.eval f) (args.map fr.eval) m with
    |some (.ret v m)=>jx call r (fr.put o.dst v) m
    |some (.jk v m)=>some (.jk v fr m)
    |none=>none
   | .panic x=>match fr.eval x with
    | .iface t v=>some (.jk (.iface t v) fr m)
    |_=>none
   | .defer f args=>match fr.eval f with
    | .func g x y=>jx call r (Fr.put ⟨fr.tmps,(g,x++args.map fr.eval++y)::fr.defers⟩ o.dst .undef) m
    |_=>none
  |some false=>jx call r (fr.put o.dst .undef) m
  |none=>none
structure Seen where
 i:Nat
 agg:Option Nat
 a:EV
 v:EV
def cr(i j:Nat):List (Nat×Nat)->Bool
 |[]=>false
 |(a,b)::r=>bif a.beq i then bif b.beq j then true else cr i j r else cr i j r
def Mem.fi(m:Mem)(agg:Option Nat)(a v:EV):Bool:=
 match m.load agg a with
 |some x=>EV.same x v
 |none=>false
def bq(chk:List (Nat×Nat))(j:Nat)(m:Mem):List Seen->Bool
 |[]=>true
 |s::r=>bif cr s.i j chk then(bif m.fi s.agg s.a s.v then bq chk j m r else false)else bq chk j m r
def bW(chk:List (Nat×Nat))(i:Nat)(agg:Option Nat)(a v:EV):List (Nat×Mem)->Bool
 |[]=>true
 |(j,m)::r=>bif cr i j chk then(bif m.fi agg a v then bW chk i agg a v r else false)else bW chk i agg a v r
def ey(chk:List (Nat×Nat))(i n:Nat):List (Nat×Mem)->Bool
 |[]=>true
 |(j,m)::r=>bif cr i j chk then(bif m.next.beq n then ey chk i n r else false)else ey chk i n r
def Ge:EV->Bool
 | .gu _ _ _ _=>true
 |_=>false
def ei(call:Call)(chk:List (Nat×Nat))(B0:Nat):List bd->Nat->Fr->Mem->List (Nat×Mem)->List Seen->Option Out
 |[],_,fr,m,_,_=>some (.norm fr m)
 |o::r,i,fr,m,ls,seen=>
  match bt fr o.guard with
  |some true=>match o.op with
   | .val op=>match dG op with
    |0=>match aL fr.eval op m with
     |some (.val v _)=>ei call chk B0 r (i+1) (fr.put o.dst v) m ls seen
     |none=>none
    |1=>match aL fr.eval op ⟨B0+i,m.ja⟩with
     |some (.val v m1)=>ei call chk B0 r (i+1) (fr.put o.dst v) ⟨m.next,m1.ja⟩ ls seen
     |none=>none
    |2=>match op with
     | .load agg a=>match m.load agg (fr.eval a)with
      |some v=>bif Ge (fr.eval a)then
       (bif ey chk i m.next ls then ei call chk B0 r (i+1) (fr.put o.dst v) m ls seen else none)
       else bif bW chk i agg (fr.eval a) v ls then
        ei call chk B0 r (i+1) (fr.put o.dst v) m ls (⟨i,agg,fr.eval a,v⟩::seen)else none
      |none=>none
     |_=>none
    |_=>match aL fr.eval op m with
     |some (.val v m')=>bif bq chk i m' seen then ei call chk B0 r (i+1) (fr.put o.dst v) m' ((i,m)::ls) seen else none
     |none=>none
   | .call f args=>match ie call (fr.eval f) (args.map fr.eval) m with
    |some (.ret v m')=>bif bq chk i m' seen then ei call chk B0 r (i+1) (fr.put o.dst v) m' ((i,m)::ls) seen else none
    |_=>none
   |_=>none
  |some false=>ei call chk B0 r (i+1) (fr.put o.dst .undef) m ls seen
  |none=>none
def iter(body:Fr->Mem->Option Out):Nat->Fr->Mem->Option Out
 |0,_,_=>none
 |n+1,fr,m=>match body fr m with
  |some (.norm fr m)=>iter body n fr m
  |o=>o
def aB(call:Call)(n:Nat):ar->Fr->Mem->Option Out
 | .skip,fr,m=>some (.norm fr m)
 | .region ops,fr,m=>jx call ops fr m
 | .draw ops chk,fr,m=>ei call chk m.next ops 0 fr ⟨m.next+ops.length,m.ja⟩ [] []
 | .seq a b,fr,m=>match aB call n a fr m with
  |some (.norm fr m)=>aB call n b fr m
  |o=>o
 | .cond c a b,fr,m=>match fr.eval c with
  | .bool t=>bif t then aB call n a fr m else aB call n b fr m
  |_=>none
 | .block id a,fr,m=>match aB call n a fr m with
  |some (.exit j fr m)=>bif j.beq id then some (.norm fr m)else some (.exit j fr m)
  |o=>o
 | .loop a,fr,m=>iter (aB call n a) n fr m
 | .exit id,fr,m=>some (.exit id fr m)
 | .ret,fr,m=>some (.ret fr m)
def zF(fr:Fr)(m:Mem):ns->Option EV
 | .tmp t=>some (fr.get t)
 | .cell t agg=>m.load agg (fr.get t)
def b8(fr:Fr)(m:Mem):List ns->Option (List EV)
 |[]=>some []
 |r::rs=>match zF fr m r with
  |some v=>(b8 fr m rs).map (v:: ·)
  |none=>none
def one(vs:List EV):EV:=match vs with|[v]=>v|vs=>.tuple vs
def dh:List EV->Nat->Tr EV->Tr EV
 |[],_,t=>t
 |v::r,i,t=>dh r (i+1) (t.set i v)
inductive jm where
 |go (F:aC)
 |ext (g:List EV->Option EV)
 |pure (g:List EV->Option EV)   -- its blocks are its own,and are afP
 |spec (g:List EV->Mem->Option Fin)   -- fw it is known to be
 |GC (F:aC) (D:List (Nat×Option Nat×aC))   -- with calls T8 wait for its end;aqy code by number,and where the panic is put T8 is asked for first
def dv(call:Call)(n:Nat)(F:aC)(args:List EV)(m:Mem):Option Fin:=
 bif args.length.ble F.ntmps then match aB call n F.body ⟨dh args 0 .leaf,[]⟩ m with
 |some (.norm fr m)=>match fr.defers with
  |[]=>(b8 fr m F.results).map fun vs=>.ret (one vs) m
  |_=>none
 |some (.ret fr m)=>match fr.defers with
  |[]=>(b8 fr m F.results).map fun vs=>.ret (one vs) m
  |_=>none
 |some (.jk v fr m)=>match fr.defers with
  |[]=>some (.jk v m)
  |_=>none
 |_=>none
 else none
def m5(g:Nat):List (Nat×Option Nat×aC)->Option (Option Nat×aC)
 |[]=>none
 |(h,b,F)::r=>bif h.beq g then some (b,F)else m5 g r
def gK(call:Call)(n:Nat)(d:Nat)(F:aC)(args:List EV)(u:Option EV)(m:Mem):Option Mem:=
 bif args.length.ble F.ntmps then match aB call n F.body (Fr.set ⟨dh args 0 .leaf,[]⟩ d (u.getD .aP)) m with
 |some (.norm fr m)=>match fr.defers with
  |[]=>(b8 fr m F.results).map fun _=>m
  |_=>none
 |some (.ret fr m)=>match fr.defers with
  |[]=>(b8 fr m F.results).map fun _=>m
  |_=>none
 |_=>none
 else none
def dD(call:Call)(n:Nat)(rs:List ns)(D:List (Nat×Option Nat×aC))(fr:Fr):List (Nat×List EV)->Option EV->Mem->Option Fin
 |[],none,m=>(b8 fr m rs).map fun vs=>.ret (one vs) m
 |[],some v,m=>some (.jk v m)
 |(g,args)::ds,u,m=>match m5 g D with
  |some (some d,F)=>match gK call n d F args u m with
   |some m=>dD call n rs D fr ds none m
   |none=>none
  |some (none,F)=>match dv call n F args m with
   |some (.ret _ m)=>dD call n rs D fr ds u m
   |some (.jk v m)=>match u with
    |none=>dD call n rs D fr ds (some v) m
    |some _=>none
   |none=>none
  |none=>none
def lj(call:Call)(n:Nat)(F:aC)(D:List (Nat×Option Nat×aC))(args:List EV)(m:Mem):Option Fin:=
 bif args.length.ble F.ntmps then match aB call n F.body ⟨dh args 0 .leaf,[]⟩ m with
 |some (.norm fr m)=>dD call n F.results D fr fr.defers none m
 |some (.ret fr m)=>dD call n F.results D fr fr.defers none m
 |some (.jk v fr m)=>dD call n F.results D fr fr.defers (some v) m
 |_=>none
 else none
def kM(call:Call)(n:Nat)(e:jm)(args:List EV)(m:Mem):Option Fin:=
 match e with
 | .go F=>dv call n F args m
 | .ext g=>(g args).map fun v=>.ret v m
 | .pure g=>(g args).map fun v=>.ret v m
 | .spec g=>g args m
 | .GC F D=>lj call n F D args m
def bc(T:Nat->Option jm):Nat->Call
 |0,_,_,_=>none
 |n+1,f,args,m=>match T f with
  |some e=>kM (bc T n) n e args m
  |none=>none
end
section
def PX:EV->Bool
 | .undef| .agg _| .tuple _=>false
 |_=>true
def cV:Nat->Value->Option EV
 |0,_=>none
 |n+1,v=>match v with
  | .bool b=>some (.bool b)
  | .int k x=>some (.int k x)
  | .string s=>some (.str s.data.toList)
  | .pointer none=>some .bM
  | .slice none 0 0=>some .aa
  | .map none=>some .bN
  | .nilFunc=>some .bS
  | .nilIface=>some .aP
  | .func (.func f) a c=>match a.toList.mapM (cV n),c.toList.mapM (cV n)with
   |some x,some y=>some (.func f x y)
   |_,_=>none
  | .iface t x=>(cV n x).map (.iface t)
  | .agg cs=>match cs.toList.mapM (cV n)with
   |some x=>bif x.all PX then some (.agg x)else none
   |none=>none
  | .tuple vs=>(vs.toList.mapM (cV n)).map .tuple
  |_=>none
def fS(G:List Nat):Operand->Option bm
 | .tmp t=>some (.tmp t)
 | .const v=>(cV 30 v).map .const
 | .global g=>bif G.contains g then some (.const (.ptr g 0))else none
 | .func f=>some (.const (.func f [] []))
def Aa(G:List Nat)(xs:List Operand):Option (List bm):=xs.mapM (fS G)
def Ld(G:List Nat):Option Operand->Option (Option bm)
 |none=>some none
 |some x=>(fS G x).map some
section
variable (P:Program) (G:List Nat)
def yj(t:TypeId):Option (Option Nat):=
 match P.underlying t,P.info? t with
 |some (.struct _),some i|some (.array _ _),some i=>some (some i.size)
 |some _,some _=>some none
 |_,_=>none
def iK(t:TypeId):Option Nat:=(P.info? t).map (·.size)
def GM(t:TypeId):Option EV:=((P.info? t).bind (·.zero)).bind (cV 30)
def qj(t:TypeId):Option (List EV):=(GM P t).bind EV.cells
def pW:Nat->TypeId->Option ua
 |0,_=>none
 |n+1,t=>match P.underlying t with
  |some .bool=>some (.bG 0)
  |some (.int _)=>some (.bG 1)
  |some .string=>some (.bG 2)
  |some (.pointer _)=>some (.bG 3)
  |some (.slice _)=>some (.bG 4)
  |some (.map _ _)=>some (.bG 5)
  |some (.func _ _ _)=>some (.bG 6)
  |some (.interface _)=>some (.bG 7)
  |some (.struct fs)=>
   bif P.stoodInHeld t then none else
   (fs.toList.mapM fun(f:Field)=>match yj P f.type,pW n f.type with
    |some g,some e=>bif f.name != "_" then some (g,f.offset,e)else none
    |_,_=>none).map .agg
  |_=>none
def OG(places:Nat->Option (Nat×Nat))(parts:List (Nat×Operand)):Option (List (Nat×Nat×bm)):=
 parts.mapM fun p=>match places p.1,fS G p.2 with
  |some (o,s),some x=>some (o,s,x)
  |_,_=>none
def Io(t:TypeId):Option Nat:=
 match P.underlying t with
 |some .bool=>some 0
 |some .string=>some 1
 |some (.int _)=>some 2
 |_=>none
def O2(t:TypeId):Option TypeId:=match P.underlying t with|some (.slice e)=>some e|_=>none
def ab4(t:TypeId):Bool:=match P.underlying t with|some (.slice _)|some .string=>true|_=>false
def wx(b:Builtin)(argTypes:List TypeId)(args:List bm):Option oa:=
 match b,argTypes,args with
 | .len,[t],[x]=>match P.underlying t with
  |some .string=>some (.gj x)
  |some (.slice _)=>some (.len x)
  |some (.array n _)=>some (.vS n)
  |some (.map _ _)=>some (.sG x)
  |_=>none
 | .cap,[t],[x]=>match P.underlying t with
  |some (.slice _)=>some (.cap x)
  |_=>none
 | .max,_,args=>some (.max args)
 | .min,_,args=>some (.min args)
 | .append,[t,u],[s,x]=>(O2 P t).bind fun e=>(bif ab4 P u then some ()else none).bind fun _=>(P.info? e).bind fun i=>(qj P e).bind fun z=>
   (bif z.length.beq i.size then some ()else none).bind fun _=>bif i.bytes.ble 65536 then some (.append e i.size i.bytes s x)else none
 | .copy,[t,_],[d,s]=>match P.underlying t with
  |some (.slice e)=>match iK P e with
   |some n=>some (.copy n d s)
   |none=>none
  |_=>none
 | .delete,[t,_],[m,k]=>match P.underlying t with
  |some (.map kt _)=>(Io P kt).map fun c=>.delete c m k
  |_=>none
 |_,_,_=>none
def vA(t:TypeId):Option TypeId:=match P.underlying t with|some (.slice e)=>some e|_=>none
def Ao(t:TypeId):Option (Nat×TypeId):=match P.underlying t with|some (.array n e)=>some (n,e)|_=>none
def yB(t:TypeId):Option (Array Field):=match P.underlying t with|some (.struct fs)=>some fs|_=>none
def LS(t:TypeId):Option (TypeId×TypeId):=match P.underlying t with|some (.map k e)=>some (k,e)|_=>none
def rL(t:TypeId):Option Unit:=match P.underlying t with|some .string=>some ()|_=>none
def TR(t:TypeId):Option IntKind:=match P.underlying t with|some (.int k)=>some k|_=>none
def LU(t:TypeId):Option Unit:=match P.underlying t with|some (.interface _)=>some ()|_=>none
def CQ(t:TypeId):Option Unit:=match P.underlying t with|some (.interface _)=>none|some _=>some ()|none=>none
def ph(b:Bool):Option Unit:=bif b then some ()else none
def cEq(neg:Bool)(t:TypeId)(x y:bm):Option oa:=
 bif P.eqGuardType P.depth t then(LU P t).map fun _=>.eq neg (.bG 7) x y else(pW P 20 t).map fun e=>.eq neg e x y
def Yx(x y:Option oa):Option oa:=match x with|some r=>some r|none=>y
def cOp(o:Oper):Option oa:=
 match o.op with
 | .move x=>(fS G x).map .tA
 | .assign x=>(fS G x).map .tA
 | .pick c a b=>(fS G c).bind fun c=>(fS G a).bind fun a=>(fS G b).map fun b=>.pick c a b
 | .alloc e=>(qj P e).map (.alloc e)
 | .box e x=>(fS G x).map (.box e)
 | .build t parts=>(qj P t).bind fun z=>Yx
   ((yB P t).bind fun fs=>(ph (fs.toList.all fun f=>(iK P f.type).isSome)).bind fun _=>(OG G (fun i=>(fs[i]?).bind fun f=>(iK P f.type).map fun s=>(f.offset,s)) parts.toList).map (.build z))
   ((Ao P t).bind fun q=>(iK P q.2).bind fun s=>(OG G (fun i=>some (i*s,s)) parts.toList).map (.build z))
 | .buildSlice t len parts=>(vA P t).bind fun e=>(iK P e).bind fun s=>(qj P e).bind fun z=>(parts.toList.mapM (fun p=>(fS G p.2).map fun x=>(p.1,x))).bind fun ps=>
   (ph (z.length.beq s)).bind fun _=>(ph ((len*s).ble 16777216)).map fun _=>.aG e s len z ps
 | .load t a=>(yj P t).bind fun g=>(fS G a).map fun a=>.load g a
 | .store t a x=>(iK P t).bind fun s=>(fS G a).bind fun a=>(fS G x).map fun x=>.store s a x
 | .nilCheck x=>(fS G x).map .lU
 | .binOp op t x y _=>(fS G x).bind fun x=>(fS G y).bind fun y=>match op with
   | .eql=>cEq P false t x y
   | .neq=>cEq P true t x y
   |op=>some (.bin op x y)
 | .unOp op _ x=>(fS G x).map (.un op)
 | .convert s d x=>(fS G x).bind fun x=>Yx
   ((CQ P s).bind fun _=>(TR P d).map fun k=>.conv (.int k) x)
   (Yx ((rL P s).bind fun _=>(rL P d).map fun _=>.conv .same x)
   (Yx ((rL P s).bind fun _=>(vA P d).bind fun e=>(TR P e).bind fun k=>(ph ((cx k).beq 4)).map fun _=>.conv (.bytes e) x)
    ((vA P s).bind fun e=>(rL P d).bind fun _=>(TR P e).bind fun k=>(ph ((cx k).beq 4)).map fun _=>.conv .text x)))
 | .makeInterface t x=>(CQ P t).bind fun _=>(fS G x).map (.iface t)
 | .makeFunc (.func f) a c=>(Aa G a.toList).bind fun a=>(Aa G c.toList).map fun c=>.AJ f a c
 | .makeMap t none=>(LS P t).map fun _=>.uR
 | .makeMap t (some (.const (.int _ _)))=>(LS P t).map fun _=>.uR
 | .makeSlice t l c=>(vA P t).bind fun e=>(P.info? e).bind fun i=>(qj P e).bind fun z=>(fS G l).bind fun l=>(fS G c).bind fun c=>
   (ph (z.length.beq i.size)).bind fun _=>(ph (i.bytes.ble 65536)).map fun _=>.jI e i.size z l c
 | .slice t x lo hi mx=>(ph (!(mx.isSome&&hi.isNone))).bind fun _=>(fS G x).bind fun x=>(Ld G lo).bind fun lo=>(Ld G hi).bind fun hi=>(Ld G mx).bind fun mx=>Yx
   ((Ao P t).bind fun q=>(iK P q.2).map fun s=>.xp q.1 s x lo hi mx)
   (Yx ((vA P t).bind fun e=>(iK P e).map fun s=>.pE s x lo hi mx)
    ((rL P t).bind fun _=>(ph mx.isNone).map fun _=>.ob x lo hi))
 | .fieldAddr s x f=>(yB P s).bind fun fs=>(fS G x).bind fun x=>(fs[f]?).bind fun f=>(iK P f.type).bind fun s=>(ph (Nat.ble 1 s)).map fun _=>.xA f.offset x
 | .field s x f=>(yB P s).bind fun fs=>(fS G x).bind fun x=>(fs[f]?).bind fun f=>(yj P f.type).map fun g=>.CC g f.offset x
 | .indexAddr t x i=>(fS G x).bind fun x=>(fS G i).bind fun i=>Yx
   ((vA P t).bind fun e=>(iK P e).map fun s=>.eZ s x i)
   ((Ao P t).bind fun q=>(iK P q.2).map fun s=>.oC q.1 s x i)
 | .index t x i=>(fS G x).bind fun x=>(fS G i).bind fun i=>Yx
   ((rL P t).map fun _=>.kB x i)
   ((Ao P t).bind fun q=>(iK P q.2).bind fun s=>(yj P q.2).map fun g=>.vU q.1 s g x i)
 | .lookup t m k ok=>(LS P t).bind fun q=>(Io P q.1).bind fun c=>(GM P q.2).bind fun z=>(fS G m).bind fun m=>(fS G k).map fun k=>.lookup c z ok m k
 | .mapUpdate t m k x=>(LS P t).bind fun q=>(Io P q.1).bind fun c=>(fS G m).bind fun m=>(fS G k).bind fun k=>(fS G x).map fun x=>.pi c m k x
 | .insert t m k x=>(LS P t).bind fun q=>(Io P q.1).bind fun c=>(fS G m).bind fun m=>(fS G k).bind fun k=>(fS G x).map fun x=>.pi c m k x
 | .typeAssert x _ t false=>(CQ P t).bind fun _=>(fS G x).map (.rN t)
 | .extract x i=>(fS G x).map fun x=>.extract x i
 | .call c=>(Aa G c.args.toList).bind fun a=>match c.callee with
  | .builtin b=>wx P b c.argTypes.toList a
  |_=>none
 |_=>none
def Ej(o:Oper):Option Aj:=
 match o.op with
 | .call ⟨.value f,xs,_⟩=>(Aa G xs.toList).bind fun a=>(fS G f).map fun f=>.call f a
 | .defer ⟨.value f,xs,_⟩=>(Aa G xs.toList).bind fun a=>(fS G f).map fun f=>.defer f a
 | .panic x=>(fS G x).map .panic
 |_=>(cOp P G o).map .val
def acJ(n:Nat):Option Nat->Bool
 |some d=>Nat.ble (d+1) n
 |none=>true
def u0(n:Nat)(ops:Array Oper)(o:Oper):Option bd:=
 match Ej P G o with
 |none=>none
 |some op=>bif acJ n o.dst then
  match o.guard with
  |none=>some ⟨o.dst,op,none⟩
  |some (j,w)=>match (ops[j]?).bind (·.dst)with
   |some t=>some ⟨o.dst,op,some (t,w)⟩
   |none=>none
  else none
def gY(e:Edge):Bool:=match e.ground with| .textOnly _| .gcOnly _=>false|_=>true
def gf:List Oper->List (List Nat)->List (List Nat)
 |[],acc=>acc
 |o::r,acc=>gf r (acc++[(o.after.toList.filter gY).flatMap fun e=>e.on::acc.getD e.on []])
def AK(B9:List Nat):List Edge->Nat
 |[]=>0
 |e::r=>bif gY e then(2^e.on|||B9.getD e.on 0)|||AK B9 r else AK B9 r
def JQ:List Oper->List Nat->List Nat
 |[],acc=>acc
 |o::r,acc=>JQ r (acc++[AK acc o.after.toList])
def named(o:bd):List Nat:=
 o.dst.toList++tmpsOf (qQ o.op)++(match o.guard with|some (t,_)=>[t]|none=>[])
def wh:List Oper->Nat->Bool
 |[],_=>true
 |o::r,i=>(o.after.toList.all fun e=> !gY e||Nat.ble (e.on+1) i)&&wh r (i+1)
def Pa(n:Nat):List (Nat×Nat):=(List.range n).flatMap fun j=>(List.range j).map fun i=>(i,j)
def tT(ops:List Oper)(is:List bd):Option (List (Nat×Nat)):=
 let msk:=JQ ops []
 let open_:=(Pa is.length).filter fun(i,j)=> !(msk.getD j 0).testBit i
 let at_ (i:Nat):Nat:=((is[i]?).map fun o=>sort o.op).getD 3
 let nm (i:Nat):List Nat:=((is[i]?).map named).getD []
 let dst (i:Nat):Option Nat:=(is[i]?).bind (·.dst)
 bif wh ops 0&&open_.all fun(i,j)=> !(at_ i==3&&at_ j==3)&&
   (match dst i with|some t=> !(nm j).contains t|none=>true)&&(match dst j with|some t=> !(nm i).contains t|none=>true)
 then some (open_.flatMap fun(i,j)=>bif at_ i==2&&at_ j==3 then[(i,j)]else bif at_ i==3&&at_ j==2 then[(j,i)]else[])
 else none
def iL(n:Nat):Code->Option ar
 | .skip=>some .skip
 | .region _ ops false=>(ops.toList.mapM (u0 P G n ops)).map .region
 | .region _ ops true=>match ops.toList.mapM (u0 P G n ops)with
  |some is=>(tT ops.toList is).map (.draw is)
  |none=>none
 | .seq a b=>match iL n a,iL n b with
  |some a,some b=>some (.seq a b)
  |_,_=>none
 | .cond c a b=>match fS G c,iL n a,iL n b with
  |some c,some a,some b=>some (.cond c a b)
  |_,_,_=>none
 | .block id a=>(iL n a).map (.block id)
 | .loop a=>(iL n a).map .loop
 | .exit id=>some (.exit id)
 | .ret=>some .ret
 | .scope a=>iL n a
 | .label _=>some .skip
 |_=>none
def PB(o:Oper):Bool:=match o.op,o.guard with
 | .call ⟨.builtin .recover,xs,_⟩,none=>xs.isEmpty
 |_,_=>false
def kE(n:Nat):Code->Option (Nat×ar)
 | .region _ ops false=>match ops.toList with
  |o::r=>bif PB o then match o.dst with
   |some d=>bif Nat.ble (d+1) n then(r.mapM (u0 P G n ops)).map fun is=>(d,.region is)else none
   |none=>none
   else none
  |[]=>none
 | .seq a b=>match kE n a,iL P G n b with
  |some (d,a),some b=>some (d,.seq a b)
  |_,_=>none
 |_=>none
def z0:ResultVar->Option ns
 | .tmp t=>some (.tmp t)
 | .cell a t=>(yj P t).map (.cell a)
def bH(f:Func):Option aC:=
 match f.body with
 |none=>none
 |some c=>bif f.name== "runtime.NumGoroutine" then none else match iL P G f.ntmps c,f.results.toList.mapM (z0 P)with
  |some b,some r=>some ⟨f.ntmps,b,r⟩
  |_,_=>none
def Qf(f:Func):Option (Nat×aC):=
 match f.body with
 |none=>none
 |some c=>bif f.name== "runtime.NumGoroutine" then none else match kE P G f.ntmps c,f.results.toList.mapM (z0 P)with
  |some (d,b),some r=>some (d,⟨f.ntmps,b,r⟩)
  |_,_=>none
end
def Vv(P:Program)(G:List Nat)(n:Nat):Code->List String
 | .region _ ops d=>(ops.toList.filter fun o=>(u0 P G n ops o).isNone).map (fun o=>o.pos++ " op")++
   (match ops.toList.mapM (u0 P G n ops)with|some is=>if d&&(tT ops.toList is).isNone then["an open order " ++((ops[0]?).map (·.pos)).getD ""]else[]|none=>[])
 | .seq a b| .cond _ a b=>Vv P G n a++Vv P G n b
 | .block _ a| .loop a| .scope a=>Vv P G n a
 | .skip| .exit _| .ret| .label _=>[]
 | .goto _=>["goto"]
 | .rangeFunc .. =>["rangeFunc"]
 | .refuse w=>["refuse " ++w]
end
section
structure Loc where
 dW:Nat
 off:Nat
 total:Nat
 esz:Nat
 ro:Bool
abbrev eR:=Nat->Option Loc
mutual
inductive VR(ρ:eR):EV->Value->Prop
 |undef:VR ρ .undef undef
 |bool (b:Bool):VR ρ (.bool b) (.bool b)
 |int (k:IntKind) (n:Int):VR ρ (.int k n) (.int k n)
 |str (s:ByteArray):VR ρ (.str s.data.toList) (.string s)
 |bM:VR ρ .bM (.pointer none)
 |ptr {b off:Nat} {L:Loc} (h:ρ b=some L):VR ρ (.ptr b off) (.pointer (some ⟨L.dW,L.off+off,none⟩))
 |aa:VR ρ .aa (.slice none 0 0)
 |slice {b off len c o:Nat} {L:Loc} (h:ρ b=some L) (hc:len<=c) (ho:0<len->o=L.off+off) (hr:L.ro=false->o+c*L.esz<=L.total) :
  VR ρ (.slice b off len none) (.slice (some ⟨L.dW,o,none⟩) len c)
 |jA {b off:Nat} {a:Addr}:VR ρ (.slice b off 0 (some 0)) (.slice (some a) 0 0)
 |gN {b off len c o:Nat} {L:Loc} (h:ρ b=some L) (hc:len<=c) (ho:0<c->o=L.off+off):VR ρ (.slice b off len (some c)) (.slice (some ⟨L.dW,o,none⟩) len c)
 |bN:VR ρ .bN (.map none)
 |map {b:Nat} {L:Loc} (h:ρ b=some L):VR ρ (.map b) (.map (some L.dW))
 |bS:VR ρ .bS .nilFunc
 |func {f:Nat} {x y:List EV} {x' y':List Value} (hx:gi ρ x x') (hy:gi ρ y y'):VR ρ (.func f x y) (.func (.func f) ⟨x'⟩ ⟨y'⟩)
 |aP:VR ρ .aP .nilIface
 |iface {t:Nat} {v:EV} {v':Value} (h:VR ρ v v'):VR ρ (.iface t v) (.iface t v')
 |agg {x:List EV} {x':List Value} (h:gi ρ x x') (hf:∀c∈x',c.oneCell'=true):VR ρ (.agg x) (.agg ⟨x'⟩)
 |tuple {x:List EV} {x':List Value} (h:gi ρ x x'):VR ρ (.tuple x) (.tuple ⟨x'⟩)
inductive gi(ρ:eR):List EV->List Value->Prop
 |nil:gi ρ [] []
 |cons {v:EV} {v':Value} {x:List EV} {x':List Value} (h:VR ρ v v') (hs:gi ρ x x'):gi ρ (v::x) (v'::x')
end
def Ext(ρ ρ':eR):Prop:=∀b L,ρ b=some L->ρ' b=some L
theorem Ext.refl(ρ:eR):Ext ρ ρ:=fun _ _ h=>h
theorem Ext.trans{ρ ρ' ρ'':eR}(h:Ext ρ ρ')(h':Ext ρ' ρ''):Ext ρ ρ'':=fun b L e=>h' b L (h b L e)
mutual
theorem VR.ext{ρ ρ':eR}(e:Ext ρ ρ'):∀{v:EV} {v':Value},VR ρ v v'->VR ρ' v v'
 |_,_,.undef=>.undef
 |_,_,.bool b=>.bool b
 |_,_,.int k n=>.int k n
 |_,_,.str s=>.str s
 |_,_,.bM=>.bM
 |_,_,.ptr h=>.ptr (e _ _ h)
 |_,_,.aa=>.aa
 |_,_,.slice h hc ho hr=>.slice (e _ _ h) hc ho hr
 |_,_,.gN h hc ho=>.gN (e _ _ h) hc ho
 |_,_,.jA=>.jA
 |_,_,.bN=>.bN
 |_,_,.map h=>.map (e _ _ h)
 |_,_,.bS=>.bS
 |_,_,.func hx hy=>.func (gi.ext e hx) (gi.ext e hy)
 |_,_,.aP=>.aP
 |_,_,.iface h=>.iface (VR.ext e h)
 |_,_,.agg h hf=>.agg (gi.ext e h) hf
 |_,_,.tuple h=>.tuple (gi.ext e h)
theorem gi.ext{ρ ρ':eR}(e:Ext ρ ρ'):∀{x:List EV} {x':List Value},gi ρ x x'->gi ρ' x x'
 |_,_,.nil=>.nil
 |_,_,.cons h hs=>.cons (VR.ext e h) (gi.ext e hs)
end
theorem gi.length{ρ:eR}:∀{x:List EV} {x':List Value},gi ρ x x'->x.length=x'.length
 |_,_,.nil=>rfl
 |_,_,.cons _ hs=>by simp[gi.length hs]
theorem gi.get{ρ:eR}:∀{x:List EV} {x':List Value},gi ρ x x'->∀(i:Nat) (v:EV),x[i]?=some v->∃v',x'[i]?=some v'/\VR ρ v v'
 |_,_,.nil,i,v,h=>by simp at h
 |_,_,.cons (v:=a) (v':=a') h0 hs,i,v,h=>by
  cases i with
  |zero=>simp at h;subst h;exact⟨a',rfl,h0⟩
  |succ i=>simp at h;obtain⟨v',hv,hr⟩:=hs.get i v h;exact⟨v',by simpa using hv,hr⟩
theorem gi.sB{ρ:eR}:∀{x:List EV} {x':List Value},x.length=x'.length->(∀(i:Nat) (v:EV) (v':Value),x[i]?=some v->x'[i]?=some v'->VR ρ v v')->gi ρ x x'
 |[],[],_,_=>.nil
 |[],_::_,h,_=>by simp at h
 |_::_,[],h,_=>by simp at h
 |a::x,a'::x',h,hg=>.cons (hg 0 a a' rfl rfl) (gi.sB (by simpa using h) fun i v v' hv tE=>hg (i+1) v v' (by simpa using hv) (by simpa using tE))
theorem gi.append{ρ:eR}:∀{x y:List EV} {x' y':List Value},gi ρ x x'->gi ρ y y'->gi ρ (x++y) (x'++y')
 |_,_,_,_,.nil,h=>h
 |_,_,_,_,.cons h hs,k=>.cons h (hs.append k)
theorem gi.take{ρ:eR}{x:List EV}{x':List Value}(h:gi ρ x x')(n:Nat):gi ρ (x.take n) (x'.take n):=by
 refine gi.sB (by simp[h.length]) fun i v v' hv tE=> ?_
 rw[List.getElem?_take]at hv tE
 split at hv
 ·obtain⟨u,hu,hr⟩:=h.get i v hv
  rename_i aH
  rw[if_pos aH]at tE;rw[hu]at tE;cases tE;exact hr
 ·cases hv
theorem gi.drop{ρ:eR}{x:List EV}{x':List Value}(h:gi ρ x x')(n:Nat):gi ρ (x.drop n) (x'.drop n):=by
 refine gi.sB (by simp[h.length]) fun i v v' hv tE=> ?_
 rw[List.getElem?_drop]at hv tE;obtain⟨u,hu,hr⟩:=h.get _ v hv;rw[hu]at tE;cases tE;exact hr
theorem gi.Hp{ρ:eR}{α β:Type}(f:α->EV)(g:β->Value){R:α->β->Prop}(hfg:∀a b,R a b->VR ρ (f a) (g b)):∀{l:List α} {l':List β},l.length=l'.length->(∀(i:Nat) (a:α) (b:β),l[i]?=some a->l'[i]?=some b->R a b)->gi ρ (l.map f) (l'.map g)
 |[],[],_,_=>.nil
 |[],_::_,h,_=>by simp at h
 |_::_,[],h,_=>by simp at h
 |a::x,a'::x',h,hg=>.cons (hfg _ _ (hg 0 a a' rfl rfl)) (gi.Hp f g hfg (by simpa using h) fun i v v' hv tE=>hg (i+1) v v' (by simpa using hv) (by simpa using tE))
def Live(m:Mem)(b:Nat):Prop:=m.get b≠.dead
def To(fz:Nat×Nat)(n:Nat):Prop:=∀i,i<n->¬(fz.1<=i/\i<fz.2)
def ae1(ρ:eR)(e:EV×EV)(d:MapEntry):Prop:=VR ρ e.1 d.key/\VR ρ e.2 d.val
def Bd(base:Nat)(ρ:eR)(B:bX)(L:Loc)(w:World):Prop:=
 match B with
 | .dead=>True
 | .cells cs esz _ ro=>∃arr e fz,w.heap[L.dW]?=some (.cells arr e fz)/\arr.size=L.total/\L.esz=esz/\L.ro=ro/\L.off+cs.length<=L.total/\
   (∀(i:Nat) (v:EV),cs[i]?=some v->∃v',arr[L.off+i]?=some v'/\VR ρ v v'/\v'.oneCell'=true)/\
   (ro=false->base<=L.dW/\To fz arr.size)/\(ro=true->L.dW<base)
 | .map es=>∃ds c,w.heap[L.dW]?=some (.map ds c)/\es.length=ds.size/\(∀(i:Nat) (e:EV×EV) (d:MapEntry),es[i]?=some e->ds[i]?=some d->ae1 ρ e d)/\base<=L.dW/\L.ro=false
structure R(base:Nat)(ρ:eR)(m:Mem)(w:World):Prop where
 lt:∀b L,ρ b=some L->b<m.next
 dW:∀b L,ρ b=some L->Bd base ρ (m.get b) L w
 inj:∀b c L L',ρ b=some L->ρ c=some L'->Live m b->Live m c->L.ro=false->L.dW=L'.dW->b=c
 base:base<=w.heap.size
 clean:∀b,m.next<=b->m.get b=.dead
def MM(ρ:eR)(m:Mem)(i:Nat):Prop:=∃b L,ρ b=some L/\Live m b/\L.ro=false/\L.dW=i
structure Step(ρ:eR)(m:Mem)(w:World)(ρ':eR)(m':Mem)(w':World):Prop where
 ext:Ext ρ ρ'
 new:∀b,ρ b=none->ρ' b≠none->m.next<=b
 next:m.next<=m'.next
 same:∀b,b<m.next->ρ b=none->m'.get b=m.get b
 dead:∀b,b<m.next->m.get b=.dead->m'.get b=.dead
 size:w.heap.size<=w'.heap.size
 MM:∀i,i<w.heap.size->MM ρ' m' i->MM ρ m i
 kept:∀i,i<w.heap.size->¬Ev.MM ρ m i->w'.heap[i]?=w.heap[i]?
 os:w'.os=w.os
 tape:w'.tape=w.tape
 output:w'.output=w.output
theorem Step.refl(ρ:eR)(m:Mem)(w:World):Step ρ m w ρ m w:=
 ⟨.refl ρ,fun _ h h'=>absurd h h',cR _,fun _ _ _=>rfl,fun _ _ h=>h,cR _,fun _ _ h=>h,fun _ _ _=>rfl,rfl,rfl,rfl⟩
theorem Step.trans{ρ ρ1 ρ2:eR}{m m1 m2:Mem}{w w1 w2:World}(h:Step ρ m w ρ1 m1 w1)(k:Step ρ1 m1 w1 ρ2 m2 w2):Step ρ m w ρ2 m2 w2:=by
 refine⟨h.ext.trans k.ext,?_,ji h.next k.next,?_,fun b hb hd=>k.dead b (cQ hb h.next) (h.dead b hb hd),ji h.size k.size,?_,?_,k.os.trans h.os,k.tape.trans h.tape,k.output.trans h.output⟩
 ·intro b hb mC;cases e:ρ1 b with
  |none=>exact ji h.next (k.new b e mC)
  |some L=>exact h.new b hb (by rw[e];simp)
 ·intro b hb hn;have h1:ρ1 b=none:=by
   cases e:ρ1 b with
   |none=>rfl
   |some L=>have:=h.new b hn (by rw[e];simp);omega
  rw[k.same b (cQ hb h.next) h1,h.same b hb hn]
 ·intro i hi hr;exact h.MM i hi (k.MM i (cQ hi h.size) hr)
 ·intro i hi hr;rw[k.kept i (cQ hi h.size) (fun hr1=>hr (h.MM i hi hr1)),h.kept i hi hr]
theorem Mem.ct(m:Mem)(b c:Nat)(x:bX):(m.set b x).get c=if c=b then x else m.get c:=by
 unfold Mem.get Mem.set;simp only[Tr.ct]
 split<;>rfl
theorem Mem.cN(m:Mem)(c:Nat)(x:bX):(m.new x).get c=if c=m.next then x else m.get c:=by
 unfold Mem.get Mem.new;simp only[Tr.ct]
 split<;>rfl
theorem Mem.fI(m:Mem)(x:bX):(m.new x).next=m.next+1:=rfl
theorem Mem.aj(m:Mem)(b:Nat)(x:bX):(m.set b x).next=m.next:=rfl
structure EC(w w':World):Prop where
 heap:w'.heap=w.heap
 os:w'.os=w.os
 tape:w'.tape=w.tape
 output:w'.output=w.output
theorem EC.refl(w:World):EC w w:=⟨rfl,rfl,rfl,rfl⟩
theorem Bd.of_heap{base:Nat}{ρ ρ':eR}(e:Ext ρ ρ'){B:bX}{L:Loc}{w w':World}(hh:w'.heap[L.dW]?=w.heap[L.dW]?)(h:Bd base ρ B L w):Bd base ρ' B L w':=by
 unfold Bd at *;cases B with
 |dead=>trivial
 |cells cs esz el ro=>
  obtain⟨arr,e',fz,h1,h2,h3,h4,h5,h6,h7⟩:=h;refine⟨arr,e',fz,by rw[hh];exact h1,h2,h3,h4,h5,fun i v hv=> ?_,h7⟩
  obtain⟨v',g1,g2,g3⟩:=h6 i v hv;exact⟨v',g1,g2.ext e,g3⟩
 |map es=>
  obtain⟨ds,c,h1,h2,h3,h4⟩:=h;exact⟨ds,c,by rw[hh];exact h1,h2,fun i a d ha hd=>⟨(h3 i a d ha hd).1.ext e,(h3 i a d ha hd).2.ext e⟩,h4⟩
theorem R.quiet{base:Nat}{ρ:eR}{m:Mem}{w w':World}(q:EC w w')(h:R base ρ m w):R base ρ m w':=
 ⟨h.lt,fun b L hb=>(h.dW b L hb).of_heap (.refl ρ) (by rw[q.heap]),h.inj,by rw[q.heap];exact h.base,h.clean⟩
theorem Step.quiet{ρ:eR}{m:Mem}{w w':World}(q:EC w w'):Step ρ m w ρ m w':=
 ⟨.refl ρ,fun _ h h'=>absurd h h',cR _,fun _ _ _=>rfl,fun _ _ h=>h,by rw[q.heap];exact cR _,fun _ _ h=>h,fun _ _ _=>by rw[q.heap],q.os,q.tape,q.output⟩
structure Iw(w:World)(o:Obj)(w':World):Prop where
 heap:w'.heap=w.heap.push o
 os:w'.os=w.os
 tape:w'.tape=w.tape
 output:w'.output=w.output
theorem Iw.old{w w':World}{o:Obj}(g:Iw w o w')(i:Nat)(h:i<w.heap.size):w'.heap[i]?=w.heap[i]?:=by
 rw[g.heap,Array.getElem?_push];simp;omega
theorem Iw.new{w w':World}{o:Obj}(g:Iw w o w'):w'.heap[w.heap.size]?=some o:=by rw[g.heap];simp
theorem Bd.lt{base:Nat}{ρ:eR}{B:bX}{L:Loc}{w:World}(h:Bd base ρ B L w)(hl:B≠.dead):L.dW<w.heap.size:=by
 cases B with
 |dead=>exact absurd rfl hl
 |cells cs esz el ro=>obtain⟨arr,e',fz,h1,_⟩:=h;exact(Array.getElem?_eq_some_iff.1 h1).1
 |map es=>obtain⟨ds,c,h1,_⟩:=h;exact(Array.getElem?_eq_some_iff.1 h1).1
def eR.put(ρ:eR)(b:Nat)(L:Loc):eR:=fun c=>if c=b then some L else ρ c
theorem eR.HZ{ρ:eR}{b:Nat}(L:Loc)(h:ρ b=none):Ext ρ (ρ.put b L):=by
 intro c M hc;unfold eR.put;by_cases e:c=b
 ·subst e;rw[h]at hc;cases hc
 ·rw[if_neg e];exact hc
theorem R.acb{base:Nat}{ρ:eR}{m:Mem}{w:World}(h:R base ρ m w):ρ m.next=none:=by
 cases e:ρ m.next with
 |none=>rfl
 |some L=>have:=h.lt _ _ e;omega
structure RN(base:Nat)(ρ:eR)(m:Mem)(w:World):Prop where
 free:ρ m.next=none
 dW:∀b L,ρ b=some L->Bd base ρ (m.get b) L w
 inj:∀b c L L',ρ b=some L->ρ c=some L'->Live m b->Live m c->L.ro=false->L.dW=L'.dW->b=c
 base:base<=w.heap.size
theorem R.n{base:Nat}{ρ:eR}{m:Mem}{w:World}(h:R base ρ m w):RN base ρ m w:=⟨h.acb,h.dW,h.inj,h.base⟩
structure Made(base:Nat)(ρ:eR)(m:Mem)(w:World)(ρ':eR)(B:bX)(w':World):Prop where
 dW:∀b L,ρ' b=some L->Bd base ρ' ((m.new B).get b) L w'
 inj:∀b c L L',ρ' b=some L->ρ' c=some L'->Live (m.new B) b->Live (m.new B) c->L.ro=false->L.dW=L'.dW->b=c
 base:base<=w'.heap.size
 ext:Ext ρ ρ'
 dom:∀b,b≠m.next->ρ' b=ρ b
 loc:∃L,ρ' m.next=some L/\L.dW=w.heap.size
 size:w'.heap.size=w.heap.size+1
 old:∀i,i<w.heap.size->w'.heap[i]?=w.heap[i]?
 os:w'.os=w.os
 tape:w'.tape=w.tape
 output:w'.output=w.output
theorem JA{base:Nat}{ρ:eR}{m:Mem}{w w':World}(h:RN base ρ m w)(B:bX)(o:Obj)(g:Iw w o w')(L:Loc)(hb:L.dW=w.heap.size)
  (hB:Bd base (ρ.put m.next L) B L w'):Made base ρ m w (ρ.put m.next L) B w':=by
 have hn:=h.free;have he:=eR.HZ L hn;have tF:w'.heap.size=w.heap.size+1:=by rw[g.heap];simp
 have Ht:∀b M,ρ b=some M->Live m b->M.dW<w.heap.size:=fun b M hM hl=>(h.dW b M hM).lt hl
 have km:∀b,b≠m.next->(m.new B).get b=m.get b:=fun b fR=>by rw[Mem.cN,if_neg fR]
 refine⟨?_,?_,?_,he,fun b fR=>if_neg fR,⟨L,if_pos rfl,hb⟩,tF,fun i hi=>g.old i hi,g.os,g.tape,g.output⟩
 ·intro b M hM;unfold eR.put at hM;by_cases e:b=m.next
  ·rw[if_pos e]at hM;cases hM;rw[Mem.cN,if_pos e];exact hB
  ·rw[if_neg e]at hM;rw[km b e];by_cases hl:m.get b=.dead
   ·rw[hl];trivial
   ·exact(h.dW b M hM).of_heap he (g.old _ (Ht b M hM hl))
 ·intro b c M M' hM HP hl zm sH uX;unfold eR.put at hM HP;by_cases e:b=m.next<;>by_cases e':c=m.next
  ·rw[e,e']
  ·rw[if_pos e]at hM;cases hM;rw[if_neg e']at HP;have:=Ht c M' HP (by unfold Live at zm⊢;rwa [km c e']at zm);omega
  ·rw[if_pos e']at HP;cases HP;rw[if_neg e]at hM;have:=Ht b M hM (by unfold Live at hl⊢;rwa [km b e]at hl);omega
  ·rw[if_neg e]at hM;rw[if_neg e']at HP;exact h.inj b c M M' hM HP (by unfold Live at hl⊢;rwa [km b e]at hl) (by unfold Live at zm⊢;rwa [km c e']at zm) sH uX
 ·have:=h.base;omega
theorem Made.whole{base:Nat}{ρ ρ':eR}{m:Mem}{w w':World}{B:bX}(h:R base ρ m w)(k:Made base ρ m w ρ' B w'):R base ρ' (m.new B) w'/\Step ρ m w ρ' (m.new B) w':=by
 have km:∀b,b≠m.next->(m.new B).get b=m.get b:=fun b fR=>by rw[Mem.cN,if_neg fR]
 refine⟨⟨?_,k.dW,k.inj,k.base,fun b hb=>by rw[Mem.fI]at hb;rw[km b (by omega)];exact h.clean b (by omega)⟩,⟨k.ext,?_,?_,?_,fun b hb hd=>by rw[km b (by omega)];exact hd,by have:=k.size;omega,?_,fun i hi _=>k.old i hi,k.os,k.tape,k.output⟩⟩
 ·intro b M hM;rw[Mem.fI];by_cases e:b=m.next
  ·omega
  ·rw[k.dom b e]at hM;have:=h.lt b M hM;omega
 ·intro b PM mC;by_cases e:b=m.next
  ·omega
  ·rw[k.dom b e]at mC;exact absurd PM mC
 ·rw[Mem.fI];omega
 ·intro b aH _;exact km b (by omega)
 ·rintro i hi ⟨b,M,hM,hl,sH,uX⟩;by_cases e:b=m.next
  ·subst e;obtain⟨L,h1,h2⟩:=k.loc;rw[h1]at hM;cases hM;omega
  ·rw[k.dom b e]at hM;exact⟨b,M,hM,by unfold Live at hl⊢;rwa [km b e]at hl,sH,uX⟩
end
section
theorem run_typeInfo{P:Program}{t:TypeId}{i:TypeInfo}(h:P.info? t=some i)(w:World):(typeInfo t).run P w=.ok i w:=by simp[typeInfo,h]
theorem cy{P:Program}{t:TypeId}{n:Nat}(h:iK P t=some n)(w:World):(sizeOf t).run P w=.ok n w:=by
 unfold iK at h;obtain⟨i,hi,rfl⟩:=mH.1 h;simp[sizeOf,run_typeInfo hi]
theorem Gf{P:Program}{t:TypeId}{g:Option Nat}(h:yj P t=some g)(w:World) :
  (isAgg t).run P w=.ok g.isSome w/\∀n,g=some n->(sizeOf t).run P w=.ok n w:=by
 unfold yj at h;cases hu:P.underlying t with
 |none=>rw[hu]at h;simp at h
 |some d=>
  cases hi:P.info? t with
  |none=>rw[hu,hi]at h;cases d<;>simp at h
  |some i=>
   rw[hu,hi]at h;have hs:(sizeOf t).run P w=.ok i.size w:=by simp[sizeOf,run_typeInfo hi]
   cases d<;>simp at h<;>subst h<;>simp[isAgg,run_underlying hu]<;>exact hs
theorem Qe{w:World}{b o:Nat}{arr:Array Value}{e:TypeId}{fz:Nat×Nat}(h:w.heap[b]?=some (.cells arr e fz)):w.cell? ⟨b,o,none⟩=arr[o]?:=by simp[World.cell?,h]
theorem SA{w:World}{b o:Nat}{arr:Array Value}{e:TypeId}{fz:Nat×Nat}(h:w.heap[b]?=some (.cells arr e fz))(hf:To fz arr.size)(ho:o<arr.size):w.frozen? ⟨b,o,none⟩=false:=by
 have:=hf o ho;simp[World.frozen?,h];omega
section
variable {base:Nat} {ρ:eR} {m:Mem} {w:World}
theorem R.cell(h:R base ρ m w){b:Nat}{L:Loc}(hb:ρ b=some L){cs:List EV}{esz el:Nat}{ro:Bool}(hg:m.get b=.cells cs esz el ro)(i:Nat)(v:EV)(hi:cs[i]?=some v) :
  ∃v',w.cell? ⟨L.dW,L.off+i,none⟩=some v'/\VR ρ v v'/\v'.oneCell'=true:=by
 have:=h.dW b L hb;rw[hg]at this;obtain⟨arr,e,fz,h1,_,_,_,_,h6,_⟩:=this;obtain⟨v',g1,g2,g3⟩:=h6 i v hi;exact⟨v',by rw[Qe h1];exact g1,g2,g3⟩
theorem R.cells(h:R base ρ m w){b:Nat}{L:Loc}(hb:ρ b=some L){cs:List EV}{esz el:Nat}{ro:Bool}(hg:m.get b=.cells cs esz el ro)(off n:Nat)(hl:off+n<=cs.length) :
  ∃vs:List Value,vs.length=n/\(∀j,j<n->w.cell? ⟨L.dW,L.off+off+j,none⟩=vs[j]?)/\gi ρ ((cs.drop off).take n) vs/\∀c∈vs,c.oneCell'=true:=by
 induction n generalizing off with
 |zero=>exact⟨[],rfl,fun j hj=>absurd hj (by omega),by simpa using gi.nil,by simp⟩
 |succ n ih=>
  obtain⟨vs,h1,h2,h3,h4⟩:=ih (off+1) (by omega);have aH:off<cs.length:=by omega
  obtain⟨v',g1,g2,g3⟩:=h.cell hb hg off cs[off] (jE aH);refine⟨v'::vs,by simp[h1],?_,?_,?_⟩
  ·intro j hj;cases j with
   |zero=>simpa using g1
   |succ j=>have:=h2 j (by omega);rw[show L.off+off+(j+1)=L.off+(off+1)+j by omega];simpa using this
  ·rw[List.drop_eq_getElem_cons aH,List.take_succ_cons];exact .cons g2 h3
  ·intro c hc;rcases qn.1 hc with rfl|hc
   ·exact g3
   ·exact h4 c hc
end
theorem rZ{P:Program}{w:World}{b o:Nat}:∀(vs:List Value) (i:Nat) (acc:Array Value),(∀j,j<vs.length->w.cell? ⟨b,o+i+j,none⟩=vs[j]?)->
  (loadCellsFrom ⟨b,o,none⟩ i vs.length acc).run P w=.ok (acc++(⟨vs⟩:Array Value)) w
 |[],i,acc,_=>by simp[loadCellsFrom]
 |v::vs,i,acc,h=>by
  have h0:=h 0 (by simp);simp at h0;have ih:=rZ (P:=P) (w:=w) (b:=b) (o:=o) vs (i+1) (acc.push v) (fun j hj=>by
   have:=h (j+1) (by simpa using hj);rw[show o+(i+1)+j=o+i+(j+1)by omega];simpa using this)
  simp only[List.length_cons,loadCellsFrom,Sem.run_bind,run_load,Addr.add_lit,h0,Result.andThen_ok,ih]
  congr 1
  simp
theorem xx{P:Program}{w:World}{b o:Nat}(vs:List Value)(n:Nat)(hn:vs.length=n)(h:∀j,j<n->w.cell? ⟨b,o+j,none⟩=vs[j]?) :
  (loadCells ⟨b,o,none⟩ n).run P w=.ok ⟨vs⟩ w:=by
 subst hn;have:=rZ (P:=P) (w:=w) (b:=b) (o:=o) vs 0 #[] (fun j hj=>by simpa using h j hj);simpa[loadCells]using this
section
variable {base:Nat} {ρ:eR} {m:Mem} {w:World} {P:Program}
theorem xw(hR:R base ρ m w){t:TypeId}{g:Option Nat}(hg:yj P t=some g){e v:EV}{a':Value}(ha:VR ρ e a')(h:m.load g e=some v) :
  ∃a v',a'=.pointer (some a)/\(loadVar t a).run P w=.ok v' w/\VR ρ v v':=by
 cases e<;>simp[Mem.load]at h
 case gu=>cases ha
 rename_i b off
 cases ha with
 | @ptr _ _ L hb=>
 refine⟨⟨L.dW,L.off+off,none⟩,?_⟩
 cases hm:m.get b with
 |dead=>simp[hm]at h
 |map es=>simp[hm]at h
 |cells cs esz el ro=>
  simp[hm]at h;obtain⟨hag,tF⟩:=Gf hg w;cases g with
  |none=>
   simp[partOf]at h;obtain⟨v',h1,h2,_⟩:=hR.cell hb hm off v (by simpa using h);exact⟨v',rfl,by simp[loadVar,hag,h1],h2⟩
  |some n=>
   simp only[partOf]at h;cases hl:(off+n).ble cs.length<;>simp[hl]at h
   subst h;obtain⟨vs,h1,h2,h3,h4⟩:=hR.cells hb hm off n (rI hl);refine⟨.agg ⟨vs⟩,rfl,?_,.agg h3 h4⟩
   simp[loadVar,hag,tF n rfl,xx vs n h1 h2]
theorem FP(hR:R base ρ m w){b off n:Nat}{L:Loc}(hb:ρ b=some L){xs:List EV}(h:m.row b off n=some xs) :
  ∃vs:List Value,vs.length=n/\xs.length=n/\(loadCells ⟨L.dW,L.off+off,none⟩ n).run P w=.ok ⟨vs⟩ w/\gi ρ xs vs/\∀c∈vs,c.oneCell'=true:=by
 by_cases hn:n=0
 ·subst hn;rw[Mem.od]at h;cases h;exact⟨[],rfl,rfl,rfl,.nil,by simp⟩
 rw[Mem.qz hn]at h;unfold Mem.E6 at h;cases hm:m.get b with
 |dead=>simp[hm]at h
 |map es=>simp[hm]at h
 |cells cs esz el ro=>
  simp only[hm]at h;cases hl:(off+n).ble cs.length<;>simp[hl]at h
  have zm:=rI hl;obtain⟨vs,h1,h2,h3,h4⟩:=hR.cells hb hm off n zm;refine⟨vs,h1,?_,xx vs n h1 h2,h▸h3,h4⟩
  subst h;simp;omega
theorem R.UD{m1:Mem}(hR:R base ρ m w)(hn:m1.next=m.next)(hg:∀b,m1.get b=m.get b):R base ρ m1 w/\Step ρ m w ρ m1 w:=by
 have hl:∀b,Live m1 b↔Live m b:=fun b=>by unfold Live;rw[hg]
 refine⟨⟨fun b L h=>by rw[hn];exact hR.lt b L h,fun b L h=>by rw[hg];exact hR.dW b L h,fun b c L L' h1 h2 h3 h4=>hR.inj b c L L' h1 h2 ((hl b).1 h3) ((hl c).1 h4),hR.base,fun b h=>by rw[hg];exact hR.clean b (by rw[<- hn];exact h)⟩,
  ⟨.refl ρ,fun _ h h'=>absurd h h',by rw[hn];exact cR _,fun b _ _=>hg b,fun b _ h=>by rw[hg];exact h,cR _,fun i _ h=> ?_,fun _ _ _=>rfl,rfl,rfl,rfl⟩⟩
 obtain⟨b,L,h1,h2,h3,h4⟩:=h;exact⟨b,L,h1,(hl b).1 h2,h3,h4⟩
theorem Qu{m m1:Mem}{b off:Nat}(h:m.write b off []=some m1):m1.next=m.next/\∀c,m1.get c=m.get c:=by
 unfold Mem.write at h;cases hm:m.get b with
 |dead=>simp[hm]at h
 |map es=>simp[hm]at h
 |cells cs e t ro=>
  simp only[hm]at h;cases ro<;>simp only[cond_true,cond_false,reduceCtorEq]at h
  obtain⟨cs1,h1,rfl⟩:=mH.1 h;unfold kW at h1;cases hl:(off+([]:List EV).length).ble cs.length<;>simp only[hl,cond_true,cond_false,reduceCtorEq,bQ]at h1
  have:cs1=cs:=by rw[<- h1];simp
  subst this;refine⟨rfl,fun c=> ?_⟩
  rw[Mem.ct]
  split
  ·rename_i e;subst e;exact hm.symm
  ·rfl
theorem qU{b o:Nat}{e:TypeId}{fz:Nat×Nat}:∀(vs:List Value) (i:Nat) (w:World) (arr:Array Value),w.heap[b]?=some (.cells arr e fz)->o+i+vs.length<=arr.size->To fz arr.size->
  (∀c∈vs,c.oneCell'=true)->∃w' Ir,(storeCells ⟨b,o,none⟩ vs i).run P w=.ok () w'/\w'.heap[b]?=some (.cells Ir e fz)/\Ir.size=arr.size/\
   (∀j,Ir[j]?=if o+i<=j/\j<o+i+vs.length then vs[j-(o+i)]? else arr[j]?)/\(∀k,k≠b->w'.heap[k]?=w.heap[k]?)/\w'.heap.size=w.heap.size/\w'.os=w.os/\w'.tape=w.tape/\w'.output=w.output
 |[],i,w,arr,h,_,_,_=>⟨w,arr,rfl,h,rfl,fun j=>by rw[if_neg (fun h=>by have h2:=h.2;simp at h2;omega)],fun _ _=>rfl,rfl,rfl,rfl,rfl⟩
 |v::vs,i,w,arr,h,hl,hf,hv=>by
  simp at hl;have aH:o+i<arr.size:=by omega
  have hc:w.cell? ⟨b,o+i,none⟩=some arr[o+i]:=by rw[Qe h,Array.getElem?_eq_getElem aH]
  have hfr:=SA h hf aH;have hv0:=hv v (by simp);have hbw:b<w.heap.size:=(Array.getElem?_eq_some_iff.1 h).1;have ahC:(w.setCell ⟨b,o+i,none⟩ v).heap[b]?=some (.cells (arr.setIfInBounds (o+i) v) e fz):=by simp[World.setCell,Array.getElem?_modify,h]
  have HG:∀k,k≠b->(w.setCell ⟨b,o+i,none⟩ v).heap[k]?=w.heap[k]?:=by
   intro k hk;simp[World.setCell,Array.getElem?_modify,Ne.symm hk]
  obtain⟨w',Ir,r1,r2,r3,r4,r5,r6,r7,r8,r9⟩:=qU (b:=b) (o:=o) vs (i+1) (w.setCell ⟨b,o+i,none⟩ v) (arr.setIfInBounds (o+i) v) ahC (by simp;omega) (by simpa using hf) (fun c hc=>hv c (by simp[hc]));refine⟨w',Ir,?_,r2,by simpa using r3,?_,fun k hk=>(r5 k hk).trans (HG k hk),by simpa using r6,r7,r8,r9⟩
  ·simp only[storeCells,Sem.run_bind,Addr.add_lit,run_store P w _ v _ hv0,hc,hfr,if_false,Result.andThen_ok,rF];exact r1
  ·intro j;rw[r4 j];by_cases hj:j=o+i
   ·subst hj;rw[if_neg (by omega),if_pos (by simp)];simp[aH]
   ·by_cases hj2:o+(i+1)<=j/\j<o+(i+1)+vs.length
    ·rw[if_pos hj2,if_pos (by simp;omega)];rw[show j-(o+i)=(j-(o+(i+1)))+1 by omega];simp
    ·rw[if_neg hj2,if_neg (by simp;omega)];rw[Array.getElem?_setIfInBounds_ne (by omega)]
end
theorem CZ{cs vs ds:List EV}{off:Nat}(h:kW cs off vs=some ds):ds.length=cs.length/\off+vs.length<=cs.length/\
  ∀j,ds[j]?=if off<=j/\j<off+vs.length then vs[j- off]? else cs[j]?:=by
 unfold kW at h;cases hl:(off+vs.length).ble cs.length<;>simp[hl]at h
 have zm:=rI hl;subst h;refine⟨by simp;omega,zm,fun j=> ?_⟩
 by_cases h1:j<off
 ·rw[if_neg (by omega),rB (by simp;omega),List.getElem?_take,if_pos h1]
 ·rw[yy (by simp;omega)];have hm:min off cs.length=off:=by omega
  simp only[List.length_take,hm];by_cases h2:j<off+vs.length
  ·rw[if_pos ⟨by omega,h2⟩,rB (by omega)]
  ·rw[if_neg (by omega),yy (by omega),List.getElem?_drop]
   congr 1
   omega
section
variable {base:Nat} {ρ:eR} {m m':Mem} {w:World} {P:Program}
theorem rJ(hR:R base ρ m w){b off:Nat}{L:Loc}(hb:ρ b=some L){vs:List EV}{vz:List Value}(hv:gi ρ vs vz)(hf:∀c∈vz,c.oneCell'=true)(h:m.write b off vs=some m') :
  ∃w',(storeCells ⟨L.dW,L.off+off,none⟩ vz).run P w=.ok () w'/\R base ρ m' w'/\Step ρ m w ρ m' w':=by
 unfold Mem.write at h;cases hm:m.get b with
 |dead=>simp[hm]at h
 |map es=>simp[hm]at h
 |cells cs esz el ro=>
  simp only[hm]at h;cases ro with
  |true=>simp at h
  |false=>
  simp only[cond_false]at h;obtain⟨ds,hs,rfl⟩:=mH.1 h;obtain⟨s1,s2,s3⟩:=CZ hs;have hB:=hR.dW b L hb;rw[hm]at hB;obtain⟨arr,e,fz,h1,h2,h3,h4,h5,h6,h7,h8⟩:=hB;obtain⟨Kk,zp⟩:=h7 rfl;have hlen:=hv.length;obtain⟨w',Ir,r1,r2,r3,r4,r5,r6,r7,r8,r9⟩:=qU (P:=P) (o:=L.off+off) vz 0 w arr h1 (by omega) zp hf;have vn:Live m b:=by unfold Live;rw[hm];simp
  have oH:∀c,c≠b->(m.set b (.cells ds esz el false)).get c=m.get c:=fun c hc=>by rw[Mem.ct,if_neg hc]
  have DJ:∀c,Live (m.set b (.cells ds esz el false)) c->Live m c:=by
   intro c hc;by_cases e:c=b
   ·subst e;exact vn
   ·unfold Live at hc⊢;rwa [oH c e]at hc
  have hbw:L.dW<w.heap.size:=(Array.getElem?_eq_some_iff.1 h1).1;refine⟨w',r1,⟨hR.lt,?_,?_,by rw[r6];exact hR.base,fun c hc=>by rw[oH c (fun e=>by subst e;have:=hR.lt _ _ hb;rw[Mem.aj]at hc;omega)];exact hR.clean c hc⟩,⟨.refl ρ,fun _ h h'=>absurd h h',cR _,?_,fun c hc hd=>by rw[oH c (fun e=>by subst e;rw[hm]at hd;cases hd)];exact hd,by omega,?_,?_,r7,r8,r9⟩⟩
  ·intro c M hM;by_cases e:c=b
   ·subst e;rw[hb]at hM;cases hM;rw[Mem.ct,if_pos rfl];refine⟨Ir,_,fz,r2,by omega,h3,h4,by omega,?_,fun _=>⟨Kk,by rw[r3];exact zp⟩,h8⟩
    intro i v hi;rw[s3 i]at hi;rw[r4];by_cases BW:off<=i/\i<off+vs.length
    ·rw[if_pos BW]at hi;rw[if_pos (by omega)];obtain⟨v',g1,g2⟩:=hv.get _ v hi;rw[show L.off+i-(L.off+off+0)=i- off by omega];exact⟨v',g1,g2,hf v' (List.mem_of_getElem? g1)⟩
    ·rw[if_neg BW]at hi;rw[if_neg (by omega)];exact h6 i v hi
   ·rw[oH c e];by_cases hl:m.get c=.dead
    ·rw[hl];trivial
    ·have fR:M.dW≠L.dW:=fun uX=>e (hR.inj b c L M hb hM vn hl (by rw[h4]) uX.symm).symm
     exact(hR.dW c M hM).of_heap (.refl ρ) (r5 _ fR)
  ·intro c d M M' hM HP hl zm sH uX;exact hR.inj c d M M' hM HP (DJ c hl) (DJ d zm) sH uX
  ·intro c hc hn;exact oH c (fun e=>by subst e;rw[hb]at hn;cases hn)
  ·rintro i hi ⟨c,M,hM,hl,sH,uX⟩;exact⟨c,M,hM,DJ c hl,sH,uX⟩
  ·intro i hi hr;exact r5 i (fun e=>hr ⟨b,L,hb,vn,by rw[h4],e.symm⟩)
theorem rR(hR:RN base ρ m w){cs:List EV}{vs:List Value}(hv:gi ρ cs vs)(hf:∀c∈vs,c.oneCell'=true)(esz el:Nat)(t:TypeId)(rm:List Value)(fz:Nat×Nat)(zp:To fz (vs.length+rm.length))(w':World)
  (g:Iw w (.cells ⟨vs++rm⟩ t fz) w'):∃L,ρ.put m.next L m.next=some L/\L.dW=w.heap.size/\L.off=0/\L.total=vs.length+rm.length/\L.esz=esz/\L.ro=false/\
   Made base ρ m w (ρ.put m.next L) (.cells cs esz el false) w':=by
 let L:Loc:=⟨w.heap.size,0,vs.length+rm.length,esz,false⟩
 have he:=eR.HZ L hR.free;have hlen:=hv.length;have a:=JA hR (.cells cs esz el false) _ g L rfl (by
  refine⟨⟨vs++rm⟩,t,fz,g.new,by simp[L],rfl,rfl,by simp[L];omega,?_,fun _=>⟨hR.base,by simpa using zp⟩,by simp⟩
  intro i v hi;obtain⟨v',g1,g2⟩:=hv.get i v hi;refine⟨v',?_,g2.ext he,hf v' (List.mem_of_getElem? g1)⟩
  have aH:i<vs.length:=(mu.1 g1).1;simp[L,rB aH,g1])
 exact⟨L,by simp[eR.put],rfl,rfl,rfl,rfl,rfl,a⟩
theorem Hi(hR:R base ρ m w){cs:List EV}{vs:List Value}(hv:gi ρ cs vs)(hf:∀c∈vs,c.oneCell'=true)(esz el:Nat)(t:TypeId)(rm:List Value)(fz:Nat×Nat)(zp:To fz (vs.length+rm.length))(w':World)
  (g:Iw w (.cells ⟨vs++rm⟩ t fz) w'):∃L,ρ.put m.next L m.next=some L/\L.dW=w.heap.size/\L.off=0/\L.total=vs.length+rm.length/\L.esz=esz/\L.ro=false/\
   R base (ρ.put m.next L) (m.new (.cells cs esz el false)) w'/\Step ρ m w (ρ.put m.next L) (m.new (.cells cs esz el false)) w':=by
 obtain⟨L,h1,h2,h3,h4,h5,h6,h7⟩:=rR hR.n hv hf esz el t rm fz zp w' g;exact⟨L,h1,h2,h3,h4,h5,h6,h7.whole hR⟩
end
theorem AY(n:Nat):To (0,0) n:=fun i _=>by simp
theorem VR.cells{ρ:eR}{v:EV}{v':Value}(h:VR ρ v v'){cs:List EV}(hc:v.cells=some cs):gi ρ cs v'.cells.toList/\∀c∈v'.cells.toList,c.oneCell'=true:=by
 cases h<;>simp only[EV.cells,bQ,reduceCtorEq]at hc<;>subst hc
 case agg h hf=>exact⟨h,hf⟩
 case ptr h=>exact⟨.cons (.ptr h) .nil,by simp[Value.cells,Value.oneCell']⟩
 case slice h1 h2 h3 h4=>exact⟨.cons (.slice h1 h2 h3 h4) .nil,by simp[Value.cells,Value.oneCell']⟩
 case gN h1 h2 h3=>exact⟨.cons (.gN h1 h2 h3) .nil,by simp[Value.cells,Value.oneCell']⟩
 case map h=>exact⟨.cons (.map h) .nil,by simp[Value.cells,Value.oneCell']⟩
 case func h1 h2=>exact⟨.cons (.func h1 h2) .nil,by simp[Value.cells,Value.oneCell']⟩
 case iface h=>exact⟨.cons (.iface h) .nil,by simp[Value.cells,Value.oneCell']⟩
 all_goals exact⟨.cons (by constructor) .nil,by simp[Value.cells,Value.oneCell']⟩
end
section
def lx(G:List Nat)(ρ:eR):Prop:=∀g,G.contains g=true->∃L,ρ g=some L/\L.dW=g/\L.off=0/\∀l,tabl g=some l->L.total=l.length
theorem lx.ext{G:List Nat}{ρ ρ':eR}(e:Ext ρ ρ')(h:lx G ρ):lx G ρ':=fun g hg=>let ⟨L,a,b,c,d⟩:=h g hg;⟨L,e _ _ a,b,c,d⟩
theorem mapM_some{α β:Type}(f:α->Option β):∀{l:List α} {r:List β},l.mapM f=some r->l.length=r.length/\∀(i:Nat) (x:α) (y:β),l[i]?=some x->r[i]?=some y->f x=some y
 |[],r,h=>by simp at h;subst h;simp
 |a::l,r,h=>by
  rw[List.mapM_cons]at h;cases ha:f a with
  |none=>simp[ha]at h
  |some b=>
   cases hl:l.mapM f with
   |none=>simp[ha,hl]at h
   |some bs=>
    simp[ha,hl]at h;subst h;obtain⟨h1,h2⟩:=mapM_some f hl;refine⟨by simp[h1],fun i x y hx hy=> ?_⟩
    cases i with
    |zero=>simp at hx hy;subst hx hy;exact ha
    |succ i=>simp at hx hy;exact h2 i x y hx hy
theorem Xm{ρ:eR}{e:EV}{v:Value}(h:VR ρ e v)(hf:PX e=true):v.oneCell'=true:=by
 cases h<;>first|rfl|simp[PX]at hf
theorem Lb{ρ:eR}:∀(n:Nat) (v:Value) (e:EV),cV n v=some e->VR ρ e v:=by
 intro n
 induction n with
 |zero=>intro v e h;simp[cV]at h
 |succ n ih=>
  have list:∀(l:List Value) (r:List EV),l.mapM (cV n)=some r->gi ρ r l:=by
   intro l r h;obtain⟨h1,h2⟩:=mapM_some _ h;exact gi.sB h1.symm fun i v v' hv tE=>ih _ _ (h2 i v' v tE hv)
  intro v e h;unfold cV at h
  split at h
  ·cases h;constructor
  ·cases h;constructor
  ·cases h;constructor
  ·cases h;constructor
  ·cases h;constructor
  ·cases h;constructor
  ·cases h;constructor
  ·cases h;constructor
  ·rename_i f a c
   cases ha:a.toList.mapM (cV n)with
   |none=>simp[ha]at h
   |some x=>
    cases hc:c.toList.mapM (cV n)with
    |none=>simp[ha,hc]at h
    |some y=>simp[ha,hc]at h;subst h;exact .func (list _ _ ha) (list _ _ hc)
  ·obtain⟨x,hx,rfl⟩:=mH.1 h;exact .iface (ih _ _ hx)
  ·rename_i cs
   cases hx:cs.toList.mapM (cV n)with
   |none=>simp[hx]at h
   |some x=>
    simp only[hx]at h;cases hf:x.all PX<;>simp[hf]at h
    subst h;have hl:=list _ _ hx;refine .agg hl fun c hc=> ?_
    obtain⟨i,hi⟩:=List.mem_iff_getElem?.1 hc;have aH:i<x.length:=by rw[hl.length];exact(mu.1 hi).1
    obtain⟨v',h1,h2⟩:=hl.get i x[i] (jE aH);rw[hi]at h1;cases h1;exact Xm h2 (List.all_eq_true.1 hf _ (oX aH))
  ·obtain⟨x,hx,rfl⟩:=mH.1 h;exact .tuple (list _ _ hx)
  ·cases h
structure FR(ρ:eR)(n:Nat)(fr:Fr)(a:Act):Prop where
 size:a.tmps.size=n
 tmp:∀t,VR ρ (fr.get t) (a.tmps.getD t undef)
theorem FR.ext{ρ ρ':eR}{n:Nat}{fr:Fr}{a:Act}(e:Ext ρ ρ')(h:FR ρ n fr a):FR ρ' n fr a:=⟨h.size,fun t=>(h.tmp t).ext e⟩
theorem Fr.ct(fr:Fr)(d t:Nat)(v:EV):(fr.set d v).get t=if t=d then v else fr.get t:=by
 unfold Fr.get Fr.set;simp only[Tr.ct]
 split<;>rfl
theorem FR.put{ρ:eR}{n:Nat}{fr:Fr}{a:Act}(h:FR ρ n fr a){d:Option Nat}(hd:∀x,d=some x->x<n){v:EV}{v':Value}(hv:VR ρ v v'):FR ρ n (fr.put d v) (a.put d v'):=by
 cases d with
 |none=>exact h
 |some d=>
  have aH:=hd d rfl;refine⟨by simp[Act.put,h.size],fun t=> ?_⟩
  simp only[Fr.put,Fr.ct,Act.put];by_cases e:t=d
  ·subst e;rw[if_pos rfl];rw[Array.getD_eq_getD_getElem?,Array.getElem?_setIfInBounds_self_of_lt (by rw[h.size];exact aH)];exact hv
  ·rw[if_neg e];rw[Array.getD_eq_getD_getElem?,Array.getElem?_setIfInBounds_ne (by omega),<- Array.getD_eq_getD_getElem?];exact h.tmp t
section
variable {G:List Nat} {ρ:eR} {n:Nat} {fr:Fr} {a:Act}
theorem j3(hG:lx G ρ)(hF:FR ρ n fr a){x:Operand}{y:bm}(h:fS G x=some y):VR ρ (fr.eval y) (a.eval x):=by
 cases x with
 |tmp t=>simp[fS]at h;subst h;exact hF.tmp t
 |const v=>simp[fS]at h;obtain⟨e,he,rfl⟩:=h;exact Lb _ _ _ he
 |global g=>
  simp only[fS]at h;cases hg:G.contains g<;>simp only[hg,cond_true,cond_false,reduceCtorEq,bQ]at h
  subst h;obtain⟨L,h1,h2,h3,_⟩:=hG g hg;have:=VR.ptr (off:=0) h1;rw[h2,h3]at this;exact this
 |func f=>simp[fS]at h;subst h;exact .func .nil .nil
theorem pV(hG:lx G ρ)(hF:FR ρ n fr a){xs:List Operand}{ys:List bm}(h:Aa G xs=some ys):gi ρ (ys.map fr.eval) (xs.map a.eval):=by
 obtain⟨h1,h2⟩:=mapM_some _ h;exact gi.Hp _ _ (R:=fun y x=>fS G x=some y) (fun y x hxy=>j3 hG hF hxy) h1.symm fun i y x hy hx=>h2 i x y hx hy
inductive uN(ρ:eR):Option EV->Option Value->Prop
 |none:uN ρ none none
 |some {v:EV} {v':Value} (h:VR ρ v v'):uN ρ (some v) (some v')
theorem OH(hG:lx G ρ)(hF:FR ρ n fr a){x:Option Operand}{y:Option bm}(h:Ld G x=some y):uN ρ (y.map fr.eval) (x.map a.eval):=by
 cases x with
 |none=>simp[Ld]at h;subst h;exact .none
 |some x=>simp[Ld]at h;obtain⟨z,hz,rfl⟩:=h;exact .some (j3 hG hF hz)
end
def Good(base:Nat)(ρ:eR)(m:Mem)(w:World)(v:EV)(m':Mem)(r:Result Next):Prop:=
 ∃ρ' w' v',(r=.ok (.value v') w'\/(r=.ok .skip w'/\v'=undef))/\VR ρ' v v'/\R base ρ' m' w'/\Step ρ m w ρ' m' w'
section
variable {base:Nat} {ρ:eR} {m:Mem} {w:World} {P:Program}
theorem Good.still(hR:R base ρ m w){v:EV}{v':Value}{s:Sem Value}(h:s.run P w=.ok v' w)(hv:VR ρ v v') :
  Good base ρ m w v m ((do pure (Next.value (<- s)):Sem Next).run P w):=
 ⟨ρ,w,v',.inl (by simp[h]),hv,hR,.refl _ _ _⟩
theorem Good.quiet(hR:R base ρ m w){v:EV}{v':Value}{s:Sem Value}{w':World}(h:s.run P w=.ok v' w')(q:EC w w')(hv:VR ρ v v') :
  Good base ρ m w v m ((do pure (Next.value (<- s)):Sem Next).run P w):=
 ⟨ρ,w',v',.inl (by simp[h]),hv,hR.quiet q,.quiet q⟩
theorem gJ:∀{a b:List UInt8},mw a b=decide (a=b)
 |[],[]=>rfl
 |[],_::_=>by simp[mw]
 |_::_,[]=>by simp[mw]
 |x::a,y::b=>by
  simp only[mw,List.cons.injEq];cases h:x.toNat.beq y.toNat with
  |true=>
   have:x=y:=UInt8.toNat_inj.1 (bf h);simp[this,gJ (a:=a) (b:=b)]
  |false=>
   have:x≠y:=fun e=>my h (by rw[e])
   simp[this]
theorem lW{k l:IntKind}(h:(cx k).beq (cx l)=true):k=l:=by
 have:=bf h;cases k<;>cases l<;>simp[cx]at this<;>rfl
theorem Et{op:BinOp}{k:IntKind}{x y n:Int}(h:sP op k x y=some n):Op.intBits op k x y=(Pure.pure (.int k n):Sem Value):=by
 cases op<;>simp only[sP,reduceCtorEq,bQ]at h<;>subst h<;>rfl
theorem SO{op:BinOp}{t:TypeId}{k l:IntKind}{x y:Int}{v:EV}(h:eV op (.int k x) (.int l y)=some v):∃v',VR ρ v v'/\(binOp op t (.int k x) (.int l y)).run P w=.ok v' w:=by
 simp only[eV]at h;cases op
 case shl=>
  simp only[uJ]at h
  split at h
  ·cases h
  ·rename_i hn;cases h;exact⟨_,.int _ _,by simp[binOp,Op.shift,hn]⟩
 case shr=>
  simp only[uJ]at h
  split at h
  ·cases h
  ·rename_i hn;cases h;exact⟨_,.int _ _,by simp[binOp,Op.shift,hn]⟩
 all_goals
  simp only[]at h;cases hk:(cx k).beq (cx l)<;>simp only[hk,cond_true,cond_false,reduceCtorEq]at h
  obtain rfl:=lW hk;simp only[pU]at h
 case add=>cases h;exact⟨_,.int _ _,by simp[binOp,Op.intArith]⟩
 case sub=>cases h;exact⟨_,.int _ _,by simp[binOp,Op.intArith]⟩
 case mul=>cases h;exact⟨_,.int _ _,by simp[binOp,Op.intArith]⟩
 case quo=>split at h<;>cases h;rename_i hy;exact⟨_,.int _ _,by simp[binOp,Op.intDiv,hy]⟩
 case rem=>split at h<;>cases h;rename_i hy;exact⟨_,.int _ _,by simp[binOp,Op.intDiv,hy]⟩
 case eql=>cases h;exact⟨_,.bool _,by simp[binOp,Op.intCmp];rfl⟩
 case neq=>cases h;exact⟨_,.bool _,by simp[binOp,Op.intCmp];rfl⟩
 case lss=>cases h;exact⟨_,.bool _,by simp[binOp,Op.intCmp]⟩
 case leq=>cases h;exact⟨_,.bool _,by simp[binOp,Op.intCmp]⟩
 case gtr=>cases h;exact⟨_,.bool _,by simp[binOp,Op.intCmp]⟩
 case geq=>cases h;exact⟨_,.bool _,by simp[binOp,Op.intCmp]⟩
 all_goals
  obtain⟨n,hn,rfl⟩:=mH.1 h;exact⟨_,.int _ _,by simp[binOp,Et hn]⟩
theorem yk(s:ByteArray):s.toList=s.data.toList:=by
 have aux:∀(s:ByteArray) (i:Nat) (acc:List UInt8),ByteArray.toList.loop s i acc=acc.reverse++s.data.toList.drop i:=by
  intro s i acc
  fun_induction ByteArray.toList.loop s i acc with
  |case1 i acc h ih=>
   rw[ih];have aH:i<s.data.toList.length:=by simpa using h
   have hg:s.get! i=s.data.toList[i]:=by
    simp[ByteArray.get!,getElem!_def];rw[Array.getElem?_eq_getElem (by simpa using h)]
   rw[List.drop_eq_getElem_cons aH,hg];simp
  |case2 i acc h=>
   rw[List.drop_of_length_le (by simpa using h)];simp
 simp[ByteArray.toList,aux]
theorem DA(a b:List UInt8):(a==b)=decide (a=b):=by rw[Bool.eq_iff_iff];simp
theorem SN{op:BinOp}{t:TypeId}{x y:ByteArray}{v:EV}(h:eV op (.str x.data.toList) (.str y.data.toList)=some v):∃v',VR ρ v v'/\(binOp op t (.string x) (.string y)).run P w=.ok v' w:=by
 simp only[eV]at h;cases op<;>simp only[reduceCtorEq,bQ]at h
 case add=>
  cases hl:(x.data.toList.length+y.data.toList.length).ble 4294967296<;>simp only[hl,cond_true,cond_false,reduceCtorEq,bQ]at h
  subst h;have hle:=rI hl;refine⟨.string (x++y),?_,?_⟩
  ·have:=VR.str (ρ:=ρ) (x++y);rw[ByteArray.data_append,Array.toList_append]at this;exact this
  ·have hx:x.size=x.data.toList.length:=rfl;have hy:y.size=y.data.toList.length:=rfl;have:¬((x.size+y.size:Nat):Int)>IntKind.i64.max:=by
    rw[hx,hy];simp only[IntKind.max_i64];omega
   simp only[binOp,Op.stringOp];rw[if_neg this]
   rfl
 case eql=>
  subst h;exact⟨_,.bool _,by simp only[binOp,Op.stringOp,yk,gJ,DA];rfl⟩
 case neq=>
  subst h;exact⟨_,.bool _,by simp only[binOp,Op.stringOp,yk,gJ,DA];rfl⟩
theorem KV{op:BinOp}{t:TypeId}{x y v:EV}{x' y':Value}(hx:VR ρ x x')(hy:VR ρ y y')(h:eV op x y=some v) :
  ∃v',VR ρ v v'/\(binOp op t x' y').run P w=.ok v' w:=by
 cases hx<;>cases hy<;>first
  |exact SO h
  |exact SN h
  |(simp[eV]at h;done)
theorem Fj{op:BinOp}{t:TypeId}{x y:Operand}{a b:Value}(h:op≠.eql)(h':op≠.neq):eqGuard op t x y a b=(Pure.pure ():Sem Unit):=by
 cases op<;>first|rfl|exact absurd rfl h|exact absurd rfl h'
theorem N1{op:UnOp}{x v:EV}{x':Value}(hx:VR ρ x x')(h:D6 op x=some v):∃v',VR ρ v v'/\(Op.unary op x').run P w=.ok v' w:=by
 cases hx<;>cases op<;>simp only[D6,reduceCtorEq,bQ]at h
 case int.neg=>subst h;exact⟨_,.int _ _,by simp[Op.unary,Op.intArith]⟩
 case int.xor=>
  obtain⟨n,hn,rfl⟩:=mH.1 h;exact⟨_,.int _ _,by simp[Op.unary,Et hn]⟩
 case bool.not=>subst h;exact⟨_,.bool _,by simp[Op.unary]⟩
end
end
section
section
variable {base:Nat} {ρ:eR} {m:Mem} {w:World} {P:Program}
theorem um{t:TypeId}{g:Option Nat}(hg:yj P t=some g){cs:List EV}{oM:List Value}(hv:gi ρ cs oM)(hf:∀c∈oM,c.oneCell'=true){off:Nat}{v:EV}(h:partOf g cs off=some v) :
  ∃v',VR ρ v v'/\(part t (⟨oM⟩:Array Value) off).run P w=.ok v' w:=by
 obtain⟨hag,tF⟩:=Gf (P:=P) hg w;cases g with
 |none=>
  obtain⟨v',h1,h2⟩:=hv.get off v h;exact⟨v',h2,by simp[part,hag,h1]⟩
 |some n=>
  simp only[partOf]at h;cases hl:(off+n).ble cs.length<;>simp only[hl,cond_true,cond_false,reduceCtorEq,bQ]at h
  subst h;refine⟨.agg ⟨(oM.drop off).take n⟩,.agg ((hv.drop off).take n) (fun c hc=>hf c (List.mem_of_mem_drop (List.mem_of_mem_take hc))),?_⟩
  simp only[part,Sem.run_bind,hag,Result.andThen_ok,Option.isSome_some,if_true,tF n rfl,Sem.run_pure]
  congr 2
  apply Array.ext'
  simp[List.extract_eq_take_drop]
def EK(t:Nat)(d:TypeDesc):Prop:=
 match t with
 |0=>d=.bool
 |1=>∃k,d=.int k
 |2=>d=.string
 |3=>∃e,d=.pointer e
 |4=>∃e,d=.slice e
 |5=>∃k e,d=.map k e
 |6=>∃p r v,d=.func p r v
 |7=>∃ms,d=.interface ms
 |_=>False
theorem bytes_beq(a b:ByteArray):(a==b)=decide (a.data.toList=b.data.toList):=by
 cases a;cases b
 rename_i x y
 show (x==y)=decide (x.toList=y.toList);rw[Bool.eq_iff_iff];simp[Array.toList_inj]
theorem H8{k:Nat}{t:TypeId}{d:TypeDesc}(hu:P.underlying t=some d)(hk:EK k d){x y:EV}{x' y':Value}(hx:VR ρ x x')(hy:VR ρ y y'){b:Bool}(h:ew k x y=some b)(n:Nat) :
  (Op.equalIn (n+1) t x' y').run P w=.ok b w:=by
 cases hx<;>cases hy<;>simp only[ew,reduceCtorEq]at h
 case bool.bool a c=>
  cases hb:k.beq 0<;>simp only[hb,cond_true,cond_false,reduceCtorEq,bQ]at h
  rw[bf hb]at hk;subst hk;subst h;simp[Op.equalIn,run_underlying hu]
 case int.int k1 a l c=>
  cases hb:k.beq 1<;>simp only[hb,cond_true,cond_false,reduceCtorEq]at h
  cases uW:(cx k1).beq (cx l)<;>simp only[uW,cond_true,cond_false,reduceCtorEq,bQ]at h
  obtain rfl:=lW uW;rw[bf hb]at hk;obtain⟨kk,rfl⟩:=hk;subst h;simp[Op.equalIn,run_underlying hu];rfl
 case str.str a c=>
  cases hb:k.beq 2<;>simp only[hb,cond_true,cond_false,reduceCtorEq,bQ]at h
  rw[bf hb]at hk;subst hk;subst h;simp[Op.equalIn,run_underlying hu,gJ,bytes_beq]
 case bM.bM=>
  cases hb:k.beq 3<;>simp only[hb,cond_true,cond_false,reduceCtorEq,bQ]at h
  rw[bf hb]at hk;obtain⟨e,rfl⟩:=hk;subst h;simp[Op.equalIn,run_underlying hu]
 case bM.ptr=>
  cases hb:k.beq 3<;>simp only[hb,cond_true,cond_false,reduceCtorEq,bQ]at h
  rw[bf hb]at hk;obtain⟨e,rfl⟩:=hk;subst h;simp[Op.equalIn,run_underlying hu]
 case ptr.bM=>
  cases hb:k.beq 3<;>simp only[hb,cond_true,cond_false,reduceCtorEq,bQ]at h
  rw[bf hb]at hk;obtain⟨e,rfl⟩:=hk;subst h;simp[Op.equalIn,run_underlying hu]
 case aa.aa=>
  cases hb:k.beq 4<;>simp only[hb,cond_true,cond_false,reduceCtorEq,bQ]at h
  rw[bf hb]at hk;obtain⟨e,rfl⟩:=hk;subst h;simp[Op.equalIn,run_underlying hu]
 case aa.slice=>
  cases hb:k.beq 4<;>simp only[hb,cond_true,cond_false,reduceCtorEq,bQ]at h
  rw[bf hb]at hk;obtain⟨e,rfl⟩:=hk;subst h;simp[Op.equalIn,run_underlying hu]
 case aa.jA=>
  cases hb:k.beq 4<;>simp only[hb,cond_true,cond_false,reduceCtorEq,bQ]at h
  rw[bf hb]at hk;obtain⟨e,rfl⟩:=hk;subst h;simp[Op.equalIn,run_underlying hu]
 case aa.gN=>
  cases hb:k.beq 4<;>simp only[hb,cond_true,cond_false,reduceCtorEq,bQ]at h
  rw[bf hb]at hk;obtain⟨e,rfl⟩:=hk;subst h;simp[Op.equalIn,run_underlying hu]
 case slice.aa=>
  cases hb:k.beq 4<;>simp only[hb,cond_true,cond_false,reduceCtorEq,bQ]at h
  rw[bf hb]at hk;obtain⟨e,rfl⟩:=hk;subst h;simp[Op.equalIn,run_underlying hu]
 case jA.aa=>
  cases hb:k.beq 4<;>simp only[hb,cond_true,cond_false,reduceCtorEq,bQ]at h
  rw[bf hb]at hk;obtain⟨e,rfl⟩:=hk;subst h;simp[Op.equalIn,run_underlying hu]
 case gN.aa=>
  cases hb:k.beq 4<;>simp only[hb,cond_true,cond_false,reduceCtorEq,bQ]at h
  rw[bf hb]at hk;obtain⟨e,rfl⟩:=hk;subst h;simp[Op.equalIn,run_underlying hu]
 case bN.bN=>
  cases hb:k.beq 5<;>simp only[hb,cond_true,cond_false,reduceCtorEq,bQ]at h
  rw[bf hb]at hk;obtain⟨e,f,rfl⟩:=hk;subst h;simp[Op.equalIn,run_underlying hu]
 case bN.map=>
  cases hb:k.beq 5<;>simp only[hb,cond_true,cond_false,reduceCtorEq,bQ]at h
  rw[bf hb]at hk;obtain⟨e,f,rfl⟩:=hk;subst h;simp[Op.equalIn,run_underlying hu]
 case map.bN=>
  cases hb:k.beq 5<;>simp only[hb,cond_true,cond_false,reduceCtorEq,bQ]at h
  rw[bf hb]at hk;obtain⟨e,f,rfl⟩:=hk;subst h;simp[Op.equalIn,run_underlying hu]
 case bS.bS=>
  cases hb:k.beq 6<;>simp only[hb,cond_true,cond_false,reduceCtorEq,bQ]at h
  rw[bf hb]at hk;obtain⟨p,r,v,rfl⟩:=hk;subst h;simp[Op.equalIn,run_underlying hu]
 case bS.func=>
  cases hb:k.beq 6<;>simp only[hb,cond_true,cond_false,reduceCtorEq,bQ]at h
  rw[bf hb]at hk;obtain⟨p,r,v,rfl⟩:=hk;subst h;simp[Op.equalIn,run_underlying hu]
 case func.bS=>
  cases hb:k.beq 6<;>simp only[hb,cond_true,cond_false,reduceCtorEq,bQ]at h
  rw[bf hb]at hk;obtain⟨p,r,v,rfl⟩:=hk;subst h;simp[Op.equalIn,run_underlying hu]
 case aP.iface=>
  cases hb:k.beq 7<;>simp only[hb,cond_true,cond_false,reduceCtorEq,bQ]at h
  rw[bf hb]at hk;obtain⟨ms,rfl⟩:=hk;subst h;simp[Op.equalIn,run_underlying hu]
 case iface.aP=>
  cases hb:k.beq 7<;>simp only[hb,cond_true,cond_false,reduceCtorEq,bQ]at h
  rw[bf hb]at hk;obtain⟨ms,rfl⟩:=hk;subst h;simp[Op.equalIn,run_underlying hu]
theorem OI{n:Nat}{t:TypeId}{k:Nat}(h:pW P (n+1) t=some (.bG k)):∃d,P.underlying t=some d/\EK k d:=by
 unfold pW at h;cases hu:P.underlying t with
 |none=>simp[hu]at h
 |some d=>
  rw[hu]at h;refine⟨d,rfl,?_⟩
  cases d<;>simp at h<;>(try (subst h;simp[EK];done))
  ·cases hs:P.stoodInHeld t<;>simp[hs]at h
def H9(n:Nat)(xs ys:Array Value):Field->Option Bool×Unit->Sem (ForInStep (Option Bool×Unit)):=fun f _=>
 if f.name≠ "_" then do
  let a <- part f.type xs f.offset
  let b <- part f.type ys f.offset
  let r <- Op.equalIn n f.type a b
  if (!r)=true then pure (ForInStep.done (some false,()))else pure (ForInStep.yield (none,()))
 else pure (ForInStep.yield (none,()))
theorem Ip{n:Nat}{t:TypeId}{es:List (Option Nat×Nat×ua)}(h:pW P (n+1) t=some (.agg es)) :
  ∃fs,P.underlying t=some (.struct fs)/\P.stoodInHeld t=false/\fs.toList.mapM (fun(f:Field)=>match yj P f.type,pW P n f.type with
   |some g,some e=>bif f.name != "_" then some (g,f.offset,e)else none
   |_,_=>none)=some es:=by
 unfold pW at h;cases hu:P.underlying t with
 |none=>simp[hu]at h
 |some d=>
  rw[hu]at h;cases d<;>simp only[reduceCtorEq,bQ]at h
  rename_i fs
  cases hs:P.stoodInHeld t<;>simp only[hs,cond_true,cond_false,reduceCtorEq]at h
  obtain⟨sX,he,h2⟩:=mH.1 h;cases h2;exact⟨fs,rfl,rfl,he⟩
theorem Xz(n:Nat){a b:List EV}{a' b':List Value}(ha:gi ρ a a')(hb:gi ρ b b')(fa:∀c∈a',c.oneCell'=true)(fb:∀c∈b',c.oneCell'=true)(k:Nat)
  (ih:∀(t:TypeId) (e:ua),pW P n t=some e->∀(x y:EV) (x' y':Value),VR ρ x x'->VR ρ y y'->∀r,ft e x y=some r->(Op.equalIn k t x' y').run P w=.ok r w) :
  ∀(fs:List Field) (es:List (Option Nat×Nat×ua)),fs.mapM (fun(f:Field)=>match yj P f.type,pW P n f.type with
   |some g,some e=>bif f.name != "_" then some (g,f.offset,e)else none
   |_,_=>none)=some es->∀r,rq es a b=some r->(forIn fs (none,()) (H9 k ⟨a'⟩ ⟨b'⟩)).run P w=.ok (if r then(none,())else(some false,())) w:=by
 intro fs
 induction fs with
 |nil=>
  intro es h r hr;simp at h;subst h;simp[rq]at hr;subst hr
  rfl
 |cons f fs ihf=>
  intro es h r hr;rw[List.mapM_cons]at h;cases hg:yj P f.type with
  |none=>simp[hg]at h
  |some g=>
  cases he:pW P n f.type with
  |none=>simp[hg,he]at h
  |some e=>
  cases hn:f.name != "_" with
  |false=>simp[hg,he,hn]at h
  |true=>
  cases hm:fs.mapM (fun(f:Field)=>match yj P f.type,pW P n f.type with
    |some g,some e=>bif f.name != "_" then some (g,f.offset,e)else none
    |_,_=>none)with
  |none=>simp[hg,he,hn,hm]at h
  |some sX=>
   simp[hg,he,hn,hm]at h;subst h;simp only[rq]at hr;cases hx:partOf g a f.offset with
   |none=>simp[hx]at hr
   |some x=>
   cases hy:partOf g b f.offset with
   |none=>simp[hx,hy]at hr
   |some y=>
   simp only[hx,hy]at hr;obtain⟨x',vx,rx⟩:=um (P:=P) (w:=w) hg ha fa hx;obtain⟨y',vy,ry⟩:=um (P:=P) (w:=w) hg hb fb hy;have fR:f.name≠ "_" :=by simpa using hn
   cases hq:ft e x y with
   |none=>simp[hq]at hr
   |some q=>
    have mB:=ih _ _ he x y x' y' vx vy q hq;rw[hq]at hr;cases q with
    |true=>
     simp only[]at hr;have:=ihf sX hm r hr;simp only[List.forIn_cons,H9,if_pos fR,Sem.run_bind,rx,ry,mB,Result.andThen_ok];simpa using this
    |false=>
     simp at hr;subst hr;simp only[List.forIn_cons,H9,if_pos fR,Sem.run_bind,rx,ry,mB,Result.andThen_ok]
     rfl
theorem Oa:∀(n:Nat) (t:TypeId) (e:ua),pW P n t=some e->∀k,n<=k->∀(x y:EV) (x' y':Value),VR ρ x x'->VR ρ y y'->∀r,ft e x y=some r->(Op.equalIn k t x' y').run P w=.ok r w:=by
 intro n
 induction n with
 |zero=>intro t e h;simp[pW]at h
 |succ n ih=>
  intro t e h k hk x y x' y' hx hy r hr;obtain⟨k,rfl⟩:∃j,k=j+1:=⟨k- 1,by omega⟩
  cases e with
  |bG q=>
   obtain⟨d,hu,hd⟩:=OI h;exact H8 hu hd hx hy (by simpa[ft]using hr) k
  |agg es=>
   obtain⟨fs,hu,hs,hm⟩:=Ip h;cases x<;>(try (simp[ft]at hr;done))
   cases y<;>(try (simp[ft]at hr;done))
   cases hx with
   |agg ha fa=>
   cases hy with
   |agg hb fb=>
   simp only[ft]at hr;have hl:=Xz n ha hb fa fb k (fun t e he x y x' y' vx vy r hr=>ih t e he k (by omega) x y x' y' vx vy r hr) fs.toList es hm r hr;unfold Op.equalIn;simp only[Sem.run_bind,run_underlying hu,Result.andThen_ok,run_program,hs,rF,if_false];rw[Array.forIn_toList]at hl;unfold H9 at hl;rw[hl];cases r<;>rfl
theorem jN{x:Option EV}{x':Option Value}(hx:uN ρ x x'){abq vP r:Nat}(h:aS x abq vP=some r) :
  (x'=none/\r=abq)\/(∃v',x'=some v'/\r<=vP/\∀code,(Instr.sliceBound v' vP code).run P w=.ok r w):=by
 cases hx with
 |none=>simp[aS]at h;exact .inl ⟨rfl,h.symm⟩
 |some hv=>
  right
  cases hv<;>simp only[aS,reduceCtorEq]at h
  rename_i k n
  cases n with
  |negSucc n=>simp at h
  |ofNat i=>
   simp only[]at h;cases hl:i.ble vP<;>simp only[hl,cond_true,cond_false,reduceCtorEq,bQ]at h
   subst h;have hle:=rI hl;refine⟨_,rfl,hle,fun code=> ?_⟩
   simp only[Instr.sliceBound,asIntOf,Sem.run_bind,Sem.run_pure,Result.andThen_ok];rw[if_pos ⟨Int.natCast_nonneg _,Int.ofNat_le.2 hle⟩]
   rfl
theorem mE{lo hi mx:Option EV}{Dz AS Dw:Option Value}(im:uN ρ lo Dz)(xf:uN ρ hi AS)(yx:uN ρ mx Dw)(Sk:Dw.isSome=true->AS.isSome=true)(s:Bool){n len t h l c:Nat}(hn:len=n)
  (h1:(mx=none/\t=c)\/(∃k,aS mx k c=some t/\mx≠none)) (h2:aS hi len t=some h) (h3:aS lo 0 h=some l) :
  (Instr.sliceBounds s n c Dz AS Dw).run P w=.ok (l,h,t) w/\l<=h/\(hi≠none->h<=t)/\(mx≠none->t<=c):=by
 subst hn;have e1:(Dw=none/\t=c/\mx=none)\/(∃v',Dw=some v'/\(∀code,(Instr.sliceBound v' c code).run P w=.ok t w)/\t<=c):=by
  rcases h1 with⟨rfl,rfl⟩|⟨k,hb,fR⟩
  ·cases yx;exact .inl ⟨rfl,rfl,rfl⟩
  ·rcases jN (P:=P) (w:=w) yx hb with⟨rfl,_⟩|⟨v',rfl,hle,hr⟩
   ·cases yx;exact absurd rfl fR
   ·exact .inr ⟨v',rfl,hr,hle⟩
 have e2:l<=h/\(hi≠none->h<=t)/\(mx≠none->t<=c):=by
  refine⟨?_,fun fR=> ?_,fun fR=> ?_⟩
  ·rcases jN (P:=P) (w:=w) im h3 with⟨_,rfl⟩|⟨vl,_,zk,_⟩<;>omega
  ·rcases jN (P:=P) (w:=w) xf h2 with⟨rfl,_⟩|⟨vl,_,zk,_⟩
   ·cases xf;exact absurd rfl fR
   ·exact zk
  ·rcases e1 with⟨_,_,rfl⟩|⟨_,_,_,h⟩
   ·exact absurd rfl fR
   ·exact h
 refine⟨?_,e2⟩
 unfold Instr.sliceBounds;rcases e1 with⟨rfl,rfl,_⟩|⟨vm,rfl,PH,_⟩<;>rcases jN (P:=P) (w:=w) xf h2 with⟨rfl,rfl⟩|⟨vh,rfl,hlh,hrh⟩
 ·rcases jN (P:=P) (w:=w) im h3 with⟨rfl,rfl⟩|⟨vl,rfl,zk,hrl⟩
  ·simp only[Sem.run_bind,Result.andThen_ok,Sem.run_pure]
  ·simp only[Sem.run_bind,Result.andThen_ok,Sem.run_pure,hrl]
 ·rcases jN (P:=P) (w:=w) im h3 with⟨rfl,rfl⟩|⟨vl,rfl,zk,hrl⟩
  ·simp only[Sem.run_bind,Result.andThen_ok,Sem.run_pure,hrh]
  ·simp only[Sem.run_bind,Result.andThen_ok,Sem.run_pure,hrl,hrh]
 ·simp at Sk
 ·rcases jN (P:=P) (w:=w) im h3 with⟨rfl,rfl⟩|⟨vl,rfl,zk,hrl⟩
  ·simp only[Sem.run_bind,Result.andThen_ok,Sem.run_pure,PH,hrh]
  ·simp only[Sem.run_bind,Result.andThen_ok,Sem.run_pure,PH,hrl,hrh]
end
end
section
section
variable {base:Nat} {ρ:eR} {m:Mem} {w:World} {P:Program}
theorem En{x:Option EV}{d k k' r:Nat}(hk:k<=k')(h:aS x d k=some r):aS x d k'=some r:=by
 unfold aS at *
 split at h
 ·exact h
 ·rename_i i
  cases hl:i.ble k<;>simp only[hl,cond_true,cond_false,reduceCtorEq,bQ]at h
  subst h;have:i.ble k'=true:=sx (ji (rI hl) hk);simp[this]
 ·cases h
def Ee(a:Option Addr)(size l h t:Nat):Value:=.slice (if t=l then a else a.map (·.add (l*size))) (h- l) (t- l)
theorem add_eq(b o n:Nat):(⟨b,o,none⟩:Addr).add n=⟨b,o+n,none⟩:=Addr.add_lit b o n
theorem Bh{esz b off len c:Nat}{lo hi mx:Option EV}{Dz AS Dw:Option Value}(im:uN ρ lo Dz)(xf:uN ρ hi AS)(yx:uN ρ mx Dw)(Sk:Dw.isSome=true->AS.isSome=true)
  {L:Loc} (hL:ρ b=some L) (hlen:len<=c) {o:Nat} (ho:0<c->o=L.off+off) (s:Bool) {v:EV} (h:cW esz b off len (some c) lo hi mx=some v) :
  ∃l hh t,(Instr.sliceBounds s len c Dz AS Dw).run P w=.ok (l,hh,t) w/\VR ρ v (Ee (some ⟨L.dW,o,none⟩) esz l hh t):=by
 unfold cW at h;cases h1:aS mx c c with
 |none=>simp[h1]at h
 |some t=>
 cases h2:aS hi len t with
 |none=>simp[h1,h2]at h
 |some hh=>
 cases h3:aS lo 0 hh with
 |none=>simp[h1,h2,h3]at h
 |some l=>
  simp only[h1,h2,h3,bQ]at h;subst h;obtain⟨r,hle,NK,aea⟩:=mE (P:=P) (w:=w) im xf yx Sk s (n:=len) rfl (t:=t) (h:=hh) (l:=l) (c:=c) (by
   cases mx with
   |none=>simp[aS]at h1;exact .inl ⟨rfl,h1.symm⟩
   |some x=>exact .inr ⟨c,h1,by simp⟩) h2 h3
  refine⟨l,hh,t,r,?_⟩
  have ht:hh<=t:=by
   cases hi with
   |some x=>exact NK (by simp)
   |none=>
    simp[aS]at h2;cases mx with
    |none=>simp[aS]at h1;omega
    |some x=>cases yx;cases xf;simp at Sk
  have htc:t<=c:=by
   cases mx with
   |none=>simp[aS]at h1;omega
   |some x=>exact aea (by simp)
  unfold Ee;by_cases e:t=l
  ·subst e;rw[if_pos rfl,dN,cond_true];exact .gN hL (by omega) (fun hp=>by omega)
  ·rw[if_neg e,jC e,cond_false];simp only[Option.map_some,add_eq];exact .gN hL (by omega) (fun hp=>by rw[ho (by omega)];omega)
theorem Ja{esz b off:Nat}{a:Addr}{lo hi mx:Option EV}{Dz AS Dw:Option Value}(im:uN ρ lo Dz)(xf:uN ρ hi AS)(yx:uN ρ mx Dw)(Sk:Dw.isSome=true->AS.isSome=true)
  (s:Bool) {v:EV} (h:cW esz b off 0 (some 0) lo hi mx=some v) :
  ∃l hh t,(Instr.sliceBounds s 0 0 Dz AS Dw).run P w=.ok (l,hh,t) w/\VR ρ v (Ee (some a) esz l hh t):=by
 unfold cW at h;cases h1:aS mx 0 0 with
 |none=>simp[h1]at h
 |some t=>
 cases h2:aS hi 0 t with
 |none=>simp[h1,h2]at h
 |some hh=>
 cases h3:aS lo 0 hh with
 |none=>simp[h1,h2,h3]at h
 |some l=>
  simp only[h1,h2,h3,bQ]at h;subst h;obtain⟨r,hle,NK,aea⟩:=mE (P:=P) (w:=w) im xf yx Sk s (n:=0) rfl (t:=t) (h:=hh) (l:=l) (c:=0) (by
   cases mx with
   |none=>simp[aS]at h1;exact .inl ⟨rfl,h1.symm⟩
   |some x=>exact .inr ⟨0,h1,by simp⟩) h2 h3
  refine⟨l,hh,t,r,?_⟩
  have ht:hh<=t:=by
   cases hi with
   |some x=>exact NK (by simp)
   |none=>
    simp[aS]at h2;cases mx with
    |none=>simp[aS]at h1;omega
    |some x=>cases yx;cases xf;simp at Sk
  have htc:t<=0:=by
   cases mx with
   |none=>simp[aS]at h1;omega
   |some x=>exact aea (by simp)
  have e1:t=0:=by omega
  have e2:hh=0:=by omega
  have e3:l=0:=by omega
  subst e1 e2 e3;unfold Ee;exact .jA
theorem MD{esz b off len c:Nat}{lo hi mx:Option EV}{Dz AS Dw:Option Value}(im:uN ρ lo Dz)(xf:uN ρ hi AS)(yx:uN ρ mx Dw)(Sk:Dw.isSome=true->AS.isSome=true)
  {L:Loc} (hL:ρ b=some L) (hlen:len<=c) {o:Nat} (ho:0<len->o=L.off+off) (hr:L.ro=false->o+c*L.esz<=L.total) (he:L.esz=esz) (s:Bool) {v:EV} (h:cW esz b off len none lo hi mx=some v) :
  ∃l hh t,(Instr.sliceBounds s len c Dz AS Dw).run P w=.ok (l,hh,t) w/\VR ρ v (Ee (some ⟨L.dW,o,none⟩) esz l hh t):=by
 unfold cW at h;cases mx with
 |some x=>
  simp only[]at h;cases h1:aS (some x) len len with
  |none=>simp[h1]at h
  |some t=>
  cases h2:aS hi len t with
  |none=>simp[h1,h2]at h
  |some hh=>
  cases h3:aS lo 0 hh with
  |none=>simp[h1,h2,h3]at h
  |some l=>
   simp only[h1,h2,h3,bQ]at h;subst h;obtain⟨r,hle,NK,_⟩:=mE (P:=P) (w:=w) im xf yx Sk s (n:=len) rfl (t:=t) (h:=hh) (l:=l) (c:=c) (.inr ⟨len,En hlen h1,by simp⟩) h2 h3;refine⟨l,hh,t,r,?_⟩
   have ht:hh<=t:=by
    cases hi with
    |some x=>exact NK (by simp)
    |none=>cases yx;cases xf;simp at Sk
   have htl:t<=len:=by
    rcases jN (P:=P) (w:=w) yx h1 with⟨e,_⟩|⟨_,_,h,_⟩
    ·cases yx;cases e
    ·exact h
   unfold Ee;by_cases e:t=l
   ·subst e;rw[if_pos rfl,dN,cond_true];exact .gN hL (by omega) (fun hp=>by omega)
   ·rw[if_neg e,jC e,cond_false];simp only[Option.map_some,add_eq];exact .gN hL (by omega) (fun hp=>by rw[ho (by omega)];omega)
 |none=>
  simp only[]at h;cases h2:aS hi len len with
  |none=>simp[h2]at h
  |some hh=>
  cases h3:aS lo 0 hh with
  |none=>simp[h2,h3]at h
  |some l=>
   simp only[h2,h3,bQ]at h;subst h;obtain⟨r,hle,NK,_⟩:=mE (P:=P) (w:=w) im xf yx Sk s (n:=len) rfl (t:=c) (h:=hh) (l:=l) (c:=c) (.inl ⟨rfl,rfl⟩) (En hlen h2) h3;refine⟨l,hh,c,r,?_⟩
   have ht:hh<=len:=by
    rcases jN (P:=P) (w:=w) xf h2 with⟨_,e⟩|⟨_,_,h,_⟩<;>omega
   unfold Ee;by_cases e:c=l
   ·rw[if_pos e];refine .slice hL (by omega) (fun hp=>by omega) (fun sH=> ?_)
    have:=hr sH;subst e;rw[Nat.sub_self,Nat.zero_mul];omega
   ·rw[if_neg e];simp only[Option.map_some,add_eq];refine .slice hL (by omega) (fun hp=>by rw[ho (by omega)];omega) (fun sH=> ?_)
    have:=hr sH;subst he;have:l*L.esz+(c- l)*L.esz=c*L.esz:=by rw[<- Nat.add_mul];congr 1;omega
    omega
theorem Xy(hR:R base ρ m w){b:Nat}{L:Loc}(hL:ρ b=some L){cs:List EV}{e el:Nat}{ro:Bool}(hm:m.get b=.cells cs e el ro):L.esz=e:=by
 have:=hR.dW b L hL;rw[hm]at this;obtain⟨_,_,_,_,_,h,_⟩:=this;exact h
theorem wV{n i:Nat}{x:EV}{x':Value}(hx:VR ρ x x')(h:idx n x=some i):∃k,x'=.int k (i:Int)/\i<n:=by
 cases hx<;>simp only[idx,reduceCtorEq]at h
 rename_i k z
 cases z with
 |negSucc z=>simp at h
 |ofNat z=>
  simp only[]at h;cases hl:(z+1).ble n<;>simp only[hl,cond_true,cond_false,reduceCtorEq,bQ]at h
  subst h;exact⟨k,rfl,rI hl⟩
theorem J4{t e:TypeId}{s:Nat}(hu:P.underlying t=some (.slice e))(hs:iK P e=some s){b off len:Nat}{cap:Option Nat}{x' y':Value}{y:EV}(hx:VR ρ (.slice b off len cap) x')(hy:VR ρ y y'){i:Nat}(h:idx len y=some i) :
  ∃v',VR ρ (.ptr b (off+i*s)) v'/\(Instr.indexAt t x' y').run P w=.ok v' w:=by
 obtain⟨k,rfl,aH⟩:=wV hy h;cases hx with
 | @slice _ _ _ c o L hL hc ho hr=>
  refine⟨_,.ptr hL,?_⟩
  simp only[Instr.indexAt,asIntOf,Sem.run_bind,Sem.run_pure,Result.andThen_ok,run_underlying hu];rw[if_pos ⟨Int.natCast_nonneg _,Int.ofNat_lt.2 aH⟩];simp[cy hs,add_eq,ho (by omega),Nat.add_assoc]
 |jA=>omega
 | @gN _ _ _ c o L hL hc ho=>
  refine⟨_,.ptr hL,?_⟩
  simp only[Instr.indexAt,asIntOf,Sem.run_bind,Sem.run_pure,Result.andThen_ok,run_underlying hu];rw[if_pos ⟨Int.natCast_nonneg _,Int.ofNat_lt.2 aH⟩];simp[cy hs,add_eq,ho (by omega),Nat.add_assoc]
theorem DG{t e:TypeId}{n s:Nat}(hu:P.underlying t=some (.array n e))(hs:iK P e=some s){b off:Nat}{x' y':Value}{y:EV}(hx:VR ρ (.ptr b off) x')(hy:VR ρ y y'){i:Nat}(h:idx n y=some i) :
  ∃v',VR ρ (.ptr b (off+i*s)) v'/\(Instr.indexAt t x' y').run P w=.ok v' w:=by
 obtain⟨k,rfl,aH⟩:=wV hy h;cases hx with
 | @ptr _ _ L hL=>
  refine⟨_,.ptr hL,?_⟩
  simp only[Instr.indexAt,asIntOf,Sem.run_bind,Sem.run_pure,Result.andThen_ok,run_underlying hu,Instr.sureAddr];rw[if_pos ⟨Int.natCast_nonneg _,Int.ofNat_lt.2 aH⟩];simp[cy hs,add_eq,Nat.add_assoc]
theorem KD{t:TypeId}{fs:Array Field}{k:Nat}{f:Field}{s:Nat}(hu:P.underlying t=some (.struct fs))(hf:fs[k]?=some f)(hs:iK P f.type=some (s+1)){b off:Nat}{x':Value}(hx:VR ρ (.ptr b off) x') :
  ∃v',VR ρ (.ptr b (off+f.offset)) v'/\(Instr.fieldAt t x' k).run P w=.ok v' w:=by
 cases hx with
 | @ptr _ _ L hL=>
  refine⟨_,.ptr hL,?_⟩
  simp only[Instr.fieldAt,Sem.run_bind,run_underlying hu,Result.andThen_ok,hf,Instr.sureAddr,Sem.run_pure,fieldPlace,cy hs];rw[if_neg (by omega)];simp[add_eq,Nat.add_assoc]
theorem KC{t:TypeId}{fs:Array Field}{k:Nat}{f:Field}{g:Option Nat}(hu:P.underlying t=some (.struct fs))(hf:fs[k]?=some f)(hg:yj P f.type=some g){cs:List EV}{x':Value}(hx:VR ρ (.agg cs) x'){v:EV}(h:partOf g cs f.offset=some v) :
  ∃v',VR ρ v v'/\(Instr.field t x' k).run P w=.ok v' w:=by
 cases hx with
 |agg hv rE=>
  obtain⟨v',h1,h2⟩:=um (P:=P) (w:=w) hg hv rE h;exact⟨v',h1,by simp only[Instr.field,Sem.run_bind,run_underlying hu,Result.andThen_ok,hf,asAgg,Sem.run_pure,h2]⟩
theorem HB{t e:TypeId}{n s:Nat}{g:Option Nat}(hu:P.underlying t=some (.array n e))(hs:iK P e=some s)(hg:yj P e=some g){cs:List EV}{x' y':Value}{y:EV}(hx:VR ρ (.agg cs) x')(hy:VR ρ y y'){i:Nat}(hi:idx n y=some i){v:EV}(h:partOf g cs (i*s)=some v) :
  ∃v',VR ρ v v'/\(Instr.index t x' y').run P w=.ok v' w:=by
 obtain⟨k,rfl,aH⟩:=wV hy hi;cases hx with
 |agg hv rE=>
  obtain⟨v',h1,h2⟩:=um (P:=P) (w:=w) hg hv rE h;refine⟨v',h1,?_⟩
  simp only[Instr.index,asIntOf,Sem.run_bind,Sem.run_pure,Result.andThen_ok,run_underlying hu];rw[if_pos ⟨Int.natCast_nonneg _,Int.ofNat_lt.2 aH⟩];simp only[Sem.run_bind,cy hs,Result.andThen_ok,Int.toNat_natCast,h2]
theorem HA{t:TypeId}(hu:P.underlying t=some .string){s:ByteArray}{y:EV}{y':Value}(hy:VR ρ y y'){i:Nat}(hi:idx s.data.toList.length y=some i){c:UInt8}(h:s.data.toList[i]?=some c) :
  (Instr.index t (.string s) y').run P w=.ok (.int .u8 (c.toNat:Int)) w:=by
 obtain⟨k,rfl,aH⟩:=wV hy hi;simp only[Instr.index,asIntOf,Sem.run_bind,Sem.run_pure,Result.andThen_ok,run_underlying hu];have:s[i]?=some c:=by
  have hl:i<s.size:=aH;rw[getElem?_pos s i hl];rw[jE aH]at h;injection h with h
  show some (s.data[i]'hl)=some c;rw[<- h];simp
 simp[this]
theorem I9{t:TypeId}(hu:P.underlying t=some .string){s:ByteArray}{lo hi:Option EV}{Dz AS:Option Value}(im:uN ρ lo Dz)(xf:uN ρ hi AS){l h:Nat}(h2:aS hi s.data.toList.length s.data.toList.length=some h)(h3:aS lo 0 h=some l) :
  ∃v',VR ρ (.str ((s.data.toList.take h).drop l)) v'/\(Instr.sliceAt t (.string s) Dz AS none).run P w=.ok v' w:=by
 obtain⟨r,hle,_⟩:=mE (P:=P) (w:=w) im xf .none (by simp) false (n:=s.size) (len:=s.data.toList.length) rfl (t:=s.size) (h:=h) (l:=l) (c:=s.size) (.inl ⟨rfl,rfl⟩) h2 h3;refine⟨.string (s.extract l h),?_,?_⟩
 ·have:=VR.str (ρ:=ρ) (s.extract l h);rw[show (s.extract l h).data.toList=(s.data.toList.take h).drop l by rw[ByteArray.data_extract,Array.toList_extract,List.extract_eq_take_drop,List.drop_take]]at this
  exact this
 ·simp only[Instr.sliceAt,Instr.slice,Sem.run_bind,run_underlying hu,Result.andThen_ok,Option.isSome_none,rF,if_false,r,Sem.run_pure]
end
end
section
section
variable {base:Nat} {ρ:eR} {m:Mem} {w:World} {P:Program}
theorem CI{t:TypeId}{e:EV}(h:GM P t=some e):∃v,(∀w,(zeroValue t).run P w=.ok v w)/\VR ρ e v:=by
 unfold GM at h;cases hi:P.info? t with
 |none=>simp[hi]at h
 |some i=>
  cases hz:i.zero with
  |none=>simp[hi,hz]at h
  |some v=>
   simp[hi,hz]at h;exact⟨v,fun w=>by simp[zeroValue,run_typeInfo hi,hz],Lb _ _ _ h⟩
theorem pA{t:TypeId}{z:List EV}(h:qj P t=some z):∃v,(∀w,(zeroValue t).run P w=.ok v w)/\gi ρ z v.cells.toList/\∀c∈v.cells.toList,c.oneCell'=true:=by
 unfold qj at h;cases he:GM P t with
 |none=>simp[he]at h
 |some e=>
  simp[he]at h;obtain⟨v,h1,h2⟩:=CI (ρ:=ρ) he;exact⟨v,h1,h2.cells h⟩
theorem SB(vs:List Value):∀(k:Nat) (cs:Array Value) (off:Nat),off+k+vs.length<=cs.size->
  ∃ds:Array Value,(vs.zipIdx k).foldl (fun(cs:Array Value) (x:Value×Nat)=>cs.setIfInBounds (off+x.2) x.1) cs=ds/\ds.size=cs.size/\
   ∀j:Nat,ds[j]?=if off+k<=j/\j<off+k+vs.length then vs[j-(off+k)]? else cs[j]?:=by
 induction vs with
 |nil=>intro k cs off _;exact⟨cs,rfl,rfl,fun j=>by rw[if_neg (fun h=>by have:=h.2;simp at this;omega)]⟩
 |cons v vs ih=>
  intro k cs off h;simp at h;obtain⟨ds,h1,h2,h3⟩:=ih (k+1) (cs.setIfInBounds (off+k) v) off (by simp;omega);refine⟨ds,by simpa[List.zipIdx_cons]using h1,by simpa using h2,fun j=> ?_⟩
  rw[h3 j];by_cases hj:j=off+k
  ·subst hj;rw[if_neg (by omega),if_pos (by simp)];simp[show off+k<cs.size by omega]
  ·by_cases hj2:off+(k+1)<=j/\j<off+(k+1)+vs.length
   ·rw[if_pos hj2,if_pos (by simp;omega),show j-(off+k)=(j-(off+(k+1)))+1 by omega];simp
   ·rw[if_neg hj2,if_neg (by simp;omega),Array.getElem?_setIfInBounds_ne (by omega)]
theorem xY{place:Nat->Option (Nat×Nat)}:∀(ps:List (Nat×Nat×EV)) (qs:List (Nat×Value)) (cs:List EV) (oM:Array Value),gi ρ cs oM.toList->(∀c∈oM.toList,c.oneCell'=true)->ps.length=qs.length->
  (∀(i:Nat) (p:Nat×Nat×EV) (q:Nat×Value),ps[i]?=some p->qs[i]?=some q->place q.1=some (p.1,p.2.1)/\VR ρ p.2.2 q.2)->∀ds,eQ cs ps=some ds->
  ∃vr,Instr.fill place oM qs=some vr/\gi ρ ds vr.toList/\(∀c∈vr.toList,c.oneCell'=true)/\vr.size=oM.size:=by
 intro ps
 induction ps with
 |nil=>
  intro qs cs oM hv hf hl hp ds h;cases qs with
  |nil=>simp[eQ]at h;subst h;exact⟨oM,rfl,hv,hf,rfl⟩
  |cons q qs=>simp at hl
 |cons p ps ih=>
  intro qs cs oM hv hf hl hp ds h;cases qs with
  |nil=>simp at hl
  |cons q qs=>
   obtain⟨off,size,x⟩:=p;obtain⟨i,x'⟩:=q;obtain⟨Wq,hx⟩:=hp 0 _ _ rfl rfl;simp only at Wq hx;simp only[eQ]at h;cases hc:x.cells with
   |none=>simp[hc]at h
   |some vs=>
    simp only[hc]at h;cases hb:vs.length.beq size<;>simp only[hb,cond_true,cond_false,reduceCtorEq]at h
    have sN:=bf hb;cases hs:kW cs off vs with
    |none=>simp[hs]at h
    |some es=>
     simp only[hs]at h;obtain⟨yv,hfs⟩:=hx.cells hc;have hlen:=yv.length;have aec:=hv.length;obtain⟨s1,s2,s3⟩:=CZ hs;obtain⟨sX,e1,e2,e3⟩:=SB x'.cells.toList 0 oM off (by rw[<- hlen];simp at aec;omega);have am3:gi ρ es sX.toList:=by
      refine gi.sB (by simp at aec⊢;omega) fun j v v' hj hj'=> ?_
      rw[s3 j]at hj;rw[Array.getElem?_toList,e3 j]at hj';by_cases BW:off<=j/\j<off+vs.length
      ·rw[if_pos BW]at hj;rw[if_pos (by omega)]at hj';obtain⟨u,g1,g2⟩:=yv.get _ _ hj;rw[show j-(off+0)=j- off by omega,g1]at hj';cases hj';exact g2
      ·rw[if_neg BW]at hj;rw[if_neg (by omega)]at hj';obtain⟨u,g1,g2⟩:=hv.get _ _ hj;rw[Array.getElem?_toList,hj']at g1;cases g1;exact g2
     have vZ:∀c∈sX.toList,c.oneCell'=true:=by
      intro c hc;obtain⟨j,hj⟩:=List.mem_iff_getElem?.1 hc;rw[Array.getElem?_toList,e3 j]at hj;by_cases BW:off+0<=j/\j<off+0+x'.cells.toList.length
      ·rw[if_pos BW]at hj;exact hfs c (List.mem_of_getElem? hj)
      ·rw[if_neg BW]at hj;exact hf c (by rw[<- Array.getElem?_toList]at hj;exact List.mem_of_getElem? hj)
     obtain⟨vr,f1,f2,f3,f4⟩:=ih qs es sX am3 vZ (by simpa using hl) (fun i p q hp' Gi=>hp (i+1) p q (by simpa using hp') (by simpa using Gi)) ds h;refine⟨vr,?_,f2,f3,by rw[f4,e2]⟩
     unfold Instr.fill;simp only[Wq];have tF:x'.cells.size=size:=by rw[<- sN,hlen];simp
     rw[if_neg]
     ·have he:Array.foldl (fun(cs:Array Value) (x:Value×Nat)=>cs.setIfInBounds (off+x.2) x.1) oM x'.cells.zipIdx=sX:=by rw[<- e1,<- Array.foldl_toList,Array.toList_zipIdx]
      exact he▸f1
     ·simp[tF];simp at aec;omega
theorem Bo{G:List Nat}(hG:lx G ρ){n:Nat}{fr:Fr}{a:Act}(hF:FR ρ n fr a){places:Nat->Option (Nat×Nat)}{parts:List (Nat×Operand)}{ps:List (Nat×Nat×bm)}(h:OG G places parts=some ps) :
  (ps.map fun p=>(p.1,p.2.1,fr.eval p.2.2)).length=(parts.map fun p=>(p.1,a.eval p.2)).length/\
  ∀(i:Nat) (p:Nat×Nat×EV) (q:Nat×Value),(ps.map fun p=>(p.1,p.2.1,fr.eval p.2.2))[i]?=some p->(parts.map fun p=>(p.1,a.eval p.2))[i]?=some q->places q.1=some (p.1,p.2.1)/\VR ρ p.2.2 q.2:=by
 obtain⟨h1,h2⟩:=mapM_some _ h;refine⟨by simp[h1],fun i p q hp hq=> ?_⟩
 rw[List.getElem?_map]at hp hq;obtain⟨p0,hp0,rfl⟩:=mH.1 hp;obtain⟨q0,hq0,rfl⟩:=mH.1 hq;have:=h2 i q0 p0 hq0 hp0;cases hpl:places q0.1 with
 |none=>simp[hpl]at this
 |some os=>
  obtain⟨o,s⟩:=os;cases hx:fS G q0.2 with
  |none=>simp[hpl,hx]at this
  |some x=>
   simp[hpl,hx]at this;subst this;exact⟨rfl,j3 hG hF hx⟩
theorem Ef(z:List EV):∀(n i:Nat),i<n*z.length->(eA n z)[i]?=z[i % z.length]?
 |0,i,h=>by simp at h
 |n+1,i,h=>by
  unfold eA at *;rw[List.replicate_succ,List.flatten_cons];by_cases hi:i<z.length
  ·rw[rB hi,Nat.mod_eq_of_lt hi]
  ·rw[yy (by omega)];have:=Ef z n (i- z.length) (by rw[Nat.add_mul]at h;omega);unfold eA at this;rw[this,Nat.mod_eq_sub_mod (by omega:i>=z.length)]
theorem Fl(n:Nat)(z:List EV):(eA n z).length=n*z.length:=by simp[eA]
theorem zY{z:List EV}{z':Array Value}(hz:gi ρ z z'.toList)(hf:∀c∈z'.toList,c.oneCell'=true)(n:Nat) :
  gi ρ (eA n z) ((Array.range (n*z.length)).map (fun i=>z'[i % z'.size]!)).toList/\(∀c∈((Array.range (n*z.length)).map (fun i=>z'[i % z'.size]!)).toList,c.oneCell'=true):=by
 have hl:=hz.length;have key:∀i v',((Array.range (n*z.length)).map (fun i=>z'[i % z'.size]!)).toList[i]?=some v'->i<n*z.length/\z'[i % z'.size]?=some v':=by
  intro i v' h;rw[Array.getElem?_toList,Array.getElem?_map]at h;obtain⟨j,hj,rfl⟩:=mH.1 h;rw[Array.getElem?_range]at hj
  split at hj
  ·rename_i aH
   cases hj;refine⟨aH,?_⟩
   have HF:0<z'.size:=by
    rcases Nat.eq_zero_or_pos z'.size with h0|h0
    ·simp at hl;rw[hl,h0]at aH;simp at aH
    ·exact h0
   have hm:i % z'.size<z'.size:=Nat.mod_lt _ HF;rw[getElem!_pos z' _ hm,Array.getElem?_eq_getElem hm]
  ·cases hj
 refine⟨gi.sB (by simp[Fl]) fun i v v' hv tE=> ?_,fun c hc=> ?_⟩
 ·obtain⟨aH,h2⟩:=key i v' tE;rw[Ef z n i aH]at hv;obtain⟨u,g1,g2⟩:=hz.get _ _ hv;rw[Array.getElem?_toList,show z.length=z'.size by simpa using hl,h2]at g1;cases g1;exact g2
 ·obtain⟨i,hi⟩:=List.mem_iff_getElem?.1 hc;obtain⟨_,h2⟩:=key i c hi;rw[<- Array.getElem?_toList]at h2;exact hf c (List.mem_of_getElem? h2)
theorem XS{s d:TypeId}{ds:TypeDesc}{k:IntKind}(hs:P.underlying s=some ds)(hd:P.underlying d=some (.int k))(l:IntKind)(n:Int):(convert s d (.int l n)).run P w=.ok (.int k (k.wrap n)) w:=by simp[convert,run_underlying hs,run_underlying hd,Conv.intToInt]
theorem SY{s d:TypeId}{ds:TypeDesc}(hs:P.underlying s=some ds)(hd:P.underlying d=some .string)(x:ByteArray):(convert s d (.string x)).run P w=.ok (.string x) w:=by simp[convert,run_underlying hs,run_underlying hd]
theorem OJ:∀(vs:List Value) (xs:List EV) (s:List UInt8) (acc:ByteArray),gi ρ xs vs->bytesOf xs=some s->
  (forIn vs acc fun c (s:ByteArray)=>(match c with
   | .int .u8 n=>pure (ForInStep.yield (s.push (UInt8.ofNat n.toNat)))
   |_=>do
    stuck "bytesToString: byte expected"
    pure (ForInStep.yield s):Sem (ForInStep ByteArray))).run P w=.ok ⟨⟨acc.data.toList++s⟩⟩ w:=by
 intro vs
 induction vs with
 |nil=>
  intro xs s acc hv h;cases hv;simp[bytesOf]at h;subst h;simp
 |cons v vs ih=>
  intro xs s acc hv h;cases hv with
  | @cons x _ xs _ hx sR=>
   cases hx with
   |int k n=>
    cases k<;>(try (simp[bytesOf]at h;done))
    simp only[bytesOf]at h;obtain⟨s',Cz,rfl⟩:=mH.1 h;have:=ih xs s' (acc.push (UInt8.ofNat n.toNat)) sR Cz;simp only[List.forIn_cons,Sem.run_bind,Sem.run_pure,Result.andThen_ok,this];simp
   |_=>simp[bytesOf]at h
end
end
section
section
variable {base:Nat} {ρ:eR} {m:Mem} {w:World} {P:Program}
def Ac(P:Program)(s:Sem Value)(base:Nat)(ρ:eR)(m:Mem)(w:World)(v:EV)(m':Mem):Prop:=
 ∃ρ' w' v',s.run P w=.ok v' w'/\VR ρ' v v'/\R base ρ' m' w'/\Step ρ m w ρ' m' w'
theorem Ac.vb{s:Sem Value}{v:EV}{m':Mem}(h:Ac P s base ρ m w v m'):Good base ρ m w v m' ((do pure (Next.value (<- s)):Sem Next).run P w):=by
 obtain⟨ρ',w',v',h1,h2,h3,h4⟩:=h;exact⟨ρ',w',v',.inl (by simp[h1]),h2,h3,h4⟩
def wD(P:Program)(s:Sem Value)(base:Nat)(ρ:eR)(m:Mem)(w:World)(v:EV)(B:bX):Prop:=
 ∃ρ' w' v',s.run P w=.ok v' w'/\VR ρ' v v'/\Made base ρ m w ρ' B w'
theorem wD.runs{s:Sem Value}{v:EV}{B:bX}(hR:R base ρ m w)(h:wD P s base ρ m w v B):Ac P s base ρ m w v (m.new B):=by
 obtain⟨ρ',w',v',h1,h2,h3⟩:=h;obtain⟨a,b⟩:=h3.whole hR;exact⟨ρ',w',v',h1,h2,a,b⟩
theorem xV(w:World)(o:Obj):Iw w o {w with heap:=w.heap.push o}:=⟨rfl,rfl,rfl,rfl⟩
theorem Br(hR:RN base ρ m w){cs:List EV}{x:Value}(hv:gi ρ cs x.cells.toList)(hf:∀c∈x.cells.toList,c.oneCell'=true)(el:Nat)(t:TypeId) :
  wD P (do pure (.pointer (some (<- newVar t x)))) base ρ m w (.ptr m.next 0) (.cells cs cs.length el false):=by
 obtain⟨L,h1,h2,h3,_,_,_,h4⟩:=rR hR hv hf cs.length el t [] (0,0) (AY _) {w with heap:=w.heap.push (.cells x.cells t)} (by
  have:=xV w (.cells x.cells t);simpa using this)
 refine⟨_,_,_,?_,.ptr h1,h4⟩
 simp only[newVar,newRow,Sem.run_bind,run_newObj,Result.andThen_ok,Sem.run_pure];rw[h2,h3]
theorem Ey(hR:RN base ρ m w){t:TypeId}{z:List EV}(hz:qj P t=some z) :
  wD P (Instr.alloc t true (.tuple #[])) base ρ m w (.ptr m.next 0) (.cells z z.length t false):=by
 obtain⟨v,h1,h2,h3⟩:=pA (ρ:=ρ) hz;have:=Br (P:=P) hR h2 h3 t t;obtain⟨ρ',w',v',e1,e2⟩:=this;exact⟨ρ',w',v',by
  rw[<- e1];simp only[Instr.alloc,Sem.run_bind,h1,Result.andThen_ok],e2⟩
theorem Lh(hR:RN base ρ m w){t:TypeId}{x:EV}{x':Value}(hx:VR ρ x x'){cs:List EV}(hc:x.cells=some cs) :
  wD P (Instr.box t x') base ρ m w (.ptr m.next 0) (.cells cs cs.length t false):=
 Br hR (hx.cells hc).1 (hx.cells hc).2 t t
theorem O9(hR:RN base ρ m w){cs:List EV}{vs:Array Value}(hv:gi ρ cs vs.toList)(hf:∀c∈vs.toList,c.oneCell'=true)(esz el:Nat)(t:TypeId){n c:Nat}(hn:n<=c)(hc:c*esz=vs.size)(known:Bool) :
  wD P (do pure (.slice (some (<- newRow t vs)) n c)) base ρ m w (.slice m.next 0 n (if known then some c else none)) (.cells cs esz el false):=by
 obtain⟨L,h1,h2,h3,h4,h5,h6,h7⟩:=rR hR hv hf esz el t [] (0,0) (AY _) {w with heap:=w.heap.push (.cells vs t)} (by
  have:=xV w (.cells vs t);simpa using this)
 refine⟨_,_,.slice (some ⟨w.heap.size,0,none⟩) n c,?_,?_,h7⟩
 ·simp only[newRow,Sem.run_bind,run_newObj,Result.andThen_ok,Sem.run_pure]
 ·rw[<- h2];cases known with
  |true=>exact .gN h1 hn (fun _=>by rw[h3])
  |false=>
   refine .slice h1 hn (fun _=>by rw[h3]) (fun _=> ?_)
   rw[h5,h4,hc];simp
theorem BI(hR:RN base ρ m w){t e:TypeId}{s len:Nat}{z:List EV}(hu:P.underlying t=some (.slice e))(hs:iK P e=some s)(hz:qj P e=some z)(HD:z.length=s)(hl:len*s<=2^24)
  {ps:List (Nat×Nat×EV)} {qs:List (Nat×Value)} (hlen:ps.length=qs.length)
  (hp:∀(i:Nat) (p:Nat×Nat×EV) (q:Nat×Value),ps[i]?=some p->qs[i]?=some q->(p.1=q.1*s/\p.2.1=s)/\VR ρ p.2.2 q.2) {cs:List EV} (h:eQ (eA len z) ps=some cs) :
  wD P (Instr.buildSlice t len ⟨qs⟩) base ρ m w (.slice m.next 0 len (some len)) (.cells cs s e false):=by
 obtain⟨zv,z1,z2,z3⟩:=pA (ρ:=ρ) hz;have agT:zv.cells.size=s:=by have:=z2.length;simp at this;omega
 obtain⟨c1,c2⟩:=zY z2 z3 len;rw[HD]at c1 c2;have tN:∀zc:Array Value,len*s=0->((Array.range (len*s)).map fun i=>zc[i % zc.size]!)=(Array.range (len*s)).map fun i=>zv.cells[i % zv.cells.size]! :=by
  intro zc h0;rw[h0];simp only[Array.range_zero',List.map_toArray,List.map_nil]
 obtain⟨vr,f1,f2,f3,f4⟩:=xY (ρ:=ρ) (place:=fun i=>some (i*s,s)) ps qs _ _ c1 c2 hlen (fun i p q hp' Gi=>by
  obtain⟨⟨e1,e2⟩,e3⟩:=hp i p q hp' Gi;exact⟨by rw[e1,e2],e3⟩) cs h
 obtain⟨ρ',w',v',r1,r2⟩:=O9 (P:=P) hR f2 f3 s e e (cR len) (by rw[f4];simp) true;refine⟨ρ',w',v',?_,r2⟩
 rw[<- r1];unfold Instr.buildSlice;simp only[Sem.run_bind,run_underlying hu,Result.andThen_ok,cy hs];rw[if_neg (by omega)];by_cases h0:len*s=0
 ·simp only[if_pos h0,Sem.run_bind,Sem.run_pure,Result.andThen_ok,tN _ h0,f1]
 ·simp only[if_neg h0,Sem.run_bind,Sem.run_pure,Result.andThen_ok,z1,f1]
theorem y9(hR:RN base ρ m w){t e:TypeId}{i:TypeInfo}{z:List EV}(hu:P.underlying t=some (.slice e))(hi:P.info? e=some i)(hz:qj P e=some z)(HD:z.length=i.size)(hb:i.bytes<=65536){l c:Nat}(NL:l<=c)(hc:c<=room) :
  wD P (Instr.makeSlice t (.int .i64 (l:Int)) (.int .i64 (c:Int))) base ρ m w (.slice m.next 0 l (some c)) (.cells (eA c z) i.size e false):=by
 obtain⟨zv,z1,z2,z3⟩:=pA (ρ:=ρ) hz;obtain⟨c1,c2⟩:=zY z2 z3 c;rw[HD]at c1 c2;have hs:iK P e=some i.size:=by simp[iK,hi]
 have tN:∀zc:Array Value,c*i.size=0->((Array.range (c*i.size)).map fun i=>zc[i % zc.size]!)=(Array.range (c*i.size)).map fun i=>zv.cells[i % zv.cells.size]! :=by
  intro zc h0;rw[h0];simp only[Array.range_zero',List.map_toArray,List.map_nil]
 obtain⟨ρ',w',v',r1,r2⟩:=O9 (P:=P) hR c1 c2 i.size e e NL (by simp) true;refine⟨ρ',w',v',?_,r2⟩
 rw[<- r1];unfold room at hc;have wl:IntKind.i64.wrap (l:Int)=l:=by unfold IntKind.wrap;simp[IntKind.bits,IntKind.signed];omega
 have wc:IntKind.i64.wrap (c:Int)=c:=by unfold IntKind.wrap;simp[IntKind.bits,IntKind.signed];omega
 have LN:(i.bytes:Int)*(c:Int)<=2^48:=by
  have:i.bytes*c<=65536*1073741824:=Nat.mul_le_mul hb hc;have h2:((i.bytes*c:Nat):Int)<=((65536*1073741824:Nat):Int):=Int.ofNat_le.2 this;simp at h2;omega
 unfold Instr.makeSlice;simp only[Sem.run_bind,run_underlying hu,Result.andThen_ok,asInt,asIntOf,Sem.run_pure,run_typeInfo hi,wl,wc];have t1:(decide ((c:Int)<0)||decide ((i.bytes:Int)*(c:Int)>2^48))=false:=by
  simp only[Bool.or_eq_false_iff,decide_eq_false_iff_not];exact⟨by omega,by omega⟩
 rw[if_neg (by
  simp only[t1,Bool.false_or,Bool.or_eq_true,decide_eq_true_eq,not_or];exact⟨by omega,by omega⟩)]
 simp only[Sem.run_bind,run_askRoom,Result.andThen_ok,cy hs,Int.toNat_natCast];by_cases h0:c*i.size=0
 ·simp only[if_pos h0,Sem.run_bind,Sem.run_pure,Result.andThen_ok,tN _ h0]
 ·simp only[if_neg h0,Sem.run_bind,Sem.run_pure,Result.andThen_ok,z1]
theorem uw(hR:RN base ρ m w):wD P (do pure (.map (some (<- newObj (.map #[] 0))))) base ρ m w (.map m.next) (.map []):=by
 have g:=xV w (.map #[] 0)
 let L:Loc:=⟨w.heap.size,0,0,0,false⟩
 have a:=JA hR (.map []) _ g L rfl ⟨#[],0,g.new,rfl,fun i e d he=>by simp at he,hR.base,rfl⟩;refine⟨_,_,.map (some w.heap.size),?_,VR.map (L:=L) (by simp[eR.put]),a⟩
 simp only[Sem.run_bind,run_newObj,Result.andThen_ok,Sem.run_pure]
theorem vD{b off n:Nat}{xs:List EV}(h:m.row b off n=some xs):xs.length=n:=by
 by_cases hn:n=0
 ·subst hn;rw[Mem.od]at h;cases h;rfl
 rw[Mem.qz hn]at h;unfold Mem.E6 at h
 split at h
 ·rename_i cs _ _ _ _
  cases hl:(off+n).ble cs.length<;>simp only[hl,cond_true,cond_false,reduceCtorEq,bQ]at h
  subst h;have:=rI hl;simp;omega
 ·cases h
theorem UJ{b off:Nat}{xs:List EV}(h:m.row b off 0=some xs):xs=[]:=List.eq_nil_of_length_eq_zero (vD h)
theorem pF(hR:R base ρ m w){b off len n:Nat}{cap:Option Nat}{x':Value}(hx:VR ρ (.slice b off len cap) x')(size:Nat)(hn:n<=len){xs:List EV}(h:m.row b off (n*size)=some xs) :
  ∃(a:Addr) (c:Nat) (vs:List Value),x'=.slice (some a) len c/\(loadCells a (n*size)).run P w=.ok ⟨vs⟩ w/\gi ρ xs vs/\(∀c∈vs,c.oneCell'=true)/\vs.length=n*size:=by
 rcases Nat.eq_zero_or_pos (n*size)with h0|h0
 ·rw[h0]at h⊢;obtain rfl:=UJ h;cases hx with
  |slice=>exact⟨_,_,[],rfl,rfl,.nil,by simp,rfl⟩
  |gN=>exact⟨_,_,[],rfl,rfl,.nil,by simp,rfl⟩
  |jA=>exact⟨_,_,[],rfl,rfl,.nil,by simp,rfl⟩
 ·have hp:0<n:=Nat.pos_of_mul_pos_right h0;cases hx with
  | @slice _ _ _ c o L hL hc ho hr=>
   obtain⟨vs,h1,h2,h3,h4,h5⟩:=FP (P:=P) hR hL h;rw[<- ho (by omega)]at h3;exact⟨_,_,vs,rfl,h3,h4,h5,h1⟩
  |jA=>omega
  | @gN _ _ _ c o L hL hc ho=>
   obtain⟨vs,h1,h2,h3,h4,h5⟩:=FP (P:=P) hR hL h;rw[<- ho (by omega)]at h3;exact⟨_,_,vs,rfl,h3,h4,h5,h1⟩
theorem Me(hR:R base ρ m w){s d e:TypeId}(hs:P.underlying s=some (.slice e))(he:P.underlying e=some (.int .u8))(hd:P.underlying d=some .string){x:EV}{x':Value}(hx:VR ρ x x'){v:EV}{m':Mem}(h:l8 .text m x=some (v,m')) :
  Ac P (convert s d x') base ρ m w v m':=by
 cases x<;>simp only[l8,reduceCtorEq,bQ,sY]at h
 case aa=>
  obtain⟨rfl,rfl⟩:=h;cases hx;exact⟨ρ,w,.string .empty,by simp[convert,run_underlying hs,run_underlying he,run_underlying hd,Conv.bytesToString],.str .empty,hR,.refl _ _ _⟩
 case slice b off n cap=>
  cases hr:m.row b off n with
  |none=>simp[hr]at h
  |some cs=>
   simp only[hr]at h;obtain⟨t,ht,h2⟩:=mH.1 h;cases h2;obtain⟨a,c,vs,rfl,h3,h4,h5,h6⟩:=pF (P:=P) (n:=n) hR hx 1 (cR n) (by rw[Nat.mul_one];exact hr);rw[Nat.mul_one]at h3;have hl:=OJ (P:=P) (w:=w) vs cs t .empty h4 ht;refine⟨ρ,w,.string ⟨⟨t⟩⟩,?_,.str ⟨⟨t⟩⟩,hR,.refl _ _ _⟩
   simp only[convert,Sem.run_bind,run_underlying hs,run_underlying hd,run_underlying he,Result.andThen_ok,Conv.bytesToString,h3];rw[<- Array.forIn_toList];have e0:(ByteArray.empty.data.toList++t)=t:=rfl;rw[e0]at hl;have WA:=congrArg (fun r:Result ByteArray=>r.andThen fun a w'=>(pure (Value.string a):Sem Value).run P w') hl;exact WA
theorem za(h:Array Obj)(arr:Array Value)(e:TypeId)(tape:Nat->Question->Nat)(d:Nat)(os:Os)(out:Array (Nat×ByteArray)) :
  (markStringish ⟨h.size,0,none⟩).run P ⟨h.push (.cells arr e),tape,d,os,out⟩=.ok () ⟨h.push (.cells arr e (arr.size,arr.size+1)),tape,d,os,out⟩:=by
 have hsh:World.shape? ⟨h.push (.cells arr e),tape,d,os,out⟩ h.size=some (e,arr.size):=by simp[World.shape?]
 simp only[markStringish,Sem.run_bind,run_shape,Result.andThen_ok,hsh,run_freeze];simp only[World.freeze,if_neg (show ¬(1=0)by decide)]
 congr 2
 apply Array.ext_getElem?
 intro i;rw[Array.getElem?_modify,Array.getElem?_push,Array.getElem?_push];by_cases hi:i=h.size
 ·subst hi;simp
 ·rw[if_neg (fun e=>hi e.symm)];simp[hi]
theorem El(hR:RN base ρ m w){s d e:TypeId}(hs:P.underlying s=some .string)(hd:P.underlying d=some (.slice e))(he:P.underlying e=some (.int .u8)){x:EV}{x':Value}(hx:VR ρ x x'){v:EV}{m':Mem}(h:l8 (.bytes e) m x=some (v,m')) :
  ∃B,m'=m.new B/\wD P (convert s d x') base ρ m w v B:=by
 cases hx<;>simp only[l8,reduceCtorEq,bQ,sY]at h
 rename_i s'
 obtain⟨rfl,rfl⟩:=h
 let q:Question:=.appendCap s'.size 0 e
 have hq:q.forced=false:=rfl
 let cap:=q.cut (w.tape w.drawn q)
 have Sr:s'.size<=cap:=Nat.le_add_right _ _
 let ru:Array Value:=s'.data.map fun b=>.int .u8 (b.toNat:Int)
 let o:Obj:=.cells (ru++Array.replicate (cap- s'.size) (.int .u8 0)) e (ru.size+(cap- s'.size),ru.size+(cap- s'.size)+1)
 let w':World:={w with drawn:=w.drawn+1,heap:=w.heap.push o}
 have hlen:s'.data.toList.length=s'.size:=rfl;have hv:gi ρ (s'.data.toList.map fun b=>EV.int .u8 (b.toNat:Int)) ru.toList:=by
  rw[show ru.toList=s'.data.toList.map fun b=>Value.int .u8 (b.toNat:Int)by simp[ru]];exact gi.Hp _ _ (R:=fun a b=>a=b) (fun a b e=>by subst e;exact .int _ _) rfl fun i a b h1 h2=>by rw[h1]at h2;cases h2;rfl
 have hf:∀c∈ru.toList,c.oneCell'=true:=by
  intro c hc;simp[ru]at hc;obtain⟨b,_,rfl⟩:=hc
  rfl
 have vp:ru.size=s'.size:=by simp[ru]
 obtain⟨L,h1,h2,h3,h4,h5,h6,h7⟩:=rR hR hv hf 1 e e (List.replicate (cap- s'.size) (.int .u8 0)) (ru.size+(cap- s'.size),ru.size+(cap- s'.size)+1) (fun i hi=>by simp at hi;simp;omega) w' (by
  have e1:(⟨ru.toList++List.replicate (cap- s'.size) (.int .u8 0)⟩:Array Value)=ru++Array.replicate (cap- s'.size) (.int .u8 0):=by
   apply Array.ext';simp
  rw[e1];exact⟨rfl,rfl,rfl,rfl⟩)
 refine⟨_,rfl,_,w',.slice (some ⟨w.heap.size,0,none⟩) s'.size cap,?_,?_,h7⟩
 ·simp only[convert,Sem.run_bind,run_underlying hs,run_underlying hd,run_underlying he,Result.andThen_ok,Conv.stringToBytes,run_choose];rw[show (Question.appendCap s'.size 0 e).forced=false from rfl];simp only[rF,if_false,Result.andThen_ok,newRow,Sem.run_bind,run_newObj,Sem.run_pure,za];simp only[Array.size_append,Array.size_replicate,Array.size_map,w',o,ru,cap,q]
 ·have:VR (ρ.put m.next L) (.slice m.next 0 s'.data.toList.length none) (.slice (some ⟨L.dW,0,none⟩) s'.size cap):=by
   rw[hlen];refine .slice h1 Sr (fun _=>by rw[h3]) (fun _=> ?_)
   rw[h5,h4];simp[vp];omega
  rw[<- h2];exact this
end
end
section
section
variable {base:Nat} {ρ:eR} {m:Mem} {w:World} {P:Program}
theorem Gm(E8:Nat):∀r c,c<E8->Builtin.growBy E8 r c<=2*E8+768
 |0,c,h=>by simp[Builtin.growBy];omega
 |r+1,c,h=>by
  simp only[Builtin.growBy];rw[if_neg (by omega)];by_cases h2:c+(c+768)/4<E8
  ·exact Gm E8 r _ h2
  ·cases r with
   |zero=>simp[Builtin.growBy];omega
   |succ r=>simp only[Builtin.growBy];rw[if_pos (by omega)];omega
theorem Ng{E8 old:Nat}(h:old<E8):Builtin.nextslicecap E8 old<=2*E8+768:=by
 unfold Builtin.nextslicecap
 split
 ·omega
 ·split
  ·omega
  ·exact Gm E8 4 old h
theorem kX(hR:R base ρ m w){x:EV}{x':Value}(hx:VR ρ x x')(size:Nat){n:Nat}{xs:List EV}(h:m.source size x=some (n,xs)) :
  (Builtin.lenOf x').run P w=.ok n w/\xs.length=n*size/\∀k,k<=n->∃vs:List Value,(Builtin.firstCells size k x').run P w=.ok ⟨vs⟩ w/\gi ρ (xs.take (k*size)) vs/\(∀c∈vs,c.oneCell'=true):=by
 cases x<;>simp only[Mem.source,reduceCtorEq,bQ,sY]at h
 case fz=>cases hx
 case aa=>
  obtain⟨rfl,rfl⟩:=h;cases hx;refine⟨rfl,by simp,fun k hk=>⟨[],?_,by simpa using gi.nil,by simp⟩⟩
  rfl
 case str s=>
  cases tF:size.beq 1<;>simp only[tF,cond_true,cond_false,reduceCtorEq,bQ,sY]at h
  obtain⟨rfl,rfl⟩:=h;obtain rfl:=bf tF;cases hx with
  |str s'=>
  refine⟨rfl,by simp,fun k hk=>⟨(s'.data.toList.take k).map fun b=>.int .u8 (b.toNat:Int),?_,?_,?_⟩⟩
  ·simp only[Builtin.firstCells,Sem.run_pure]
   congr 1
   apply Array.ext'
   simp
  ·rw[Nat.mul_one,<- List.map_take];exact gi.Hp _ _ (R:=fun a b=>a=b) (fun a b e=>by subst e;exact .int _ _) rfl fun i a b h1 h2=>by rw[h1]at h2;cases h2;rfl
  ·intro c hc;obtain⟨b,_,rfl⟩:=List.mem_map.1 hc
   rfl
 case slice b off len cap=>
  obtain⟨cs,nX,h2⟩:=mH.1 h;cases h2;refine⟨by cases hx<;>rfl,vD nX,fun k hk=> ?_⟩
  have DL:k*size<=n*size:=Nat.mul_le_mul_right _ hk;have lN:m.row b off (k*size)=some (xs.take (k*size)):=by
   by_cases LK:k*size=0
   ·rw[LK,Mem.od];simp
   rw[Mem.qz LK];rw[Mem.qz (by omega)]at nX;unfold Mem.E6 at nX ⊢
   split at nX
   ·rename_i ds _ _ _ hg
    cases hl:(off+n*size).ble ds.length<;>simp only[hl,cond_true,cond_false,reduceCtorEq,bQ]at nX
    have:=rI hl;have h3:(off+k*size).ble ds.length=true:=sx (by omega);simp only[h3,cond_true];subst nX;rw[List.take_take,Nat.min_eq_left DL]
   ·cases nX
  obtain⟨a,c,vs,rfl,h3,h4,h5,h6⟩:=pF (P:=P) hR hx size hk lN;exact⟨vs,by simpa[Builtin.firstCells]using h3,h4,h5⟩
theorem kill(hR:R base ρ m w){b:Nat}{L:Loc}(hb:ρ b=some L):R base ρ (m.set b .dead) w/\Step ρ m w ρ (m.set b .dead) w:=by
 have hl:∀c,Live (m.set b .dead) c->c≠b/\Live m c:=by
  intro c hc;unfold Live at hc⊢;rw[Mem.ct]at hc;by_cases e:c=b
  ·rw[if_pos e]at hc;exact absurd rfl hc
  ·rw[if_neg e]at hc;exact⟨e,hc⟩
 refine⟨⟨hR.lt,fun c M hM=> ?_,fun c d M M' hM HP h1 h2 h3 h4=>hR.inj c d M M' hM HP (hl c h1).2 (hl d h2).2 h3 h4,hR.base,fun c hc=>by rw[Mem.ct];split<;>first|rfl|exact hR.clean c hc⟩,⟨.refl ρ,fun _ h h'=>absurd h h',cR _,fun c hc hn=> ?_,fun c _ hd=>by rw[Mem.ct];split<;>first|rfl|exact hd,cR _,fun i hi=> ?_,fun _ _ _=>rfl,rfl,rfl,rfl⟩⟩
 ·rw[Mem.ct];by_cases e:c=b
  ·rw[if_pos e];trivial
  ·rw[if_neg e];exact hR.dW c M hM
 ·rw[Mem.ct,if_neg (fun e=>by subst e;rw[hb]at hn;cases hn)]
 ·rintro⟨c,M,hM,h1,h2,h3⟩;exact⟨c,M,hM,(hl c h1).2,h2,h3⟩
theorem Ls(hR:R base ρ m w){b:Nat}{L:Loc}(hb:ρ b=some L){cs0:List EV}{el0:Nat}(hm:m.get b=.cells cs0 L.esz el0 false){o len n c:Nat}{old xs:List EV}{EX:List Value}(elem:Nat)
  (hold:∀(i:Nat) (v:EV),old[i]?=some v->cs0[o- L.off+i]?=some v/\L.off<=o) (Tw:old.length=len*L.esz) (YD:xs.length=n*L.esz) (Sr:len+n<=c) (hr:o+c*L.esz<=L.total)
  (hx:gi ρ xs EX) (hf:∀c∈EX,c.oneCell'=true) :
  ∃(w':World) (L':Loc),(storeCells ⟨L.dW,o+len*L.esz,none⟩ EX).run P w=.ok () w'/\L'.dW=L.dW/\L'.off=o/\L'.total=L.total/\L'.esz=L.esz/\L'.ro=false/\
   R base (ρ.put m.next L') ((m.new (.cells (old++xs) L.esz elem false)).set b .dead) w'/\Step ρ m w (ρ.put m.next L') ((m.new (.cells (old++xs) L.esz elem false)).set b .dead) w':=by
 have hB:=hR.dW b L hb;rw[hm]at hB;obtain⟨arr,e,fz,h1,h2,h3,h4,h5,h6,h7,h8⟩:=hB;obtain⟨Kk,zp⟩:=h7 rfl;have atG:=hx.length;have hcm:len*L.esz+n*L.esz<=c*L.esz:=by rw[<- Nat.add_mul];exact Nat.mul_le_mul_right _ Sr
 obtain⟨w',Ir,r1,r2,r3,r4,r5,r6,r7,r8,r9⟩:=qU (P:=P) (o:=o+len*L.esz) EX 0 w arr h1 (by omega) zp hf
 let L':Loc:=⟨L.dW,o,L.total,L.esz,false⟩
 have hLo:L'.off=o:=rfl;have hn:=hR.acb;have he:=eR.HZ L' hn;have vn:Live m b:=by unfold Live;rw[hm];simp
 have DO:b≠m.next:=by have:=hR.lt b L hb;omega
 let m':=(m.new (.cells (old++xs) L.esz elem false)).set b .dead
 have cN:m'.get m.next=.cells (old++xs) L.esz elem false:=by
  show Mem.get (Mem.set _ _ _) _=_;rw[Mem.ct,if_neg (Ne.symm DO),Mem.cN,if_pos rfl]
 have W7:m'.get b=.dead:=by
  show Mem.get (Mem.set _ _ _) _=_;rw[Mem.ct,if_pos rfl]
 have km:∀d,d≠m.next->d≠b->m'.get d=m.get d:=fun d hd ET=>by
  show Mem.get (Mem.set _ _ _) _=_;rw[Mem.ct,if_neg ET,Mem.cN,if_neg hd]
 have vR:∀d,d≠m.next->Live m' d->d≠b/\Live m d:=by
  intro d hd hl;have hdb:d≠b:=fun e=>by subst e;exact hl W7
  exact⟨hdb,by unfold Live at hl⊢;rwa [km d hd hdb]at hl⟩
 refine⟨w',L',r1,rfl,rfl,rfl,rfl,rfl,⟨?_,?_,?_,?_,fun d hd=>by have hd:m.next+1<=d:=hd;have:=hR.lt b L hb;rw[km d (by omega) (by omega)];exact hR.clean d (by omega)⟩,⟨he,?_,?_,?_,fun d hd hdd=>(Classical.em (d=b)).elim (fun e=>by rw[e];exact W7) (fun e=>by have hdn:d≠m.next:=Nat.ne_of_lt hd;exact(km d hdn e).trans hdd),by omega,?_,?_,r7,r8,r9⟩⟩
 ·intro d M hM;show d<m.next+1;unfold eR.put at hM;by_cases e:d=m.next
  ·omega
  ·rw[if_neg e]at hM;have:=hR.lt d M hM;omega
 ·intro d M hM;unfold eR.put at hM;by_cases e:d=m.next
  ·rw[if_pos e]at hM;cases hM;subst e;show Bd base _ (m'.get m.next) _ _;rw[cN];refine⟨Ir,_,fz,r2,r3.trans h2,rfl,rfl,by rw[hLo,w6];show _<=L.total;omega,?_,fun _=>⟨Kk,by rw[r3];exact zp⟩,by simp⟩
   intro i v hi;rw[r4];by_cases aH:i<old.length
   ·rw[rB aH]at hi;obtain⟨g0,g1⟩:=hold i v hi;obtain⟨v',k1,k2,k3⟩:=h6 _ v g0;rw[if_neg (by rw[hLo];omega)];refine⟨v',?_,k2.ext he,k3⟩
    rw[show L'.off+i=L.off+(o- L.off+i)by rw[hLo];omega];exact k1
   ·rw[yy (by omega)]at hi;obtain⟨v',k1,k2⟩:=hx.get _ v hi;have aho:i- old.length<EX.length:=(mu.1 k1).1;rw[if_pos (by rw[hLo];omega)];refine⟨v',?_,k2.ext he,hf v' (List.mem_of_getElem? k1)⟩
    rw[<- k1];congr 1;rw[hLo];omega
  ·rw[if_neg e]at hM;show Bd base _ (m'.get d) _ _;by_cases hd:d=b
   ·subst hd;rw[W7];trivial
   ·rw[km d e hd];by_cases hl:m.get d=.dead
    ·rw[hl];trivial
    ·have fR:M.dW≠L.dW:=fun uX=>hd (hR.inj b d L M hb hM vn hl (by rw[h4]) uX.symm).symm
     exact(hR.dW d M hM).of_heap he (r5 _ fR)
 ·intro d f M M' hM HP hl zm sH uX;unfold eR.put at hM HP;by_cases e:d=m.next<;>by_cases e':f=m.next
  ·rw[e,e']
  ·rw[if_pos e]at hM;cases hM;rw[if_neg e']at HP;obtain⟨q1,q2⟩:=vR f e' zm;exact absurd (hR.inj b f L M' hb HP vn q2 (by rw[h4]) uX).symm q1
  ·rw[if_pos e']at HP;cases HP;rw[if_neg e]at hM;obtain⟨q1,q2⟩:=vR d e hl;exact absurd (hR.inj d b M L hM hb q2 vn sH uX) q1
  ·rw[if_neg e]at hM;rw[if_neg e']at HP;exact hR.inj d f M M' hM HP (vR d e hl).2 (vR f e' zm).2 sH uX
 ·rw[r6];exact hR.base
 ·intro d IF zt;unfold eR.put at zt;by_cases e:d=m.next
  ·omega
  ·rw[if_neg e]at zt;exact absurd IF zt
 ·show m.next<=m.next+1;omega
 ·intro d hd J9;exact km d (by omega) (fun e=>by subst e;rw[hb]at J9;cases J9)
 ·rintro i hi ⟨d,M,hM,hl,sH,uX⟩;unfold eR.put at hM;by_cases e:d=m.next
  ·rw[if_pos e]at hM;cases hM;exact⟨b,L,hb,vn,by rw[h4],uX⟩
  ·rw[if_neg e]at hM;exact⟨d,M,hM,(vR d e hl).2,sH,uX⟩
 ·intro i hi hr;exact r5 i (fun e=>hr ⟨b,L,hb,vn,by rw[h4],e.symm⟩)
theorem CJ(z:Array Value)(n:Nat):(Builtin.zeroCells z n).size=n*z.size:=by simp[Builtin.zeroCells]
theorem W3{t u e:TypeId}{du:TypeDesc}{i:TypeInfo}(ht:P.underlying t=some (.slice e))(hu:P.underlying u=some du)(Gk:(∃v,du=.slice v)\/du=.string)(hi:P.info? e=some i){zv:Value}(hz:∀w,(zeroValue e).run P w=.ok zv w)
  (HD:zv.cells.size=i.size) (hb:i.bytes<=65536) {a:Option Addr} {len cap n:Nat} {x':Value} {old xs:List Value} (hn:(Builtin.lenOf x').run P w=.ok n w) (WH:cap<len+n) (zh:len+n<=room)
  (hold:(Builtin.firstCells i.size len (.slice a len cap)).run P {w with drawn:=w.drawn+1}=.ok ⟨old⟩ {w with drawn:=w.drawn+1}) (NI:(Builtin.firstCells i.size n x').run P {w with drawn:=w.drawn+1}=.ok ⟨xs⟩ {w with drawn:=w.drawn+1}) :
  ∃(w':World) (c:Nat) (rm:List Value),(Builtin.append_ #[t,u] t #[.slice a len cap,x']).run P w=.ok (.slice (some ⟨w.heap.size,0,none⟩) (len+n) c) w'/\len+n<=c/\rm.length=(c-(len+n))*i.size/\
   Iw w (.cells ⟨(old++xs)++rm⟩ e (0,0)) w':=by
 have hs:iK P e=some i.size:=by simp[iK,hi]
 let q:Question:=.appendCap (len+n) cap e
 let c:=q.cut (w.tape w.drawn q)
 have hc:len+n<=c:=Nat.le_add_right _ _;refine⟨{w with drawn:=w.drawn+1,heap:=w.heap.push (.cells (⟨old⟩++⟨xs⟩++Builtin.zeroCells zv.cells (c-(len+n))) e)},c,(Builtin.zeroCells zv.cells (c-(len+n))).toList,?_,hc,by simp[CJ,HD],⟨by simp[<- Array.toList_inj],rfl,rfl,rfl⟩⟩
 have hnc:=Ng WH;unfold room at zh;have anY:¬Builtin.nextslicecap (len+n) cap*i.bytes>2^48:=by
  have h1:Builtin.nextslicecap (len+n) cap*i.bytes<=(2*1073741824+768)*65536:=Nat.mul_le_mul (by omega) hb;omega
 rcases Gk with⟨v,rfl⟩|rfl
 all_goals
  unfold Builtin.append_;simp only[List.getElem?_toArray,List.getElem?_cons_zero,List.getElem?_cons_succ,Sem.run_bind,run_underlying ht,Result.andThen_ok,cy hs,run_underlying hu,Sem.run_pure,rF,if_false,Bool.not_false,if_true,hn];rw[if_neg (by omega)];simp only[Sem.run_bind,run_typeInfo hi,Result.andThen_ok];rw[if_neg (by simp only[IntKind.max_i64];omega)];simp only[Sem.run_bind,run_typeInfo hi,Result.andThen_ok];rw[if_neg anY];simp only[Sem.run_bind,run_choose];rw[show (Question.appendCap (len+n) cap e).forced=false from rfl];simp only[rF,if_false,Result.andThen_ok,run_askRoom,run_typeInfo hi];rw[hold];simp only[Result.andThen_ok];rw[NI];simp only[Result.andThen_ok,hz,Sem.run_pure,newRow,Sem.run_bind,run_newObj]
  rfl
theorem tR{t u e:TypeId}{du:TypeDesc}{size:Nat}(ht:P.underlying t=some (.slice e))(hu:P.underlying u=some du)(Gk:(∃v,du=.slice v)\/du=.string)(hs:iK P e=some size)
  {a:Option Addr} {len cap n:Nat} {x':Value} {xs:List Value} (hn:(Builtin.lenOf x').run P w=.ok n w) (Kg:len+n<=cap) (NI:(Builtin.firstCells size n x').run P w=.ok ⟨xs⟩ w) :
  (Builtin.append_ #[t,u] t #[.slice a len cap,x']).run P w=(match a with|some b=>(storeCells (b.add (len*size)) xs).run P w|none=>.ok () w:Result Unit).andThen fun _ w'=>.ok (.slice a (len+n) cap) w':=by
 rcases Gk with⟨v,rfl⟩|rfl
 all_goals
  unfold Builtin.append_;simp only[List.getElem?_toArray,List.getElem?_cons_zero,List.getElem?_cons_succ,Sem.run_bind,run_underlying ht,Result.andThen_ok,cy hs,run_underlying hu,Sem.run_pure,rF,if_false,Bool.not_false,if_true,hn];rw[if_pos Kg];simp only[Sem.run_bind,NI,Result.andThen_ok];cases a<;>simp
theorem rP(w:World):EC w {w with drawn:=w.drawn+1}:=⟨rfl,rfl,rfl,rfl⟩
theorem E5{x:EV}{n:Nat}{xs:List EV}{esz:Nat}{x':Value}(hx:VR ρ x x')(h:m.source esz x=some (n,xs)):xs.length=n*esz:=by
 cases x<;>simp only[Mem.source,reduceCtorEq,bQ,sY]at h
 case fz=>cases hx
 case aa=>obtain⟨rfl,rfl⟩:=h;simp
 case str s=>
  cases tF:esz.beq 1<;>simp only[tF,cond_true,cond_false,reduceCtorEq,bQ,sY]at h
  obtain⟨rfl,rfl⟩:=h;obtain rfl:=bf tF;simp
 case slice b off len cap=>
  obtain⟨cs,nX,h2⟩:=mH.1 h;cases h2;exact vD nX
theorem uG(hR:R base ρ m w){t u e:TypeId}{du:TypeDesc}{i:TypeInfo}{z:List EV}(ht:P.underlying t=some (.slice e))(hu:P.underlying u=some du)(Gk:(∃v,du=.slice v)\/du=.string)(hi:P.info? e=some i)
  (hz:qj P e=some z) (HD:z.length=i.size) (hb:i.bytes<=65536) {a:Option Addr} {len cap n:Nat} {x:EV} {x':Value} (hx:VR ρ x x') {xs:List EV} (lh:m.source i.size x=some (n,xs)) (WH:cap<len+n) (zh:len+n<=room)
  {old:List EV} {old':List Value} (hov:gi ρ old old') (hof:∀c∈old',c.oneCell'=true) (Tw:old.length=len*i.size)
  (hold:(Builtin.firstCells i.size len (.slice a len cap)).run P {w with drawn:=w.drawn+1}=.ok ⟨old'⟩ {w with drawn:=w.drawn+1}) :
  Ac P (Builtin.append_ #[t,u] t #[.slice a len cap,x']) base ρ m w (.slice m.next 0 (len+n) none) (m.new (.cells (old++xs) i.size e false)):=by
 obtain⟨zv,z1,z2,_⟩:=pA (ρ:=ρ) hz;have agT:zv.cells.size=i.size:=by have:=z2.length;simp at this;omega
 obtain⟨s1,s2,_⟩:=kX (P:=P) hR hx i.size lh;obtain⟨_,_,s3⟩:=kX (P:=P) (hR.quiet (rP w)) hx i.size lh;obtain⟨vs,f1,f2,f3⟩:=s3 n (cR n);rw[uP (by omega)]at f2;obtain⟨w',c,rm,g1,g2,g3,g4⟩:=W3 (P:=P) (w:=w) ht hu Gk hi z1 agT hb s1 WH zh hold f1;have aet:=hov.append f2;obtain⟨L,h1,h2,h3,h4,h5,h6,h7,h8⟩:=Hi hR aet (fun c hc=>by
  rcases Ag.1 hc with hc|hc
  ·exact hof c hc
  ·exact f3 c hc) i.size e e rm (0,0) (AY _) w' g4
 refine⟨_,w',_,g1,?_,h7,h8⟩
 rw[<- h2];refine .slice h1 g2 (fun _=>by rw[h3]) (fun _=> ?_)
 have hl1:=hov.length;have WA:=f2.length;rw[h5,h4,g3,w6,<- hl1,<- WA,Tw,s2,<- Nat.add_mul,<- Nat.add_mul];rw[show len+n+(c-(len+n))=c by omega];simp
theorem Is(hR:R base ρ m w){t u e:TypeId}{du:TypeDesc}{i:TypeInfo}{z:List EV}(ht:P.underlying t=some (.slice e))(hu:P.underlying u=some du)(Gk:(∃v,du=.slice v)\/du=.string)(hi:P.info? e=some i)
  (hz:qj P e=some z) (HD:z.length=i.size) (hb:i.bytes<=65536) {s x:EV} {s' x':Value} (hs:VR ρ s s') (hx:VR ρ x x') {v:EV} {m':Mem} (h:cM m e i.size s x=some (v,m')) :
  Ac P (Builtin.append_ #[t,u] t #[s',x']) base ρ m w v m':=by
 have tF:iK P e=some i.size:=by simp[iK,hi]
 unfold cM at h;cases lh:m.source i.size x with
 |none=>simp[lh]at h
 |some nx=>
 obtain⟨n,xs⟩:=nx;simp only[lh]at h;have YD:=E5 hx lh;obtain⟨s1,s2,s3⟩:=kX (P:=P) hR hx i.size lh;obtain⟨vs,f1,f2,f3⟩:=s3 n (cR n);rw[uP (by omega)]at f2;cases hn:n.beq 0 with
 |true=>
  obtain rfl:=bf hn;simp only[hn,cond_true]at h;have yv:vs=[]:=by
   have:=f2.length;rw[YD]at this;simp at this;exact List.eq_nil_of_length_eq_zero this.symm
  subst yv;cases hs<;>simp only[reduceCtorEq,bQ,sY]at h
  case aa=>
   obtain⟨rfl,rfl⟩:=h;exact⟨ρ,w,_,by rw[tR ht hu Gk tF s1 (cR _) f1];rfl,.aa,hR,.refl _ _ _⟩
  case slice b off len c o L hL hc ho hr=>
   obtain⟨rfl,rfl⟩:=h;exact⟨ρ,w,_,by rw[tR ht hu Gk tF s1 (by omega) f1];rfl,.slice hL hc ho hr,hR,.refl _ _ _⟩
  case jA b off a=>
   obtain⟨rfl,rfl⟩:=h;exact⟨ρ,w,_,by rw[tR ht hu Gk tF s1 (by omega) f1];rfl,.jA,hR,.refl _ _ _⟩
  case gN b off len c o L hL hc ho=>
   obtain⟨rfl,rfl⟩:=h;exact⟨ρ,w,_,by rw[tR ht hu Gk tF s1 (by omega) f1];rfl,.gN hL hc ho,hR,.refl _ _ _⟩
 |false=>
  have Tx:=my hn;simp only[hn,cond_false]at h;cases hs<;>simp only[reduceCtorEq]at h
  case aa=>
   cases PH:n.ble room<;>simp only[PH,cond_true,cond_false,reduceCtorEq,bQ,sY]at h
   obtain⟨rfl,rfl⟩:=h;have hle:=rI PH;have:=uG (P:=P) (a:=none) (len:=0) (cap:=0) hR ht hu Gk hi hz HD hb hx lh (by omega) (by omega) (old:=[]) (old':=[]) .nil (by simp) (by simp) rfl;simpa using this
  case slice b off len c o L hL hc ho hr=>
   cases PH:(len+n).ble room<;>simp only[PH,cond_true,cond_false,reduceCtorEq]at h
   have zh:=rI PH;cases hold:m.row b off (len*i.size)with
   |none=>simp[hold]at h
   |some old=>
   simp only[hold]at h;cases hm:m.get b with
   |dead=>simp[hm]at h
   |map es=>simp[hm]at h
   |cells cs0 aoC el0 ro0=>
   simp only[hm]at h;cases ro0 with
   |true=>simp at h
   |false=>
   simp only[]at h;cases he:aoC.beq i.size<;>simp only[he,cond_true,cond_false,reduceCtorEq,bQ,sY]at h
   obtain rfl:=bf he;obtain⟨rfl,rfl⟩:=h;have vp:=Xy hR hL hm;have hB:=hR.dW b L hL;rw[hm]at hB;obtain⟨_,_,_,_,_,_,sH,_⟩:=hB;by_cases Kg:len+n<=c
   ·have lN:∀(j:Nat) (v:EV),old[j]?=some v->cs0[o- L.off+j]?=some v/\L.off<=o:=by
     intro j v hj;have aH:j<old.length:=(mu.1 hj).1;have Tw:=vD hold;have hlp:0<len:=by
      rcases Nat.eq_zero_or_pos len with h0|h0
      ·subst h0;simp at Tw;subst Tw;simp at aH
      ·exact h0
     have ho':=ho hlp;have fR:len*i.size≠0:=by intro h0;rw[h0]at Tw;omega
     rw[Mem.qz fR]at hold;unfold Mem.E6 at hold;simp only[hm]at hold;cases hl:(off+len*i.size).ble cs0.length<;>simp only[hl,cond_true,cond_false,reduceCtorEq,bQ]at hold
     subst hold;rw[List.getElem?_take]at hj
     split at hj
     ·rw[List.getElem?_drop]at hj;exact⟨by rw[show o- L.off+j=off+j by omega];exact hj,by omega⟩
     ·cases hj
    obtain⟨w',L',a1,a2,a3,a4,a5,a6,a7,a8⟩:=Ls (P:=P) hR hL (by rw[vp];exact hm) e lN (by rw[vp];exact vD hold) (by rw[vp];exact YD) Kg (hr sH) f2 f3;rw[vp]at a1 a7 a8;refine⟨_,w',.slice (some ⟨L.dW,o,none⟩) (len+n) c,?_,?_,a7,a8⟩
    ·rw[tR ht hu Gk tF s1 Kg f1];simp only[add_eq,a1,Result.andThen_ok]
    ·have hp:(ρ.put m.next L') m.next=some L':=by simp[eR.put]
     rw[<- a2];refine .slice hp Kg (fun _=>by rw[a3];rfl) (fun _=> ?_)
     rw[a5,a4];exact hr sH
   ·obtain⟨a,c',vs0,e1,e2,e3,e4,e5⟩:=pF (P:=P) (hR.quiet (rP w)) (.slice hL hc ho hr) i.size (cR len) hold;cases e1;obtain⟨ρ',w',v',g1,g2,g3,g4⟩:=uG (P:=P) hR ht hu Gk hi hz HD hb hx lh (a:=some ⟨L.dW,o,none⟩) (len:=len) (cap:=c) (by omega) zh e3 e4 (vD hold) (by simpa[Builtin.firstCells]using e2);obtain⟨k1,k2⟩:=kill g3 (g4.ext _ _ hL);exact⟨ρ',w',v',g1,g2,k1,g4.trans k2⟩
  case jA b off a=>
   cases PH:(0+n).ble room<;>simp only[PH,cond_true,cond_false,reduceCtorEq]at h
   have zh:=rI PH;cases hold:m.row b off (0*i.size)with
   |none=>rw[hold]at h;cases h
   |some old=>
   rw[hold]at h;simp only at h;cases hft:(0+n).ble 0<;>simp only[hft,cond_true,cond_false,bQ,sY]at h
   ·obtain⟨rfl,rfl⟩:=h;have hnf:0<0+n:=by
     rcases Nat.lt_or_ge 0 (0+n)with h1|h1
     ·exact h1
     ·rw[sx h1]at hft;cases hft
    obtain⟨a',c',vs0,e1,e2,e3,e4,e5⟩:=pF (P:=P) (hR.quiet (rP w)) (.jA (b:=b) (off:=off) (a:=a)) i.size (cR 0) hold;cases e1;exact uG (P:=P) hR ht hu Gk hi hz HD hb hx lh (a:=some a) (len:=0) (cap:=0) hnf zh e3 e4 (vD hold) (by simpa[Builtin.firstCells]using e2)
   ·exfalso;have:=rI hft;have Tx:n=0:=by omega
    simp[Tx]at hn
  case gN b off len c o L hL hc ho=>
   cases PH:(len+n).ble room<;>simp only[PH,cond_true,cond_false,reduceCtorEq]at h
   have zh:=rI PH;cases hold:m.row b off (len*i.size)with
   |none=>simp[hold]at h
   |some old=>
   simp only[hold]at h;cases hft:(len+n).ble c<;>simp only[hft,cond_true,cond_false,bQ,sY]at h
   ·obtain⟨rfl,rfl⟩:=h;have hnf:c<len+n:=by
     rcases Nat.lt_or_ge c (len+n)with h1|h1
     ·exact h1
     ·rw[sx h1]at hft;cases hft
    obtain⟨a,c',vs0,e1,e2,e3,e4,e5⟩:=pF (P:=P) (hR.quiet (rP w)) (.gN hL hc ho) i.size (cR len) hold;cases e1;exact uG (P:=P) hR ht hu Gk hi hz HD hb hx lh (a:=some ⟨L.dW,o,none⟩) (len:=len) (cap:=c) hnf zh e3 e4 (vD hold) (by simpa[Builtin.firstCells]using e2)
   ·have Kg:=rI hft;obtain⟨m1,hm1,h2⟩:=mH.1 h;cases h2;obtain⟨w',r1,r2,r3⟩:=rJ (P:=P) hR hL f2 f3 hm1;refine⟨ρ,w',.slice (some ⟨L.dW,o,none⟩) (len+n) c,?_,.gN hL Kg ho,r2,r3⟩
    rw[tR ht hu Gk tF s1 Kg f1];have:o=L.off+off:=ho (by omega);subst this;simp only[add_eq,<- Nat.add_assoc]at r1⊢;simp only[r1,Result.andThen_ok]
end
end
end Go.Proofs.YtfbnghpabppljaaGreatDoor.Ev
