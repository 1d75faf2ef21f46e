/- EvFzOp, EvFzOps, EvFzRun, EvPure, EvRec, EvArgs, EvIn, EvFzIn. -/
import Derived.WideShapes
import Derived.Deep.Slices
import Derived.Test.YtfbnghpabppljaaGreatDoorMc
set_option linter.unusedSimpArgs false
set_option linter.unusedVariables false
set_option linter.unusedSectionVars false
set_option linter.defProp false
set_option maxRecDepth 20000
set_option maxHeartbeats 8000000
namespace Go.Proofs.YtfbnghpabppljaaGreatDoor.Ev
open Go
section
def Bq:bm->Bool
 | .tmp _=>true
 | .const v=>Flat v||Wd v
def Nb:oa->Bool
 | .alloc _ z| .build z _| .aG _ _ _ z _| .jI _ _ z _ _=>fL z
 | .lookup _ z _ _ _=>Flat z
 |_=>true
def Vn(op:oa):Bool:=(ku op).all Bq&&Nb op
def yu(θ:de)(ρ ρ':bm->EV):Prop:=∀x,Bq x=true->SV θ (ρ x) (ρ' x)
def Iu(θ:de)(m m':Mem)(v:EV)(m1:Mem)(o:Option R1):Prop:=
 ∃v' iQ,o=some (.val v' iQ)/\
  ((SV θ v v'/\MemS θ m1 iQ/\m1.next=m.next/\iQ.next=m'.next)\/
   (SV (θ.more m.next m'.next) v v'/\MemS (θ.more m.next m'.next) m1 iQ/\m1.next=m.next+1/\iQ.next=m'.next+1))/\
  (∀c,c≠m'.next->(∀b,θ.jU b≠some c)->iQ.get c=m'.get c)
section
variable {θ:de} {m m' m1:Mem} {v:EV} {o:Option R1} {n n':Nat} {ρ ρ':bm->EV}
theorem Iu.here(hm:MemS θ m m')(h1:m1=m){v':EV}(hv:SV θ v v'):Iu θ m m' v m1 (some (.val v' m')):=by
 subst h1;exact⟨v',m',rfl,.inl ⟨hv,hm,rfl,rfl⟩,fun _ _ _=>rfl⟩
theorem Iu.new(hm:MemS θ m m')(f:Ae θ m.next m'.next){B B':bX}{v':EV}(hB:OX (θ.more m.next m'.next) B B')(hv:SV (θ.more m.next m'.next) v v'):Iu θ m m' v (m.new B) (some (.val v' (m'.new B'))):=
 ⟨v',_,rfl,.inr ⟨hv,hm.more f hB,rfl,rfl⟩,fun c hc _=>by rw[cN,if_neg hc]⟩
theorem abx{b:Bool}{v':EV}(h:SV θ (.bool b) v'):v'=.bool b:=by cases h;rfl
theorem We{k:IntKind}{i:Int}{v':EV}(h:SV θ (.int k i) v'):v'=.int k i:=by cases h;rfl
theorem zg{N i:Nat}{x x':EV}(hx:SV θ x x')(h:idx N x=some i):idx N x'=some i:=by
 cases hx<;>first|exact h|simp[idx]at h
theorem gw{lo:Option bm}(hl:∀x,lo=some x->SV θ (ρ x) (ρ' x)){d N i:Nat}(h:aS (lo.map ρ) d N=some i):aS (lo.map ρ') d N=some i:=by
 cases lo with
 |none=>exact h
 |some x=>
  have hx:=hl x rfl;simp only[Option.map_some]at h⊢;generalize ρ x=a at hx h;generalize ρ' x=a' at hx;cases hx<;>first|exact h|simp[aS]at h
theorem DY:∀(ps:List (Nat×Nat×EV)) (ps':List (Nat×Nat×EV)) (cs oM r:List EV),ps.map (fun p=>(p.1,p.2.1))=ps'.map (fun p=>(p.1,p.2.1))->et θ (ps.map (·.2.2)) (ps'.map (·.2.2))->et θ cs oM->eQ cs ps=some r->∃r',eQ oM ps'=some r'/\et θ r r'
 |[],[],cs,oM,r,_,_,nX,h=>by simp only[eQ,bQ]at h⊢;subst h;exact⟨_,rfl,nX⟩
 |[],_::_,_,_,_,he,_,_,_=>by simp at he
 |_::_,[],_,_,_,he,_,_,_=>by simp at he
 |(off,size,v)::ps,(ate,aqE,v')::ps',cs,oM,r,he,hv,nX,h=>by
  simp only[List.map_cons,List.cons.injEq,sY]at he;obtain⟨⟨rfl,rfl⟩,he⟩:=he;cases hv with
  |cons hv yv=>
  simp only[eQ]at h⊢;cases hc:v.cells with
  |none=>simp[hc]at h
  |some vs=>
   obtain⟨vz,hc',hs⟩:=hv.cells hc;simp only[hc,hc',<- hs.length]at h⊢;cases hb:vs.length.beq size<;>simp only[hb,cond_true,cond_false,reduceCtorEq]at h ⊢
   cases hp:kW cs off vs with
   |none=>simp[hp]at h
   |some q=>
    obtain⟨q',hp',hq⟩:=nX.kW hs hp;simp only[hp,hp']at h⊢;exact DY ps ps' _ _ _ he yv hq h
theorem zE{z:List EV}(hz:fL z=true):∀n:Nat,fL (eA n z)=true:=by
 have app:∀a b:List EV,fL a=true->fL b=true->fL (a++b)=true:=by
  intro a b ha hb
  induction a with
  |nil=>exact hb
  |cons x a ih=>simp only[fL,rC]at ha;simp only[List.cons_append,fL,ha.1,ih ha.2,Bool.and_self]
 intro n
 induction n with
 |zero=>rfl
 |succ n ih=>unfold eA at ih⊢;rw[List.replicate_succ,List.flatten_cons];exact app _ _ hz ih
theorem VP{esz i k:Nat}{els:List (List EV)}{a':EV}(ha:SV θ (.gu esz els i k) a'){g:Option Nat}(h:m.load g (.gu esz els i k)=some v):∃v',SV θ v v'/\∀q:Mem,(∀c B,θ.jq c=some B->q.get c=B)->q.load g a'=some v':=by
 cases ha with
 | @gu _ _ _ b off _ _ o hr hi ho=>
  simp only[Mem.load]at h;cases hr with
  | @mk _ _ _ _ _ kk cs ro Si hl hn hx0=>
  have hx:=hx0.ext θ.Px;rw[jE hi]at h;simp only at h;have xg:els[i].length=esz:=hl _ (oX hi)
  -- the afR cells,in the row
  have key:∀(L:List (List EV)) (i:Nat) (hi:i<L.length),(∀el∈L,el.length=esz)->(L.flatten.drop (i*esz)).take esz=L[i]:=by
   intro L
   induction L with
   |nil=>intro i hi;simp at hi
   |cons e L ih=>
    intro i hi hl;have he:e.length=esz:=hl e (by simp);cases i with
    |zero=>simp[he]
    |succ i=>
     have:=ih i (by simpa using hi) (fun el h=>hl el (by simp[h]));rw[List.flatten_cons,Nat.succ_mul,Nat.add_comm,<- List.drop_drop,show (e++L.flatten).drop esz=L.flatten by rw[<- he];simp];simpa using this
  have Z5:et θ els[i] ((cs.drop (off+i*esz)).take esz):=by
   have h1:=((hx.drop (i*esz)).take esz);rw[key els i hi hl]at h1;have h2:(((cs.drop off).take (els.length*esz)).drop (i*esz)).take esz=(cs.drop (off+i*esz)).take esz:=by
    have:i*esz+esz<=els.length*esz:=by rw[<- Nat.succ_mul];exact Nat.mul_le_mul_right _ hi
    rw[List.drop_take,List.drop_drop,List.take_take,Nat.min_eq_left (by omega)]
   rw[h2]at h1;exact h1
  obtain⟨v',hp,hv⟩:=Z5.part h;refine⟨v',hv,fun Q hQ=> ?_⟩
  have uE:=hQ _ _ Si;simp only[Mem.load,uE];subst ho;have hlen:off+i*esz+esz<=cs.length:=by
   have:i*esz+esz<=els.length*esz:=by rw[<- Nat.succ_mul];exact Nat.mul_le_mul_right _ hi
   omega
  cases g with
  |none=>
   simp only[partOf]at hp⊢;rw[List.getElem?_take]at hp
   split at hp
   ·rw[List.getElem?_drop]at hp;exact hp
   ·cases hp
  |some q=>
   simp only[partOf]at hp⊢;have WA:((cs.drop (off+i*esz)).take esz).length=esz:=by rw[List.length_take,OZ];omega
   rw[WA]at hp;cases hb:(k+q).ble esz<;>simp only[hb,cond_true,cond_false,reduceCtorEq,bQ]at hp
   have:=rI hb;rw[sx (show off+i*esz+k+q<=cs.length by omega)];simp only[cond_true,bQ];rw[<- hp,List.drop_take,List.drop_drop,List.take_take,Nat.min_eq_left (by omega)]
theorem Hs(hm:MemB θ m m'){a a':EV}(ha:SV θ a a')(hf:Ge a=false){g:Option Nat}(h:m.load g a=some v):∃v',m'.load g a'=some v'/\SV θ v v':=by
 cases ha<;>simp only[Mem.load,reduceCtorEq]at h
 case gu=>simp[Ge]at hf
 case ptr b c off hb=>
  have hB:=hm.dW b c hb;cases hg:m.get b with
  |dead=>simp[hg]at h
  |map es=>simp[hg]at h
  |cells cs e k ro=>
   rw[hg]at hB h;obtain⟨oM,uE,hs⟩:=hB;simp only[Mem.load,uE];exact hs.part h
theorem JT(hm:MemS θ m m'){a a':EV}(ha:SV θ a a'){g:Option Nat}(h:m.load g a=some v):∃v',m'.load g a'=some v'/\SV θ v v':=by
 cases hf:Ge a with
 |false=>exact Hs hm.toMemB ha hf h
 |true=>
  cases a<;>simp only[Ge,rF]at hf
  obtain⟨v',h1,h2⟩:=VP ha h;exact⟨v',h2 m' hm.jq,h1⟩
theorem G9(hm:MemS θ m m'){b c:Nat}(hb:θ.jU b=some c){off N:Nat}{xs:List EV}(h:m.row b off N=some xs):∃EX,m'.row c off N=some EX/\et θ xs EX:=by
 by_cases h0:N=0
 ·subst h0;rw[Mem.od]at h;cases h;exact⟨_,Mem.od,.nil⟩
 ·rw[Mem.qz h0]at h⊢;have hB:=hm.dW b c hb;unfold Mem.E6 at h⊢;cases hg:m.get b with
  |dead=>simp[hg]at h
  |map es=>simp[hg]at h
  |cells cs e k ro=>
   rw[hg]at hB;obtain⟨oM,uE,hs⟩:=hB;simp only[hg,uE,<- hs.length]at h⊢;cases sj:(off+N).ble cs.length<;>simp only[sj,cond_true,cond_false,reduceCtorEq,bQ]at h ⊢
   subst h;exact⟨_,rfl,(hs.drop off).take N⟩
theorem xF(hm:MemS θ m m'){x x':EV}(hx:SV θ x x'){esz N:Nat}{xs:List EV}(h:m.source esz x=some (N,xs)):∃EX,m'.source esz x'=some (N,EX)/\et θ xs EX:=by
 cases hx<;>simp only[Mem.source,reduceCtorEq]at h
 case str s=>
  refine⟨xs,h,?_⟩
  cases hb:esz.beq 1<;>simp only[hb,cond_true,cond_false,reduceCtorEq,bQ,sY]at h
  rw[<- h.2];exact et.map _ _ fun a _=>.int _ _
 case aa=>simp only[bQ,sY]at h;obtain⟨rfl,rfl⟩:=h;exact⟨[],rfl,.nil⟩
 case slice b c off len cap hb=>
  obtain⟨r,hr,he⟩:=mH.1 h;obtain⟨r',Wp,hs⟩:=G9 hm hb hr;simp only[sY]at he;obtain⟨rfl,rfl⟩:=he;exact⟨r',by simp only[Mem.source,Wp,Option.map_some],hs⟩
 case AX t e b off ht=>
  cases hb:e.beq esz<;>simp only[hb,cond_true,cond_false,reduceCtorEq,bQ,sY]at h
  obtain⟨rfl,rfl⟩:=h;refine⟨[],?_,.nil⟩
  simp only[Mem.source,Nat.zero_mul,Mem.od,Option.map_some,List.length_nil]
 case fz t e els b off cap hc hr ht=>
  cases hb:e.beq esz<;>simp only[hb,cond_true,cond_false,reduceCtorEq,bQ,sY]at h
  obtain⟨rfl,rfl⟩:=h;obtain rfl:=bf hb;cases hr with
  |mk Si hl hn hx0=>
  have hx:=hx0.ext θ.Px
  rename_i cs ro
  refine⟨(cs.drop off).take (els.length*e),?_,hx⟩
  simp only[Mem.source];by_cases h0:els.length*e=0
  ·rw[h0,Mem.od,List.take_zero];rfl
  ·rw[Mem.qz h0,Mem.E6,hm.jq _ _ Si];simp only[sx hn,cond_true,Option.map_some]
theorem Ak(hm:MemS θ m m')(k:sw θ n n'){b c:Nat}(hb:θ.jU b=some c){off:Nat}{vs vz:List EV}(hv:et θ vs vz)(h:m.write b off vs=some m1):∃iQ,m'.write c off vz=some iQ/\MemS θ m1 iQ/\m1.next=m.next/\iQ.next=m'.next/\∀d,d≠c->iQ.get d=m'.get d:=by
 have hB:=hm.dW b c hb;unfold Mem.write at h⊢;cases hg:m.get b with
 |dead=>simp[hg]at h
 |map es=>simp[hg]at h
 |cells cs e t ro=>
  rw[hg]at hB;obtain⟨oM,uE,hs⟩:=hB;simp only[hg,uE]at h⊢;cases ro<;>simp only[cond_true,cond_false,reduceCtorEq]at h ⊢
  obtain⟨r,hr,rfl⟩:=mH.1 h;obtain⟨r',Wp,hq⟩:=hs.kW hv hr;exact⟨_,by rw[Wp];rfl,hm.set k hb ⟨r',rfl,hq⟩,rfl,rfl,fun d hd=>af hd⟩
theorem QU(hm:MemS θ m m')(k:sw θ n n'){size:Nat}{a a' x x':EV}(ha:SV θ a a')(hx:SV θ x x')(h:m.store size a x=some m1):∃iQ,m'.store size a' x'=some iQ/\MemS θ m1 iQ/\m1.next=m.next/\iQ.next=m'.next/\∀d,(∀b,θ.jU b≠some d)->iQ.get d=m'.get d:=by
 unfold Mem.store at h;cases hc:x.cells with
 |none=>rw[hc]at h;cases a<;>simp at h
 |some vs=>
  obtain⟨vz,hc',hs⟩:=hx.cells hc;rw[hc]at h;cases ha<;>simp only[reduceCtorEq]at h
  case ptr b c off hb=>
   cases hl:vs.length.beq size<;>simp only[hl,cond_true,cond_false,reduceCtorEq]at h
   obtain⟨iQ,h1,h2,h3,h4,h5⟩:=Ak hm k hb hs h;refine⟨iQ,?_,h2,h3,h4,fun d hd=>h5 d fun e=>hd b (e▸hb)⟩
   simp only[Mem.store,hc',<- hs.length,hl,cond_true];exact h1
theorem X8{op:BinOp}{x y:EV}(h:eV op x y=some v):Flat x=true/\Flat y=true/\Flat v=true:=by
 cases x<;>cases y<;>simp only[eV,reduceCtorEq]at h
 case int.int k a l b=>
  refine⟨rfl,rfl,?_⟩
  have sh:∀op,uJ op k a b=some v->Flat v=true:=by
   intro op h;unfold uJ at h
   split at h
   ·cases h
   ·cases op<;>simp at h<;>subst h<;>rfl
  have it:∀op,(bif (cx k).beq (cx l)then pU op k a b else none)=some v->Flat v=true:=by
   intro op h;cases hk:(cx k).beq (cx l)<;>simp only[hk,cond_true,cond_false,reduceCtorEq]at h
   cases op<;>simp only[pU,sP,Option.map_some,bQ,reduceCtorEq]at h<;>first|(subst h;rfl)|(split at h<;>simp at h;subst h;rfl)
  cases op<;>first|exact sh _ h|exact it _ h
 case str.str a b=>
  refine⟨rfl,rfl,?_⟩
  cases op<;>simp only[reduceCtorEq,bQ]at h<;>first|(subst h;rfl)|skip
  cases hb:(a.length+b.length).ble 4294967296<;>simp only[hb,cond_true,cond_false,reduceCtorEq,bQ]at h
  subst h;rfl
theorem YU{op:UnOp}{x:EV}(h:D6 op x=some v):Flat x=true/\Flat v=true:=by
 cases op<;>cases x<;>simp only[D6,reduceCtorEq,bQ,sP,Option.map_some]at h<;>subst h<;>exact⟨rfl,rfl⟩
theorem Of{t:Nat}{x y x' y':EV}(hx:SV θ x x')(hy:SV θ y y'){b:Bool}(h:ew t x y=some b):ew t x' y'=some b:=by
 cases hx<;>cases hy<;>first|exact h|(simp only[ew,reduceCtorEq]at h⊢ <;>done)|(simp only[ew]at h⊢;exact h)
theorem Oe{fs:List (Option Nat×Nat×ua)}{x y:EV}{b:Bool}(h:ft (.agg fs) x y=some b):∃a c,x=.agg a/\y=.agg c/\rq fs a c=some b:=by
 rw[ft.eq_def]at h;cases x<;>cases y<;>first|exact⟨_,_,rfl,rfl,h⟩|cases h
theorem Qn{a:List EV}{x':EV}(h:SV θ (.agg a) x'):∃a',x'=.agg a'/\et θ a a':=by cases h with|agg h=>exact⟨_,rfl,h⟩
mutual
theorem XF:∀(t:ua) {x y x' y':EV},SV θ x x'->SV θ y y'->∀{b:Bool},ft t x y=some b->ft t x' y'=some b
 | .bG t,_,_,_,_,hx,hy,b,h=>by simp only[ft]at h⊢;exact Of hx hy h
 | .agg fs,_,_,_,_,hx,hy,b,h=>by
  obtain⟨a,c,rfl,rfl,h⟩:=Oe h;obtain⟨a',rfl,ha⟩:=Qn hx;obtain⟨c',rfl,hc⟩:=Qn hy;simp only[ft];exact P1 fs ha hc h
theorem P1:∀(fs:List (Option Nat×Nat×ua)) {x y x' y':List EV},et θ x x'->et θ y y'->∀{b:Bool},rq fs x y=some b->rq fs x' y'=some b
 |[],_,_,_,_,_,_,_,h=>by simp only[rq]at h⊢;exact h
 |(g,off,t)::r,x,y,x',y',hx,hy,b,h=>by
  simp only[rq]at h⊢;cases hp:partOf g x off with
  |none=>simp[hp]at h
  |some p=>
   cases hq:partOf g y off with
   |none=>simp[hp,hq]at h
   |some q=>
    obtain⟨p',hp',sp⟩:=hx.part hp;obtain⟨q',Gi,sq⟩:=hy.part hq;simp only[hp,hq,hp',Gi]at h⊢;cases he:ft t p q with
    |none=>simp[he]at h
    |some c=>
     rw[XF t sp sq he];cases c
     ·simpa[he]using h
     ·simp only[he]at h⊢;exact P1 r hx hy h
end
theorem Em:∀{xs:List EV} {s:List UInt8},bytesOf xs=some s->fL xs=true
 |[],_,_=>rfl
 |v::xs,s,h=>by
  unfold bytesOf at h
  split at h
  ·rename_i hh;cases hh
  ·rename_i hh;cases hh
   obtain⟨r,hr,_⟩:=mH.1 h;simp only[fL,Flat,Em hr,Bool.and_self]
  ·cases h
theorem VJ:∀{l:List EV},sl l=some v->fL l=true/\Flat v=true:=by
 have go:∀(k:IntKind) (l:List EV) (x:Int),ng k x l=some v->fL l=true/\Flat v=true:=by
  intro k l
  induction l with
  |nil=>intro x h;simp only[ng,bQ]at h;subst h;exact⟨rfl,rfl⟩
  |cons a l ih=>
   intro x h;cases a<;>simp only[ng,reduceCtorEq]at h
   rename_i k' y
   cases hk:(cx k).beq (cx k')<;>simp only[hk,cond_true,cond_false,reduceCtorEq]at h
   obtain⟨h1,h2⟩:=ih _ h;exact⟨by simp only[fL,Flat,h1,Bool.and_self],h2⟩
 intro l h;cases l with
 |nil=>simp[sl]at h
 |cons a l=>
  cases a<;>simp only[sl,reduceCtorEq]at h
  obtain⟨h1,h2⟩:=go _ _ _ h;exact⟨by simp only[fL,Flat,h1,Bool.and_self],h2⟩
theorem VH:∀{l:List EV},BD l=some v->fL l=true/\Flat v=true:=by
 have go:∀(k:IntKind) (l:List EV) (x:Int),qB k x l=some v->fL l=true/\Flat v=true:=by
  intro k l
  induction l with
  |nil=>intro x h;simp only[qB,bQ]at h;subst h;exact⟨rfl,rfl⟩
  |cons a l ih=>
   intro x h;cases a<;>simp only[qB,reduceCtorEq]at h
   rename_i k' y
   cases hk:(cx k).beq (cx k')<;>simp only[hk,cond_true,cond_false,reduceCtorEq]at h
   obtain⟨h1,h2⟩:=ih _ h;exact⟨by simp only[fL,Flat,h1,Bool.and_self],h2⟩
 intro l h;cases l with
 |nil=>simp[BD]at h
 |cons a l=>
  cases a<;>simp only[BD,reduceCtorEq]at h
  obtain⟨h1,h2⟩:=go _ _ _ h;exact⟨by simp only[fL,Flat,h1,Bool.and_self],h2⟩
theorem yu.list(hρ:yu θ ρ ρ'):∀{l:List bm},l.all Bq=true->et θ (l.map ρ) (l.map ρ')
 |[],_=>.nil
 |x::l,h=>by simp only[List.all_cons,rC]at h;exact .cons (hρ x h.1) (yu.list hρ h.2)
theorem qG{k:EV}(h:ni k≠99):Flat k=true:=by cases k<;>first|rfl|exact absurd rfl h
theorem pQ{kt:Nat}{k:EV}(h:oB kt k=true):ni k≠99:=by
 cases k<;>simp only[oB,rF]at h<;>simp[ni]
 rename_i kk n;cases kk<;>simp[cx]
theorem wJ{k:EV}(hk:ni k≠99):∀{es sX:List (EV×EV)},qe θ es sX->pw k es=true->sX.map (·.1)=es.map (·.1)/\pw k sX=true
 |_,_,.nil,_=>⟨rfl,rfl⟩
 |_,_,.cons (k:=a) ha hv hs,h=>by
  simp only[pw]at h;cases hb:(ni a).beq (ni k)<;>simp only[hb,cond_true,cond_false,rF]at h
  have hf:Flat a=true:=qG (by rw[bf hb];exact hk);have:=ha.flat hf;subst this;obtain⟨h1,h2⟩:=wJ hk hs h;exact⟨by simp[h1],by simp only[pw,hb,cond_true,h2]⟩
theorem Kz{k:EV}:∀{es sX:List (EV×EV)},qe θ es sX->sX.map (·.1)=es.map (·.1)->(∀v,find k es=some v->∃v',find k sX=some v'/\SV θ v v')/\(find k es=none->find k sX=none)
 |_,_,.nil,_=>⟨fun v h=>by simp[find]at h,fun _=>rfl⟩
 |_,_,.cons (k':=a) (v:=w) (v':=w') ha hv hs,h=>by
  simp only[List.map_cons,List.cons.injEq]at h;obtain⟨rfl,h⟩:=h;obtain⟨h1,h2⟩:=Kz (k:=k) hs h;simp only[find];cases EV.same k a<;>simp only[cond_true,cond_false]
  ·exact⟨h1,h2⟩
  ·exact⟨fun v hh=>by cases hh;exact⟨w',rfl,hv⟩,fun hh=>by cases hh⟩
theorem CP{k k' x x':EV}(hk:SV θ k k')(hx:SV θ x x')(he:k'=k):∀{es sX:List (EV×EV)},qe θ es sX->sX.map (·.1)=es.map (·.1)->qe θ (update k x es) (update k' x' sX)
 |_,_,.nil,_=>.cons hk hx .nil
 |_,_,.cons (k':=a) ha hv hs,h=>by
  simp only[List.map_cons,List.cons.injEq]at h;obtain⟨rfl,h⟩:=h;have ih:=CP hk hx he hs h;subst he;simp only[update];cases EV.same k' a<;>simp only[cond_true,cond_false]
  ·exact .cons ha hv ih
  ·exact .cons hk hx hs
theorem Gy{k:EV}:∀{es sX:List (EV×EV)},qe θ es sX->sX.map (·.1)=es.map (·.1)->qe θ (erase k es) (erase k sX)
 |_,_,.nil,_=>.nil
 |_,_,.cons (k':=a) ha hv hs,h=>by
  simp only[List.map_cons,List.cons.injEq]at h;obtain⟨rfl,h⟩:=h;have ih:=Gy (k:=k) hs h;simp only[erase];cases EV.same k a<;>simp only[cond_true,cond_false]
  ·exact .cons ha hv ih
  ·exact hs
theorem qe.len:∀{es sX:List (EV×EV)},qe θ es sX->es.length=sX.length
 |_,_,.nil=>rfl
 |_,_,.cons _ _ h=>by simp[qe.len h]
end
end
section
section
variable {θ:de} {m m' m1:Mem} {v:EV} {n n':Nat} {ρ ρ':bm->EV}
theorem kw{x:Option EV}(h:jb m x=some (.val v m1)):x=some v/\m1=m:=by
 unfold jb at h;obtain⟨y,hy,he⟩:=mH.1 h;cases he;exact⟨hy,rfl⟩
theorem ZF{x:Option Mem}(h:ofM x=some (.val v m1)):x=some m1/\v=.undef:=by
 unfold ofM at h;obtain⟨y,hy,he⟩:=mH.1 h;cases he;exact⟨hy,rfl⟩
theorem dI{a:EV}{q:Mem}(h:some (R1.val a q)=some (R1.val v m1)):a=v/\q=m1:=by cases h;exact⟨rfl,rfl⟩
theorem pY{lo:Option bm}(h:(Di lo).all Bq=true)(hρ:yu θ ρ ρ'):∀x,lo=some x->SV θ (ρ x) (ρ' x):=by
 intro x e;subst e;simp only[Di,List.all_cons,List.all_nil,Bool.and_true]at h;exact hρ x h
theorem wu{θ':de}{esz b c off len:Nat}{cap:Option Nat}{lo hi max:Option bm}(hb:θ.jU b=some c)(im:∀x,lo=some x->SV θ (ρ x) (ρ' x))(xf:∀x,hi=some x->SV θ (ρ x) (ρ' x))(Z8:∀x,max=some x->SV θ (ρ x) (ρ' x))
  (h:cW esz b off len cap (lo.map ρ) (hi.map ρ) (max.map ρ)=some v):∃v',cW esz c off len cap (lo.map ρ') (hi.map ρ') (max.map ρ')=some v'/\SV θ v v':=by
 cases cap with
 |some cp=>
  simp only[cW]at h⊢;cases h1:aS (max.map ρ) cp cp with
  |none=>simp[h1]at h
  |some t=>
   rw[gw Z8 h1];simp only[h1]at h⊢;cases h2:aS (hi.map ρ) len t with
   |none=>simp[h2]at h
   |some q=>
    rw[gw xf h2];simp only[h2]at h⊢;cases h3:aS (lo.map ρ) 0 q with
    |none=>simp[h3]at h
    |some l=>
     rw[gw im h3];simp only[h3,bQ]at h⊢;subst h;exact⟨_,rfl,.slice hb⟩
 |none=>
  cases max with
  |some mx=>
   simp only[cW,Option.map_some]at h⊢;cases h1:aS (some (ρ mx)) len len with
   |none=>simp[h1]at h
   |some t=>
    have Ko:aS (some (ρ' mx)) len len=some t:=gw (lo:=some mx) Z8 h1;simp only[h1,Ko]at h⊢;cases h2:aS (hi.map ρ) len t with
    |none=>simp[h2]at h
    |some q=>
     rw[gw xf h2];simp only[h2]at h⊢;cases h3:aS (lo.map ρ) 0 q with
     |none=>simp[h3]at h
     |some l=>
      rw[gw im h3];simp only[h3,bQ]at h⊢;subst h;exact⟨_,rfl,.slice hb⟩
  |none=>
   simp only[cW,Option.map_none]at h⊢;cases h2:aS (hi.map ρ) len len with
   |none=>simp[h2]at h
   |some q=>
    rw[gw xf h2];simp only[h2]at h⊢;cases h3:aS (lo.map ρ) 0 q with
    |none=>simp[h3]at h
    |some l=>
     rw[gw im h3];simp only[h3,bQ]at h⊢;subst h;exact⟨_,rfl,.slice hb⟩
theorem Ky{esz:Nat}:∀(L:List (List EV)) (l h:Nat),l<=h->h<=L.length->(∀el∈L,el.length=esz)->((L.take h).drop l).flatten=(L.flatten.drop (l*esz)).take ((h- l)*esz):=by
 have tk:∀(L:List (List EV)) (h:Nat),(∀el∈L,el.length=esz)->(L.take h).flatten=L.flatten.take (h*esz):=by
  intro L
  induction L with
  |nil=>intro h _;simp
  |cons e L ih=>
   intro h hl;have he:=hl e (by simp);cases h with
   |zero=>simp
   |succ h=>rw[List.take_succ_cons,List.flatten_cons,ih h (fun el q=>hl el (by simp[q])),List.flatten_cons,Nat.succ_mul,Nat.add_comm,List.take_append,he,uP (l:=e) (by rw[he];omega)];simp
 have dp:∀(L:List (List EV)) (h:Nat),(∀el∈L,el.length=esz)->(L.drop h).flatten=L.flatten.drop (h*esz):=by
  intro L
  induction L with
  |nil=>intro h _;simp
  |cons e L ih=>
   intro h hl;have he:=hl e (by simp);cases h with
   |zero=>simp
   |succ h=>rw[List.drop_succ_cons,ih h (fun el q=>hl el (by simp[q])),List.flatten_cons,Nat.succ_mul,Nat.add_comm,<- List.drop_drop,show (e++L.flatten).drop esz=L.flatten by rw[<- he];simp]
 intro L l h hlh hh hl;rw[dp _ _ (fun el q=>hl el (List.mem_of_mem_take q)),tk _ _ hl,List.drop_take,<- Nat.sub_mul]
theorem aaW{esz t b off:Nat}{els:List (List EV)}{cap:Option Nat}(hx:SV θ (.fz t esz els) (.slice b off els.length cap))(hm:MemS θ m m'){lo hi:Option bm}(im:∀x,lo=some x->SV θ (ρ x) (ρ' x))(xf:∀x,hi=some x->SV θ (ρ x) (ρ' x)){h l:Nat}
  (h1:aS (hi.map ρ) els.length els.length=some h) (h2:aS (lo.map ρ) 0 h=some l) (hh:h<=els.length) (hl:l<=h) :
  ∃v',(match cap with
   |some c=>jb m' (cW esz b off els.length (some c) (lo.map ρ') (hi.map ρ') none)
   |none=>match m'.get b with
    | .cells _ e _ _=>bif e.beq esz then jb m' (cW esz b off els.length none (lo.map ρ') (hi.map ρ') none)else none
    |_=>none)=some (.val v' m')/\SV θ (.fz 0 esz ((els.take h).drop l)) v':=by
 have Ko:=gw xf h1;have h2':=gw im h2;have hlen:((els.take h).drop l).length=h- l:=by rw[OZ,List.length_take];omega
 generalize tJ:EV.slice b off els.length cap=y at hx;cases hx with
 |AX ht=>
  cases tJ;simp only[List.length_nil]at h1 Ko hh;obtain rfl:h=0:=by omega
  obtain rfl:l=0:=by omega
  simp only[List.length_nil,cW,ig,Ko,h2',jb,Option.map_some];refine⟨_,rfl,?_⟩
  simp only[Nat.beq_refl,cond_true,Nat.sub_self,List.take_nil,List.drop_nil];exact .AX (.inl rfl)
 |fz hr ht hc=>
  cases tJ;cases hr with
  | @mk _ _ _ _ _ k cs ro hs hle hn sR=>
  have Cy:et θ.low ((els.take h).drop l).flatten ((cs.drop (off+l*esz)).take (((els.take h).drop l).length*esz)):=by
   rw[hlen,Ky els l h hl hh hle];have q:=(sR.drop (l*esz)).take ((h- l)*esz);have:l*esz+(h- l)*esz<=els.length*esz:=by rw[<- Nat.add_mul];exact Nat.mul_le_mul_right _ (by omega)
   rw[List.drop_take,List.drop_drop,List.take_take,Nat.min_eq_left (by omega)]at q;exact q
  have hn':off+l*esz+((els.take h).drop l).length*esz<=cs.length:=by
   have:l*esz+(h- l)*esz<=els.length*esz:=by rw[<- Nat.add_mul];exact Nat.mul_le_mul_right _ (by omega)
   rw[hlen];omega
  have hr:SR θ esz ((els.take h).drop l) b (off+l*esz):=.mk hs (fun el q=>hle el (List.mem_of_mem_take (List.mem_of_mem_drop q))) hn' Cy;cases cap with
  |some c=>
   have sJ:=hc c rfl;have g1:aS (hi.map ρ') els.length c=some h:=by
    cases hi with
    |none=>simp only[Option.map_none,aS,bQ]at Ko⊢;exact Ko
    |some x=>
     simp only[Option.map_some]at Ko⊢;generalize ρ' x=w at Ko;unfold aS at Ko ⊢
     split at Ko
     ·rename_i e;cases e
     ·rename_i e;cases e
      rename_i i
      cases hb:i.ble els.length<;>simp only[hb,cond_true,cond_false,reduceCtorEq,bQ]at Ko
      have:=rI hb;subst Ko;simp only[sx (show i<=c by omega),cond_true]
     ·cases Ko
   simp only[cW,ig,g1,h2',jb,Option.map_some];refine⟨_,rfl,?_⟩
   by_cases ahO:c=l
   ·subst ahO;obtain rfl:h=c:=by omega
    simp only[Nat.beq_refl,cond_true,Nat.sub_self];have:(els.take h).drop h=[]:=List.eq_nil_of_length_eq_zero (by rw[hlen];omega);rw[this];exact .AX (.inl rfl)
   ·simp only[jC ahO,cond_false];have:=SV.fz (t:=0) (cap:=some (c- l)) hr (.inl rfl) (fun q e=>by cases e;rw[hlen];omega);rw[hlen]at this;exact this
  |none=>
   simp only[hm.jq _ _ hs,Nat.beq_refl,cond_true,cW,ig,Ko,h2',jb,Option.map_some];refine⟨_,rfl,?_⟩
   have:=SV.fz (t:=0) (cap:=none) hr (.inl rfl) (fun q e=>by cases e);rw[hlen]at this;exact this
theorem Eo{x:Option EV}{d vP i:Nat}(h:aS x d vP=some i)(hd:d<=vP):i<=vP:=by
 unfold aS at h
 split at h
 ·cases h;exact hd
 ·rename_i kk i'
  cases hb:i'.ble vP<;>simp only[hb,cond_true,cond_false,reduceCtorEq,bQ]at h
  rw[<- h];exact rI hb
 ·cases h
theorem OM(hm:MemS θ m m')(k:sw θ n n')(f:Ae θ m.next m'.next){elem esz:Nat}{s s' x x':EV}(hs:SV θ s s')(hx:SV θ x x')(h:cM m elem esz s x=some (v,m1)):Iu θ m m' v m1 (w8 (cM m' elem esz s' x')):=by
 unfold cM at h⊢;cases lh:m.source esz x with
 |none=>simp[lh]at h
 |some q=>
  obtain⟨N,xs⟩:=q;obtain⟨EX,J7,sR⟩:=xF hm hx lh;simp only[lh,J7]at h⊢;cases h0:N.beq 0<;>simp only[h0,cond_true,cond_false]at h ⊢
  ·cases hs<;>simp only[reduceCtorEq]at h
   case aa=>
    cases hr:N.ble room<;>simp only[hr,cond_true,cond_false,reduceCtorEq,bQ,sY]at h
    obtain⟨rfl,rfl⟩:=h;exact Iu.new hm f ⟨EX,rfl,sR.ext f.ext⟩ (.slice qA)
   case slice b c off len cap hb=>
    cases hr:(len+N).ble room<;>simp only[hr,cond_true,cond_false,reduceCtorEq]at h ⊢
    cases lN:m.row b off (len*esz)with
    |none=>simp[lN]at h
    |some old=>
     obtain⟨old',ag6,hold⟩:=G9 hm hb lN;simp only[lN,ag6]at h⊢;cases cap with
     |some cp=>
      simp only at h⊢;cases hc:(len+N).ble cp<;>simp only[hc,cond_true,cond_false]at h ⊢
      ·simp only[bQ,sY]at h;obtain⟨rfl,rfl⟩:=h;exact Iu.new hm f ⟨_,rfl,(hold.append sR).ext f.ext⟩ (.slice qA)
      ·obtain⟨m2,hw,he⟩:=mH.1 h;simp only[sY]at he;obtain⟨rfl,rfl⟩:=he;obtain⟨ZR,Tv,h2,h3,h4,h5⟩:=Ak hm k hb sR hw;refine⟨_,ZR,by simp only[Tv,Option.map_some,w8],.inl ⟨.slice hb,h2,h3,h4⟩,fun d _ hd=>h5 d fun e=>hd b (e▸hb)⟩
     |none=>
      simp only at h⊢;have hB:=hm.dW b c hb;cases hg:m.get b with
      |dead=>simp[hg]at h
      |map es=>simp[hg]at h
      |cells cs e t ro=>
       rw[hg]at hB;obtain⟨oM,uE,_⟩:=hB;cases ro with
       |true=>simp[hg]at h
       |false=>
       simp only[hg,uE]at h⊢;cases he:e.beq esz<;>simp only[he,cond_true,cond_false,reduceCtorEq,bQ,sY]at h ⊢
       obtain⟨rfl,rfl⟩:=h;have hmo:=hm.more f (B:=.cells (old++xs) esz elem false) (B':=.cells (old'++EX) esz elem false) ⟨_,rfl,(hold.append sR).ext f.ext⟩;have k2:=k.more f (k:=max n (m.next+1)) (k':=max n' (m'.next+1)) (by omega) (by omega) (by omega) (by omega);refine⟨_,_,rfl,.inr ⟨.slice qA,hmo.set k2 (f.ext.jU b c hb) (B:=.dead) (B':=.dead) trivial,rfl,rfl⟩,fun d hd ET=> ?_⟩
       have hdc:d≠c:=fun q=>ET b (q▸hb)
       rw[af hdc,cN,if_neg hd]
  ·cases hs<;>simp only[reduceCtorEq,bQ,sY]at h
   case aa=>obtain⟨rfl,rfl⟩:=h;exact Iu.here hm rfl .aa
   case slice hb=>obtain⟨rfl,rfl⟩:=h;exact Iu.here hm rfl (.slice hb)
   case fz c a b=>obtain⟨rfl,rfl⟩:=h;exact Iu.here hm rfl (.fz a b c)
   case AX ht=>obtain⟨rfl,rfl⟩:=h;exact Iu.here hm rfl (.AX ht)
theorem XR(hm:MemS θ m m')(k:sw θ n n'){esz:Nat}{s s' x x':EV}(hs:SV θ s s')(hx:SV θ x x')(h:x7 m esz s x=some (v,m1)):Iu θ m m' v m1 (w8 (x7 m' esz s' x')):=by
 unfold x7 at h⊢;cases hs<;>simp only[reduceCtorEq]at h
 case aa=>
  obtain⟨q,hq,he⟩:=mH.1 h;obtain⟨EX,J7,_⟩:=xF hm hx hq;simp only[sY]at he;obtain⟨rfl,rfl⟩:=he;simp only[J7,Option.map_some];exact Iu.here hm rfl (.int _ _)
 case slice b c off len cap hb=>
  cases lh:m.source esz x with
  |none=>simp[lh]at h
  |some q=>
   obtain⟨N,xs⟩:=q;obtain⟨EX,J7,sR⟩:=xF hm hx lh;simp only[lh,J7]at h⊢;obtain⟨m2,hw,he⟩:=mH.1 h;simp only[sY]at he;obtain⟨rfl,rfl⟩:=he;obtain⟨ZR,Tv,h2,h3,h4,h5⟩:=Ak hm k hb (sR.take _) hw;exact⟨_,ZR,by simp only[Tv,Option.map_some,w8],.inl ⟨.int _ _,h2,h3,h4⟩,fun d _ hd=>h5 d fun e=>hd b (e▸hb)⟩
theorem Hc(hρ:yu θ ρ ρ')(hm:MemS θ m m')(k:sw θ n n')(f:Ae θ m.next m'.next){op:oa}(ez:Vn op=true)(h:aL ρ op m=some (.val v m1)):Iu θ m m' v m1 (aL ρ' op m'):=by
 cases op<;>simp only[Vn,ku,Nb,List.all_cons,List.all_nil,List.all_append,Bool.and_true,Bool.true_and,rC]at ez<;>simp only[aL]at h ⊢
 case tA x=>obtain⟨rfl,rfl⟩:=dI h;exact .here hm rfl (hρ x ez)
 case pick c a b=>
  have hc:=hρ c ez.1;generalize ρ c=y at hc h;generalize ρ' c=y' at hc;cases hc<;>simp only[reduceCtorEq]at h ⊢
  rename_i t
  obtain⟨rfl,rfl⟩:=dI h;cases t
  ·exact .here hm rfl (hρ b ez.2.2)
  ·exact .here hm rfl (hρ a ez.2.1)
 case alloc e z=>
  obtain⟨rfl,rfl⟩:=dI h;exact .new hm f ⟨z,rfl,et.of_flat ez⟩ (.ptr qA)
 case box e x=>
  have hx:=hρ x ez;cases hc:(ρ x).cells with
  |none=>simp[hc]at h
  |some cs=>
   obtain⟨oM,hc',hs⟩:=hx.cells hc;simp only[hc,hc']at h⊢;obtain⟨rfl,rfl⟩:=dI h;rw[<- hs.length];exact .new hm f ⟨oM,rfl,hs.ext f.ext⟩ (.ptr qA)
 case build z ps=>
  obtain⟨h1,rfl⟩:=kw h;obtain⟨r,hr,rfl⟩:=mH.1 h1;have hp:et θ ((ps.map fun p=>(p.1,p.2.1,ρ p.2.2)).map (·.2.2)) ((ps.map fun p=>(p.1,p.2.1,ρ' p.2.2)).map (·.2.2)):=by
   have:=yu.list hρ ez.1;rw[List.map_map,List.map_map]at this;rw[List.map_map,List.map_map];exact this
  obtain⟨r',Wp,hs⟩:=DY _ (ps.map fun p=>(p.1,p.2.1,ρ' p.2.2)) _ _ _ (by simp[Function.comp_def]) hp (et.of_flat ez.2) hr;simp only[Wp,Option.map_some,jb];exact .here hm rfl (.agg hs)
 case aG e esz len z ps=>
  cases hr:eQ (eA len z) (ps.map fun p=>(p.1*esz,esz,ρ p.2))with
  |none=>simp[hr]at h
  |some r=>
   have hp:et θ ((ps.map fun p=>(p.1*esz,esz,ρ p.2)).map (·.2.2)) ((ps.map fun p=>(p.1*esz,esz,ρ' p.2)).map (·.2.2)):=by
    have:=yu.list hρ ez.1;rw[List.map_map,List.map_map]at this;rw[List.map_map,List.map_map];exact this
   obtain⟨r',Wp,hs⟩:=DY _ (ps.map fun p=>(p.1*esz,esz,ρ' p.2)) _ _ _ (by simp[Function.comp_def]) hp (et.of_flat (zE ez.2 len)) hr;simp only[hr,Wp]at h⊢;obtain⟨rfl,rfl⟩:=dI h;exact .new hm f ⟨r',rfl,hs.ext f.ext⟩ (.slice qA)
 case load g a=>
  obtain⟨h1,rfl⟩:=kw h;obtain⟨v',hl,hv⟩:=JT hm (hρ a ez) h1;simp only[hl,jb,Option.map_some];exact .here hm rfl hv
 case store size a x=>
  obtain⟨h1,rfl⟩:=ZF h;obtain⟨iQ,hs,h2,h3,h4,h5⟩:=QU hm k (hρ a ez.1) (hρ x ez.2) h1;exact⟨_,iQ,by simp only[hs,ofM,Option.map_some],.inl ⟨.undef,h2,h3,h4⟩,fun c _ hc=>h5 c hc⟩
 case lU x=>
  have hx:=hρ x ez;generalize ρ x=y at hx h;generalize ρ' x=y' at hx;cases hx<;>simp only[reduceCtorEq]at h⊢ <;>obtain⟨rfl,rfl⟩:=dI h
  case ptr hb=>exact .here hm rfl (.ptr hb)
  case func h1 h2=>exact .here hm rfl (.func h1 h2)
  case iface h1=>exact .here hm rfl (.iface h1)
  case gu h2 h3 h1=>exact .here hm rfl (.gu h1 h2 h3)
 case bin op x y=>
  obtain⟨h1,rfl⟩:=kw h;obtain⟨f1,f2,f3⟩:=X8 h1;rw[(hρ x ez.1).flat f1,(hρ y ez.2).flat f2,h1];exact .here hm rfl (SV.of_flat f3)
 case eq neg t x y=>
  obtain⟨h1,rfl⟩:=kw h;obtain⟨b,hb,rfl⟩:=mH.1 h1;rw[XF t (hρ x ez.1) (hρ y ez.2) hb];exact .here hm rfl (.bool _)
 case un op x=>
  obtain⟨h1,rfl⟩:=kw h;obtain⟨f1,f2⟩:=YU h1;rw[(hρ x ez).flat f1,h1];exact .here hm rfl (SV.of_flat f2)
 case conv c x=>
  have hx:=hρ x ez;unfold w8 at h;obtain⟨q,hq,he⟩:=mH.1 h;obtain⟨q1,q2⟩:=q;cases he;generalize ρ x=y at hx hq;generalize ρ' x=y' at hx;cases c with
  |int kk=>
   cases hx<;>simp only[l8,reduceCtorEq,bQ,sY]at hq ⊢
   obtain⟨rfl,rfl⟩:=hq;exact .here hm rfl (.int _ _)
  |same=>
   cases hx<;>simp only[l8,reduceCtorEq,bQ,sY]at hq ⊢
   obtain⟨rfl,rfl⟩:=hq;exact .here hm rfl (.str _)
  |bytes e=>
   cases hx<;>simp only[l8,reduceCtorEq,bQ,sY]at hq ⊢
   obtain⟨rfl,rfl⟩:=hq;exact .new hm f ⟨_,rfl,et.map _ _ fun a _=>.int _ _⟩ (.slice qA)
  |text=>
   cases hx<;>simp only[l8,reduceCtorEq,bQ,sY]at hq ⊢
   case aa=>obtain⟨rfl,rfl⟩:=hq;exact .here hm rfl (.str _)
   case slice b c off len cap hb=>
    cases hr:m.row b off len with
    |none=>simp[hr]at hq
    |some cs=>
     obtain⟨oM,Wp,hs⟩:=G9 hm hb hr;simp only[hr,Wp]at hq⊢;obtain⟨s,ub,he⟩:=mH.1 hq;cases he;rw[hs.flat (Em ub),ub];exact .here hm rfl (.str _)
 case iface t x=>obtain⟨rfl,rfl⟩:=dI h;exact .here hm rfl (.iface (hρ x ez))
 case AJ g a c=>
  obtain⟨rfl,rfl⟩:=dI h;exact .here hm rfl (.func (yu.list hρ ez.1) (yu.list hρ ez.2))
 case uR=>
  obtain⟨rfl,rfl⟩:=dI h;exact .new hm f ⟨[],rfl,.nil⟩ (.map qA)
 case jI e esz z len cap=>
  have hl:=hρ len ez.1.1;have hc:=hρ cap ez.1.2;generalize ρ len=a at hl h;generalize ρ' len=a' at hl;generalize ρ cap=b at hc h;generalize ρ' cap=b' at hc
  split at h
  ·rename_i l c
   have:=We hl;have:=We hc;subst_vars;simp only;cases hb:(bif l.ble c then c.ble room else false)<;>simp only[hb,cond_true,cond_false,reduceCtorEq]at h ⊢
   obtain⟨rfl,rfl⟩:=dI h;exact .new hm f ⟨_,rfl,et.of_flat (zE ez.2 c)⟩ (.slice qA)
  ·cases h
 case ob x lo hi=>
  have hx:=hρ x ez.1;have im:=pY ez.2.1 hρ;have xf:=pY ez.2.2 hρ;generalize ρ x=y at hx h;generalize ρ' x=y' at hx;cases hx<;>simp only[reduceCtorEq]at h ⊢
  rename_i s
  cases h1:aS (hi.map ρ) s.length s.length with
  |none=>simp[h1]at h
  |some q=>
   rw[gw xf h1];simp only[h1]at h⊢;cases h2:aS (lo.map ρ) 0 q with
   |none=>simp[h2]at h
   |some l=>
    rw[gw im h2];simp only[h2]at h⊢;obtain⟨rfl,rfl⟩:=dI h;exact .here hm rfl (.str _)
 case pE esz x lo hi mx=>
  have hx:=hρ x ez.1;have im:=pY ez.2.1 hρ;have xf:=pY ez.2.2.1 hρ;have yx:=pY ez.2.2.2 hρ;generalize hy:ρ x=y at hx h;generalize hy':ρ' x=y' at hx;have fzc:∀(t e:Nat) (els:List (List EV)) (b off:Nat) (cap:Option Nat),SV θ (.fz t e els) (.slice b off els.length cap)->(match mx with
   |none=>bif e.beq esz then match aS (hi.map ρ) els.length els.length with
    |some h=>match aS (lo.map ρ) 0 h with
     |some l=>some (R1.val (.fz 0 e ((els.take h).drop l)) m)
     |none=>none
    |none=>none
    else none
   |some _=>none)=some (.val v m1)->Iu θ m m' v m1 (match cap with
   |some c=>jb m' (cW esz b off els.length (some c) (lo.map ρ') (hi.map ρ') (mx.map ρ'))
   |none=>match m'.get b with
    | .cells _ e _ _=>bif e.beq esz then jb m' (cW esz b off els.length none (lo.map ρ') (hi.map ρ') (mx.map ρ'))else none
    |_=>none):=by
   intro t e els b off cap hsv hh;cases mx with
   |some x=>cases hh
   |none=>
    simp only at hh;cases he:e.beq esz<;>simp only[he,cond_true,cond_false,reduceCtorEq]at hh
    obtain rfl:=bf he;cases h1:aS (hi.map ρ) els.length els.length with
    |none=>simp[h1]at hh
    |some q=>
     simp only[h1]at hh;cases h2:aS (lo.map ρ) 0 q with
     |none=>simp[h2]at hh
     |some l=>
      simp only[h2]at hh;obtain⟨rfl,rfl⟩:=dI hh;obtain⟨v',e1,e2⟩:=aaW hsv hm im xf h1 h2 (Eo h1 (cR _)) (Eo h2 (nZ _));rw[show (Option.map ρ' none:Option EV)=none from rfl,e1];exact .here hm rfl e2
  cases hx<;>(try simp only[reduceCtorEq]at h⊢)
  case aa=>
   cases h1:aS (mx.map ρ) 0 0 with
   |none=>simp[h1]at h
   |some a=>
    cases h2:aS (hi.map ρ) 0 0 with
    |none=>simp[h1,h2]at h
    |some b=>
     cases h3:aS (lo.map ρ) 0 0 with
     |none=>simp[h1,h2,h3]at h
     |some c=>
      rw[gw yx h1,gw xf h2,gw im h3];simp only[h1,h2,h3]at h⊢;obtain⟨rfl,rfl⟩:=dI h;exact .here hm rfl .aa
  case slice b c off len cap hb=>
   cases cap with
   |some cp=>
    simp only at h⊢;obtain⟨h1,rfl⟩:=kw h;obtain⟨v',e1,e2⟩:=wu (θ':=θ) hb im xf yx h1;rw[e1];exact .here hm rfl e2
   |none=>
    simp only at h⊢;have hB:=hm.dW b c hb;cases hg:m.get b with
    |dead=>simp[hg]at h
    |map es=>simp[hg]at h
    |cells cs e t ro=>
     rw[hg]at hB;obtain⟨oM,uE,_⟩:=hB;simp only[hg,uE]at h⊢;cases he:e.beq esz<;>simp only[he,cond_true,cond_false,reduceCtorEq]at h ⊢
     obtain⟨h1,rfl⟩:=kw h;obtain⟨v',e1,e2⟩:=wu (θ':=θ) hb im xf yx h1;rw[e1];exact .here hm rfl e2
  case fz t e els b off cap h3 h1 h2=>
   have:=fzc t e els b off cap (.fz h1 h2 h3) h;cases cap<;>exact this
  case AX t e b off ht=>
   exact fzc t e [] b off (some 0) (.AX ht) h
 case xp N esz x lo hi mx=>
  have hx:=hρ x ez.1;have im:=pY ez.2.1 hρ;have xf:=pY ez.2.2.1 hρ;have yx:=pY ez.2.2.2 hρ;generalize ρ x=y at hx h;generalize ρ' x=y' at hx;cases hx<;>simp only[reduceCtorEq]at h ⊢
  rename_i hb
  obtain⟨h1,rfl⟩:=kw h;obtain⟨v',e1,e2⟩:=wu (θ':=θ) hb im xf yx h1;rw[e1];exact .here hm rfl e2
 case xA off x=>
  have hx:=hρ x ez;generalize ρ x=y at hx h;generalize ρ' x=y' at hx;cases hx<;>simp only[reduceCtorEq]at h⊢ <;>obtain⟨rfl,rfl⟩:=dI h
  case ptr hb=>exact .here hm rfl (.ptr hb)
  case gu h2 h3 h1=>exact .here hm rfl (.gu h1 h2 (by omega))
 case CC g off x=>
  have hx:=hρ x ez;generalize ρ x=y at hx h;generalize ρ' x=y' at hx;cases hx<;>simp only[reduceCtorEq]at h ⊢
  rename_i hs
  obtain⟨h1,rfl⟩:=kw h;obtain⟨v',e1,e2⟩:=hs.part h1;rw[e1];exact .here hm rfl e2
 case eZ esz x i=>
  have hx:=hρ x ez.1;have hi:=hρ i ez.2;generalize ρ x=y at hx h;generalize ρ' x=y' at hx;cases hx<;>simp only[reduceCtorEq]at h ⊢
  case slice b c off len cap hb=>
   cases hj:idx len (ρ i)with
   |none=>simp[hj]at h
   |some j=>
    rw[zg hi hj];simp only[hj]at h⊢;obtain⟨rfl,rfl⟩:=dI h;exact .here hm rfl (.ptr hb)
  case fz t e els b off cap hc hr ht=>
   cases he:e.beq esz<;>simp only[he,cond_true,cond_false,reduceCtorEq]at h
   obtain rfl:=bf he;cases hj:idx els.length (ρ i)with
   |none=>simp[hj]at h
   |some j=>
    rw[zg hi hj];simp only[hj]at h⊢;obtain⟨rfl,rfl⟩:=dI h;refine .here hm rfl (.gu hr ?_ rfl)
    unfold idx at hj
    split at hj
    ·rename_i j' _
     cases hb:(j'+1).ble els.length<;>simp only[hb,cond_true,cond_false,reduceCtorEq,bQ]at hj
     subst hj;exact rI hb
    ·cases hj
  case AX t e b off ht=>
   cases he:e.beq esz<;>simp only[he,cond_true,cond_false,reduceCtorEq]at h
   cases hj:idx 0 (ρ i)with
   |none=>simp[hj]at h
   |some j=>
    unfold idx at hj
    split at hj
    ·exact absurd (show (none:Option Nat)=some j from hj) (by simp)
    ·cases hj
 case oC N esz x i=>
  have hx:=hρ x ez.1;have hi:=hρ i ez.2;generalize ρ x=y at hx h;generalize ρ' x=y' at hx;cases hx<;>simp only[reduceCtorEq]at h ⊢
  rename_i hb
  cases hj:idx N (ρ i)with
  |none=>simp[hj]at h
  |some j=>
   rw[zg hi hj];simp only[hj]at h⊢;obtain⟨rfl,rfl⟩:=dI h;exact .here hm rfl (.ptr hb)
 case kB x i=>
  have hx:=hρ x ez.1;have hi:=hρ i ez.2;generalize ρ x=y at hx h;generalize ρ' x=y' at hx;cases hx<;>simp only[reduceCtorEq]at h ⊢
  rename_i s
  cases hj:idx s.length (ρ i)with
  |none=>simp[hj]at h
  |some j=>
   rw[zg hi hj];simp only[hj]at h⊢;cases hs:s[j]? with
   |none=>simp[hs]at h
   |some c=>
    simp only[hs]at h⊢;obtain⟨rfl,rfl⟩:=dI h;exact .here hm rfl (.int _ _)
 case vU N esz g x i=>
  have hx:=hρ x ez.1;have hi:=hρ i ez.2;generalize ρ x=y at hx h;generalize ρ' x=y' at hx;cases hx<;>simp only[reduceCtorEq]at h ⊢
  rename_i hs
  cases hj:idx N (ρ i)with
  |none=>simp[hj]at h
  |some j=>
   rw[zg hi hj];simp only[hj]at h⊢;obtain⟨h1,rfl⟩:=kw h;obtain⟨v',e1,e2⟩:=hs.part h1;rw[e1];exact .here hm rfl e2
 case lookup kt z ok mp key=>
  have hx:=hρ mp ez.1.1;have hk:=hρ key ez.1.2;have hz:SV θ z z:=SV.of_flat ez.2;have Gh:SV θ (bif ok then .tuple [z,.bool false]else z) (bif ok then .tuple [z,.bool false]else z):=by
   cases ok
   ·exact hz
   ·exact .tuple (.cons hz (.cons (.bool _) .nil))
  generalize ρ mp=y at hx h;generalize ρ' mp=y' at hx;cases hx<;>simp only[reduceCtorEq]at h ⊢
  case bN=>
   cases kL:oB kt (ρ key)<;>simp only[kL,cond_true,cond_false,reduceCtorEq]at h
   rw[hk.flat (qG (pQ kL)),kL];obtain⟨rfl,rfl⟩:=dI h;exact .here hm rfl Gh
  case map b c hb=>
   have hB:=hm.dW b c hb;cases hg:m.get b with
   |dead=>simp[hg]at h
   |cells cs e t ro=>simp[hg]at h
   |map es=>
    rw[hg]at hB;obtain⟨sX,uE,vp⟩:=hB;simp only[hg,uE]at h⊢;cases PI:jB kt (ρ key) es<;>simp only[PI,cond_true,cond_false,reduceCtorEq]at h
    unfold jB at PI;cases kL:oB kt (ρ key)<;>simp only[kL,cond_true,cond_false,rF]at PI
    obtain⟨g1,g2⟩:=wJ (pQ kL) vp PI;obtain⟨f1,f2⟩:=Kz (k:=ρ key) vp g1;rw[hk.flat (qG (pQ kL))];simp only[jB,kL,g2,cond_true];cases hf:find (ρ key) es with
    |none=>
     rw[f2 hf];simp only[hf]at h⊢;obtain⟨rfl,rfl⟩:=dI h;exact .here hm rfl Gh
    |some w=>
     obtain⟨w',e1,e2⟩:=f1 w hf;rw[e1];simp only[hf]at h⊢;obtain⟨rfl,rfl⟩:=dI h;refine .here hm rfl ?_
     cases ok
     ·exact e2
     ·exact .tuple (.cons e2 (.cons (.bool _) .nil))
 case pi kt mp key x=>
  have hx:=hρ mp ez.1;have hk:=hρ key ez.2.1;have hv:=hρ x ez.2.2;generalize ρ mp=y at hx h;generalize ρ' mp=y' at hx;cases hx<;>simp only[reduceCtorEq]at h ⊢
  case map b c hb=>
   have hB:=hm.dW b c hb;cases hg:m.get b with
   |dead=>simp[hg]at h
   |cells cs e t ro=>simp[hg]at h
   |map es=>
    rw[hg]at hB;obtain⟨sX,uE,vp⟩:=hB;simp only[hg,uE]at h⊢;cases PI:jB kt (ρ key) es<;>simp only[PI,cond_true,cond_false,reduceCtorEq]at h
    unfold jB at PI;cases kL:oB kt (ρ key)<;>simp only[kL,cond_true,cond_false,rF]at PI
    obtain⟨g1,g2⟩:=wJ (pQ kL) vp PI;have vo:=hk.flat (qG (pQ kL));have hu:=CP hk hv vo vp g1;rw[vo]at hu⊢;simp only[jB,kL,g2,cond_true];obtain⟨rfl,rfl⟩:=dI h;exact⟨_,_,rfl,.inl ⟨.undef,hm.set k hb ⟨_,rfl,hu⟩,rfl,rfl⟩,fun d _ hd=>af fun e=>hd b (e▸hb)⟩
 case delete kt mp key=>
  have hx:=hρ mp ez.1;have hk:=hρ key ez.2;generalize ρ mp=y at hx h;generalize ρ' mp=y' at hx;cases hx<;>simp only[reduceCtorEq]at h ⊢
  case bN=>
   cases kL:oB kt (ρ key)<;>simp only[kL,cond_true,cond_false,reduceCtorEq]at h
   rw[hk.flat (qG (pQ kL)),kL];obtain⟨rfl,rfl⟩:=dI h;exact .here hm rfl (.tuple .nil)
  case map b c hb=>
   have hB:=hm.dW b c hb;cases hg:m.get b with
   |dead=>simp[hg]at h
   |cells cs e t ro=>simp[hg]at h
   |map es=>
    rw[hg]at hB;obtain⟨sX,uE,vp⟩:=hB;simp only[hg,uE]at h⊢;cases PI:jB kt (ρ key) es<;>simp only[PI,cond_true,cond_false,reduceCtorEq]at h
    unfold jB at PI;cases kL:oB kt (ρ key)<;>simp only[kL,cond_true,cond_false,rF]at PI
    obtain⟨g1,g2⟩:=wJ (pQ kL) vp PI;have vo:=hk.flat (qG (pQ kL));rw[vo];simp only[jB,kL,g2,cond_true];obtain⟨rfl,rfl⟩:=dI h;exact⟨_,_,rfl,.inl ⟨.tuple .nil,hm.set k hb ⟨_,rfl,Gy vp g1⟩,rfl,rfl⟩,fun d _ hd=>af fun e=>hd b (e▸hb)⟩
 case sG mp=>
  have hx:=hρ mp ez;generalize ρ mp=y at hx h;generalize ρ' mp=y' at hx;cases hx<;>simp only[reduceCtorEq]at h ⊢
  case bN=>obtain⟨rfl,rfl⟩:=dI h;exact .here hm rfl (.int _ _)
  case map b c hb=>
   have hB:=hm.dW b c hb;cases hg:m.get b with
   |dead=>simp[hg]at h
   |cells cs e t ro=>simp[hg]at h
   |map es=>
    rw[hg]at hB;obtain⟨sX,uE,vp⟩:=hB;simp only[hg,uE,vp.len]at h⊢;obtain⟨rfl,rfl⟩:=dI h;exact .here hm rfl (.int _ _)
 case rN t x=>
  have hx:=hρ x ez;generalize ρ x=y at hx h;generalize ρ' x=y' at hx;cases hx<;>simp only[reduceCtorEq]at h ⊢
  rename_i u _ _ hs
  cases hb:t.beq u<;>simp only[hb,cond_true,cond_false,reduceCtorEq]at h ⊢
  obtain⟨rfl,rfl⟩:=dI h;exact .here hm rfl hs
 case extract x i=>
  have hx:=hρ x ez;generalize ρ x=y at hx h;generalize ρ' x=y' at hx;cases hx<;>simp only[reduceCtorEq]at h ⊢
  rename_i hs
  obtain⟨h1,rfl⟩:=kw h;obtain⟨v',e1,e2⟩:=hs.get h1;rw[e1];exact .here hm rfl e2
 case len x=>
  have hx:=hρ x ez;generalize ρ x=y at hx h;generalize ρ' x=y' at hx;cases hx<;>simp only[reduceCtorEq]at h⊢ <;>obtain⟨rfl,rfl⟩:=dI h<;>exact .here hm rfl (.int _ _)
 case gj x=>
  have hx:=hρ x ez;generalize ρ x=y at hx h;generalize ρ' x=y' at hx;cases hx<;>simp only[reduceCtorEq]at h ⊢
  obtain⟨rfl,rfl⟩:=dI h;exact .here hm rfl (.int _ _)
 case vS N=>obtain⟨rfl,rfl⟩:=dI h;exact .here hm rfl (.int _ _)
 case cap x=>
  have hx:=hρ x ez;generalize ρ x=y at hx h;generalize ρ' x=y' at hx;cases hx<;>(try simp only[reduceCtorEq]at h⊢)
  case aa=>obtain⟨rfl,rfl⟩:=dI h;exact .here hm rfl (.int _ _)
  case slice cap hb=>
   cases cap<;>simp only[reduceCtorEq]at h ⊢
   obtain⟨rfl,rfl⟩:=dI h;exact .here hm rfl (.int _ _)
 case max args=>
  obtain⟨h1,rfl⟩:=kw h;obtain⟨f1,f2⟩:=VJ h1;rw[(yu.list hρ ez).flat f1,h1];exact .here hm rfl (SV.of_flat f2)
 case min args=>
  obtain⟨h1,rfl⟩:=kw h;obtain⟨f1,f2⟩:=VH h1;rw[(yu.list hρ ez).flat f1,h1];exact .here hm rfl (SV.of_flat f2)
 case append e esz by_ s x=>
  unfold w8 at h;obtain⟨q,hq,he⟩:=mH.1 h;obtain⟨q1,q2⟩:=q;cases he;exact OM hm k f (hρ s ez.1) (hρ x ez.2) hq
 case copy esz d s=>
  unfold w8 at h;obtain⟨q,hq,he⟩:=mH.1 h;obtain⟨q1,q2⟩:=q;cases he;exact XR hm k (hρ d ez.1) (hρ s ez.2) hq
end
end
section
def Ph:Aj->Bool
 | .val op=>Vn op
 | .call f args| .defer f args=>Bq f&&args.all Bq
 | .panic x=>Bq x
def AD(o:bd):Bool:=Ph o.op
def nk:ar->Bool
 | .region ops| .draw ops _=>ops.all AD
 | .seq a b=>nk a&&nk b
 | .cond c a b=>Bq c&&nk a&&nk b
 | .block _ a| .loop a=>nk a
 |_=>true
inductive EL(θ:de):List (Nat×List EV)->List (Nat×List EV)->Prop
 |nil:EL θ [] []
 |cons {g:Nat} {x x':List EV} {l l':List (Nat×List EV)} (hx:et θ x x') (h:EL θ l l'):EL θ ((g,x)::l) ((g,x')::l')
theorem EL.ext{θ θ':de}(e:de.Ext θ θ'):∀{l l':List (Nat×List EV)},EL θ l l'->EL θ' l l'
 |_,_,.nil=>.nil
 |_,_,.cons hx h=>.cons (hx.ext e) (EL.ext e h)
theorem EL.none{θ:de}{l l':List (Nat×List EV)}(h:EL θ l l')(e:l=[]):l'=[]:=by cases h with|nil=>rfl|cons _ _=>cases e
structure Ca(θ:de)(fr fr':Fr):Prop where
 tmp:∀t,SV θ (fr.get t) (fr'.get t)
 GD:EL θ fr.defers fr'.defers
theorem Ca.ext{θ θ':de}(e:de.Ext θ θ'){fr fr':Fr}(h:Ca θ fr fr'):Ca θ' fr fr':=⟨fun t=>(h.tmp t).ext e,h.GD.ext e⟩
theorem Ca.put{θ:de}{fr fr':Fr}(h:Ca θ fr fr'){v v':EV}(hv:SV θ v v')(d:Option Nat):Ca θ (fr.put d v) (fr'.put d v'):=by
 cases d with
 |none=>exact h
 |some d=>
  refine⟨fun t=> ?_,h.GD⟩
  show SV θ ((fr.set d v).get t) ((fr'.set d v').get t);rw[Fr.ct,Fr.ct]
  split
  ·exact hv
  ·exact h.tmp t
theorem Ca.ops{θ:de}{fr fr':Fr}(h:Ca θ fr fr')(g:mc θ):yu θ (fun x=>fr.eval (lL x)) fr'.eval:=by
 intro x hx;cases x with
 |tmp t=>exact h.tmp t
 |const v=>exact Y4 g hx
structure qv(θ:de)(m m':Mem)(θ':de)(m1 iQ:Mem):Prop where
 ext:de.Ext θ θ'
 jU:∀b c,θ'.jU b=some c->θ.jU b=some c\/(m.next<=b/\m'.next<=c)
 jq:∀c B,θ'.jq c=some B->θ.jq c=some B\/(m'.next<=c/\m.next<m1.next)
 n1:m.next<=m1.next
 n2:m'.next<=iQ.next
 cU:∀c,c<m'.next->(∀b,θ.jU b≠some c)->iQ.get c=m'.get c
theorem qv.refl(θ:de)(m m':Mem):qv θ m m' θ m m':=⟨.refl θ,fun _ _ h=>.inl h,fun _ _ h=>.inl h,cR _,cR _,fun _ _ _=>rfl⟩
theorem qv.trans{θ θ1 θ2:de}{m m' m1 iQ m2 ZR:Mem}(h:qv θ m m' θ1 m1 iQ)(k:qv θ1 m1 iQ θ2 m2 ZR):qv θ m m' θ2 m2 ZR:=by
 have a1:=h.n1;have a2:=h.n2;have b1:=k.n1;have b2:=k.n2;refine⟨h.ext.trans k.ext,fun b c e=> ?_,fun c B e=> ?_,by omega,by omega,fun c hc hr=> ?_⟩
 ·rcases k.jU b c e with e|⟨e1,e2⟩
  ·exact h.jU b c e
  ·exact .inr ⟨by omega,by omega⟩
 ·rcases k.jq c B e with e|⟨e1,e2⟩
  ·rcases h.jq c B e with e|⟨e1,e2⟩
   ·exact .inl e
   ·exact .inr ⟨e1,by omega⟩
  ·exact .inr ⟨by omega,by omega⟩
 ·rw[k.cU c (by omega) fun b e=> ?_,h.cU c hc hr];rcases h.jU b c e with e|⟨e1,e2⟩
  ·exact hr b e
  ·omega
def Fin.mem:Fin->Mem
 | .ret _ m| .jk _ m=>m
def Out.mem:Out->Mem
 | .norm _ m| .exit _ _ m| .ret _ m| .jk _ _ m=>m
inductive ae0(θ:de):Fin->Fin->Prop
 |ret {v v':EV} {m m':Mem} (hv:SV θ v v') (hg:je θ m m'):ae0 θ (.ret v m) (.ret v' m')
 |jk {v v':EV} {m m':Mem} (hv:SV θ v v') (hg:je θ m m'):ae0 θ (.jk v m) (.jk v' m')
inductive Lw(θ:de):Out->Out->Prop
 |norm {fr fr':Fr} {m m':Mem} (hf:Ca θ fr fr') (hg:je θ m m'):Lw θ (.norm fr m) (.norm fr' m')
 |exit {id:Nat} {fr fr':Fr} {m m':Mem} (hf:Ca θ fr fr') (hg:je θ m m'):Lw θ (.exit id fr m) (.exit id fr' m')
 |ret {fr fr':Fr} {m m':Mem} (hf:Ca θ fr fr') (hg:je θ m m'):Lw θ (.ret fr m) (.ret fr' m')
 |jk {v v':EV} {fr fr':Fr} {m m':Mem} (hv:SV θ v v') (hf:Ca θ fr fr') (hg:je θ m m'):Lw θ (.jk v fr m) (.jk v' fr' m')
def wE(θ:de)(m m':Mem)(fin:Fin)(o:Option Fin):Prop:=∃θ' HX,o=some HX/\ae0 θ' fin HX/\qv θ m m' θ' fin.mem HX.mem
def tY(θ:de)(m m':Mem)(out:Out)(o:Option Out):Prop:=∃θ' BM,o=some BM/\Lw θ' out BM/\qv θ m m' θ' out.mem BM.mem
def Af(T:Nat->Option jm)(call:Call):Prop:=∀f args m fin,call f args m=some fin->∀θ m' aK,je θ m m'->et θ args aK->wE θ m m' fin (run T f aK m')
theorem tY.after{θ θ1:de}{m m' m1 iQ:Mem}{out:Out}{o:Option Out}(h:qv θ m m' θ1 m1 iQ)(k:tY θ1 m1 iQ out o):tY θ m m' out o:=by
 obtain⟨θ2,BM,e,ho,hs⟩:=k;exact⟨θ2,BM,e,ho,h.trans hs⟩
section
variable {T:Nat->Option jm} {call:Call}
theorem Iu.vb{θ:de}{m m' m1:Mem}{v:EV}{o:Option R1}(hg:je θ m m')(h:Iu θ m m' v m1 o):∃θ' v' iQ,o=some (.val v' iQ)/\SV θ' v v'/\je θ' m1 iQ/\qv θ m m' θ' m1 iQ:=by
 obtain⟨v',iQ,e,hc,hk⟩:=h;rcases hc with⟨h1,h2,h3,h4⟩|⟨h1,h2,h3,h4⟩
 ·exact⟨θ,v',iQ,e,h1,⟨h2,by rw[h3,h4];exact hg.ok,hg.EU⟩,⟨.refl θ,fun _ _ h=>.inl h,fun _ _ h=>.inl h,by omega,by omega,fun c hc hr=>hk c (by omega) hr⟩⟩
 ·have f:=hg.ok.fresh (cR m.next) (cR m'.next);refine⟨_,v',iQ,e,h1,⟨h2,by rw[h3,h4];exact hg.ok.more f (by omega) (by omega) (by omega) (by omega),hg.EU.ext f.ext⟩,⟨f.ext,fun b c hb=> ?_,fun _ _ h=>.inl h,by omega,by omega,fun c hc hr=>hk c (by omega) hr⟩⟩
  have sN:(if b=m.next then some m'.next else θ.jU b)=some c:=hb;by_cases hx:b=m.next
  ·rw[if_pos hx]at sN;cases sN;exact .inr ⟨by omega,cR _⟩
  ·rw[if_neg hx]at sN;exact .inl sN
theorem CM{θ:de}{fr fr':Fr}(h:Ca θ fr fr'){g:Option (Nat×Bool)}{b:Bool}(hw:bt fr g=some b):bt fr' g=some b:=by
 cases g with
 |none=>exact hw
 |some p=>
  obtain⟨t,w⟩:=p;simp only[bt]at hw⊢;have:=h.tmp t;generalize fr.get t=x at this hw;generalize fr'.get t=x' at this;cases this<;>first|exact hw|simp at hw
theorem Jt{d:Option Nat}{op:Aj}{g:Option (Nat×Bool)}{l:List bd}{fr:Fr}{m:Mem}{b:Bool}(h:bt fr g=some b):pK T (⟨d,op,g⟩::l) fr m=bif b then pK T (⟨d,op,none⟩::l) fr m else pK T l (fr.put d .undef) m:=by
 cases g with
 |none=>simp only[bt,bQ]at h;subst h;rfl
 |some p=>
  obtain⟨t,w⟩:=p;rw[vF];simp only[bt]at h;cases hx:fr.get t<;>simp only[hx,reduceCtorEq,bQ]at h
  ·subst h;rfl
  ·subst h;rfl
theorem Og{chk:List (Nat×Nat)}{B0 i:Nat}{sn:List (Nat×Mem)}{se:List Seen}{d:Option Nat}{op:Aj}{g:Option (Nat×Bool)}{l:List bd}{fr:Fr}{m:Mem}{b:Bool}(h:bt fr g=some b) :
  np T chk B0 (⟨d,op,g⟩::l) i fr m sn se=bif b then np T chk B0 (⟨d,op,none⟩::l) i fr m sn se else np T chk B0 l (i+1) (fr.put d .undef) m sn se:=by
 cases g with
 |none=>simp only[bt,bQ]at h;subst h;rfl
 |some p=>
  obtain⟨t,w⟩:=p;rw[mD];simp only[bt]at h;cases hx:fr.get t<;>simp only[hx,reduceCtorEq,bQ]at h
  ·subst h;rfl
  ·subst h;rfl
theorem M8{d:Option Nat}{f:bm}{args:List bm}{l:List bd}{fr:Fr}{m:Mem}{g:Nat}{x y:List EV}(h:fr.eval f=.func g x y):pK T (⟨d,.defer f args,none⟩::l) fr m=pK T l (Fr.put ⟨fr.tmps,(g,x++args.map fr.eval++y)::fr.defers⟩ d .undef) m:=by
 refine dT fun r=> ?_
 rw[gO];simp only[jx,bt,h];exact gO.symm
theorem SV.DT{θ:de}{g:Nat}{x y:List EV}{v':EV}(h:SV θ (.func g x y) v'):∃x' y',v'=.func g x' y'/\et θ x x'/\et θ y y':=by cases h with|func h1 h2=>exact⟨_,_,rfl,h1,h2⟩
theorem K9{fv:EV}{fw:List EV}{m:Mem}{fin:Fin}(h:ie call fv fw m=some fin):∃g x y,fv=.func g x y/\call g (x++fw++y) m=some fin:=by
 cases fv<;>first|exact⟨_,_,_,rfl,h⟩|(simp only[ie,reduceCtorEq]at h)
theorem SV.amx{θ:de}{a b:EV}(h:SV θ a b):Ge b=false:=by cases h<;>rfl
theorem Pd(cm:Af T call):∀(l:List bd) (fr:Fr) (m:Mem) (out:Out),jx call (l.map bd.sub) fr m=some out->l.all AD=true->∀(θ:de) (fr':Fr) (m':Mem),Ca θ fr fr'->je θ m m'->tY θ m m' out (pK T l fr' m')
 |[],fr,m,out,h,_,θ,fr',m',hf,hg=>by
  simp only[List.map_nil,jx,bQ]at h;subst h;exact⟨θ,_,Ju,.norm hf hg,.refl _ _ _⟩
 |o::l,fr,m,out,h,ez,θ,fr',m',hf,hg=>by
  have ih:=Pd cm l;simp only[List.all_cons,rC]at ez;obtain⟨d,op,g⟩:=o;simp only[List.map_cons,bd.sub,jx]at h;cases hw:bt fr g with
  |none=>simp[hw]at h
  |some b=>
  rw[Jt (CM hf hw)];cases b with
  |false=>
   simp only[hw]at h;exact ih _ _ _ h ez.2 θ _ _ (hf.put .undef d) hg
  |true=>
   simp only[hw]at h;simp only[cond_true];cases op with
   |val op=>
    simp only[Aj.sub,Gx]at h;cases he:aL (fun x=>fr.eval (lL x)) op m with
    |none=>simp[he]at h
    |some q=>
     obtain⟨v,m1⟩:=q;simp only[he]at h;obtain⟨θ',v',iQ,e1,e2,e3,e4⟩:=Iu.vb hg (Hc (hf.ops hg.EU) hg.toMemS hg.ok (hg.ok.fresh (cR _) (cR _)) ez.1 he);rw[Dj,e1];exact tY.after e4 (ih _ _ _ h ez.2 θ' _ _ ((hf.ext e4.ext).put e2 d) e3)
   |call f args=>
    have xe:=ez.1;simp only[AD,Ph,rC]at xe;simp only[Aj.sub,List.map_map,Function.comp_def]at h;have BX:SV θ (fr.eval (lL f)) (fr'.eval f):=(hf.ops hg.EU) f xe.1;have HO:et θ (args.map fun x=>fr.eval (lL x)) (args.map fr'.eval):=yu.list (hf.ops hg.EU) xe.2;cases tJ:ie call (fr.eval (lL f)) (args.map fun x=>fr.eval (lL x)) m with
    |none=>rw[tJ]at h;cases h
    |some fin=>
     obtain⟨gg,x,y,LL,hc⟩:=K9 tJ;rw[LL]at BX;obtain⟨x',y',WM,hx,hy⟩:=BX.DT;rw[xL,WM,wL];obtain⟨θ',HX,e1,e2,e3⟩:=cm _ _ _ _ hc θ m' _ hg ((hx.append HO).append hy);rw[e1];cases e2 with
     |ret hv uE=>
      rw[tJ]at h;simp only at h;exact tY.after e3 (ih _ _ _ h ez.2 θ' _ _ ((hf.ext e3.ext).put hv d) uE)
     |jk hv uE=>
      rw[tJ]at h;simp only[bQ]at h;subst h;exact⟨θ',_,rfl,.jk hv (hf.ext e3.ext) uE,e3⟩
   |panic x=>
    have hx:SV θ (fr.eval (lL x)) (fr'.eval x):=(hf.ops hg.EU) x ez.1;simp only[Aj.sub]at h;cases Sf:fr.eval (lL x)<;>simp only[Sf,reduceCtorEq,bQ]at h
    rename_i t v
    rw[Sf]at hx;generalize am0:fr'.eval x=w at hx;cases hx with
    |iface hv=>
     rw[MY am0];subst h;exact⟨θ,_,rfl,.jk (.iface hv) hf hg,.refl _ _ _⟩
   |defer f args=>
    have xe:=ez.1;simp only[AD,Ph,rC]at xe;simp only[Aj.sub,List.map_map,Function.comp_def]at h;have BX:SV θ (fr.eval (lL f)) (fr'.eval f):=(hf.ops hg.EU) f xe.1;have HO:et θ (args.map fun x=>fr.eval (lL x)) (args.map fr'.eval):=yu.list (hf.ops hg.EU) xe.2;cases LL:fr.eval (lL f)<;>simp only[LL,reduceCtorEq]at h
    rename_i gg x y
    rw[LL]at BX;obtain⟨x',y',WM,hx,hy⟩:=BX.DT;rw[M8 WM];exact ih _ _ _ h ez.2 θ _ _ (Ca.put (fr:=⟨fr.tmps,_::fr.defers⟩) (fr':=⟨fr'.tmps,_::fr'.defers⟩) ⟨hf.tmp,.cons ((hx.append HO).append hy) hf.GD⟩ .undef d) hg
structure ajm(θ:de)(m:Mem)(s s':Nat×Mem):Prop where
 i:s'.1=s.1
 dW:MemB θ s.2 s'.2
 le:s.2.next<=m.next
 jq:s.2.next=m.next->∀c B,θ.jq c=some B->s'.2.get c=B
inductive nr(θ:de)(m:Mem):List (Nat×Mem)->List (Nat×Mem)->Prop
 |nil:nr θ m [] []
 |cons {s s':Nat×Mem} {l l':List (Nat×Mem)} (h:ajm θ m s s') (hs:nr θ m l l'):nr θ m (s::l) (s'::l')
def Ez(θ:de)(se:List Seen)(s':Seen):Prop:=
 (∃s,s∈se/\s'.i=s.i/\s'.agg=s.agg/\Ge s.a=false/\SV θ s.a s'.a/\SV θ s.v s'.v)\/(Told s'.v=true/\∀q:Mem,(∀c B,θ.jq c=some B->q.get c=B)->q.load s'.agg s'.a=some s'.v)
theorem Ez.ext{θ θ':de}{se:List Seen}{s':Seen}(h:Ez θ se s')(e:de.Ext θ θ'):Ez θ' se s':=by
 rcases h with⟨s,h1,h2,h3,h4,h5,h6⟩|⟨h1,h2⟩
 ·exact .inl ⟨s,h1,h2,h3,h4,h5.ext e,h6.ext e⟩
 ·exact .inr ⟨h1,fun q hq=>h2 q fun c B hc=>hq c B (e.jq c B hc)⟩
theorem nr.step{θ θ':de}{m m1 m' iQ:Mem}(bT:qv θ m m' θ' m1 iQ)(hd:∀b c,θ.jU b=none->θ'.jU b=some c->∀s:Nat×Mem,s.2.next<=m.next->True):∀{l l':List (Nat×Mem)},nr θ m l l'->nr θ' m1 l l'
 |_,_,.nil=>.nil
 |_,_,.cons h hs=>.cons ⟨h.i,h.dW.ext bT.ext fun b c hb _=>h.dW.cl b hb,ji h.le bT.n1,fun e c B hc=>by
  have h1:=h.le;have h2:=bT.n1;rcases bT.jq c B hc with q|⟨_,q⟩
  ·exact h.jq (by omega) c B q
  ·omega⟩ (nr.step bT hd hs)
theorem nr.same{θ θ1:de}{m m1:Mem}(he:de.Ext θ θ1)(hs:θ1.jq=θ.jq)(hn:m1.next=m.next):∀{l l':List (Nat×Mem)},nr θ m l l'->nr θ1 m1 l l'
 |_,_,.nil=>.nil
 |_,_,.cons h hss=>.cons ⟨h.i,h.dW.ext he fun b c hb _=>h.dW.cl b hb,by rw[hn];exact h.le,fun e c B hc=>by rw[hs]at hc;exact h.jq (e.trans hn) c B hc⟩ (nr.same he hs hn hss)
theorem Bg{m:Mem}{g:Option Nat}{a v:EV}(h:m.load g a=some v)(ht:Told v=true):m.fi g a v=true:=by
 unfold Mem.fi;rw[h];exact qH v ht
theorem C2{θ:de}{m:Mem}{chk:List (Nat×Nat)}{i:Nat}{g:Option Nat}{a a' v v':EV}(ha:SV θ a a')(hv:SV θ v v')(hf:Ge a=false):∀{l l':List (Nat×Mem)},nr θ m l l'->bW chk i g a v l=true->bW chk i g a' v' l'=true
 |_,_,.nil,_=>rfl
 |_,_,.cons (s:=(j,mj)) (s':=(j',mj')) h hs,hc=>by
  obtain rfl:j'=j:=h.i;simp only[bW]at hc⊢;cases hp:cr i j' chk<;>simp only[hp,cond_true,cond_false]at hc ⊢
  ·exact C2 ha hv hf hs hc
  ·cases bT:mj.fi g a v<;>simp only[bT,cond_true,cond_false,rF]at hc
   have am6:mj'.fi g a' v'=true:=by
    unfold Mem.fi at bT⊢;cases hl:mj.load g a with
    |none=>simp[hl]at bT
    |some x=>
     obtain⟨x',zm,hx⟩:=Hs h.dW ha hf hl;simp only[hl]at bT;rw[zm];exact hx.same hv bT
   simp only[am6,cond_true];exact C2 ha hv hf hs hc
theorem Hd{θ:de}{m:Mem}{chk:List (Nat×Nat)}{i:Nat}{g:Option Nat}{a' v':EV}(ht:Told v'=true)(hl:∀q:Mem,(∀c B,θ.jq c=some B->q.get c=B)->q.load g a'=some v'):∀{l l':List (Nat×Mem)},nr θ m l l'->ey chk i m.next l=true->bW chk i g a' v' l'=true
 |_,_,.nil,_=>rfl
 |_,_,.cons (s:=(j,mj)) (s':=(j',mj')) h hs,hc=>by
  obtain rfl:j'=j:=h.i;simp only[bW,ey]at hc⊢;cases hp:cr i j' chk<;>simp only[hp,cond_true,cond_false]at hc ⊢
  ·exact Hd ht hl hs hc
  ·cases hn:mj.next.beq m.next<;>simp only[hn,cond_true,cond_false,rF]at hc
   have:=Bg (hl mj' (h.jq (bf hn))) ht;simp only[this,cond_true];exact Hd ht hl hs hc
theorem C7{θ:de}{m1 iQ:Mem}{chk:List (Nat×Nat)}{j:Nat}(hm:MemS θ m1 iQ){se:List Seen}(hc:bq chk j m1 se=true):∀{se':List Seen},(∀s',s'∈se'->Ez θ se s')->bq chk j iQ se'=true
 |[],_=>rfl
 |s'::se',h=>by
  have ih:=C7 hm hc (se':=se') fun x hx=>h x (by simp[hx])
  simp only[bq,ih];cases hp:cr s'.i j chk<;>simp only[cond_true,cond_false]
  have:iQ.fi s'.agg s'.a s'.v=true:=by
   rcases h s' (by simp)with⟨s,h1,h2,h3,h4,h5,h6⟩|⟨h1,h2⟩
   ·rw[h2]at hp;have bT:=qE hc s h1 hp;unfold Mem.fi at bT⊢;cases hl:m1.load s.agg s.a with
    |none=>simp[hl]at bT
    |some x=>
     obtain⟨x',zm,hx⟩:=Hs hm.toMemB h5 h4 hl;simp only[hl]at bT;rw[h3,zm];exact hx.same h6 bT
   ·exact Bg (h2 iQ hm.jq) h1
  simp only[this,cond_true]
theorem MemS.Vy{θ:de}{m m':Mem}(h:MemS θ m m')(n n':Nat):MemS θ ⟨n,m.ja⟩ ⟨n',m'.ja⟩:=⟨⟨h.dW,h.cl⟩,h.jq⟩
def Kept(θ:de)(B0 B0' i n:Nat):Prop:=∀j,i<=j->j<n->Ae θ (B0+j) (B0'+j)
theorem Kept.step{θ θ':de}{m m' m1 iQ:Mem}(bT:qv θ m m' θ' m1 iQ){B0 B0' i n:Nat}(h:Kept θ B0 B0' i n)(h1:B0+n<=m.next)(h2:B0'+n<=m'.next):Kept θ' B0 B0' i n:=by
 intro j hj hn;have f:=h j hj hn;refine⟨?_,fun a ha=> ?_,?_⟩
 ·cases e:θ'.jU (B0+j)with
  |none=>rfl
  |some c=>
   rcases bT.jU _ _ e with q|⟨q,_⟩
   ·rw[f.l]at q;cases q
   ·omega
 ·rcases bT.jU _ _ ha with q|⟨_,q⟩
  ·exact f.r a q
  ·omega
 ·cases e:θ'.jq (B0'+j)with
  |none=>rfl
  |some c=>
   rcases bT.jq _ _ e with q|⟨q,_⟩
   ·rw[f.s]at q;cases q
   ·omega
theorem K0(cm:Af T call){chk:List (Nat×Nat)}{B0 B0' n:Nat}{θ0:de}{m0 m0':Mem}(e0:m0.next=B0)(e0':m0'.next=B0'):∀(l:List bd) (i:Nat) (fr:Fr) (m:Mem) (sn:List (Nat×Mem)) (se:List Seen) (out:Out),i+l.length=n->
  ei call chk B0 (l.map bd.sub) i fr m sn se=some out->l.all AD=true->∀(θ:de) (fr':Fr) (m':Mem) (C3:List (Nat×Mem)) (se':List Seen),Ca θ fr fr'->je θ m m'->B0+n<=m.next->B0'+n<=m'.next->Kept θ B0 B0' i n->nr θ m sn C3->(∀s',s'∈se'->Ez θ se s')->
  qv θ0 m0 m0' θ m m'->tY θ0 m0 m0' out (np T chk B0' l i fr' m' C3 se')
 |[],i,fr,m,sn,se,out,hn,h,_,θ,fr',m',C3,se',hf,hg,_,_,_,_,_,bT=>by
  simp only[List.map_nil,ei,bQ]at h;subst h;exact⟨θ,_,Qa,.norm hf hg,bT⟩
 |o::l,i,fr,m,sn,se,out,hn,h,ez,θ,fr',m',C3,se',hf,hg,hb,sN,hk,BS,Z6,bT=>by
  have ih:=K0 cm e0 e0' (chk:=chk) (B0:=B0) (B0':=B0') (n:=n) (θ0:=θ0) (m0:=m0) (m0':=m0') l (i+1);have AR:i+1+l.length=n:=by rw[List.length_cons]at hn;omega
  have BW:i<n:=by rw[List.length_cons]at hn;omega
  have rD:Kept θ B0 B0' (i+1) n:=fun j hj=>hk j (by omega)
  simp only[List.all_cons,rC]at ez;obtain⟨d,op,g⟩:=o;simp only[List.map_cons,bd.sub,ei]at h;cases hw:bt fr g with
  |none=>simp[hw]at h
  |some b=>
  rw[Og (CM hf hw)];cases b with
  |false=>
   simp only[hw]at h;exact ih _ _ _ _ _ AR h ez.2 θ _ _ _ _ (hf.put .undef d) hg hb sN rD BS Z6 bT
  |true=>
   simp only[hw]at h;simp only[cond_true];cases op with
   |panic x=>simp[Aj.sub]at h
   |defer f args=>simp[Aj.sub]at h
   |call f args=>
    have xe:=ez.1;simp only[AD,Ph,rC]at xe;simp only[Aj.sub,List.map_map,Function.comp_def]at h;have BX:SV θ (fr.eval (lL f)) (fr'.eval f):=(hf.ops hg.EU) f xe.1;have HO:et θ (args.map fun x=>fr.eval (lL x)) (args.map fr'.eval):=yu.list (hf.ops hg.EU) xe.2;cases tJ:ie call (fr.eval (lL f)) (args.map fun x=>fr.eval (lL x)) m with
    |none=>rw[tJ]at h;cases h
    |some fin=>
     obtain⟨gg,x,y,LL,hc⟩:=K9 tJ;rw[LL]at BX;obtain⟨x',y',WM,hx,hy⟩:=BX.DT;rw[zO,WM,wL];obtain⟨θ',HX,e1,e2,e3⟩:=cm _ _ _ _ hc θ m' _ hg ((hx.append HO).append hy);rw[e1];cases e2 with
     |jk hv uE=>rw[tJ]at h;cases h
     | @ret v v' m1 iQ hv uE=>
      rw[tJ]at h;simp only at h;cases nX:bq chk i m1 se<;>simp only[nX,cond_true,cond_false,reduceCtorEq]at h
      have Wo:∀s',s'∈se'->Ez θ' se s':=fun s' Cz=>(Z6 s' Cz).ext e3.ext
      have a1:=e3.n1;have a2:=e3.n2;simp only[Fin.mem]at a1 a2;simp only[tb,C7 uE.toMemS nX Wo,pR];refine ih _ _ _ _ _ AR h ez.2 θ' _ _ _ _ ((hf.ext e3.ext).put hv d) uE (by omega) (by omega) (rD.step e3 hb sN) (.cons ?_ (BS.step e3 fun _ _ _ _ _ _=>trivial)) Wo (bT.trans e3)
      refine⟨rfl,hg.toMemB.ext e3.ext fun b c hb _=>hg.cl b hb,a1,fun e c B hc=> ?_⟩
      rcases e3.jq c B hc with q|⟨_,q⟩
      ·exact hg.jq c B q
      ·simp only[Fin.mem]at q e;omega
   |val op=>
    simp only[Aj.sub,Ur,Gx]at h;have xe:Vn op=true:=ez.1;have h3:=Us op;by_cases hs0:dG op=0
    ·simp only[hs0]at h;rw[Oi hs0];cases he:aL (fun x=>fr.eval (lL x)) op m with
     |none=>simp[he]at h
     |some q=>
      obtain⟨v,m1⟩:=q;simp only[he]at h;obtain⟨rfl,_⟩:=Jl hs0 he;obtain⟨v',iQ,tJ,nX,_⟩:=Hc (hf.ops hg.EU) hg.toMemS hg.ok (hg.ok.fresh (cR _) (cR _)) xe he;rw[tJ];rcases nX with⟨vj,_,_,_⟩|⟨_,_,q,_⟩
      ·exact ih _ _ _ _ _ AR h ez.2 θ _ _ _ _ (hf.put vj d) hg hb sN rD BS Z6 bT
      ·omega
    ·by_cases ub:dG op=1
     ·simp only[ub]at h;rw[Oh ub];cases he:aL (fun x=>fr.eval (lL x)) op ⟨B0+i,m.ja⟩with
      |none=>simp[he]at h
      |some q=>
       obtain⟨v,m1⟩:=q;simp only[he]at h;have f:=hk i (cR _) BW;obtain⟨v',iQ,e1,nX,PJ⟩:=Hc (hf.ops hg.EU) (hg.toMemS.Vy (B0+i) (B0'+i)) hg.ok f xe he;obtain⟨B,mk,_,hB,_⟩:=Dy ub he;rw[e1];rcases nX with⟨c1,c2,c3,c4⟩|⟨c1,c2,c3,c4⟩
       ·rw[hB]at c3;have c3':B0+i+1=B0+i:=c3;omega
       ·have anh:sw (θ.more (B0+i) (B0'+i)) m.next m'.next:=hg.ok.more f (by omega) (by omega) (cR _) (cR _);have ad3:∀b c,(θ.more (B0+i) (B0'+i)).jU b=some c->θ.jU b=some c\/(b=B0+i/\c=B0'+i):=by
         intro b c LN;have aal:(if b=B0+i then some (B0'+i)else θ.jU b)=some c:=LN;by_cases hx:b=B0+i
         ·rw[if_pos hx]at aal;cases aal;exact .inr ⟨hx,rfl⟩
         ·rw[if_neg hx]at aal;exact .inl aal
        refine ih _ _ _ _ _ AR h ez.2 (θ.more (B0+i) (B0'+i)) _ _ _ _ ((hf.ext f.ext).put c1 d) ⟨c2.Vy _ _,anh,hg.EU.ext f.ext⟩ hb sN ?_ (nr.same (m:=m) (m1:=⟨m.next,m1.ja⟩) f.ext rfl rfl BS) (fun s' Cz=>(Z6 s' Cz).ext f.ext) ⟨bT.ext.trans f.ext,?_,bT.jq,bT.n1,bT.n2,?_⟩
        ·intro j hj hjn;have fj:=hk j (by omega) hjn;refine⟨?_,fun a ha=> ?_,fj.s⟩
         ·cases e:(θ.more (B0+i) (B0'+i)).jU (B0+j)with
          |none=>rfl
          |some c=>
           rcases ad3 _ _ e with q|⟨q,_⟩
           ·rw[fj.l]at q;cases q
           ·omega
         ·rcases ad3 _ _ ha with q|⟨_,q⟩
          ·exact fj.r a q
          ·omega
        ·intro b c LN;rcases ad3 b c LN with q|⟨rfl,rfl⟩
         ·exact bT.jU b c q
         ·exact .inr ⟨by omega,by omega⟩
        ·intro c hc hr;have h1:iQ.get c=m'.get c:=by
          refine PJ c (show c≠B0'+i by omega) fun b LN=> ?_
          rcases bT.jU b c LN with q|⟨_,q⟩
          ·exact hr b q
          ·omega
         exact h1.trans (bT.cU c hc hr)
     ·by_cases NH:dG op=2
      ·cases op<;>simp only[dG,reduceCtorEq,Nat.reduceEqDiff]at NH
       case conv c x=>cases c<;>simp at NH
       rename_i agg a
       simp only[dG,oa.xd]at h;have ha:SV θ (fr.eval (lL a)) (fr'.eval a):=(hf.ops hg.EU) a (by simpa only[Vn,ku,Nb,List.all_cons,List.all_nil,Bool.and_true]using xe);rw[zM];have hnf:=ha.amx;simp only[YC,hnf,cond_false];cases hl:m.load agg (fr.eval (lL a))with
       |none=>simp[hl]at h
       |some v=>
        simp only[hl]at h;cases hF:Ge (fr.eval (lL a))<;>simp only[hF,cond_true,cond_false]at h
        ·cases nX:bW chk i agg (fr.eval (lL a)) v sn<;>simp only[nX,cond_true,cond_false,reduceCtorEq]at h
         obtain⟨v',zm,hv⟩:=Hs hg.toMemB ha hF hl;simp only[zm,uQ,C2 ha hv hF BS nX,pR];refine ih _ _ _ _ _ AR h ez.2 θ _ _ _ _ (hf.put hv d) hg hb sN rD BS (fun s' Cz=> ?_) bT
         rcases qn.1 Cz with rfl|Cz
         ·exact .inl ⟨⟨i,agg,fr.eval (lL a),v⟩,by simp,rfl,rfl,hF,ha,hv⟩
         ·rcases Z6 s' Cz with⟨s,q1,q2⟩|q
          ·exact .inl ⟨s,by simp[q1],q2⟩
          ·exact .inr q
        ·cases nX:ey chk i m.next sn<;>simp only[nX,cond_true,cond_false,reduceCtorEq]at h
         generalize LL:fr.eval (lL a)=y at ha hF hl;cases y<;>simp only[Ge,rF]at hF
         obtain⟨v',hv,hall⟩:=VP ha hl;simp only[hall m' hg.jq,uQ,Hd hv.told hall BS nX,pR];refine ih _ _ _ _ _ AR h ez.2 θ _ _ _ _ (hf.put hv d) hg hb sN rD BS (fun s' Cz=> ?_) bT
         rcases qn.1 Cz with rfl|Cz
         ·exact .inr ⟨hv.told,hall⟩
         ·exact Z6 s' Cz
      ·have hs3:dG op=3:=by omega
       simp only[hs3]at h;rw[Ib hs3];cases he:aL (fun x=>fr.eval (lL x)) op m with
       |none=>simp[he]at h
       |some q=>
        obtain⟨v,m1⟩:=q;simp only[he]at h;cases nX:bq chk i m1 se<;>simp only[nX,cond_true,cond_false,reduceCtorEq]at h
        obtain⟨θ',v',iQ,e1,e2,e3,e4⟩:=Iu.vb hg (Hc (hf.ops hg.EU) hg.toMemS hg.ok (hg.ok.fresh (cR _) (cR _)) xe he);rw[e1];have Wo:∀s',s'∈se'->Ez θ' se s':=fun s' Cz=>(Z6 s' Cz).ext e4.ext
        have a1:=e4.n1;have a2:=e4.n2;simp only[iZ,C7 e3.toMemS nX Wo,pR];refine ih _ _ _ _ _ AR h ez.2 θ' _ _ _ _ ((hf.ext e4.ext).put e2 d) e3 (by omega) (by omega) (rD.step e4 hb sN) (.cons ?_ (BS.step e4 fun _ _ _ _ _ _=>trivial)) Wo (bT.trans e4)
        refine⟨rfl,hg.toMemB.ext e4.ext fun b c hb _=>hg.cl b hb,a1,fun e c B hc=> ?_⟩
        rcases e4.jq c B hc with q|⟨_,q⟩
        ·exact hg.jq c B q
        ·simp only at e;omega
theorem Lw.nt{θ:de}{m m':Mem}{out Zy:Out}{X:Option Out}{K:Fr->Mem->Option Out}{k:Fr->Mem->Option Out}(hX:tY θ m m' out X)
  (h:(match out with| .norm fr m1=>k fr m1|o=>some o)=some Zy)
  (hk:∀θ1 fr m1 fr' iQ,Ca θ1 fr fr'->je θ1 m1 iQ->k fr m1=some Zy->tY θ1 m1 iQ Zy (K fr' iQ)):tY θ m m' Zy (Ev.nt X K):=by
 obtain⟨θ1,BM,rfl,hs,bT⟩:=hX;cases hs with
 |norm hf hg=>exact tY.after bT (hk _ _ _ _ _ hf hg h)
 |exit hf hg=>simp only[bQ]at h;subst h;exact⟨θ1,_,rfl,.exit hf hg,bT⟩
 |ret hf hg=>simp only[bQ]at h;subst h;exact⟨θ1,_,rfl,.ret hf hg,bT⟩
 |jk hv hf hg=>simp only[bQ]at h;subst h;exact⟨θ1,_,rfl,.jk hv hf hg,bT⟩
theorem Tc{θ:de}{m m':Mem}(hg:je θ m m')(k:Nat):je θ ⟨m.next+k,m.ja⟩ ⟨m'.next+k,m'.ja⟩:=
 ⟨hg.toMemS.Vy _ _,⟨fun b c h=>by have:=hg.ok.jU b c h;exact⟨cQ this.1 (Nat.le_add_right _ _),cQ this.2 (Nat.le_add_right _ _)⟩,hg.ok.inj,hg.ok.off,fun b B h=>cQ (hg.ok.jq b B h) (Nat.le_add_right _ _)⟩,hg.EU⟩
theorem m6(cm:Af T call)(n:Nat):∀(c:ar) (fr:Fr) (m:Mem) (out:Out),aB call n c.sub fr m=some out->nk c=true->∀(θ:de) (fr':Fr) (m':Mem),Ca θ fr fr'->je θ m m'->tY θ m m' out (exec T c fr' m')
 | .skip,fr,m,out,h,_,θ,fr',m',hf,hg=>by
  simp only[ar.sub,aB,bQ]at h;subst h;exact⟨θ,_,Gu,.norm hf hg,.refl _ _ _⟩
 | .ret,fr,m,out,h,_,θ,fr',m',hf,hg=>by
  simp only[ar.sub,aB,bQ]at h;subst h;exact⟨θ,_,KE,.ret hf hg,.refl _ _ _⟩
 | .exit id,fr,m,out,h,_,θ,fr',m',hf,hg=>by
  simp only[ar.sub,aB,bQ]at h;subst h;exact⟨θ,_,Gv,.exit hf hg,.refl _ _ _⟩
 | .region ops,fr,m,out,h,ez,θ,fr',m',hf,hg=>by
  simp only[ar.sub,aB]at h;rw[BC];exact Pd cm ops fr m out h (by simpa only[nk]using ez) θ fr' m' hf hg
 | .draw ops chk,fr,m,out,h,ez,θ,fr',m',hf,hg=>by
  simp only[ar.sub,aB]at h;rw[SG];rw[List.length_map]at h;have kI:=Tc hg ops.length;refine K0 cm (n:=ops.length) (θ0:=θ) (m0:=m) (m0':=m') rfl rfl ops 0 fr _ [] [] out (Nat.zero_add _) h (by simpa only[nk]using ez) θ fr' _ [] [] hf kI (cR _) (cR _) (fun j _ hj=>hg.ok.fresh (Nat.le_add_right _ _) (Nat.le_add_right _ _)) .nil (fun s' Cz=>by simp at Cz)
   ⟨.refl θ,fun _ _ h=>.inl h,fun _ _ h=>.inl h,Nat.le_add_right _ _,Nat.le_add_right _ _,fun _ _ _=>rfl⟩
 | .seq a b,fr,m,out,h,ez,θ,fr',m',hf,hg=>by
  simp only[nk,rC]at ez;simp only[ar.sub,aB]at h;rw[wq];cases ha:aB call n a.sub fr m with
  |none=>simp[ha]at h
  |some o=>
   refine Lw.nt (k:=aB call n b.sub) (m6 cm n a fr m o ha ez.1 θ fr' m' hf hg) (by rw[ha]at h;cases o<;>exact h) fun θ1 iq m1 aiv iQ eH nF h1=>m6 cm n b _ _ _ h1 ez.2 θ1 _ _ eH nF
 | .cond c a b,fr,m,out,h,ez,θ,fr',m',hf,hg=>by
  simp only[nk,rC]at ez;simp only[ar.sub,aB]at h;have hc:SV θ (fr.eval (lL c)) (fr'.eval c):=(hf.ops hg.EU) c ez.1.1;cases hce:fr.eval (lL c)<;>simp only[hce,reduceCtorEq]at h
  rename_i t
  simp only[hce]at hc;rw[Gw (abx hc)];cases t
  ·exact m6 cm n b _ _ _ h ez.2 θ _ _ hf hg
  ·exact m6 cm n a _ _ _ h ez.1.2 θ _ _ hf hg
 | .block id a,fr,m,out,h,ez,θ,fr',m',hf,hg=>by
  simp only[ar.sub,aB]at h;rw[D5];cases ha:aB call n a.sub fr m with
  |none=>simp[ha]at h
  |some o=>
   obtain⟨θ1,BM,e,hs,bT⟩:=m6 cm n a fr m o ha (by simpa only[nk]using ez) θ fr' m' hf hg;rw[e];rw[ha]at h;cases hs with
   |norm hf hg=>simp only[bQ]at h;subst h;exact⟨θ1,_,rfl,.norm hf hg,bT⟩
   |ret hf hg=>simp only[bQ]at h;subst h;exact⟨θ1,_,rfl,.ret hf hg,bT⟩
   |jk hv hf hg=>simp only[bQ]at h;subst h;exact⟨θ1,_,rfl,.jk hv hf hg,bT⟩
   | @exit j iq aiv m1 iQ hf hg=>
    simp only[re];simp only at h;cases hb:j.beq id<;>simp only[hb,cond_true,cond_false,bQ]at h⊢ <;>subst h
    ·exact⟨θ1,_,rfl,.exit hf hg,bT⟩
    ·exact⟨θ1,_,rfl,.norm hf hg,bT⟩
 | .loop a,fr,m,out,h,ez,θ,fr',m',hf,hg=>by
  simp only[ar.sub,aB]at h;have ani:nk a=true:=by simpa only[nk]using ez
  have ha:=m6 cm n a;have go:∀(k:Nat) (fr:Fr) (m:Mem) (out:Out),iter (aB call n a.sub) k fr m=some out->∀(θ:de) (fr':Fr) (m':Mem),Ca θ fr fr'->je θ m m'->tY θ m m' out (exec T (.loop a) fr' m'):=by
   intro k
   induction k with
   |zero=>intro fr m out h;simp[iter]at h
   |succ k ih=>
    intro fr m out h θ fr' m' hf hg;simp only[iter]at h;rw[qK];cases hb:aB call n a.sub fr m with
    |none=>simp[hb]at h
    |some o=>
     refine Lw.nt (k:=iter (aB call n a.sub) k) (ha fr m o hb ani θ fr' m' hf hg) (by rw[hb]at h;cases o<;>exact h) fun θ1 iq m1 aiv iQ eH nF h1=>ih _ _ _ h1 θ1 _ _ eH nF
  exact go n fr m out h θ fr' m' hf hg
theorem wB{θ:de}:∀{x x':List EV} (i:Nat) {t t':Tr EV},et θ x x'->(∀k,SV θ (((⟨t,[]⟩:Fr)).get k) (((⟨t',[]⟩:Fr)).get k))->∀k,SV θ (((⟨dh x i t,[]⟩:Fr)).get k) (((⟨dh x' i t',[]⟩:Fr)).get k)
 |_,_,i,t,t',.nil,h=>h
 |_,_,i,t,t',.cons (v:=v) (v':=v') hv hs,h=>by
  refine wB (i+1) hs fun k=> ?_
  show SV θ ((Fr.set ⟨t,[]⟩ i v).get k) ((Fr.set ⟨t',[]⟩ i v').get k);rw[Fr.ct,Fr.ct]
  split
  ·exact hv
  ·exact h k
theorem kJ{θ:de}{m m':Mem}(hm:MemS θ m m'){fr fr':Fr}(hf:Ca θ fr fr'):∀(rs:List ns) (vs:List EV),b8 fr m rs=some vs->∃vz,b8 fr' m' rs=some vz/\et θ vs vz
 |[],vs,h=>by simp only[b8,bQ]at h;subst h;exact⟨[],rfl,.nil⟩
 |r::rs,vs,h=>by
  simp only[b8]at h⊢;cases hr:zF fr m r with
  |none=>simp[hr]at h
  |some v=>
   have hv:∃v',zF fr' m' r=some v'/\SV θ v v':=by
    cases r with
    |tmp t=>simp only[zF,bQ]at hr⊢;subst hr;exact⟨_,rfl,hf.tmp t⟩
    |cell t agg=>simp only[zF]at hr⊢;exact JT hm (hf.tmp t) hr
   obtain⟨v',Wp,vj⟩:=hv;simp only[hr,Wp]at h⊢;obtain⟨ws,hw,rfl⟩:=mH.1 h;obtain⟨ws',Tv,hs⟩:=kJ hm hf rs ws hw;exact⟨v'::ws',by rw[Tv];rfl,.cons vj hs⟩
theorem yU{θ:de}{x x':List EV}(h:et θ x x'):SV θ (one x) (one x'):=by
 cases h with
 |nil=>exact .tuple .nil
 |cons hv hs=>
  cases hs with
  |nil=>exact hv
  |cons hv2 NH=>exact .tuple (.cons hv (.cons hv2 NH))
def FZ(F:aC):Bool:=nk F.body&&tr F.body
def nj(F:aC):Bool:=nk F.body
theorem RA{F:aC}(h:FZ F=true):F.sub=F:=by
 simp only[FZ,rC]at h;unfold aC.sub;rw[pf h.2]
theorem ZD{F:aC}(h:FZ F=true):nj F=true:=by simp only[FZ,rC]at h;exact h.1
theorem Ab(cm:Af T call)(n:Nat){f:Nat}{F:aC}(hT:T f=some (.go F))(ez:nj F=true){args:List EV}{m:Mem}{fin:Fin}(h:dv call n F.sub args m=some fin){θ:de}{m':Mem}{aK:List EV}(hg:je θ m m')(ha:et θ args aK):wE θ m m' fin (run T f aK m'):=by
 unfold dv at h;simp only[aC.sub]at h;cases hb:args.length.ble F.ntmps<;>simp only[hb,cond_true,cond_false,reduceCtorEq]at h
 have hlen:aK.length<=F.ntmps:=by rw[<- ha.length];exact rI hb
 rw[MJ hT hlen];cases hc:aB call n F.body.sub ⟨dh args 0 .leaf,[]⟩ m with
 |none=>simp[hc]at h
 |some out=>
  have hf:Ca θ ⟨dh args 0 .leaf,[]⟩ ⟨dh aK 0 .leaf,[]⟩:=⟨wB 0 ha fun k=>by rw[show (⟨.leaf,[]⟩:Fr)=mP from rfl,tQ];exact .undef,.nil⟩;obtain⟨θ1,BM,e,hs,bT⟩:=m6 cm n F.body _ _ _ hc ez θ _ m' hf hg;rw[e];simp only[hc]at h;cases hs with
  |exit hf hg=>simp at h
  | @norm fr fr' m1 iQ eH nF=>
   cases hd:fr.defers with
   |cons d ds=>simp[hd]at h
   |nil=>
    simp only[hd]at h;have ET:fr'.defers=[]:=eH.GD.none hd;simp only[ti,ET];obtain⟨vs,hv,rfl⟩:=mH.1 h;obtain⟨vz,tE,yv⟩:=kJ nF.toMemS eH F.results vs hv;rw[tE];exact⟨θ1,_,rfl,.ret (yU yv) nF,bT⟩
  | @ret fr fr' m1 iQ eH nF=>
   cases hd:fr.defers with
   |cons d ds=>simp[hd]at h
   |nil=>
    simp only[hd]at h;have ET:fr'.defers=[]:=eH.GD.none hd;simp only[ti,ET];obtain⟨vs,hv,rfl⟩:=mH.1 h;obtain⟨vz,tE,yv⟩:=kJ nF.toMemS eH F.results vs hv;rw[tE];exact⟨θ1,_,rfl,.ret (yU yv) nF,bT⟩
  | @jk v v' fr fr' m1 iQ vj eH nF=>
   cases hd:fr.defers with
   |cons d ds=>simp[hd]at h
   |nil=>
    simp only[hd,bQ]at h;have ET:fr'.defers=[]:=eH.GD.none hd;simp only[ti,ET];subst h;exact⟨θ1,_,rfl,.jk vj nF,bT⟩
def IY(D:List (Nat×Option Nat×aC)):List (Nat×Option Nat×aC):=D.map fun p=>(p.1,p.2.1,p.2.2.sub)
theorem GF{g:Nat}{b:Option Nat}{FD:aC}:∀{D:List (Nat×Option Nat×aC)},m5 g (IY D)=some (b,FD)->∃F0,m5 g D=some (b,F0)/\FD=F0.sub
 |[],h=>by simp[IY,m5]at h
 |(g',b',F')::D,h=>by
  simp only[IY,List.map_cons,m5]at h⊢;cases hb:g'.beq g<;>simp only[hb,cond_true,cond_false]at h ⊢
  ·exact GF (D:=D) h
  ·simp only[bQ,sY]at h;obtain⟨rfl,rfl⟩:=h;exact⟨F',rfl,rfl⟩
def okD(D:List (Nat×Option Nat×aC)):Bool:=D.all fun p=>nj p.2.2
theorem Jw{g:Nat}{b:Option Nat}{F:aC}:∀{D:List (Nat×Option Nat×aC)},okD D=true->m5 g D=some (b,F)->nj F=true
 |[],_,h=>by simp[m5]at h
 |(g',b',F')::D,ho,h=>by
  simp only[okD,List.all_cons,rC]at ho;simp only[m5]at h;cases hb:g'.beq g<;>simp only[hb,cond_true,cond_false]at h
  ·exact Jw (D:=D) ho.2 h
  ·cases h;exact ho.1
theorem Tf(cm:Af T call)(n:Nat){F:aC}(ez:nj F=true){args:List EV}{m:Mem}{fin:Fin}(h:dv call n F.sub args m=some fin){θ:de}{m':Mem}{aK:List EV}(hg:je θ m m')(ha:et θ args aK):wE θ m m' fin (Er T F aK m'):=by
 unfold dv at h;simp only[aC.sub]at h;cases hb:args.length.ble F.ntmps<;>simp only[hb,cond_true,cond_false,reduceCtorEq]at h
 have hlen:aK.length<=F.ntmps:=by rw[<- ha.length];exact rI hb
 rw[Lk hlen];cases hc:aB call n F.body.sub ⟨dh args 0 .leaf,[]⟩ m with
 |none=>simp[hc]at h
 |some out=>
  have hf:Ca θ ⟨dh args 0 .leaf,[]⟩ ⟨dh aK 0 .leaf,[]⟩:=⟨wB 0 ha fun k=>by rw[show (⟨.leaf,[]⟩:Fr)=mP from rfl,tQ];exact .undef,.nil⟩;obtain⟨θ1,BM,e,hs,bT⟩:=m6 cm n F.body _ _ _ hc ez θ _ m' hf hg;rw[e];simp only[hc]at h;cases hs with
  |exit hf hg=>simp at h
  | @norm fr fr' m1 iQ eH nF=>
   cases hd:fr.defers with
   |cons d ds=>simp[hd]at h
   |nil=>
    simp only[hd]at h;have ET:fr'.defers=[]:=eH.GD.none hd;simp only[ti,ET];obtain⟨vs,hv,rfl⟩:=mH.1 h;obtain⟨vz,tE,yv⟩:=kJ nF.toMemS eH F.results vs hv;rw[tE];exact⟨θ1,_,rfl,.ret (yU yv) nF,bT⟩
  | @ret fr fr' m1 iQ eH nF=>
   cases hd:fr.defers with
   |cons d ds=>simp[hd]at h
   |nil=>
    simp only[hd]at h;have ET:fr'.defers=[]:=eH.GD.none hd;simp only[ti,ET];obtain⟨vs,hv,rfl⟩:=mH.1 h;obtain⟨vz,tE,yv⟩:=kJ nF.toMemS eH F.results vs hv;rw[tE];exact⟨θ1,_,rfl,.ret (yU yv) nF,bT⟩
  | @jk v v' fr fr' m1 iQ vj eH nF=>
   cases hd:fr.defers with
   |cons d ds=>simp[hd]at h
   |nil=>
    simp only[hd,bQ]at h;have ET:fr'.defers=[]:=eH.GD.none hd;simp only[ti,ET];subst h;exact⟨θ1,_,rfl,.jk vj nF,bT⟩
def OS(θ:de)(u u':Option EV):Prop:=match u with
 |none=>u'=none
 |some v=>∃v',u'=some v'/\SV θ v v'
theorem OS.ext{θ θ':de}(e:de.Ext θ θ'){u u':Option EV}(h:OS θ u u'):OS θ' u u':=by
 cases u with
 |none=>exact h
 |some v=>obtain⟨v',h1,h2⟩:=h;exact⟨v',h1,h2.ext e⟩
theorem OS.get{θ:de}{u u':Option EV}(h:OS θ u u'):SV θ (u.getD .aP) (u'.getD .aP):=by
 cases u with
 |none=>cases h;exact .aP
 |some v=>obtain⟨v',rfl,h2⟩:=h;exact h2
theorem OK(cm:Af T call)(n:Nat){d:Nat}{F:aC}(ez:nj F=true){args:List EV}{u u':Option EV}{m m1:Mem}(h:gK call n d F.sub args u m=some m1){θ:de}{m':Mem}{aK:List EV}(hg:je θ m m')(ha:et θ args aK)(hu:OS θ u u') :
  ∃θ1 iQ,Iq T d F aK u' m'=some iQ/\je θ1 m1 iQ/\qv θ m m' θ1 m1 iQ:=by
 unfold gK at h;simp only[aC.sub]at h;cases hb:args.length.ble F.ntmps<;>simp only[hb,cond_true,cond_false,reduceCtorEq]at h
 have hlen:aK.length<=F.ntmps:=by rw[<- ha.length];exact rI hb
 rw[Te hlen];cases hc:aB call n F.body.sub (Fr.set ⟨dh args 0 .leaf,[]⟩ d (u.getD .aP)) m with
 |none=>simp[hc]at h
 |some out=>
  have hf:Ca θ ⟨dh args 0 .leaf,[]⟩ ⟨dh aK 0 .leaf,[]⟩:=⟨wB 0 ha fun k=>by rw[show (⟨.leaf,[]⟩:Fr)=mP from rfl,tQ];exact .undef,.nil⟩;obtain⟨θ1,BM,e,hs,bT⟩:=m6 cm n F.body _ _ _ hc ez θ _ m' (hf.put hu.get (some d)) hg;have e':exec T F.body (Fr.set ⟨dh aK 0 .leaf,[]⟩ d (u'.getD .aP)) m'=some BM:=e;rw[e'];simp only[hc]at h;cases hs with
  |exit hf hg=>simp at h
  | @norm fr fr' m2 ZR eH nF=>
   cases hd:fr.defers with
   |cons d ds=>simp[hd]at h
   |nil=>
    simp only[hd]at h;have ET:fr'.defers=[]:=eH.GD.none hd;simp only[Zr,ET];obtain⟨vs,hv,rfl⟩:=mH.1 h;obtain⟨vz,tE,yv⟩:=kJ nF.toMemS eH F.results vs hv;rw[tE];exact⟨θ1,_,rfl,nF,bT⟩
  | @ret fr fr' m2 ZR eH nF=>
   cases hd:fr.defers with
   |cons d ds=>simp[hd]at h
   |nil=>
    simp only[hd]at h;have ET:fr'.defers=[]:=eH.GD.none hd;simp only[Zr,ET];obtain⟨vs,hv,rfl⟩:=mH.1 h;obtain⟨vz,tE,yv⟩:=kJ nF.toMemS eH F.results vs hv;rw[tE];exact⟨θ1,_,rfl,nF,bT⟩
  | @jk v v' fr fr' m2 ZR vj eH nF=>simp at h
theorem wE.after{θ θ1:de}{m m' m1 iQ:Mem}{fin:Fin}{o:Option Fin}(hs:qv θ m m' θ1 m1 iQ)(h:wE θ1 m1 iQ fin o):wE θ m m' fin o:=by
 obtain⟨θ2,HX,e,h1,h2⟩:=h;cases h1 with
 |ret hv hg=>exact⟨θ2,_,e,.ret hv hg,hs.trans h2⟩
 |jk hv hg=>exact⟨θ2,_,e,.jk hv hg,hs.trans h2⟩
theorem qI(cm:Af T call)(n:Nat){rs:List ns}{D:List (Nat×Option Nat×aC)}(hD:okD D=true){fr fr':Fr}:∀(ds vr:List (Nat×List EV)) (u u':Option EV) (θ:de) (m m':Mem) (fin:Fin),EL θ ds vr->OS θ u u'->je θ m m'->Ca θ fr fr'->dD call n rs (IY D) fr ds u m=some fin->wE θ m m' fin (nn T rs D fr' vr u' m')
 |[],vr,u,u',θ,m,m',fin,BY,hu,hg,hf,h=>by
  cases BY;cases u with
  |none=>
   cases hu;simp only[dD]at h;obtain⟨vs,hv,rfl⟩:=mH.1 h;obtain⟨vz,tE,yv⟩:=kJ hg.toMemS hf rs vs hv;rw[lf,tE];exact⟨θ,_,rfl,.ret (yU yv) hg,.refl _ _ _⟩
  |some v=>
   obtain⟨v',rfl,hv⟩:=hu;simp only[dD,bQ]at h;subst h;rw[Nz];exact⟨θ,_,rfl,.jk hv hg,.refl _ _ _⟩
 |(g,args)::ds,vr,u,u',θ,m,m',fin,BY,hu,hg,hf,h=>by
  cases BY with
  | @cons _ _ aK _ dds hx BY=>
  simp only[dD]at h;cases Fe:m5 g (IY D)with
  |none=>simp[Fe]at h
  |some q=>
  obtain⟨b,FD⟩:=q;obtain⟨F0,NS,rfl⟩:=GF Fe;have ez:=Jw hD NS;cases b with
  |some d=>
   simp only[Fe]at h;cases hb:gK call n d F0.sub args u m with
   |none=>simp[hb]at h
   |some m1=>
    simp only[hb]at h;obtain⟨θ1,iQ,e1,nF,ub⟩:=OK cm n ez hb hg hx hu;rw[Ny NS,e1];exact(qI cm n hD ds dds none none θ1 m1 iQ fin (BY.ext ub.ext) rfl nF (hf.ext ub.ext) h).after ub
  |none=>
   simp only[Fe]at h;cases hb:dv call n F0.sub args m with
   |none=>simp[hb]at h
   |some aiw=>
    simp only[hb]at h;obtain⟨θ1,ar3,e1,eH,ub⟩:=Tf cm n ez hb hg hx;rw[Bw NS,e1];cases eH with
    |ret hv nF=>exact(qI cm n hD ds dds u u' θ1 _ _ fin (BY.ext ub.ext) (hu.ext ub.ext) nF (hf.ext ub.ext) h).after ub
    | @jk v v' _ _ hv nF=>
     cases u with
     |some x=>cases h
     |none=>
      cases hu;exact(qI cm n hD ds dds (some v) (some v') θ1 _ _ fin (BY.ext ub.ext) ⟨v',rfl,hv⟩ nF (hf.ext ub.ext) h).after ub
theorem Tg(cm:Af T call)(n:Nat){f:Nat}{F:aC}{D:List (Nat×Option Nat×aC)}(hT:T f=some (.GC F D))(ez:nj F=true)(hD:okD D=true){args:List EV}{m:Mem}{fin:Fin}(h:lj call n F.sub (IY D) args m=some fin){θ:de}{m':Mem}{aK:List EV}(hg:je θ m m')(ha:et θ args aK):wE θ m m' fin (run T f aK m'):=by
 unfold lj at h;simp only[aC.sub]at h;cases hb:args.length.ble F.ntmps<;>simp only[hb,cond_true,cond_false,reduceCtorEq]at h
 have hlen:aK.length<=F.ntmps:=by rw[<- ha.length];exact rI hb
 rw[O8 hT hlen];cases hc:aB call n F.body.sub ⟨dh args 0 .leaf,[]⟩ m with
 |none=>simp[hc]at h
 |some out=>
  have hf:Ca θ ⟨dh args 0 .leaf,[]⟩ ⟨dh aK 0 .leaf,[]⟩:=⟨wB 0 ha fun k=>by rw[show (⟨.leaf,[]⟩:Fr)=mP from rfl,tQ];exact .undef,.nil⟩;obtain⟨θ1,BM,e,hs,bT⟩:=m6 cm n F.body _ _ _ hc ez θ _ m' hf hg;rw[e];simp only[hc]at h;cases hs with
  |exit hf hg=>simp at h
  |norm eH nF=>exact(qI cm n hD _ _ none none θ1 _ _ fin eH.GD rfl nF eH h).after bT
  |ret eH nF=>exact(qI cm n hD _ _ none none θ1 _ _ fin eH.GD rfl nF eH h).after bT
  | @jk v v' _ _ _ _ vj eH nF=>exact(qI cm n hD _ _ (some v) (some v') θ1 _ _ fin eH.GD ⟨v',rfl,vj⟩ nF eH h).after bT
def js(T:Nat->Option jm)(f:Nat):jm->Prop
 | .go F1=>∃F,T f=some (.go F)/\nj F=true/\F1=F.sub
 | .ext g=>∀θ m m' args aK v,je θ m m'->et θ args aK->g args=some v->wE θ m m' (.ret v m) (run T f aK m')
 | .pure g=>∀θ m m' args aK v,je θ m m'->et θ args aK->g args=some v->wE θ m m' (.ret v m) (run T f aK m')
 | .spec g=>∀θ m m' args aK fin,je θ m m'->et θ args aK->g args m=some fin->wE θ m m' fin (run T f aK m')
 | .GC F1 D1=>∃F D,T f=some (.GC F D)/\nj F=true/\okD D=true/\F1=F.sub/\D1=IY D
theorem zz{T1:Nat->Option jm}(h1:∀f e,T1 f=some e->js T f e):∀k,Af T (bc T1 k)
 |0=>fun f args m fin h=>by simp[bc]at h
 |k+1=>fun f args m fin h θ m' aK hg ha=>by
  simp only[bc]at h;cases he:T1 f with
  |none=>simp[he]at h
  |some e=>
   have hE:=h1 f e he;simp only[he]at h;cases e with
   |go F=>
    obtain⟨F0,hT,ez,rfl⟩:=hE;exact Ab (zz h1 k) k hT ez h hg ha
   |ext g=>
    obtain⟨v,hv,rfl⟩:=mH.1 h;exact hE θ m m' args aK v hg ha hv
   |pure g=>
    obtain⟨v,hv,rfl⟩:=mH.1 h;exact hE θ m m' args aK v hg ha hv
   |spec g=>exact hE θ m m' args aK fin hg ha h
   |GC F D=>
    obtain⟨F0,D0,hT,ez,hD,rfl,rfl⟩:=hE;exact Tg (zz h1 k) k hT ez hD h hg ha
end
end
section
def chunk(e:Nat):Nat->List EV->List (List EV)
 |0,_=>[]
 |n+1,l=>l.take e::chunk e n (l.drop e)
def oW(cap:Option Nat)(n:Nat):Bool:=match cap with
 |none=>true
 |some c=>n.ble c
mutual
def nJ(F:List EV->Option (List EV))(m:Mem):EV->Option EV
 | .slice b off n cap=>match m.get b with
  | .cells cs e _ _=>bif oW cap n then(bif (off+n*e).ble cs.length then(F ((cs.drop off).take (n*e))).map fun ys=>.fz 0 e (chunk e n ys)else none)else none
  |_=>none
 | .agg xs=>(ki F m xs).map .agg
 | .tuple xs=>(ki F m xs).map .tuple
 | .iface t v=>(nJ F m v).map (.iface t)
 | .func f x y=>match ki F m x,ki F m y with
  |some x,some y=>some (.func f x y)
  |_,_=>none
 | .fz _ e els=>some (.fz 0 e els)
 | .ptr _ _| .map _| .gu _ _ _ _=>none
 | .undef=>some .undef
 | .bool b=>some (.bool b)
 | .int k n=>some (.int k n)
 | .str s=>some (.str s)
 | .bM=>some .bM
 | .aa=>some .aa
 | .bN=>some .bN
 | .bS=>some .bS
 | .aP=>some .aP
def ki(F:List EV->Option (List EV))(m:Mem):List EV->Option (List EV)
 |[]=>some []
 |v::l=>match nJ F m v,ki F m l with
  |some v,some l=>some (v::l)
  |_,_=>none
end
def bZ:Nat->Mem->List EV->Option (List EV)
 |0,_,_=>none
 |d+1,m,l=>ki (bZ d m) m l
mutual
def closed:EV->Bool
 | .ptr _ _| .slice _ _ _ _| .map _| .gu _ _ _ _=>false
 | .func _ x y=>gZ x&&gZ y
 | .iface _ v=>closed v
 | .agg x| .tuple x=>gZ x
 |_=>true
def gZ:List EV->Bool
 |[]=>true
 |v::x=>closed v&&gZ x
end
theorem tV{e:Nat}:∀(n:Nat) (l:List EV),(chunk e n l).length=n
 |0,_=>rfl
 |n+1,l=>by simp[chunk,tV n]
theorem GL{e:Nat}:∀(n:Nat) (l:List EV),l.length=n*e->(∀el∈chunk e n l,el.length=e)/\(chunk e n l).flatten=l
 |0,l,h=>by
  rw[Nat.zero_mul]at h;have:=List.eq_nil_of_length_eq_zero h;subst this;simp[chunk]
 |n+1,l,h=>by
  rw[Nat.succ_mul]at h;obtain⟨h1,h2⟩:=GL (e:=e) n (l.drop e) (by rw[OZ];omega);refine⟨fun el xg=> ?_,?_⟩
  ·simp only[chunk,qn]at xg;rcases xg with rfl|xg
   ·rw[List.length_take];omega
   ·exact h1 el xg
  ·simp only[chunk,List.flatten_cons,h2,List.take_append_drop]
open Classical in
noncomputable def de.end_(θ:de)(m':Mem):de:=⟨fun _=>none,fun _=>none,fun c=>if ∃b,θ.jU b=some c then some (m'.get c)else θ.jq c⟩
theorem abm{θ:de}{m':Mem}{b c:Nat}(h:θ.jU b=some c):(θ.end_ m').jq c=some (m'.get c):=by
 unfold de.end_;simp only;exact if_pos ⟨b,h⟩
theorem Ia{θ:de}{m':Mem}{c:Nat}{B:bX}(h:(θ.end_ m').jq c=some B):((∃b,θ.jU b=some c)/\B=m'.get c)\/θ.jq c=some B:=by
 unfold de.end_ at h;simp only at h
 split at h
 ·rename_i hx;cases h;exact .inl ⟨hx,rfl⟩
 ·exact .inr h
theorem Py{θ:de}{m':Mem}{n n':Nat}(k:sw θ n n'):de.Ext θ.low (θ.end_ m'):=by
 refine⟨fun _ _ h=>(by simp[de.low]at h),fun _ _ h=>(by simp[de.low]at h),fun c B h=> ?_⟩
 have h':θ.jq c=some B:=h;unfold de.end_;simp only;rw[if_neg,h'];rintro⟨b,hb⟩;rw[k.off b c hb]at h';cases h'
theorem SR.low{θ:de}{e:Nat}{els:List (List EV)}{b off:Nat}(h:SR θ e els b off):SR θ.low e els b off:=by cases h with|mk hs hl hn hx=>exact .mk hs hl hn hx
section
variable {θ:de} {m m':Mem} {F:List EV->Option (List EV)}
theorem et.Hg{l':List EV}(h:et θ [] l'):l'=[]:=by cases h;rfl
theorem et.cons_inv{v:EV}{l l':List EV}(h:et θ (v::l) l'):∃v' r',l'=v'::r'/\SV θ v v'/\et θ l r':=by cases h with|cons h hs=>exact⟨_,_,rfl,h,hs⟩
theorem Gq{v:EV}{l r:List EV}(h:ki F m (v::l)=some r):∃a b,nJ F m v=some a/\ki F m l=some b/\r=a::b:=by
 simp only[ki]at h;cases h1:nJ F m v with
 |none=>simp[h1]at h
 |some a=>
  cases h2:ki F m l with
  |none=>simp[h1,h2]at h
  |some b=>simp only[h1,h2,bQ]at h;exact⟨a,b,rfl,rfl,h.symm⟩
mutual
theorem PS(hg:je θ m m')(hF:∀l r l',F l=some r->et θ l l'->et (θ.end_ m') r l'):∀{v r v':EV},nJ F m v=some r->SV θ v v'->SV (θ.end_ m') r v'
 | .undef,r,v',h,hv=>by cases hv;cases h;exact .undef
 | .bool b,r,v',h,hv=>by cases hv;cases h;exact .bool b
 | .int k n,r,v',h,hv=>by cases hv;cases h;exact .int k n
 | .str s,r,v',h,hv=>by cases hv;cases h;exact .str s
 | .bM,r,v',h,hv=>by cases hv;cases h;exact .bM
 | .aa,r,v',h,hv=>by cases hv;cases h;exact .aa
 | .bN,r,v',h,hv=>by cases hv;cases h;exact .bN
 | .bS,r,v',h,hv=>by cases hv;cases h;exact .bS
 | .aP,r,v',h,hv=>by cases hv;cases h;exact .aP
 | .ptr _ _,r,v',h,hv=>by simp[nJ]at h
 | .map _,r,v',h,hv=>by simp[nJ]at h
 | .gu _ _ _ _,r,v',h,hv=>by simp[nJ]at h
 | .fz t e els,r,v',h,hv=>by
  simp only[nJ,bQ]at h;subst h;cases hv with
  |fz hr ht hc=>exact .fz (hr.low.ext (Py hg.ok)) (.inl rfl) hc
  |AX ht=>exact .AX (.inl rfl)
 | .slice b off n cap,r,v',h,hv=>by
  cases hv with
  | @slice _ _ c _ _ _ hb=>
  simp only[nJ]at h;have hB:=hg.dW b c hb;cases hgt:m.get b with
  |dead=>simp[hgt]at h
  |map es=>simp[hgt]at h
  |cells cs e k ro=>
   rw[hgt]at hB;obtain⟨oM,uE,hs⟩:=hB;simp only[hgt]at h;cases Sr:oW cap n<;>simp only[Sr,cond_true,cond_false,reduceCtorEq]at h
   cases hl:(off+n*e).ble cs.length<;>simp only[hl,cond_true,cond_false,reduceCtorEq]at h
   have hle:=rI hl;obtain⟨ys,hy,rfl⟩:=mH.1 h;have Z5:=hF _ _ _ hy ((hs.drop off).take (n*e));have hyl:ys.length=n*e:=by rw[Z5.length,List.length_take,OZ,<- hs.length];omega
   obtain⟨q1,q2⟩:=GL n ys hyl;have bT:=abm (m':=m') hb;rw[uE]at bT;have hr:SR (θ.end_ m') e (chunk e n ys) c off:=.mk bT q1 (by rw[tV,<- hs.length];exact hle) (by rw[q2,tV];exact Z5);have:=SV.fz (t:=0) (cap:=cap) hr (.inl rfl) (fun q hq=>by subst hq;rw[tV];exact rI Sr);rw[tV]at this;exact this
 | .agg x,r,v',h,hv=>by
  simp only[nJ]at h;obtain⟨y,hy,rfl⟩:=mH.1 h;cases hv with|agg hx=>exact .agg (tP hg hF hy hx)
 | .tuple x,r,v',h,hv=>by
  simp only[nJ]at h;obtain⟨y,hy,rfl⟩:=mH.1 h;cases hv with|tuple hx=>exact .tuple (tP hg hF hy hx)
 | .iface t x,r,v',h,hv=>by
  simp only[nJ]at h;obtain⟨y,hy,rfl⟩:=mH.1 h;cases hv with|iface hx=>exact .iface (PS hg hF hy hx)
 | .func f x y,r,v',h,hv=>by
  simp only[nJ]at h;cases h1:ki F m x with
  |none=>simp[h1]at h
  |some a=>
   cases h2:ki F m y with
   |none=>simp[h1,h2]at h
   |some b=>
    simp only[h1,h2,bQ]at h;subst h;cases hv with|func hx hy=>exact .func (tP hg hF h1 hx) (tP hg hF h2 hy)
theorem tP(hg:je θ m m')(hF:∀l r l',F l=some r->et θ l l'->et (θ.end_ m') r l'):∀{l r l':List EV},ki F m l=some r->et θ l l'->et (θ.end_ m') r l'
 |[],r,l',h,hv=>by
  have:=hv.Hg;subst this;simp only[ki,bQ]at h;subst h;exact .nil
 |v::l,r,l',h,hv=>by
  obtain⟨a,b,h1,h2,rfl⟩:=Gq h;obtain⟨v',r',rfl,g1,g2⟩:=hv.cons_inv;exact .cons (PS hg hF h1 g1) (tP hg hF h2 g2)
end
theorem wj(hg:je θ m m'):∀(d:Nat) (l r l':List EV),bZ d m l=some r->et θ l l'->et (θ.end_ m') r l'
 |0,l,r,l',h,_=>by simp[bZ]at h
 |d+1,l,r,l',h,hv=>tP hg (wj hg d) h hv
mutual
theorem DV:∀{v r v':EV},nJ F m v=some r->closed v=true->SV θ v v'->SV θ.low r v'
 | .undef,r,v',h,_,hv=>by cases hv;cases h;exact .undef
 | .bool b,r,v',h,_,hv=>by cases hv;cases h;exact .bool b
 | .int k n,r,v',h,_,hv=>by cases hv;cases h;exact .int k n
 | .str s,r,v',h,_,hv=>by cases hv;cases h;exact .str s
 | .bM,r,v',h,_,hv=>by cases hv;cases h;exact .bM
 | .aa,r,v',h,_,hv=>by cases hv;cases h;exact .aa
 | .bN,r,v',h,_,hv=>by cases hv;cases h;exact .bN
 | .bS,r,v',h,_,hv=>by cases hv;cases h;exact .bS
 | .aP,r,v',h,_,hv=>by cases hv;cases h;exact .aP
 | .ptr _ _,r,v',h,_,hv=>by simp[nJ]at h
 | .map _,r,v',h,_,hv=>by simp[nJ]at h
 | .gu _ _ _ _,r,v',h,_,hv=>by simp[nJ]at h
 | .slice _ _ _ _,r,v',h,hc,hv=>by simp[closed]at hc
 | .fz t e els,r,v',h,_,hv=>by
  simp only[nJ,bQ]at h;subst h;cases hv with
  |fz hr ht hc=>exact .fz hr.low (.inl rfl) hc
  |AX ht=>exact .AX (.inl rfl)
 | .agg x,r,v',h,hc,hv=>by
  simp only[nJ]at h;obtain⟨y,hy,rfl⟩:=mH.1 h;cases hv with|agg hx=>exact .agg (nH hy (by simpa only[closed]using hc) hx)
 | .tuple x,r,v',h,hc,hv=>by
  simp only[nJ]at h;obtain⟨y,hy,rfl⟩:=mH.1 h;cases hv with|tuple hx=>exact .tuple (nH hy (by simpa only[closed]using hc) hx)
 | .iface t x,r,v',h,hc,hv=>by
  simp only[nJ]at h;obtain⟨y,hy,rfl⟩:=mH.1 h;cases hv with|iface hx=>exact .iface (DV hy (by simpa only[closed]using hc) hx)
 | .func f x y,r,v',h,hc,hv=>by
  simp only[nJ]at h;simp only[closed,rC]at hc;cases h1:ki F m x with
  |none=>simp[h1]at h
  |some a=>
   cases h2:ki F m y with
   |none=>simp[h1,h2]at h
   |some b=>
    simp only[h1,h2,bQ]at h;subst h;cases hv with|func hx hy=>exact .func (nH h1 hc.1 hx) (nH h2 hc.2 hy)
theorem nH:∀{l r l':List EV},ki F m l=some r->gZ l=true->et θ l l'->et θ.low r l'
 |[],r,l',h,_,hv=>by
  have:=hv.Hg;subst this;simp only[ki,bQ]at h;subst h;exact .nil
 |v::l,r,l',h,hc,hv=>by
  simp only[gZ,rC]at hc;obtain⟨a,b,h1,h2,rfl⟩:=Gq h;obtain⟨v',r',rfl,g1,g2⟩:=hv.cons_inv;exact .cons (DV h1 hc.1 g1) (nH h2 hc.2 g2)
end
def jj:Nat->List EV->List EV
 |_,[]=>[]
 |i,v::r=>(match v with| .fz _ e els=>.fz i e els|v=>v)::jj (i+1) r
def Ud(l:List EV)(t:Nat):Option (Nat×Nat×Option Nat):=match l[t- 1]? with
 |some (.slice b off _ cap)=>some (b,off,cap)
 |_=>none
theorem Ci{S:Nat->Option bX}{tg:Nat->Option (Nat×Nat×Option Nat)}:∀(l l':List EV) (i:Nat),(∀j b off n cap,l'[j]?=some (.slice b off n cap)->tg (i+j)=some (b,off,cap))->et ⟨fun _=>none,fun _=>none,S⟩ l l'->et ⟨fun _=>none,tg,S⟩ (jj i l) l'
 |[],l',i,_,h=>by have:=h.Hg;subst this;exact .nil
 |v::l,l',i,ht,h=>by
  obtain⟨v',r',rfl,g1,g2⟩:=h.cons_inv;have e:de.Ext ⟨fun _=>none,fun _=>none,S⟩ ⟨fun _=>none,tg,S⟩:=⟨fun _ _ h=>by simp at h,fun _ _ h=>by simp at h,fun _ _ h=>h⟩;refine .cons ?_ (Ci l r' (i+1) (fun j b off n cap hj=>by have:=ht (j+1) b off n cap (by simpa using hj);rw[show i+1+j=i+(j+1)by omega];exact this) g2)
  have cU:SV ⟨fun _=>none,tg,S⟩ v v':=g1.ext e;cases v<;>try exact cU
  cases g1 with
  |fz hr _ hc=>exact .fz (hr.ext e) (.inr (by have:=ht 0 _ _ _ _ rfl;exact this)) hc
  |AX _=>exact .AX (.inr (by have:=ht 0 _ _ _ _ rfl;exact this))
theorem CV(l:List EV):∀j b off n cap,l[j]?=some (.slice b off n cap)->Ud l (1+j)=some (b,off,cap):=by
 intro j b off n cap h;unfold Ud;rw[show 1+j- 1=j by omega,h]
end
def fT:Mem:=⟨0,.leaf⟩
theorem RV(b:Nat):fT.get b=.dead:=JP 0 b
def deep:Nat:=8
def mN(g:List EV->Option EV)(args:List EV)(m:Mem):Option Fin:=match bZ deep m args with
 |some fw=>match g (jj 1 fw)with
  |some V=>bif Flat V then some (.ret V m)else none
  |none=>none
 |none=>none
def lR(g:List EV->Option EV)(args:List EV)(m:Mem):Option Fin:=bif gZ args then match bZ deep m args with
 |some fw=>match g (jj 1 fw)with
  |some V=>some (.ret V ⟨m.next+1,m.ja⟩)
  |none=>none
 |none=>none else none
noncomputable def qt(T:Nat->Option jm)(F:aC)(fw:List EV):Option EV:=bif fw.length.ble F.ntmps then
 match ti F (exec T F.body ⟨dh fw 0 .leaf,[]⟩ fT)with
 |some (.ret v m)=>match bZ deep m [v]with
  |some [V]=>some V
  |_=>none
 |_=>none else none
section
variable {T T1:Nat->Option jm}
theorem aby{F:aC}{fw:List EV}{fin:Fin}(hl:fw.length.ble F.ntmps=true)(h:ti F (exec T1 F.body ⟨dh fw 0 .leaf,[]⟩ fT)=some fin):∃n,dv (bc T1 n) n F fw fT=some fin:=by
 cases hc:exec T1 F.body ⟨dh fw 0 .leaf,[]⟩ fT with
 |none=>simp[hc,ti]at h
 |some o=>
  obtain⟨n,hn⟩:=cw.1 hc;refine⟨n,?_⟩
  rw[hc]at h;simp only[dv,hl,cond_true,hn];cases o<;>exact h
theorem aa9{F:aC}{fw:List EV}{fin:Fin}{n:Nat}(h:dv (bc T1 n) n F fw fT=some fin):fw.length.ble F.ntmps=true/\ti F (exec T1 F.body ⟨dh fw 0 .leaf,[]⟩ fT)=some fin:=by
 unfold dv at h;cases hl:fw.length.ble F.ntmps<;>simp only[hl,cond_true,cond_false,reduceCtorEq]at h
 refine⟨rfl,?_⟩
 cases hc:aB (bc T1 n) n F.body ⟨dh fw 0 .leaf,[]⟩ fT with
 |none=>simp[hc]at h
 |some o=>
  rw[cw.2 ⟨n,hc⟩];simp only[hc]at h;cases o<;>exact h
theorem A8{F:aC}{fw:List EV}{V:EV}(h:qt T1 F fw=some V):∃n v m,dv (bc T1 n) n F fw fT=some (.ret v m)/\bZ deep m [v]=some [V]:=by
 unfold qt at h;cases hl:fw.length.ble F.ntmps<;>simp only[hl,cond_true,cond_false,reduceCtorEq]at h
 cases hr:ti F (exec T1 F.body ⟨dh fw 0 .leaf,[]⟩ fT)with
 |none=>simp[hr]at h
 |some fin=>
  cases fin with
  |jk v m=>simp[hr]at h
  |ret v m=>
   simp only[hr]at h;obtain⟨n,hn⟩:=aby hl hr;refine⟨n,v,m,hn,?_⟩
   split at h
   ·rename_i q;cases h;exact q
   ·cases h
theorem wy{F:aC}{fw:List EV}{V v:EV}{m:Mem}{n:Nat}(h:dv (bc T1 n) n F fw fT=some (.ret v m))(hv:bZ deep m [v]=some [V]):qt T1 F fw=some V:=by
 obtain⟨h1,h2⟩:=aa9 h;unfold qt;simp only[h1,cond_true,h2,hv]
theorem pure_run(h1:∀f e,T1 f=some e->js T f e){f:Nat}{F:aC}(hT:T f=some (.go F))(ez:nj F=true){fw:List EV}{V:EV}(h:qt T1 F.sub fw=some V){tg:Nat->Option (Nat×Nat×Option Nat)}{S:Nat->Option bX}{m':Mem}{aK:List EV}
  (Si:∀b B,S b=some B->m'.get b=B/\b<m'.next) (ha:et ⟨fun _=>none,tg,S⟩ fw aK) (Ke:mc ⟨fun _=>none,tg,S⟩) :
  ∃v' m1 iQ θ,run T f aK m'=some (.ret v' iQ)/\qv ⟨fun _=>none,tg,S⟩ fT m' θ m1 iQ/\je θ m1 iQ/\SV (θ.end_ iQ) V v':=by
 obtain⟨n,v,m,hb,hf⟩:=A8 h;have hg:je ⟨fun _=>none,tg,S⟩ fT m':=⟨⟨⟨fun b c hb=>by simp at hb,fun b _=>RV b⟩,fun b B hb=>(Si b B hb).1⟩,⟨fun b c hb=>by simp at hb,fun a b c hb=>by simp at hb,fun b c hb=>by simp at hb,fun b B hb=>(Si b B hb).2⟩,Ke⟩;obtain⟨θ,HX,e,hs,bT⟩:=Ab (zz h1 n) n hT ez hb hg ha;cases hs with
 | @ret _ v' _ iQ hv nF=>
  have:=wj nF deep [v] [V] [v'] hf (.cons hv .nil);obtain⟨w,r,hw,q1,q2⟩:=this.cons_inv;cases hw;exact⟨v',m,iQ,θ,e,bT,nF,q1⟩
theorem FX(h1:∀f e,T1 f=some e->js T f e){f:Nat}{F:aC}(hT:T f=some (.go F))(ez:nj F=true){g:List EV->Option EV}(hg:∀fw V,g fw=some V->qt T1 F.sub fw=some V):js T f (.spec (mN g)):=by
 intro θ m m' args aK fin oQ ha h;unfold mN at h;cases hfz:bZ deep m args with
 |none=>simp[hfz]at h
 |some fw=>
  simp only[hfz]at h;cases hv:g (jj 1 fw)with
  |none=>simp[hv]at h
  |some V=>
   simp only[hv]at h;cases rE:Flat V<;>simp only[rE,cond_true,cond_false,reduceCtorEq,bQ]at h
   subst h;have hs:=wj oQ deep args fw aK hfz ha;obtain⟨v',m1,iQ,θ1,e,bT,nF,vj⟩:=pure_run h1 hT ez (hg _ _ hv) (m':=m') (S:=(θ.end_ m').jq) (fun b B hb=>by
    rcases Ia hb with⟨⟨x,hx⟩,rfl⟩|hb
    ·exact⟨rfl,(oQ.ok.jU x b hx).2⟩
    ·exact⟨oQ.jq b B hb,oQ.ok.jq b B hb⟩) (Ci fw aK 1 (CV aK) hs) (oQ.EU.down ⟨fun _ _ h=>(by simp[de.low]at h),fun _ _ h=>(by simp[de.low]at h),(Py oQ.ok).jq⟩)
   have:=vj.flat rE;subst this;have cU:∀c,c<m'.next->iQ.get c=m'.get c:=fun c hc=>bT.cU c hc fun b hb=>by simp at hb
   refine⟨θ,_,e,.ret (SV.of_flat rE) ⟨⟨⟨fun b c hb=> ?_,oQ.cl⟩,fun b B hb=> ?_⟩,⟨fun b c hb=>⟨(oQ.ok.jU b c hb).1,cQ (oQ.ok.jU b c hb).2 bT.n2⟩,oQ.ok.inj,oQ.ok.off,fun b B hb=>cQ (oQ.ok.jq b B hb) bT.n2⟩,oQ.EU⟩,
    ⟨.refl θ,fun _ _ h=>.inl h,fun _ _ h=>.inl h,cR _,bT.n2,fun c hc _=>cU c hc⟩⟩
   ·rw[cU c (oQ.ok.jU b c hb).2];exact oQ.dW b c hb
   ·rw[cU b (oQ.ok.jq b B hb)];exact oQ.jq b B hb
theorem FW(h1:∀f e,T1 f=some e->js T f e){f:Nat}{F:aC}(hT:T f=some (.go F))(ez:nj F=true){g:List EV->Option EV}(hg:∀fw V,g fw=some V->qt T1 F.sub fw=some V):js T f (.spec (lR g)):=by
 intro θ m m' args aK fin oQ ha h;unfold lR at h;cases sJ:gZ args<;>simp only[sJ,cond_true,cond_false,reduceCtorEq]at h
 cases hfz:bZ deep m args with
 |none=>simp[hfz]at h
 |some fw=>
  simp only[hfz]at h;cases hv:g (jj 1 fw)with
  |none=>simp[hv]at h
  |some V=>
   simp only[hv,bQ]at h;subst h;have hs:et θ.low fw aK:=nH (F:=bZ 7 m) (m:=m) hfz sJ ha;obtain⟨v',m1,iQ,θ1,e,bT,nF,vj⟩:=pure_run h1 hT ez (hg _ _ hv) (m':=m') (S:=θ.jq) (fun b B hb=>⟨oQ.jq b B hb,oQ.ok.jq b B hb⟩) (Ci fw aK 1 (CV aK) hs) (oQ.EU.down ⟨fun _ _ h=>(by simp[de.low]at h),fun _ _ h=>(by simp[de.low]at h),fun _ _ h=>h⟩);have cU:∀c,c<m'.next->iQ.get c=m'.get c:=fun c hc=>bT.cU c hc fun b hb=>by simp at hb
   let θ2:de:=⟨θ.jU,θ.tag,fun c=>if c<m'.next then θ.jq c else(θ1.end_ iQ).jq c⟩
   have s1:∀c,c<m'.next->θ2.jq c=θ.jq c:=fun c hc=>if_pos hc
   have s2:∀c,¬c<m'.next->θ2.jq c=(θ1.end_ iQ).jq c:=fun c hc=>if_neg hc
   have hbd:∀c B,(θ1.end_ iQ).jq c=some B->iQ.get c=B/\c<iQ.next:=by
    intro c B hb;rcases Ia hb with⟨⟨x,hx⟩,rfl⟩|hb
    ·exact⟨rfl,(nF.ok.jU x c hx).2⟩
    ·exact⟨nF.jq c B hb,nF.ok.jq c B hb⟩
   have aoB:de.Ext (θ1.end_ iQ) θ2:=by
    refine⟨fun _ _ h=>(by simp[de.end_]at h),fun _ _ h=>(by simp[de.end_]at h),fun c B hb=> ?_⟩
    by_cases hc:c<m'.next
    ·rw[s1 c hc];rcases Ia hb with⟨⟨x,hx⟩,rfl⟩|hb
     ·rcases bT.jU x c hx with q|⟨_,q⟩
      ·simp at q
      ·omega
     ·rcases bT.jq c B hb with q|⟨q,_⟩
      ·exact q
      ·omega
    ·rw[s2 c hc];exact hb
   have ext:de.Ext θ θ2:=⟨fun _ _ h=>h,fun _ _ h=>h,fun c B hb=>by rw[s1 c (oQ.ok.jq c B hb)];exact hb⟩;refine⟨θ2,_,e,.ret (vj.ext aoB) ⟨⟨⟨fun b c hb=> ?_,oQ.cl⟩,fun c B hb=> ?_⟩,⟨fun b c hb=>⟨Nat.lt_succ_of_lt (oQ.ok.jU b c hb).1,cQ (oQ.ok.jU b c hb).2 bT.n2⟩,oQ.ok.inj,fun b c hb=> ?_,fun c B hb=> ?_⟩,oQ.EU.ext ext⟩,
    ⟨ext,fun _ _ h=>.inl h,fun c B hb=> ?_,Nat.le_succ _,bT.n2,fun c hc _=>cU c hc⟩⟩
   ·have:=oQ.ok.jU b c hb;rw[cU c this.2];exact(oQ.dW b c hb).ext ext
   ·by_cases hc:c<m'.next
    ·rw[s1 c hc]at hb;rw[cU c hc];exact oQ.jq c B hb
    ·rw[s2 c hc]at hb;exact(hbd c B hb).1
   ·rw[s1 c (oQ.ok.jU b c hb).2];exact oQ.ok.off b c hb
   ·by_cases hc:c<m'.next
    ·exact cQ hc bT.n2
    ·rw[s2 c hc]at hb;exact(hbd c B hb).2
   ·by_cases hc:c<m'.next
    ·rw[s1 c hc]at hb;exact .inl hb
    ·exact .inr ⟨Nat.le_of_not_lt hc,Nat.lt_succ_self _⟩
end
end
section
def PT(T:Nat->Option jm)(K:Nat->Nat)(P:Nat->List EV->Option EV)(f:Nat):Option jm:=match K f with
 |0=>T f
 |1=>some (.spec (mN (P f)))
 |_=>some (.spec (lR (P f)))
noncomputable def PF(T:Nat->Option jm)(K:Nat->Nat):Nat->Nat->List EV->Option EV
 |0,_,_=>none
 |k+1,f,fw=>match T f with
  |some (.go F)=>qt (PT T K (PF T K k)) F fw
  |_=>none
noncomputable def bA(T:Nat->Option jm)(K:Nat->Nat)(f:Nat)(fw:List EV):Option EV:=Yy fun k=>PF T K k f fw
noncomputable def UT(T:Nat->Option jm)(K:Nat->Nat):Nat->Option jm:=PT T K (bA T K)
def PLe(P P':Nat->List EV->Option EV):Prop:=∀f fw V,P f fw=some V->P' f fw=some V
theorem Rm{g g':List EV->Option EV}(h:∀fw V,g fw=some V->g' fw=some V){args:List EV}{m:Mem}{r:Fin}(e:mN g args m=some r):mN g' args m=some r:=by
 unfold mN at e⊢;cases hf:bZ deep m args with
 |none=>simp[hf]at e
 |some fw=>
  simp only[hf]at e⊢;cases hv:g (jj 1 fw)with
  |none=>simp[hv]at e
  |some V=>rw[h _ _ hv];simp only[hv]at e⊢;exact e
theorem Rl{g g':List EV->Option EV}(h:∀fw V,g fw=some V->g' fw=some V){args:List EV}{m:Mem}{r:Fin}(e:lR g args m=some r):lR g' args m=some r:=by
 unfold lR at e⊢;cases hc:gZ args<;>simp only[hc,cond_true,cond_false,reduceCtorEq]at e ⊢
 cases hf:bZ deep m args with
 |none=>simp[hf]at e
 |some fw=>
  simp only[hf]at e⊢;cases hv:g (jj 1 fw)with
  |none=>simp[hv]at e
  |some V=>rw[h _ _ hv];simp only[hv]at e⊢;exact e
theorem ED{T:Nat->Option jm}{K:Nat->Nat}{P P':Nat->List EV->Option EV}(h:PLe P P'):∀n,ql (bc (PT T K P) n) (bc (PT T K P') n)
 |0=>fun f a m r e=>by simp[bc]at e
 |n+1=>fun f a m r e=>by
  simp only[bc]at e⊢;rcases hK:K f with _|_|q<;>simp only[PT,hK]at e ⊢
  ·cases hT:T f with
   |none=>simp[hT]at e
   |some x=>
    simp only[hT]at e⊢;cases x with
    |go F=>simp only[kM]at e⊢;exact qL (ED h n) (cR _) e
    |ext g=>exact e
    |pure g=>exact e
    |spec g=>exact e
    |GC F D=>simp only[kM]at e⊢;exact Ea (ED h n) (cR _) e
  ·simp only[kM]at e⊢;exact Rm (h f) e
  ·simp only[kM]at e⊢;exact Rl (h f) e
theorem Lj{T1 T2:Nat->Option jm}(h:∀n,ql (bc T1 n) (bc T2 n)){F:aC}{fw:List EV}{V:EV}(e:qt T1 F fw=some V):qt T2 F fw=some V:=by
 obtain⟨n,v,m,hb,hf⟩:=A8 e;exact wy (qL (h n) (cR _) hb) hf
theorem Qr{T:Nat->Option jm}{K:Nat->Nat}:∀k,PLe (PF T K k) (PF T K (k+1))
 |0=>fun f fw V e=>by simp[PF]at e
 |k+1=>fun f fw V e=>by
  simp only[PF]at e⊢;cases hT:T f with
  |none=>simp[hT]at e
  |some x=>
   cases x with
   |go F=>simp only[hT]at e⊢;exact Lj (ED (Qr k)) e
   |ext g=>simp[hT]at e
   |pure g=>simp[hT]at e
   |spec g=>simp[hT]at e
   |GC F D=>simp[hT]at e
theorem Qs{T:Nat->Option jm}{K:Nat->Nat}{k k':Nat}(h:k<=k'):PLe (PF T K k) (PF T K k'):=by
 induction h with
 |refl=>exact fun _ _ _ e=>e
 |step _ ih=>exact fun f fw V e=>Qr _ f fw V (ih f fw V e)
theorem ZQ{T:Nat->Option jm}{K:Nat->Nat}{f:Nat}{fw:List EV}:EE fun k=>PF T K k f fw:=fun _ _ _ h e=>Qs h f fw _ e
theorem pc{T:Nat->Option jm}{K:Nat->Nat}{f:Nat}{fw:List EV}{V:EV}:bA T K f fw=some V↔∃k,PF T K k f fw=some V:=sa ZQ
section
variable {c:Call} {ck:Nat->Call} (hm:∀k k',k<=k'->ql (ck k) (ck k')) (hc:∀f a m r,c f a m=some r->∃k,ck k f a m=some r)
include hm hc
theorem D9{fv:EV}{a:List EV}{m:Mem}{r:Fin}(e:ie c fv a m=some r):∃k,ie (ck k) fv a m=some r:=by
 cases fv<;>simp only[ie,reduceCtorEq]at e ⊢
 exact hc _ _ _ _ e
theorem tS:∀(ops:List bd) (fr:Fr) (m:Mem) (r:Out),jx c ops fr m=some r->∃k,jx (ck k) ops fr m=some r
 |[],fr,m,r,e=>⟨0,e⟩
 |o::ops,fr,m,r,e=>by
  simp only[jx]at e⊢;cases hw:bt fr o.guard with
  |none=>simp[hw]at e
  |some b=>
  cases b with
  |false=>simp only[hw]at e⊢;exact tS ops _ _ _ e
  |true=>
   simp only[hw]at e⊢;cases ho:o.op with
   |val op=>
    simp only[ho]at e⊢;cases hv:aL fr.eval op m with
    |none=>simp[hv]at e
    |some q=>obtain⟨v,m1⟩:=q;simp only[hv]at e⊢;exact tS ops _ _ _ e
   |call f args=>
    simp only[ho]at e⊢;cases hv:ie c (fr.eval f) (args.map fr.eval) m with
    |none=>simp[hv]at e
    |some q=>
     obtain⟨k1,h1⟩:=D9 hm hc hv;cases q with
     |ret v m1=>
      simp only[hv]at e;obtain⟨k2,h2⟩:=tS ops _ _ _ e;refine⟨max k1 k2,?_⟩
      rw[wX (hm k1 _ (Nat.le_max_left _ _)) h1];exact rn (hm k2 _ (Nat.le_max_right _ _)) _ _ _ _ h2
     |jk v m1=>simp only[hv]at e;exact⟨k1,by rw[h1];exact e⟩
   |panic x=>simp only[ho]at e⊢;exact⟨0,e⟩
   |defer f args=>
    simp only[ho]at e ⊢
    split at e
    ·rename_i hx
     obtain⟨k,h⟩:=tS ops _ _ _ e;exact⟨k,h⟩
    ·cases e
theorem lZ{chk:List (Nat×Nat)}{B0:Nat}:∀(ops:List bd) (i:Nat) (fr:Fr) (m:Mem) (sn:List (Nat×Mem)) (se:List Seen) (r:Out),ei c chk B0 ops i fr m sn se=some r->∃k,ei (ck k) chk B0 ops i fr m sn se=some r
 |[],i,fr,m,sn,se,r,e=>⟨0,e⟩
 |o::ops,i,fr,m,sn,se,r,e=>by
  simp only[ei]at e⊢;cases hw:bt fr o.guard with
  |none=>simp[hw]at e
  |some b=>
  cases b with
  |false=>simp only[hw]at e⊢;exact lZ ops _ _ _ _ _ _ e
  |true=>
   simp only[hw]at e⊢;cases ho:o.op with
   |val op=>
    simp only[ho]at e ⊢
    split at e
    ·cases hv:aL fr.eval op m with
     |none=>simp[hv]at e
     |some q=>obtain⟨v,m1⟩:=q;simp only[hv]at e⊢;exact lZ ops _ _ _ _ _ _ e
    ·cases hv:aL fr.eval op ⟨B0+i,m.ja⟩with
     |none=>simp[hv]at e
     |some q=>obtain⟨v,m1⟩:=q;simp only[hv]at e⊢;exact lZ ops _ _ _ _ _ _ e
    ·split at e
     ·rename_i agg x _
      cases hl:m.load agg (fr.eval x)with
      |none=>simp[hl]at e
      |some v=>
       simp only[hl]at e⊢;cases hf:Ge (fr.eval x)<;>simp only[hf,cond_true,cond_false]at e ⊢
       ·cases hk:bW chk i agg (fr.eval x) v sn<;>simp only[hk,cond_true,cond_false,reduceCtorEq]at e ⊢
        exact lZ ops _ _ _ _ _ _ e
       ·cases hk:ey chk i m.next sn<;>simp only[hk,cond_true,cond_false,reduceCtorEq]at e ⊢
        exact lZ ops _ _ _ _ _ _ e
     ·cases e
    ·rename_i h0 h1 h2
     cases hv:aL fr.eval op m with
     |none=>simp[hv]at e
     |some q=>
      obtain⟨v,m1⟩:=q;simp only[hv]at e⊢;cases hk:bq chk i m1 se<;>simp only[hk,cond_true,cond_false,reduceCtorEq]at e ⊢
      exact lZ ops _ _ _ _ _ _ e
   |call f args=>
    simp only[ho]at e⊢;cases hv:ie c (fr.eval f) (args.map fr.eval) m with
    |none=>simp[hv]at e
    |some q=>
     obtain⟨k1,h1⟩:=D9 hm hc hv;cases q with
     |ret v m1=>
      simp only[hv]at e;cases hk:bq chk i m1 se<;>simp only[hk,cond_true,cond_false,reduceCtorEq]at e
      obtain⟨k2,h2⟩:=lZ ops _ _ _ _ _ _ e;refine⟨max k1 k2,?_⟩
      rw[wX (hm k1 _ (Nat.le_max_left _ _)) h1];simp only[hk,cond_true];exact lG (hm k2 _ (Nat.le_max_right _ _)) _ _ _ _ _ _ _ h2
     |jk v m1=>simp[hv]at e
   |panic x=>simp[ho]at e
   |defer f args=>simp[ho]at e
theorem J0{n:Nat}{a:ar}(ha:∀fr m r,aB c n a fr m=some r->∃k,aB (ck k) n a fr m=some r):∀(j:Nat) (fr:Fr) (m:Mem) (r:Out),iter (aB c n a) j fr m=some r->∃k,iter (aB (ck k) n a) j fr m=some r
 |0,fr,m,r,e=>by simp[iter]at e
 |j+1,fr,m,r,e=>by
  simp only[iter]at e⊢;cases hb:aB c n a fr m with
  |none=>simp[hb]at e
  |some o=>
   obtain⟨k1,h1⟩:=ha _ _ _ hb;simp only[hb]at e;cases o with
   |norm iq m1=>
    obtain⟨k2,h2⟩:=J0 ha j iq m1 r e;refine⟨max k1 k2,?_⟩
    rw[fO (hm k1 _ (Nat.le_max_left k1 k2)) (cR _) _ _ _ _ h1];exact zf (fun fr m r e=>fO (hm k2 _ (Nat.le_max_right k1 k2)) (cR _) _ _ _ _ e) j j (cR _) _ _ _ h2
   |exit id iq m1=>exact⟨k1,by rw[h1];exact e⟩
   |ret iq m1=>exact⟨k1,by rw[h1];exact e⟩
   |jk v iq m1=>exact⟨k1,by rw[h1];exact e⟩
theorem li{n:Nat}:∀(x:ar) (fr:Fr) (m:Mem) (r:Out),aB c n x fr m=some r->∃k,aB (ck k) n x fr m=some r
 | .skip,fr,m,r,e=>⟨0,e⟩
 | .ret,fr,m,r,e=>⟨0,e⟩
 | .exit id,fr,m,r,e=>⟨0,e⟩
 | .region ops,fr,m,r,e=>by simp only[aB]at e⊢;exact tS hm hc _ _ _ _ e
 | .draw ops chk,fr,m,r,e=>by simp only[aB]at e⊢;exact lZ hm hc _ _ _ _ _ _ _ e
 | .seq a b,fr,m,r,e=>by
  simp only[aB]at e⊢;cases ha:aB c n a fr m with
  |none=>simp[ha]at e
  |some o=>
   obtain⟨k1,h1⟩:=li a _ _ _ ha;simp only[ha]at e;cases o with
   |norm iq m1=>
    obtain⟨k2,h2⟩:=li b _ _ _ e;refine⟨max k1 k2,?_⟩
    rw[fO (hm k1 _ (Nat.le_max_left k1 k2)) (cR _) _ _ _ _ h1];exact fO (hm k2 _ (Nat.le_max_right k1 k2)) (cR _) _ _ _ _ h2
   |exit id iq m1=>exact⟨k1,by rw[h1];exact e⟩
   |ret iq m1=>exact⟨k1,by rw[h1];exact e⟩
   |jk v iq m1=>exact⟨k1,by rw[h1];exact e⟩
 | .cond x a b,fr,m,r,e=>by
  simp only[aB]at e ⊢
  split at e
  ·rename_i t _
   cases t<;>simp only[cond_true,cond_false]at e ⊢
   ·exact li b _ _ _ e
   ·exact li a _ _ _ e
  ·cases e
 | .block id a,fr,m,r,e=>by
  simp only[aB]at e⊢;cases ha:aB c n a fr m with
  |none=>simp[ha]at e
  |some o=>
   obtain⟨k1,h1⟩:=li a _ _ _ ha;simp only[ha]at e;exact⟨k1,by rw[h1];exact e⟩
 | .loop a,fr,m,r,e=>by
  simp only[aB]at e⊢;exact J0 hm hc (fun fr m r=>li a fr m r) n fr m r e
theorem x8{n:Nat}{F:aC}{args:List EV}{m:Mem}{r:Fin}(e:dv c n F args m=some r):∃k,dv (ck k) n F args m=some r:=by
 unfold dv at e⊢;cases hl:args.length.ble F.ntmps<;>simp only[hl,cond_true,cond_false,reduceCtorEq]at e ⊢
 cases LM:aB c n F.body ⟨dh args 0 .leaf,[]⟩ m with
 |none=>simp[LM]at e
 |some o=>
  obtain⟨k,h⟩:=li hm hc _ _ _ _ LM;simp only[LM]at e;exact⟨k,by rw[h];exact e⟩
theorem KT{n d:Nat}{F:aC}{args:List EV}{u:Option EV}{m r:Mem}(e:gK c n d F args u m=some r):∃k,gK (ck k) n d F args u m=some r:=by
 unfold gK at e⊢;cases hl:args.length.ble F.ntmps<;>simp only[hl,cond_true,cond_false,reduceCtorEq]at e ⊢
 cases LM:aB c n F.body (Fr.set ⟨dh args 0 .leaf,[]⟩ d (u.getD .aP)) m with
 |none=>simp[LM]at e
 |some o=>
  obtain⟨k,h⟩:=li hm hc _ _ _ _ LM;simp only[LM]at e;exact⟨k,by rw[h];exact e⟩
theorem nK{n:Nat}{rs:List ns}{D:List (Nat×Option Nat×aC)}{fr:Fr}:∀(ds:List (Nat×List EV)) (u:Option EV) (m:Mem) (r:Fin),dD c n rs D fr ds u m=some r->∃k,dD (ck k) n rs D fr ds u m=some r
 |[],none,m,r,e=>⟨0,e⟩
 |[],some v,m,r,e=>⟨0,e⟩
 |(g,args)::ds,u,m,r,e=>by
  simp only[dD]at e⊢;cases hd:m5 g D with
  |none=>simp[hd]at e
  |some q=>
   obtain⟨b,F⟩:=q;cases b with
   |some d=>
    simp only[hd]at e⊢;cases hb:gK c n d F args u m with
    |none=>simp[hb]at e
    |some m1=>
     simp only[hb]at e;obtain⟨k1,h1⟩:=KT hm hc hb;obtain⟨k2,h2⟩:=nK ds none m1 r e;refine⟨max k1 k2,?_⟩
     rw[x9 (hm _ _ (Nat.le_max_left k1 k2)) (cR _) h1];exact jY (hm _ _ (Nat.le_max_right k1 k2)) (cR _) _ _ _ _ h2
   |none=>
    simp only[hd]at e⊢;cases hb:dv c n F args m with
    |none=>simp[hb]at e
    |some fin=>
     simp only[hb]at e;obtain⟨k1,h1⟩:=x8 hm hc hb;have A3:∀{u2:Option EV} {m2:Mem},(∃k,dD (ck k) n rs D fr ds u2 m2=some r)->∃k2,dv (ck k2) n F args m=some fin/\dD (ck k2) n rs D fr ds u2 m2=some r:=fun⟨k2,h2⟩=>
      ⟨max k1 k2,qL (hm _ _ (Nat.le_max_left k1 k2)) (cR _) h1,jY (hm _ _ (Nat.le_max_right k1 k2)) (cR _) _ _ _ _ h2⟩
     cases fin with
     |ret v m1=>
      obtain⟨k2,g1,g2⟩:=A3 (nK ds u m1 r e);exact⟨k2,by simp only[g1];exact g2⟩
     |jk v m1=>
      cases u with
      |none=>
       obtain⟨k2,g1,g2⟩:=A3 (nK ds (some v) m1 r e);exact⟨k2,by simp only[g1];exact g2⟩
      |some x=>cases e
theorem KU{n:Nat}{F:aC}{D:List (Nat×Option Nat×aC)}{args:List EV}{m:Mem}{r:Fin}(e:lj c n F D args m=some r):∃k,lj (ck k) n F D args m=some r:=by
 unfold lj at e⊢;cases hl:args.length.ble F.ntmps<;>simp only[hl,cond_true,cond_false,reduceCtorEq]at e ⊢
 cases LM:aB c n F.body ⟨dh args 0 .leaf,[]⟩ m with
 |none=>simp[LM]at e
 |some o=>
  obtain⟨k1,h1⟩:=li hm hc _ _ _ _ LM;simp only[LM]at e;have A3:∀{fr:Fr} {ds:List (Nat×List EV)} {u2:Option EV} {m2:Mem},(∃k,dD (ck k) n F.results D fr ds u2 m2=some r)->∃k2,aB (ck k2) n F.body ⟨dh args 0 .leaf,[]⟩ m=some o/\dD (ck k2) n F.results D fr ds u2 m2=some r:=fun⟨k2,h2⟩=>
   ⟨max k1 k2,fO (hm _ _ (Nat.le_max_left k1 k2)) (cR _) _ _ _ _ h1,jY (hm _ _ (Nat.le_max_right k1 k2)) (cR _) _ _ _ _ h2⟩
  cases o with
  |exit id fr m1=>cases e
  |norm fr m1=>
   obtain⟨k2,g1,g2⟩:=A3 (nK hm hc _ _ _ _ e);exact⟨k2,by simp only[g1];exact g2⟩
  |ret fr m1=>
   obtain⟨k2,g1,g2⟩:=A3 (nK hm hc _ _ _ _ e);exact⟨k2,by simp only[g1];exact g2⟩
  |jk v fr m1=>
   obtain⟨k2,g1,g2⟩:=A3 (nK hm hc _ _ _ _ e);exact⟨k2,by simp only[g1];exact g2⟩
end
section
variable {T:Nat->Option jm} {K:Nat->Nat}
theorem aeX(k:Nat):PLe (PF T K k) (bA T K):=fun _ _ _ e=>pc.2 ⟨k,e⟩
theorem Ye:∀(n f:Nat) (a:List EV) (m:Mem) (r:Fin),bc (UT T K) n f a m=some r->∃k,bc (PT T K (PF T K k)) n f a m=some r
 |0,f,a,m,r,e=>by simp[bc]at e
 |n+1,f,a,m,r,e=>by
  have ih:=Ye n;simp only[bc]at e⊢;rcases hK:K f with _|_|q<;>simp only[UT,PT,hK]at e ⊢
  ·cases hT:T f with
   |none=>simp[hT]at e
   |some x=>
    simp only[hT]at e⊢;cases x with
    |go F=>
     simp only[kM]at e⊢;exact x8 (c:=bc (UT T K) n) (ck:=fun k=>bc (PT T K (PF T K k)) n) (fun k k' h=>ED (Qs h) n) ih e
    |ext g=>exact⟨0,e⟩
    |pure g=>exact⟨0,e⟩
    |spec g=>exact⟨0,e⟩
    |GC F D=>
     simp only[kM]at e⊢;exact KU (c:=bc (UT T K) n) (ck:=fun k=>bc (PT T K (PF T K k)) n) (fun k k' h=>ED (Qs h) n) ih e
  ·simp only[kM]at e⊢;unfold mN at e⊢;cases hf:bZ deep m a with
   |none=>simp[hf]at e
   |some fw=>
    simp only[hf]at e⊢;cases hv:bA T K f (jj 1 fw)with
    |none=>simp[hv]at e
    |some V=>
     obtain⟨k,hk⟩:=pc.1 hv;simp only[hv]at e;exact⟨k,by simp only[hk];exact e⟩
  ·simp only[kM]at e⊢;unfold lR at e⊢;cases sJ:gZ a<;>simp only[sJ,cond_true,cond_false,reduceCtorEq]at e ⊢
   cases hf:bZ deep m a with
   |none=>simp[hf]at e
   |some fw=>
    simp only[hf]at e⊢;cases hv:bA T K f (jj 1 fw)with
    |none=>simp[hv]at e
    |some V=>
     obtain⟨k,hk⟩:=pc.1 hv;simp only[hv]at e;exact⟨k,by simp only[hk];exact e⟩
theorem Dd{f:Nat}{F:aC}(hT:T f=some (.go F)){fw:List EV}:bA T K f fw=qt (UT T K) F fw:=by
 refine dT fun V=>⟨fun h=> ?_,fun h=> ?_⟩
 ·obtain⟨k,hk⟩:=pc.1 h;cases k with
  |zero=>simp[PF]at hk
  |succ k=>
   simp only[PF,hT]at hk;exact Lj (ED (aeX k)) hk
 ·obtain⟨n,v,m,hb,hf⟩:=A8 h;obtain⟨k,hk⟩:=x8 (c:=bc (UT T K) n) (ck:=fun k=>bc (PT T K (PF T K k)) n) (fun k k' h=>ED (Qs h) n) (Ye n) hb;refine pc.2 ⟨k+1,?_⟩
  simp only[PF,hT];exact wy hk hf
theorem Yk{T0:Nat->Option jm}(hT:∀f e,T f=some e->js T0 f e){P:Nat->List EV->Option EV}(hP:∀f,K f≠0->js T0 f (.spec (mN (P f)))/\js T0 f (.spec (lR (P f)))):∀f e,PT T K P f=some e->js T0 f e:=by
 intro f e h;unfold PT at h
 split at h
 ·exact hT f e h
 ·rename_i hk;cases h;exact(hP f (by omega)).1
 ·rename_i hk _;cases h;exact(hP f (by omega)).2
theorem tq{T0:Nat->Option jm}{f:Nat}{g:List EV->Option EV}(h:∀fw,g fw=none):js T0 f (.spec (mN g))/\js T0 f (.spec (lR g)):=by
 constructor
 ·intro θ m m' args aK fin _ _ e;unfold mN at e
  split at e
  ·rw[h]at e;cases e
  ·cases e
 ·intro θ m m' args aK fin _ _ e;unfold lR at e;cases sJ:gZ args<;>simp only[sJ,cond_true,cond_false,reduceCtorEq]at e
  split at e
  ·rw[h]at e;cases e
  ·cases e
theorem OR{T0:Nat->Option jm}(hT:∀f e,T f=some e->js T0 f e):∀k f,js T0 f (.spec (mN (PF T K k f)))/\js T0 f (.spec (lR (PF T K k f)))
 |0,f=>tq fun fw=>rfl
 |k+1,f=>by
  have ih:=Yk (K:=K) hT fun f _=>OR hT k f
  cases he:T f with
  |none=>exact tq fun fw=>by simp only[PF,he]
  |some e=>
   cases e with
   |go F=>
    have hE:=hT f _ he;have hp:∀fw V,PF T K (k+1) f fw=some V->qt (PT T K (PF T K k)) F fw=some V:=fun fw V h=>by simpa only[PF,he]using h
    obtain⟨F0,h1,h2,rfl⟩:=hE;exact⟨FX ih h1 h2 hp,FW ih h1 h2 hp⟩
   |ext g=>exact tq fun fw=>by simp only[PF,he]
   |pure g=>exact tq fun fw=>by simp only[PF,he]
   |spec g=>exact tq fun fw=>by simp only[PF,he]
   |GC F D=>exact tq fun fw=>by simp only[PF,he]
theorem Rj{T0:Nat->Option jm}(hT:∀f e,T f=some e->js T0 f e)(f:Nat):js T0 f (.spec (mN (bA T K f)))/\js T0 f (.spec (lR (bA T K f))):=by
 constructor
 ·intro θ m m' args aK fin hg ha e;unfold mN at e
  split at e
  ·rename_i fw hf
   cases hv:bA T K f (jj 1 fw)with
   |none=>rw[hv]at e;cases e
   |some V=>
    obtain⟨k,hk⟩:=pc.1 hv;refine(OR (K:=K) hT k f).1 θ m m' args aK fin hg ha ?_
    unfold mN;rw[hf];simp only[hk];rw[hv]at e;exact e
  ·cases e
 ·intro θ m m' args aK fin hg ha e;unfold lR at e;cases sJ:gZ args<;>simp only[sJ,cond_true,cond_false,reduceCtorEq]at e
  split at e
  ·rename_i fw hf
   cases hv:bA T K f (jj 1 fw)with
   |none=>rw[hv]at e;cases e
   |some V=>
    obtain⟨k,hk⟩:=pc.1 hv;refine(OR (K:=K) hT k f).2 θ m m' args aK fin hg ha ?_
    unfold lR;rw[sJ,hf];simp only[hk,cond_true];rw[hv]at e;exact e
  ·cases e
theorem Yf{T0:Nat->Option jm}(hT:∀f e,T f=some e->js T0 f e):∀f e,UT T K f=some e->js T0 f e:=Yk hT fun f _=>Rj hT f
end
open Classical in
noncomputable def kK(T:Nat->Option jm)(F:aC)(args:List EV)(m:Mem):Option Fin:=if args.length<=F.ntmps then
 match ti F (exec T F.body ⟨dh args 0 .leaf,[]⟩ m)with
 |some (.ret v m1)=>if Flat v=true/\m.next<=m1.next/\∀b,b<m.next->m1.get b=m.get b then some (.ret v ⟨m1.next,m.ja⟩)else none
 |_=>none else none
theorem VK{T0 T1:Nat->Option jm}(h1:∀f e,T1 f=some e->js T0 f e){f:Nat}{F:aC}(hT:T0 f=some (.go F))(ez:nj F=true):js T0 f (.spec (kK T1 F.sub)):=by
 intro θ m m' args aK fin hg ha h;unfold kK at h
 split at h
 ·rename_i hl
  cases hr:ti F.sub (exec T1 F.sub.body ⟨dh args 0 .leaf,[]⟩ m)with
  |none=>simp[hr]at h
  |some q=>
   cases q with
   |jk v m1=>simp[hr]at h
   |ret v m1=>
    simp only[hr]at h
    split at h
    ·rename_i hc
     obtain⟨hf,hn,hk⟩:=hc;simp only[bQ]at h;subst h;have hb:∃n,dv (bc T1 n) n F.sub args m=some (.ret v m1):=by
      cases hx:exec T1 F.sub.body ⟨dh args 0 .leaf,[]⟩ m with
      |none=>simp[hx,ti]at hr
      |some o=>
       obtain⟨n,hn⟩:=cw.1 hx;refine⟨n,?_⟩
       rw[hx]at hr;simp only[dv,sx hl,cond_true,hn];cases o<;>exact hr
     obtain⟨n,hb⟩:=hb;obtain⟨θ',HX,e,hs,bT⟩:=Ab (zz h1 n) n hT ez hb hg ha;cases hs with
     | @ret _ v' _ iQ hv nF=>
      have:=hv.flat hf;subst this;have hd:∀b,m.next<=b->m.get b=.dead:=fun b hb=>by
       refine hg.cl b ?_
       cases hr:θ.jU b with
       |none=>rfl
       |some c=>have:=(hg.ok.jU b c hr).1;omega
      have oH:∀b,(⟨m1.next,m.ja⟩:Mem).get b=m.get b:=fun b=>rfl
      refine⟨θ',_,e,.ret (SV.of_flat hf) ⟨⟨⟨fun b c LN=> ?_,fun b DO=> ?_⟩,nF.jq⟩,nF.ok,nF.EU⟩,⟨bT.ext,bT.jU,bT.jq,bT.n1,bT.n2,bT.cU⟩⟩
      ·rw[oH];by_cases aH:b<m.next
       ·rw[<- hk b aH];exact nF.dW b c LN
       ·rw[hd b (by omega)];trivial
      ·rw[oH];by_cases aH:b<m.next
       ·rw[<- hk b aH];exact nF.cl b DO
       ·exact hd b (by omega)
    ·cases h
 ·cases h
end
section
structure u5 where
 dW:Nat
 off:Nat
 total:Nat
 esz:Nat
 cs:List EV
def Mf(l:List Int):List EV:=l.map (.int .u64)
def HS(b:Nat):Nat:=match tabl b with|some l=>l.length|none=>match xW b with|some _=>1|none=>0
def mM(n0:Nat)(bs:List u5):eR:=fun b=>if b<n0 then some ⟨b,0,HS b,1,true⟩else(bs[b- n0]?).map fun B=>⟨B.dW,B.off,B.total,B.esz,true⟩
def O4:List u5->Nat->Tr bX->Tr bX
 |[],_,t=>t
 |B::r,i,t=>O4 r (i+1) (t.set i (.cells B.cs B.esz 0 true))
def TS:List (Nat×List Int)->Tr bX
 |[]=>.leaf
 |(g,l)::r=>(TS r).set g (.cells (Mf l) 1 0 true)
theorem IQ{b:Nat}:∀ts:List (Nat×List Int),(TS ts).get b=(tabIn ts b).map fun l=>.cells (Mf l) 1 0 true
 |[]=>by simp only[TS,tabIn,Tr.zy,Option.map_none]
 |(g,l)::r=>by
  simp only[TS,tabIn];rw[Tr.ct];by_cases h:b=g
  ·rw[if_pos h,if_pos h];rfl
  ·rw[if_neg h,if_neg h];exact IQ r
def W2(n0:Nat):List (Nat×List (List UInt8))->Nat->Tr bX
 |[],_=>TS af4
 |(g,l)::r,j=>(W2 n0 r (j+1)).set g (.cells [.slice (n0+j) 0 l.length none] 1 0 true)
def wi:List (Nat×List (List UInt8))->Nat->Nat->Option (Nat×List (List UInt8))
 |[],_,_=>none
 |(g,l)::r,j,b=>if b=g then some (j,l)else wi r (j+1) b
theorem DQ{n0:Nat}:∀(gs:List (Nat×List (List UInt8))) (j b:Nat),(W2 n0 gs j).get b=(match wi gs j b with|some p=>some (.cells [.slice (n0+p.1) 0 p.2.length none] 1 0 true)|none=>(tabl b).map fun l=>.cells (Mf l) 1 0 true)
 |[],_,b=>by simp only[W2,wi,IQ,tabl]
 |(g,l)::r,j,b=>by
  simp only[W2,wi];rw[Tr.ct];by_cases h:b=g
  ·rw[if_pos h,if_pos h]
  ·rw[if_neg h,if_neg h];exact DQ r (j+1) b
theorem uH{b:Nat}:∀(gs:List (Nat×List (List UInt8))) (j:Nat),(wi gs j b).map (·.2)=AW gs b
 |[],_=>rfl
 |(g,l)::r,j=>by
  simp only[wi,AW];by_cases h:b=g
  ·rw[if_pos h,if_pos h];rfl
  ·rw[if_neg h,if_neg h];exact uH r (j+1)
theorem zx{b p:Nat}{l:List (List UInt8)}:∀(gs:List (Nat×List (List UInt8))) (j:Nat),wi gs j b=some (p,l)->j<=p/\gs[p- j]?=some (b,l)
 |[],_,h=>by cases h
 |(g,x)::r,j,h=>by
  simp only[wi]at h;by_cases e:b=g
  ·rw[if_pos e]at h;cases h;subst e;exact⟨cR _,by rw[Nat.sub_self];rfl⟩
  ·rw[if_neg e]at h;obtain⟨h1,h2⟩:=zx r (j+1) h;refine⟨by omega,?_⟩
   rw[show p- j=(p-(j+1))+1 by omega];exact h2
def jv(n0:Nat)(bs:List u5):Mem:=⟨n0+bs.length,O4 bs n0 (W2 n0 globs 0)⟩
theorem wI:∀(bs:List u5) (i:Nat) (t:Tr bX) (b:Nat),(O4 bs i t).get b=if i<=b/\b<i+bs.length then(bs[b- i]?).map (fun B=>.cells B.cs B.esz 0 true)else t.get b
 |[],i,t,b=>by rw[if_neg (fun h=>by have:=h.2;simp at this;omega)];rfl
 |B::bs,i,t,b=>by
  simp only[O4];rw[wI bs (i+1) _ b,Tr.ct];by_cases h:b=i
  ·subst h;rw[if_neg (by omega),if_pos rfl,if_pos (by simp)];simp
  ·by_cases h2:i+1<=b/\b<i+1+bs.length
   ·rw[if_pos h2,if_pos (by simp;omega),show b- i=(b-(i+1))+1 by omega];simp
   ·rw[if_neg h2,if_neg h,if_neg (by simp;omega)]
theorem DF{n0:Nat}{bs:List u5}{i:Nat}{B:u5}(h:bs[i]?=some B):(jv n0 bs).get (n0+i)=.cells B.cs B.esz 0 true:=by
 have aH:=(mu.1 h).1;unfold Mem.get jv;simp only;rw[wI,if_pos (by omega),show n0+i- n0=i by omega,h]
 rfl
theorem AQ{n0:Nat}{bs:List u5}{b:Nat}(h:b<n0):(jv n0 bs).get b=(match wi globs 0 b with|some p=>some (bX.cells [.slice (n0+p.1) 0 p.2.length none] 1 0 true)|none=>(tabl b).map fun l=>.cells (Mf l) 1 0 true).getD .dead:=by
 unfold Mem.get jv;simp only;rw[wI,if_neg (by omega),DQ]
theorem DE{n0:Nat}{bs:List u5}{b:Nat}(hl:(∀p∈globs,p.1<n0)/\∀g l,tabl g=some l->g<n0)(h:n0+bs.length<=b):(jv n0 bs).get b=.dead:=by
 unfold Mem.get jv;simp only;rw[wI,if_neg (by omega),DQ];cases hf:wi globs 0 b with
 |none=>
  cases ht:tabl b with
  |none=>rfl
  |some l=>have:=hl.2 _ _ ht;omega
 |some p=>
  obtain⟨p,l⟩:=p;have h2:=(zx _ _ hf).2;have:=hl.1 _ (List.mem_of_getElem? h2);omega
theorem J3{n0:Nat}{bs:List u5}{i:Nat}{B:u5}(h:bs[i]?=some B):mM n0 bs (n0+i)=some ⟨B.dW,B.off,B.total,B.esz,true⟩:=by
 unfold mM;rw[if_neg (by omega),show n0+i- n0=i by omega,h]
 rfl
theorem J2{n0:Nat}{bs:List u5}:∀b L,mM n0 bs b=some L->L.ro=true:=by
 intro b L h;unfold mM at h
 split at h
 ·cases h;rfl
 ·obtain⟨B,_,rfl⟩:=mH.1 h;rfl
def aeZ(w:World)(n0:Nat)(bs:List u5):Prop:=∀(i:Nat) (B:u5),bs[i]?=some B->∃(arr:Array Value) (e:TypeId) (fz:Nat×Nat),w.heap[B.dW]?=some (.cells arr e fz)/\arr.size=B.total/\B.off+B.cs.length<=B.total/\
 ∀(j:Nat) (v:EV),B.cs[j]?=some v->∃v',arr[B.off+j]?=some v'/\VR (mM n0 bs) v v'/\v'.oneCell'=true
def TFact(w:World)(g:Nat)(l:List Int):Prop:=xW g=none/\∃(arr:Array Value) (e:TypeId) (fz:Nat×Nat),w.heap[g]?=some (.cells arr e fz)/\arr.toList=l.map (Value.int .u64)
def Ix(w:World)(n0:Nat)(bs:List u5):Prop:=((∀p∈globs,p.1<n0)/\∀g l,tabl g=some l->g<n0)/\(∀g l,tabl g=some l->TFact w g l)/\∀(j g:Nat) (l:List (List UInt8)),globs[j]?=some (g,l)->
 (∃(arr:Array Value) (e:TypeId) (fz:Nat×Nat) (v':Value),w.heap[g]?=some (.cells arr e fz)/\arr.size=1/\arr[0]?=some v'/\VR (mM n0 bs) (.slice (n0+j) 0 l.length none) v'/\v'.oneCell'=true)/\
 ∃B,bs[j]?=some B/\B.cs=l.map .str/\B.esz=1
theorem amT{w:World}{n0:Nat}{bs:List u5}(h:aeZ w n0 bs)(hg:Ix w n0 bs):R w.heap.size (mM n0 bs) (jv n0 bs) w:=by
 have X0:∀b L,mM n0 bs b=some L->(b<n0/\L=⟨b,0,HS b,1,true⟩)\/∃i B,b=n0+i/\bs[i]?=some B:=by
  intro b L hb;unfold mM at hb
  split at hb
  ·cases hb;exact .inl ⟨‹_›,rfl⟩
  ·obtain⟨B,hB,rfl⟩:=mH.1 hb;exact .inr ⟨b- n0,B,by omega,hB⟩
 refine⟨fun b L hb=> ?_,fun b L hb=> ?_,fun b c L L' h1 _ _ _ h5=> ?_,cR _,fun b hb=>DE hg.1 hb⟩
 ·rcases X0 b L hb with⟨aH,_⟩|⟨i,B,rfl,hB⟩
  ·show b<n0+bs.length;omega
  ·have:=(mu.1 hB).1;show n0+i<n0+bs.length;omega
 ·rcases X0 b L hb with⟨aH,rfl⟩|⟨i,B,rfl,hB⟩
  ·rw[AQ aH];cases hf:wi globs 0 b with
   |none=>
    cases ht:tabl b with
    |none=>trivial
    |some l=>
     obtain⟨HJ,arr,e,fz,h1,h2⟩:=hg.2.1 b l ht;have tF:arr.size=l.length:=by rw[<- Array.length_toList,h2,List.length_map]
     have agY:HS b=l.length:=by unfold HS;rw[ht]
     refine⟨arr,e,fz,h1,by rw[agY];exact tF,rfl,rfl,by rw[agY];show 0+(Mf l).length<=l.length;simp[Mf],fun i v hv=> ?_,(fun e=>by cases e),fun _=>(Array.getElem?_eq_some_iff.1 h1).1⟩
     unfold Mf at hv;rw[List.getElem?_map]at hv;obtain⟨n,hn,rfl⟩:=mH.1 hv;refine⟨.int .u64 n,?_,.int _ _,rfl⟩
     rw[<- Array.getElem?_toList,h2,List.getElem?_map,show 0+i=i by omega,hn];rfl
   |some p=>
    obtain⟨p,l⟩:=p;have h2:=(zx _ _ hf).2;rw[Nat.sub_zero]at h2;obtain⟨⟨arr,e,fz,v',h1,h3,h4,h5,h6⟩,_⟩:=hg.2.2 p b l h2;have ht:HS b=1:=by
     have:=uH (b:=b) globs 0;rw[hf]at this;have tn:tabl b=none:=by
      cases e:tabl b with
      |none=>rfl
      |some l'=>have:=(hg.2.1 b l' e).1;unfold xW at this;simp_all
     unfold HS xW;rw[tn,<- this];rfl
    refine⟨arr,e,fz,h1,by rw[ht];exact h3,rfl,rfl,by show 0+1<=HS b;rw[ht];exact cR _,fun i v hv=> ?_,(fun e=>by cases e),fun _=>(Array.getElem?_eq_some_iff.1 h1).1⟩
    cases i with
    |zero=>simp only[List.getElem?_cons_zero,bQ]at hv;subst hv;exact⟨v',h4,h5,h6⟩
    |succ i=>simp at hv
  ·rw[DF hB];rw[J3 hB]at hb;cases hb;obtain⟨arr,e,fz,h1,h2,h3,h4⟩:=h i B hB;exact⟨arr,e,fz,h1,h2,rfl,rfl,h3,h4,(fun e=>by cases e),fun _=>(Array.getElem?_eq_some_iff.1 h1).1⟩
 ·rw[J2 b L h1]at h5;cases h5
theorem amU{n0:Nat}{bs:List u5}{G:List Nat}(h:∀g,G.contains g=true->g<n0):lx G (mM n0 bs):=fun g hg=>⟨⟨g,0,HS g,1,true⟩,by unfold mM;rw[if_pos (h g hg)],rfl,rfl,fun l hl=>by unfold HS;simp only[hl]⟩
theorem J1{n0:Nat}{bs:List u5}{i:Nat}{B:u5}(h:bs[i]?=some B){a:Addr}(hb:a.block=B.dW)(hs:a.spot=none){len cap:Nat}(hl:len<=cap)(ho:0<len->a.off=B.off):VR (mM n0 bs) (.slice (n0+i) 0 len none) (.slice (some a) len cap):=by
 obtain⟨dW,off,spot⟩:=a;cases hs;cases hb;exact .slice (J3 h) hl (fun hh=>by have:=ho hh;simpa using this) (fun e=>by cases e)
theorem law_walk{P:Program}{G:List Nat}(j9:P.follows .mixedOrders=true){T:Nat->Option jm}(hT:∀f e,T f=some e->Qt P G f e){f:Nat}{F:aC}(hf:T f=some (.go F)){n0:Nat}(hG:∀g,G.contains g=true->g<n0)
  {w:World} {bs:List u5} (hb:aeZ w n0 bs) (Ke:Ix w n0 bs) {args:List EV} {aK:Array Value} (hv:gi (mM n0 bs) args aK.toList) {b:Bool} {m':Mem} (h:run T f args (jv n0 bs)=some (.ret (.bool b) m')) :
  Calls P f aK w fun e w'=>e=.returned (.bool b)/\Go.RowKit.Below w.heap.size w w':=by
 obtain⟨k,hk⟩:=qy.1 h;exact R8 j9 hT hf hk (amT hb Ke) (amU hG) (fun b L h _=>J2 b L h) hv
end
section
open Go Go.Deep
inductive Sh where
 |int (k:IntKind)
 |bool
 |str
 |slice (e:TypeId) (esz:Nat) (s:Sh)
 |struct (l:List Sh)
inductive Dt where
 |int (n:Int)
 |bool (b:Bool)
 |str (s:List UInt8)
 |list (l:List Dt)
 |tup (l:List Dt)
mutual
inductive OQ(m:Mem):Sh->List EV->Dt->Prop
 |int {k:IntKind} {n:Int} (h:(Lit.int k n).wf=true):OQ m (.int k) [.int k n] (.int n)
 |bool (b:Bool):OQ m .bool [.bool b] (.bool b)
 |str {s:List UInt8} (h:s.length<=maxLen):OQ m .str [.str s] (.str s)
 |nil {e esz:Nat} {s:Sh}:OQ m (.slice e esz s) [.aa] (.list [])
 |empty {e esz b off:Nat} {s:Sh}:OQ m (.slice e esz s) [.slice b off 0 (some 0)] (.list [])
 |slice {e esz b:Nat} {s:Sh} {ess:List (List EV)} {ds:List Dt} (hl:ds.length<=maxLen) (hm:m.get b=.cells ess.flatten esz 0 true) (h:It m (List.replicate ds.length s) ess ds):OQ m (.slice e esz s) [.slice b 0 ds.length none] (.list ds)
 |struct {mL:List Sh} {ess:List (List EV)} {ds:List Dt} (h:It m mL ess ds):OQ m (.struct mL) ess.flatten (.tup ds)
inductive It(m:Mem):List Sh->List (List EV)->List Dt->Prop
 |nil:It m [] [] []
 |cons {s:Sh} {es:List EV} {d:Dt} {mL:List Sh} {ess:List (List EV)} {ds:List Dt} (h:OQ m s es d) (hs:It m mL ess ds):It m (s::mL) (es::ess) (d::ds)
end
section
variable {P:Program} {w:World} {H:Type} {enc:TypeId×Value->H} {base:Nat} {held:Bool} {n0:Nat}
def BOk(w:World)(ρ:eR)(B:u5):Prop:=∃(arr:Array Value) (e:TypeId) (fz:Nat×Nat),w.heap[B.dW]?=some (.cells arr e fz)/\arr.size=B.total/\B.off+B.cs.length<=B.total/\
 ∀(j:Nat) (v:EV),B.cs[j]?=some v->∃v',arr[B.off+j]?=some v'/\VR ρ v v'/\v'.oneCell'=true
def Yj(all:List u5)(s:Nat)(bs:List u5):Prop:=∀i,i<bs.length->all[s+i]?=bs[i]?
def OW(w:World)(n0:Nat)(sh:Sh)(cs:List Value):Prop:=
 ∃(k:Nat) (d:Dt),∀s,∃(es:List EV) (bs:List u5),bs.length=k/\es.length=cs.length/\∀all,Yj all s bs->
  gi (mM n0 all) es cs/\(∀c∈cs,c.oneCell'=true)/\(∀(i:Nat) (B:u5),bs[i]?=some B->BOk w (mM n0 all) B)/\OQ (jv n0 all) sh es d
def OV(w:World)(n0:Nat)(mL:List Sh)(css:List (List Value)):Prop:=
 ∃(k:Nat) (ds:List Dt),ds.length=mL.length/\∀s,∃(ess:List (List EV)) (bs:List u5),bs.length=k/\ess.flatten.length=css.flatten.length/\∀all,Yj all s bs->
  gi (mM n0 all) ess.flatten css.flatten/\(∀c∈css.flatten,c.oneCell'=true)/\(∀(i:Nat) (B:u5),bs[i]?=some B->BOk w (mM n0 all) B)/\It (jv n0 all) mL ess ds
theorem Yj.left{all bs cs:List u5}{s:Nat}(h:Yj all s (bs++cs)):Yj all s bs:=fun i hi=>by
 rw[h i (by simp;omega),rB hi]
theorem Yj.right{all bs cs:List u5}{s:Nat}(h:Yj all s (bs++cs)):Yj all (s+bs.length) cs:=fun i hi=>by
 have:=h (bs.length+i) (by simp;omega);rw[Nat.add_assoc,this,yy (by omega)];congr 1;omega
theorem OV.nil:OV w n0 [] []:=⟨0,[],rfl,fun s=>⟨[],[],rfl,rfl,fun all _=>⟨.nil,by simp,by simp,.nil⟩⟩⟩
theorem OV.cons{sh:Sh}{cs:List Value}{mL:List Sh}{css:List (List Value)}(h:OW w n0 sh cs)(hs:OV w n0 mL css):OV w n0 (sh::mL) (cs::css):=by
 obtain⟨k,d,h⟩:=h;obtain⟨k2,ds,hl,hs⟩:=hs;refine⟨k+k2,d::ds,by simp[hl],fun s=> ?_⟩
 obtain⟨es,bs,h1,h2,h3⟩:=h s;obtain⟨ess,bs2,g1,g2,g3⟩:=hs (s+k);refine⟨es::ess,bs++bs2,by simp[h1,g1],by simp[h2,g2],fun all hp=> ?_⟩
 obtain⟨a1,a2,a3,a4⟩:=h3 all hp.left;obtain⟨b1,b2,b3,b4⟩:=g3 all (by rw[<- h1];exact hp.right);refine⟨?_,?_,?_,.cons a4 b4⟩
 ·rw[List.flatten_cons,List.flatten_cons];exact a1.append b1
 ·intro c hc;rw[List.flatten_cons,Ag]at hc;rcases hc with hc|hc
  ·exact a2 c hc
  ·exact b2 c hc
 ·intro i B hB;by_cases hi:i<bs.length
  ·rw[rB hi]at hB;exact a3 i B hB
  ·rw[yy (by omega)]at hB;exact b3 _ B hB
def kD(ok:Sh->TypeId->Bool)(size:TypeId->Nat):List Sh->List Field->Nat->Nat->Bool
 |[],[],off,total=>off.beq total
 |s::mL,g::gs,off,total=>g.offset.beq off&&(ok s g.type&&kD ok size mL gs (off+size g.type) total)
 |_,_,_,_=>false
def shOk(P:Program):Nat->Sh->TypeId->Bool
 |0,_,_=>false
 |n+1,sh,t=>match sh,P.underlying t with
  | .int k,some (.int k')=>(cx k).beq (cx k')
  | .bool,some .bool=>true
  | .str,some .string=>true
  | .slice e esz s,some (.slice e')=>e.beq e'&&((P.cellsOf e).beq esz&&(Nat.ble 1 esz&&shOk P n s e))
  | .struct l,some (.struct gs)=>kD (shOk P n) P.cellsOf l gs.toList 0 (P.cellsOf t)
  |_,_=>false
theorem BB{ok:Sh->TypeId->Bool}{size:TypeId->Nat}{cs:List Value}:∀(mL:List Sh) (gs:List Field) (off:Nat),kD ok size mL gs off cs.length=true->off<=cs.length->
  cs.drop off=(gs.map fun g=>(cs.drop g.offset).take (size g.type)).flatten
 |[],[],off,h,hl=>by
  have:=bf h;subst this;simp
 |s::mL,g::gs,off,h,hl=>by
  simp only[kD,rC]at h;obtain⟨h1,h2,h3⟩:=h;have e:=bf h1;have hle:off+size g.type<=cs.length:=by
   revert h3
   generalize off+size g.type=o;clear h1 h2 e hl
   induction gs generalizing mL o with
   |nil=>intro h3;cases mL<;>simp only[kD]at h3;exact Nat.le_of_eq (bf h3);cases h3
   |cons g' gs ih=>
    intro h3;cases mL with
    |nil=>simp[kD]at h3
    |cons s' mL=>
     simp only[kD,rC]at h3;have:=ih mL _ h3.2.2;omega
  have ih:=BB mL gs (off+size g.type) h3 hle;rw[List.map_cons,List.flatten_cons,<- ih,e];rw[<- List.drop_drop,List.take_append_drop]
 |[],_::_,_,h,_=>by simp[kD]at h
 |_::_,[],_,h,_=>by simp[kD]at h
theorem BG{cs:List Value}{size:TypeId->Nat}{ok:Sh->TypeId->Bool}:∀(mL:List Sh) (gs:List Field) (off total:Nat),kD ok size mL gs off total=true->
  (∀(s:Sh) (g:Field),g∈gs->ok s g.type=true->OW w n0 s ((cs.drop g.offset).take (size g.type)))->OV w n0 mL (gs.map fun g=>(cs.drop g.offset).take (size g.type))
 |[],[],_,_,_,_=>.nil
 |s::mL,g::gs,off,total,h,hd=>by
  simp only[kD,rC]at h;rw[List.map_cons];exact .cons (hd s g (by simp) h.2.1) (BG mL gs _ total h.2.2 fun s' g' hg=>hd s' g' (by simp[hg]))
 |[],_::_,_,_,h,_=>by simp[kD]at h
 |_::_,[],_,_,h,_=>by simp[kD]at h
theorem mX{α:Type}{sz:Nat}:∀{css:List (List α)},(∀c∈css,c.length=sz)->css.flatten.length=css.length*sz
 |[],_=>by simp
 |c::css,h=>by
  rw[List.flatten_cons,w6,mX fun c hc=>h c (by simp[hc]),h c (by simp),List.length_cons,Nat.add_mul];omega
theorem DW{α:Type}{sz:Nat}:∀{css:List (List α)},(∀c∈css,c.length=sz)->∀(q p:Nat),p<sz->css.flatten[q*sz+p]?=(css[q]?).bind fun c=>c[p]?
 |[],_,q,p,_=>by simp
 |c::css,h,q,p,hp=>by
  have hc:=h c (by simp);rw[List.flatten_cons];cases q with
  |zero=>rw[Nat.zero_mul,Nat.zero_add,rB (by omega)];simp
  |succ q=>
   have ih:=DW (css:=css) (fun c hc=>h c (by simp[hc])) q p hp;rw[yy (by rw[hc,Nat.add_mul];omega),show (q+1)*sz+p- c.length=q*sz+p by rw[hc,Nat.add_mul];omega,ih];simp
theorem Cu(b o n:Nat):(⟨b,o,none⟩:Addr).add n=⟨b,o+n,none⟩:=Addr.add_lit b o n
theorem K2{a:Addr}{sz len:Nat}{s:Sh}(hd:∀i,i<len->∃oM,w.cells? base (a.add (i*sz)) sz=some oM/\OW w n0 s oM):∀(r i:Nat),i+r=len->
  ∃css:List (List Value),css.length=r/\(∀q,q<r->∃oM,css[q]?=some oM/\w.cells? base (a.add ((i+q)*sz)) sz=some oM)/\OV w n0 (List.replicate r s) css
 |0,i,_=>⟨[],rfl,fun q hq=>by omega,.nil⟩
 |r+1,i,h=>by
  obtain⟨oM,h1,h2⟩:=hd i (by omega);obtain⟨css,g1,g2,g3⟩:=K2 hd r (i+1) (by omega);refine⟨oM::css,by simp[g1],fun q hq=> ?_,.cons h2 g3⟩
  cases q with
  |zero=>exact⟨oM,rfl,h1⟩
  |succ q=>
   obtain⟨c,c1,c2⟩:=g2 q (by omega);exact⟨c,by simpa using c1,by rw[show i+(q+1)=i+1+q by omega];exact c2⟩
theorem SX{a:Addr}{e sz len cap:Nat}{s:Sh}(tF:1<=sz)(NL:len<=cap)(hcm:cap<=maxLen)(uF:cap≠0)(hd:∀i,i<cap->∃oM,w.cells? base (a.add (i*sz)) sz=some oM/\OW w n0 s oM) :
  OW w n0 (.slice e sz s) [.slice (some a) len cap]:=by
 have zu:∀i,i<cap->∀p,p<sz->∃v,w.cell? ((a.add (i*sz)).add p)=some v:=by
  intro i hi p hp;obtain⟨oM,h1,_⟩:=hd i hi;obtain⟨_,h2,h3⟩:=World.cells?_some h1;exact⟨oM[p]'(by omega),by rw[h3 p hp,jE]⟩
 obtain⟨dW,off,arr,ty,fz,rfl,tN⟩:∃dW off arr ty fz,a=⟨dW,off,none⟩/\w.heap[dW]?=some (.cells arr ty fz):=by
  obtain⟨v,hv⟩:=zu 0 (by omega) 0 (by omega);rw[Nat.zero_mul]at hv;have hv:w.cell? a=some v:=hv;obtain⟨dW,off,spot⟩:=a;unfold World.cell? at hv
  split at hv
  ·rename_i c t z hh
   cases spot with
   |none=>exact⟨dW,off,c,t,z,rfl,hh⟩
   |some x=>simp at hv
  ·cases hv
 have TF:∀n,w.cell? ⟨dW,off+n,none⟩=arr[off+n]?:=fun n=>by unfold World.cell?;simp[tN]
 obtain⟨css,g1,g2,kin,ds,BY,g3⟩:=K2 (w:=w) (n0:=n0) (base:=base) (fun i hi=>hd i (cQ hi NL)) len 0 (by omega);have sJ:∀c∈css,c.length=sz:=by
  intro c hc;obtain⟨q,hq⟩:=List.getElem?_of_mem hc;have hql:q<len:=by have:=(mu.1 hq).1;omega
  obtain⟨oM,h1,h2⟩:=g2 q hql;rw[hq]at h1;cases h1;exact(World.cells?_some h2).2.1
 have rE:css.flatten.length=len*sz:=by rw[mX sJ,g1]
 have oH:∀j v,css.flatten[j]?=some v->arr[off+j]?=some v:=by
  intro j v hj;have WD:j<len*sz:=by have:=(mu.1 hj).1;omega
  have hp:j % sz<sz:=Nat.mod_lt _ (by omega);have hq:j/sz<len:=Nat.div_lt_of_lt_mul (by rw[Nat.mul_comm];exact WD);have hj':j/sz*sz+j % sz=j:=Nat.div_add_mod' j sz;rw[<- hj',DW sJ _ _ hp]at hj;obtain⟨oM,h1,h2⟩:=g2 _ hq;rw[h1]at hj;obtain⟨_,_,h3⟩:=World.cells?_some h2;have h4:=h3 _ hp;rw[Nat.zero_add,Cu,Cu,Nat.add_assoc,hj',TF]at h4;rw[h4];exact hj
 have hle:off+len*sz<=arr.size:=by
  rcases Nat.eq_zero_or_pos (len*sz)with h0|h0
  ·obtain⟨v,hv⟩:=zu 0 (by omega) 0 (by omega);have h00:=TF 0;rw[Nat.add_zero]at h00;simp only[Cu,Nat.zero_mul,Nat.add_zero]at hv;rw[h00]at hv;have:=(Array.getElem?_eq_some_iff.1 hv).1;omega
  ·obtain⟨v,hv⟩:∃v,css.flatten[len*sz- 1]?=some v:=⟨_,jE (by omega)⟩
   have:=(Array.getElem?_eq_some_iff.1 (oH _ _ hv)).1;omega
 rw[List.length_replicate]at BY;refine⟨kin+1,.list ds,fun st=> ?_⟩
 obtain⟨ess,bs,b1,b2,b3⟩:=g3 (st+1)
 let B:u5:=⟨dW,off,arr.size,sz,ess.flatten⟩
 refine⟨[.slice (n0+st) 0 len none],B::bs,by simp[b1],rfl,fun all hp=> ?_⟩
 have hB:all[st]?=some B:=by have:=hp 0 (by simp);simpa using this
 obtain⟨c1,c2,c3,c4⟩:=b3 all (by have:=Yj.right (bs:=[B]) hp;simpa using this);refine⟨.cons (J1 hB rfl rfl NL fun _=>rfl) .nil,by simp[Value.oneCell'],fun i C hC=> ?_,?_⟩
 ·cases i with
  |succ i=>exact c3 i C (by simpa using hC)
  |zero=>
   simp at hC;subst hC;refine⟨arr,ty,fz,tN,rfl,by show off+ess.flatten.length<=arr.size;omega,fun j v hj=> ?_⟩
   obtain⟨v',h1,h2⟩:=c1.get j v hj;exact⟨v',oH j v' h1,h2,c2 v' (List.mem_of_getElem? h1)⟩
 ·have h1:=DF (n0:=n0) hB;have h2:=OQ.slice (m:=jv n0 all) (e:=e) (b:=n0+st) (s:=s) (ds:=ds) (ji (Nat.le_of_eq BY) (ji NL hcm)) h1 (by rw[BY];exact c4);rw[BY]at h2;exact h2
theorem Ig(n0:Nat):∀(K:Nat) (sh:Sh) (t:TypeId) (fuel:Nat) (cs:List Value) (x:DataW H×List MemPlace),shOk P K sh t=true->DataW.trod enc P w base (fun _=>true) held fuel t cs=some x->OW w n0 sh cs
 |0,_,_,_,_,_,h,_=>by simp[shOk]at h
 |K+1,sh,t,fuel,cs,x,h,hx=>by
  simp only[shOk]at h
  split at h
  ·rename_i k k' hu
   obtain rfl:=lW h;obtain⟨n,rfl,_,hw⟩:=DataW.trod_int hu hx;exact⟨0,.int n,fun s=>⟨[.int k n],[],rfl,rfl,fun all _=>⟨.cons (.int _ _) .nil,by simp[Value.oneCell'],by simp,.int hw⟩⟩⟩
  ·rename_i hu
   obtain⟨b,rfl,_⟩:=DataW.trod_bool hu hx;exact⟨0,.bool b,fun s=>⟨[.bool b],[],rfl,rfl,fun all _=>⟨.cons (.bool _) .nil,by simp[Value.oneCell'],by simp,.bool b⟩⟩⟩
  ·rename_i hu
   obtain⟨b,rfl,_,hm⟩:=DataW.trod_string hu hx;exact⟨0,.str b.data.toList,fun s=>⟨[.str b.data.toList],[],rfl,rfl,fun all _=>⟨.cons (.str _) .nil,by simp[Value.oneCell'],by simp,.str (by simpa using hm)⟩⟩⟩
  ·rename_i e esz s e' hu
   simp only[rC]at h;obtain⟨h1,h2,h3,h4⟩:=h;have:=bf h1;subst this;have:=bf h2;subst this;have HF:1<=P.cellsOf e:=rI h3;rcases open_slice hu hx with⟨rfl,_⟩|⟨a,len,cap,m,n,D,Pl,rfl,hb,NL,hcm,hm,_,xg⟩
   ·exact⟨0,.list [],fun s=>⟨[.aa],[],rfl,rfl,fun all _=>⟨.cons .aa .nil,by simp[Value.oneCell'],by simp,.nil⟩⟩⟩
   ·simp only[if_true]at hm;subst hm;by_cases uF:m=0
    ·subst uF;obtain rfl:len=0:=by omega
     exact⟨0,.list [],fun s=>⟨[.slice 0 0 0 (some 0)],[],rfl,rfl,fun all _=>⟨.cons .jA .nil,by simp[Value.oneCell'],by simp,.empty⟩⟩⟩
    ·exact SX HF NL hcm uF fun i hi=>by
      obtain⟨oM,h5,h6⟩:=xg i hi;exact⟨oM,h5,Ig n0 K s e n oM _ h4 h6⟩
  ·rename_i l gs hu
   obtain⟨xs,n,_,_,hlen,YD,hf⟩:=DataW.trod_struct hu hx;rw[<- hlen]at h;have hD:=BG (w:=w) (n0:=n0) (cs:=cs) l gs.toList 0 cs.length h fun s g hg ez=>by
    obtain⟨i,hi⟩:=List.getElem?_of_mem hg;have AS:gs[i]?=some g:=by simpa using hi
    have aH:i<xs.length:=by have:=(Array.getElem?_eq_some_iff.1 AS).1;omega
    have h1:=hf i g AS;rw[jE aH]at h1;exact Ig n0 K s g.type n _ _ ez h1
   have rE:=BB l gs.toList 0 h (nZ _);rw[List.drop_zero]at rE;obtain⟨k,ds,_,hs⟩:=hD;refine⟨k,.tup ds,fun s=> ?_⟩
   obtain⟨ess,bs,h1,h2,h3⟩:=hs s;rw[<- rE]at h2 h3;refine⟨ess.flatten,bs,h1,h2,fun all hp=> ?_⟩
   obtain⟨c1,c2,c3,c4⟩:=h3 all hp;exact⟨c1,c2,c3,.struct c4⟩
  ·cases h
def Tm(m:Mem)(sh:Sh)(e:EV)(d:Dt):Prop:=match sh with
 | .struct l=>∃cs,e=.agg cs/\OQ m (.struct l) cs d
 |sh=>OQ m sh [e] d
inductive tX(m:Mem):List Sh->List EV->List Dt->Prop
 |nil:tX m [] [] []
 |cons {s:Sh} {e:EV} {d:Dt} {mL:List Sh} {es:List EV} {ds:List Dt} (h:Tm m s e d) (hs:tX m mL es ds):tX m (s::mL) (e::es) (d::ds)
def DecV(w:World)(n0:Nat)(sh:Sh)(v:Value):Prop:=
 ∃(k:Nat) (d:Dt),∀s,∃(e:EV) (bs:List u5),bs.length=k/\∀all,Yj all s bs->
  VR (mM n0 all) e v/\(∀(i:Nat) (B:u5),bs[i]?=some B->BOk w (mM n0 all) B)/\Tm (jv n0 all) sh e d
def DecVs(w:World)(n0:Nat)(mL:List Sh)(vs:List Value):Prop:=
 ∃(k:Nat) (ds:List Dt),∀s,∃(es:List EV) (bs:List u5),bs.length=k/\∀all,Yj all s bs->
  gi (mM n0 all) es vs/\(∀(i:Nat) (B:u5),bs[i]?=some B->BOk w (mM n0 all) B)/\tX (jv n0 all) mL es ds
theorem DecVs.nil:DecVs w n0 [] []:=⟨0,[],fun s=>⟨[],[],rfl,fun all _=>⟨.nil,by simp,.nil⟩⟩⟩
theorem DecVs.cons{sh:Sh}{v:Value}{mL:List Sh}{vs:List Value}(h:DecV w n0 sh v)(hs:DecVs w n0 mL vs):DecVs w n0 (sh::mL) (v::vs):=by
 obtain⟨k,d,h⟩:=h;obtain⟨k2,ds,hs⟩:=hs;refine⟨k+k2,d::ds,fun s=> ?_⟩
 obtain⟨e,bs,h1,h3⟩:=h s;obtain⟨es,bs2,g1,g3⟩:=hs (s+k);refine⟨e::es,bs++bs2,by simp[h1,g1],fun all hp=> ?_⟩
 obtain⟨a1,a3,a4⟩:=h3 all hp.left;obtain⟨b1,b3,b4⟩:=g3 all (by rw[<- h1];exact hp.right);refine⟨.cons a1 b1,?_,.cons a4 b4⟩
 intro i B hB;by_cases hi:i<bs.length
 ·rw[rB hi]at hB;exact a3 i B hB
 ·rw[yy (by omega)]at hB;exact b3 _ B hB
theorem OW.one{sh:Sh}{v:Value}(hn:∀l,sh≠.struct l)(h:OW w n0 sh [v]):DecV w n0 sh v:=by
 obtain⟨k,d,h⟩:=h;refine⟨k,d,fun s=> ?_⟩
 obtain⟨es,bs,h1,h2,h3⟩:=h s;obtain⟨e,rfl⟩:∃e,es=[e]:=by
  match es,h2 with
  |[e],_=>exact⟨e,rfl⟩
 refine⟨e,bs,h1,fun all hp=> ?_⟩
 obtain⟨c1,c2,c3,c4⟩:=h3 all hp;cases c1 with
 |cons hv _=>
 refine⟨hv,c3,?_⟩
 unfold Tm;cases sh with
 |struct l=>exact absurd rfl (hn l)
 |_=>exact c4
theorem OW.agg{l:List Sh}{cs:Array Value}(h:OW w n0 (.struct l) cs.toList):DecV w n0 (.struct l) (.agg cs):=by
 obtain⟨k,d,h⟩:=h;refine⟨k,d,fun s=> ?_⟩
 obtain⟨es,bs,h1,h2,h3⟩:=h s;refine⟨.agg es,bs,h1,fun all hp=> ?_⟩
 obtain⟨c1,c2,c3,c4⟩:=h3 all hp;exact⟨.agg c1 c2,c3,es,rfl,c4⟩
theorem dec_val{K:Nat}{sh:Sh}{t:TypeId}{v:Value}{r:Go.Reach}{b0:Nat}{d:DataW H}{p:List MemPlace}(h:shOk P K sh t=true)(hval:Value.okWide P w r b0 t v)(hx:DataW.Trod enc P w base (fun _=>true) held t v d p):DecV w n0 sh v:=by
 obtain⟨fuel,hf⟩:=hx;have hD:=Ig (w:=w) n0 K sh t fuel _ _ h hf;cases K with
 |zero=>simp[shOk]at h
 |succ K=>
 simp only[shOk]at h
 split at h
 ·rename_i k k' hu
  refine OW.one (by intro l e;cases e) ?_
  simp only[Value.okWide,hu,Cell.okWide]at hval;cases v<;>simp only[Cell.ok,hu]at hval
  exact hD
 ·rename_i hu
  refine OW.one (by intro l e;cases e) ?_
  simp only[Value.okWide,hu,Cell.okWide]at hval;cases v<;>simp only[Cell.ok,hu]at hval
  exact hD
 ·rename_i hu
  refine OW.one (by intro l e;cases e) ?_
  simp only[Value.okWide,hu,Cell.okWide]at hval;cases v<;>simp only[Cell.ok,hu]at hval
  exact hD
 ·rename_i e esz s e' hu
  refine OW.one (by intro l e;cases e) ?_
  simp only[Value.okWide,hu,Cell.okWide]at hval;cases v<;>simp only[Cell.ok,hu]at hval
  exact hD
 ·rename_i l gs hu
  simp only[Value.okWide,hu]at hval;obtain⟨cs,rfl,_,_⟩:=hval;exact OW.agg hD
 ·cases h
theorem wf_i64{n:Int}(h:(Lit.int .i64 n).wf=true): -9223372036854775808<=n/\n<9223372036854775808:=by
 simp[Lit.wf,IntKind.min,IntKind.max,IntKind.signed,IntKind.bits]at h;omega
theorem tX.one{m:Mem}{s:Sh}{mL:List Sh}{es:List EV}{ds:List Dt}(h:tX m (s::mL) es ds):∃e d sX vr,es=e::sX/\ds=d::vr/\Tm m s e d/\tX m mL sX vr:=by cases h with|cons h hs=>exact⟨_,_,_,_,rfl,rfl,h,hs⟩
theorem tX.none{m:Mem}{es:List EV}{ds:List Dt}(h:tX m [] es ds):es=[]/\ds=[]:=by
 cases h;exact⟨rfl,rfl⟩
end
end
section
mutual
inductive Fz:Sh->List EV->Dt->Prop
 |int {k:IntKind} {n:Int} (h:(Lit.int k n).wf=true):Fz (.int k) [.int k n] (.int n)
 |bool (b:Bool):Fz .bool [.bool b] (.bool b)
 |str {s:List UInt8} (h:s.length<=maxLen):Fz .str [.str s] (.str s)
 |nil {e esz:Nat} {s:Sh}:Fz (.slice e esz s) [.aa] (.list [])
 |slice {e esz:Nat} {s:Sh} {els:List (List EV)} {ds:List Dt} (hl:ds.length<=maxLen) (h:Fzs (List.replicate ds.length s) els ds):Fz (.slice e esz s) [.fz 0 esz els] (.list ds)
 |struct {mL:List Sh} {els:List (List EV)} {ds:List Dt} (h:Fzs mL els ds):Fz (.struct mL) els.flatten (.tup ds)
inductive Fzs:List Sh->List (List EV)->List Dt->Prop
 |nil:Fzs [] [] []
 |cons {s:Sh} {es:List EV} {d:Dt} {mL:List Sh} {els:List (List EV)} {ds:List Dt} (h:Fz s es d) (hs:Fzs mL els ds):Fzs (s::mL) (es::els) (d::ds)
end
mutual
def C4:Sh->Nat
 | .struct l=>Cm l
 |_=>1
def Cm:List Sh->Nat
 |[]=>0
 |s::l=>C4 s+Cm l
end
mutual
def FN:Sh->Bool
 | .slice _ esz s=>(C4 s).beq esz&&FN s
 | .struct l=>ui l
 |_=>true
def ui:List Sh->Bool
 |[]=>true
 |s::l=>FN s&&ui l
end
def still(m:Mem):de:=⟨fun _=>none,fun _=>none,fun c=>if c<m.next then some (m.get c)else none⟩
section
variable {m:Mem}
mutual
theorem PR:∀{s:Sh} {es:List EV} {d:Dt},Fz s es d->es.length=C4 s
 |_,_,_,.int _=>rfl
 |_,_,_,.bool _=>rfl
 |_,_,_,.str _=>rfl
 |_,_,_,.nil=>rfl
 |_,_,_,.slice _ _=>rfl
 |_,_,_,.struct h=>by simp only[C4];exact Ks h
theorem Ks:∀{mL:List Sh} {els:List (List EV)} {ds:List Dt},Fzs mL els ds->els.flatten.length=Cm mL
 |_,_,_,.nil=>rfl
 |_,_,_,.cons h hs=>by simp only[Cm,List.flatten_cons,w6,PR h,Ks hs]
end
theorem PQ{s:Sh}:∀{n:Nat} {els:List (List EV)} {ds:List Dt},Fzs (List.replicate n s) els ds->els.length=n/\ds.length=n/\∀el∈els,el.length=C4 s
 |0,els,ds,h=>by rw[List.replicate_zero]at h;cases h;exact⟨rfl,rfl,fun el xg=>by cases xg⟩
 |n+1,els,ds,h=>by
  rw[List.replicate_succ]at h;cases h with
  |cons h hs=>
   obtain⟨h1,h2,h3⟩:=PQ hs;refine⟨by simp[h1],by simp[h2],fun el xg=> ?_⟩
   rcases qn.1 xg with rfl|xg
   ·exact PR h
   ·exact h3 el xg
theorem et.abL{θ:de}{x x':List EV}(h:et θ x x'):x'.length=x.length:=h.length.symm
mutual
theorem Aw(hm:∀b cs e t ro,m.get b=.cells cs e t ro->b<m.next):∀{s:Sh} {es:List EV} {d:Dt},OQ m s es d->FN s=true->∃us,Fz s us d/\et (still m) us es
 |_,_,_,.int h,_=>⟨_,.int h,.cons (.int _ _) .nil⟩
 |_,_,_,.bool b,_=>⟨_,.bool b,.cons (.bool _) .nil⟩
 |_,_,_,.str h,_=>⟨_,.str h,.cons (.str _) .nil⟩
 |_,_,_,.nil,_=>⟨_,.nil,.cons .aa .nil⟩
 |_,_,_,.empty (s:=s) (esz:=esz),_=>⟨[.fz 0 esz []],.slice (ds:=[]) (nZ _) .nil,.cons (.AX (.inl rfl)) .nil⟩
 |_,_,_,.slice (esz:=esz) (b:=b) (ess:=ess) (ds:=ds) (s:=s) hl hb h,hf=>by
  simp only[FN,rC]at hf;have tF:=bf hf.1;obtain⟨els,h1,h2⟩:=Hb hm h (by
   have:∀n,ui (List.replicate n s)=true:=fun n=>by
    induction n with
    |zero=>rfl
    |succ n ih=>simp only[List.replicate_succ,ui,hf.2,ih,Bool.and_self]
   exact this _)
  obtain⟨g1,g2,g3⟩:=PQ h1;have hlen:els.flatten.length=els.length*esz:=mX (fun el xg=>(g3 el xg).trans tF);have ahr:ess.flatten.length=els.length*esz:=by rw[h2.abL,hlen]
  have bT:(still m).jq b=some (.cells ess.flatten esz 0 true):=by
   show (if b<m.next then some (m.get b)else none)=_;rw[if_pos (hm _ _ _ _ _ hb),hb]
  refine⟨[.fz 0 esz els],.slice hl h1,.cons ?_ .nil⟩
  have:=SV.fz (θ:=still m) (t:=0) (cap:=none) (.mk (off:=0) bT (fun el xg=>(g3 el xg).trans tF) (by omega) (by
   rw[List.drop_zero,<- ahr,List.take_length];exact h2)) (.inl rfl) (fun c hc=>by cases hc)
  rw[g1]at this;exact this
 |_,_,_,.struct h,hf=>by
  obtain⟨els,h1,h2⟩:=Hb hm h (by simpa only[FN]using hf);exact⟨_,.struct h1,h2⟩
theorem Hb(hm:∀b cs e t ro,m.get b=.cells cs e t ro->b<m.next):∀{mL:List Sh} {ess:List (List EV)} {ds:List Dt},It m mL ess ds->ui mL=true->∃els,Fzs mL els ds/\et (still m) els.flatten ess.flatten
 |_,_,_,.nil,_=>⟨_,.nil,.nil⟩
 |_,_,_,.cons h hs,hf=>by
  simp only[ui,rC]at hf;obtain⟨us,h1,h2⟩:=Aw hm h hf.1;obtain⟨els,h3,h4⟩:=Hb hm hs hf.2;exact⟨us::els,.cons h1 h3,by rw[List.flatten_cons,List.flatten_cons];exact h2.append h4⟩
end
def FzV(sh:Sh)(v:EV)(d:Dt):Prop:=match sh with
 | .struct l=>∃cs,v=.agg cs/\Fz (.struct l) cs d
 |sh=>Fz sh [v] d
inductive Fv:List Sh->List EV->List Dt->Prop
 |nil:Fv [] [] []
 |cons {s:Sh} {v:EV} {d:Dt} {mL:List Sh} {vs:List EV} {ds:List Dt} (h:FzV s v d) (hs:Fv mL vs ds):Fv (s::mL) (v::vs) (d::ds)
theorem Fv.one{s:Sh}{mL:List Sh}{es:List EV}{ds:List Dt}(h:Fv (s::mL) es ds):∃e d sX vr,es=e::sX/\ds=d::vr/\FzV s e d/\Fv mL sX vr:=by cases h with|cons h hs=>exact⟨_,_,_,_,rfl,rfl,h,hs⟩
theorem Fv.none{es:List EV}{ds:List Dt}(h:Fv [] es ds):es=[]:=by cases h;rfl
theorem Zs(hm:∀b cs e t ro,m.get b=.cells cs e t ro->b<m.next){s:Sh}{e:EV}{d:Dt}(h:Tm m s e d)(hf:FN s=true):∃u,FzV s u d/\SV (still m) u e:=by
 have one:∀{us:List EV} {e:EV},et (still m) us [e]->∃u,us=[u]/\SV (still m) u e:=by
  intro us e h;cases h with
  |cons h hs=>cases hs;exact⟨_,rfl,h⟩
 cases s with
 |struct l=>
  obtain⟨cs,rfl,h⟩:=h;obtain⟨us,h1,h2⟩:=Aw hm h hf;exact⟨.agg us,⟨us,rfl,h1⟩,.agg h2⟩
 |int k=>obtain⟨us,h1,h2⟩:=Aw hm h hf;obtain⟨u,rfl,h3⟩:=one h2;exact⟨u,h1,h3⟩
 |bool=>obtain⟨us,h1,h2⟩:=Aw hm h hf;obtain⟨u,rfl,h3⟩:=one h2;exact⟨u,h1,h3⟩
 |str=>obtain⟨us,h1,h2⟩:=Aw hm h hf;obtain⟨u,rfl,h3⟩:=one h2;exact⟨u,h1,h3⟩
 |slice a b c=>obtain⟨us,h1,h2⟩:=Aw hm h hf;obtain⟨u,rfl,h3⟩:=one h2;exact⟨u,h1,h3⟩
theorem Jh(hm:∀b cs e t ro,m.get b=.cells cs e t ro->b<m.next):∀{mL:List Sh} {es:List EV} {ds:List Dt},tX m mL es ds->ui mL=true->∃us,Fv mL us ds/\et (still m) us es
 |_,_,_,.nil,_=>⟨[],.nil,.nil⟩
 |_,_,_,.cons h hs,hf=>by
  simp only[ui,rC]at hf;obtain⟨u,h1,h2⟩:=Zs hm h hf.1;obtain⟨us,h3,h4⟩:=Jh hm hs hf.2;exact⟨u::us,.cons h1 h3,.cons h2 h4⟩
theorem VX{T B:Nat->Option jm}{K:Nat->Nat}(hT:∀f e,B f=some e->js T f e){f:Nat}{F:aC}(hF:B f=some (.go F))(hm:∀b cs e t ro,m.get b=.cells cs e t ro->b<m.next){mL:List Sh}{es:List EV}{ds:List Dt}(h:tX m mL es ds)(hf:ui mL=true)(Ke:mc (still m)) :
  ∃us,Fv mL us ds/\(bA B K f (jj 1 us)=some (.bool true)->∃m',run T f es m=some (.ret (.bool true) m')):=by
 obtain⟨us,h1,h2⟩:=Jh hm h hf;refine⟨us,h1,fun hp=> ?_⟩
 obtain⟨F0,hE1,hE2,rfl⟩:=hT f _ hF;rw[Dd hF]at hp;obtain⟨v',m1,iQ,θ,e,_,_,hv⟩:=pure_run (Yf hT) hE1 hE2 hp (m':=m) (tg:=Ud es) (S:=(still m).jq) (fun b B hb=>by
  have sN:(if b<m.next then some (m.get b)else none)=some B:=hb;by_cases q:b<m.next
  ·rw[if_pos q]at sN;cases sN;exact⟨rfl,q⟩
  ·rw[if_neg q]at sN;cases sN) (Ci us es 1 (CV es) h2) (Ke.down ⟨fun _ _ h=>(by simp[de.low]at h),fun _ _ h=>(by simp[de.low]at h),fun _ _ h=>h⟩)
 have:=hv.flat rfl;subst this;exact⟨iQ,e⟩
end
end
end Go.Proofs.YtfbnghpabppljaaGreatDoor.Ev
