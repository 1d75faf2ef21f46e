/- EvSlice, EvRow, EvLoop, PLex, PSc, EvF0, EvF1. -/
import GoSem.Dispatch
import Derived.KernelRfl
import Derived.Test.YtfbnghpabppljaaGreatDoorChecked
import Derived.Test.YtfbnghpabppljaaGreatDoorMd
set_option linter.unusedSimpArgs false
set_option linter.unusedVariables false
set_option linter.unusedSectionVars false
set_option linter.defProp false
set_option maxRecDepth 20000
set_option maxHeartbeats 8000000
namespace Go.Proofs.YtfbnghpabppljaaGreatDoor.Ev
open Go
section
structure eI(m:Mem)(v:EV)(cs:List EV)(n esz lo:Nat):Prop where
 is:(v=.aa/\n=0/\cs=[])\/∃b cap t,v=.slice b 0 n cap/\lo<=b/\b<m.next/\m.get b=.cells cs esz t false/\(cap=none\/cap=some n)
 len:cs.length=n*esz
def iw(v:EV)(c:Nat):Prop:=∀b o n cap,v=.slice b o n cap->c≠b
theorem iw.nil{c:Nat}:iw .aa c:=fun _ _ _ _ h=>by cases h
theorem iw.of{b o n c:Nat}{cap:Option Nat}(h:c≠b):iw (.slice b o n cap) c:=fun _ _ _ _ e=>by cases e;exact h
theorem ul{m:Mem}{b n esz e t:Nat}{cs:List EV}{ro:Bool}(hb:m.get b=.cells cs e t ro)(hl:cs.length=n*esz):m.row b 0 (n*esz)=some cs:=by
 by_cases h:n*esz=0
 ·rw[h,Mem.od];rw[h]at hl;rw[List.eq_nil_of_length_eq_zero hl]
 ·rw[Mem.qz h];unfold Mem.E6;rw[hb];show (bif (0+n*esz).ble cs.length then some ((cs.drop 0).take (n*esz))else none)=_;rw[sx (by omega)];simp[<- hl]
theorem eI.source{m:Mem}{v:EV}{cs:List EV}{n esz lo:Nat}(h:eI m v cs n esz lo):m.source esz v=some (n,cs):=by
 rcases h.is with⟨rfl,rfl,rfl⟩|⟨b,cap,t,rfl,h1,h2,h3,h4⟩
 ·rfl
 ·show (m.row b 0 (n*esz)).map (fun cs=>(n,cs))=_;rw[ul h3 h.len];rfl
theorem nq{m:Mem}{v x:EV}{cs xs:List EV}{n k esz e lo:Nat}(h:eI m v cs n esz lo)(im:lo<=m.next)(hx:m.source esz x=some (k,xs))(YD:xs.length=k*esz)(hk:k≠0)(hr:n+k<=room) :
  ∃v' m',cM m e esz v x=some (v',m')/\eI m' v' (cs++xs) (n+k) esz lo/\(∀c,c<m.next->iw v c->m'.get c=m.get c)/\m'.next=m.next+1/\(∃cap,v'=.slice m.next 0 (n+k) cap):=by
 have hlen:(cs++xs).length=(n+k)*esz:=by rw[w6,h.len,YD,Nat.add_mul]
 rcases h.is with⟨rfl,rfl,rfl⟩|⟨b,cap,t,rfl,h1,h2,h3,h4⟩
 ·refine⟨.slice m.next 0 k none,m.new (.cells xs esz e false),?_,⟨.inr ⟨m.next,none,e,by rw[Nat.zero_add],im,by rw[fI];omega,by rw[cN,if_pos rfl];rfl,.inl rfl⟩,hlen⟩,fun c hc _=>by rw[cN,if_neg (by omega)],rfl,none,by rw[Nat.zero_add]⟩
  unfold cM;rw[hx];simp only[jC hk,cond_false,sx (show k<=room by omega),cond_true]
 ·have lN:=ul h3 h.len;rcases h4 with rfl|rfl
  ·refine⟨.slice m.next 0 (n+k) none,(m.new (.cells (cs++xs) esz e false)).set b .dead,?_,⟨.inr ⟨m.next,none,e,rfl,im,by rw[aj,fI];omega,by rw[af (by omega),cN,if_pos rfl],.inl rfl⟩,hlen⟩,fun c hc ho=> ?_,by rw[aj,fI],none,rfl⟩
   ·unfold cM;rw[hx];simp only[jC hk,cond_false,sx hr,cond_true,lN,h3,dN]
   ·rw[af (ho b 0 n none rfl),cN,if_neg (by omega)]
  ·refine⟨.slice m.next 0 (n+k) none,m.new (.cells (cs++xs) esz e false),?_,⟨.inr ⟨m.next,none,e,rfl,im,by rw[fI];omega,by rw[cN,if_pos rfl],.inl rfl⟩,hlen⟩,fun c hc ho=>by rw[cN,if_neg (by omega)],by rw[fI],none,rfl⟩
   have hf:(n+k).ble n=false:=by
    cases hb:(n+k).ble n with
    |false=>rfl
    |true=>have:=rI hb;omega
   unfold cM;rw[hx];simp only[jC hk,cond_false,sx hr,cond_true,lN,hf]
theorem eI.mono{m m':Mem}{v:EV}{cs:List EV}{n esz lo:Nat}(h:eI m v cs n esz lo)(hn:m.next<=m'.next)(hk:∀c,c<m.next->m'.get c=m.get c):eI m' v cs n esz lo:=by
 refine⟨?_,h.len⟩
 rcases h.is with h|⟨b,cap,t,rfl,h1,h2,h3,h4⟩
 ·exact .inl h
 ·exact .inr ⟨b,cap,t,rfl,h1,by omega,by rw[hk b h2];exact h3,h4⟩
theorem eI.ext{m:Mem}{v:EV}{cs:List EV}{n esz lo:Nat}(h:eI m v cs n esz lo)(xs:List bX):eI (ext m xs) v cs n esz lo:=h.mono (by rw[ak];exact aq) fun c hc=>ai hc
theorem kY{m:Mem}{vs:List EV}{e esz:Nat}(h:vs.length=esz):(Ev.ext m [.cells vs esz e false]).source esz (.slice (nb m.next 0) 0 1 (some 1))=some (1,vs):=by
 have hg:(Ev.ext m [.cells vs esz e false]).get (nb m.next 0)=.cells vs esz e false:=by rw[aw rfl (by simp)];rfl
 show ((Ev.ext m [.cells vs esz e false]).row (nb m.next 0) 0 (1*esz)).map (fun cs=>(1,cs))=_;rw[ul hg (by omega)];rfl
def grow(m:Mem)(v:EV)(e esz:Nat)(cs:List EV):Mem:=match v with
 | .slice b _ _ none=>(m.new (.cells cs esz e false)).set b .dead
 |_=>m.new (.cells cs esz e false)
theorem gq{m:Mem}{v:EV}{e esz:Nat}{cs:List EV}:(grow m v e esz cs).next=nb m.next 1:=by
 unfold grow;split<;>rfl
theorem oK{m:Mem}{v:EV}{e esz c:Nat}{cs:List EV}(hc:c<m.next)(ho:iw v c):(grow m v e esz cs).get c=m.get c:=by
 unfold grow
 split
 ·rename_i b o n
  rw[af (ho b o n none rfl),cN,if_neg (by omega)]
 ·rw[cN,if_neg (by omega)]
theorem iM{m:Mem}{v x:EV}{cs xs:List EV}{n k esz e lo:Nat}(h:eI m v cs n esz lo)(im:lo<=m.next)(hx:m.source esz x=some (k,xs))(YD:xs.length=k*esz)(hk:k≠0)(hr:n+k<=room) :
  cM m e esz v x=some (.slice (nb m.next 0) 0 (n+k) none,grow m v e esz (cs++xs))/\eI (grow m v e esz (cs++xs)) (.slice (nb m.next 0) 0 (n+k) none) (cs++xs) (n+k) esz lo:=by
 have hlen:(cs++xs).length=(n+k)*esz:=by rw[w6,h.len,YD,Nat.add_mul]
 have own:∀b',b'≠m.next->eI ((m.new (.cells (cs++xs) esz e false)).set b' .dead) (.slice (nb m.next 0) 0 (n+k) none) (cs++xs) (n+k) esz lo:=fun b' sN=>
  ⟨.inr ⟨m.next,none,e,rfl,im,by rw[aj,fI];omega,by rw[af (fun q=>sN q.symm),cN,if_pos rfl],.inl rfl⟩,hlen⟩
 have qW:eI (m.new (.cells (cs++xs) esz e false)) (.slice (nb m.next 0) 0 (n+k) none) (cs++xs) (n+k) esz lo:=
  ⟨.inr ⟨m.next,none,e,rfl,im,by rw[fI];omega,by rw[cN,if_pos rfl],.inl rfl⟩,hlen⟩
 rcases h.is with⟨rfl,rfl,rfl⟩|⟨b,cap,t,rfl,h1,h2,h3,h4⟩
 ·refine⟨?_,qW⟩
  unfold cM;rw[hx];simp only[jC hk,cond_false,sx (show k<=room by omega),cond_true,List.nil_append,Nat.zero_add,grow,nb,Nat.add_zero]
 ·have lN:=ul h3 h.len;rcases h4 with rfl|rfl
  ·refine⟨?_,own b (by omega)⟩
   unfold cM;rw[hx];simp only[jC hk,cond_false,sx hr,cond_true,lN,h3,dN,grow,nb,Nat.add_zero]
  ·refine⟨?_,qW⟩
   have hf:(n+k).ble n=false:=by
    cases hb:(n+k).ble n with
    |false=>rfl
    |true=>have:=rI hb;omega
   unfold cM;rw[hx];simp only[jC hk,cond_false,sx hr,cond_true,lN,hf,grow,nb,Nat.add_zero]
theorem lB{m:Mem}{b e esz:Nat}{vs:List EV}{ro:Bool}(hb:m.get b=.cells vs esz e ro)(h:vs.length=esz){cap:Option Nat}:m.source esz (.slice b 0 1 cap)=some (1,vs):=by
 show (m.row b 0 (1*esz)).map (fun cs=>(1,cs))=_;rw[ul hb (by omega)];rfl
theorem eI.lt{m:Mem}{v:EV}{cs:List EV}{n esz lo c:Nat}(h:eI m v cs n esz lo)(hc:m.next<=c\/c<lo):iw v c:=by
 rcases h.is with⟨rfl,_⟩|⟨b,cap,t,rfl,h1,h2,_⟩
 ·exact iw.nil
 ·exact iw.of (by omega)
theorem eI.eB{m m':Mem}{v:EV}{cs:List EV}{n esz lo:Nat}(h:eI m v cs n esz lo)(hn:m.next<=m'.next)(hk:∀c,c<m.next->lo<=c->¬iw v c->m'.get c=m.get c):eI m' v cs n esz lo:=by
 refine⟨?_,h.len⟩
 rcases h.is with h|⟨b,cap,t,rfl,h1,h2,h3,h4⟩
 ·exact .inl h
 ·exact .inr ⟨b,cap,t,rfl,h1,by omega,by rw[hk b h2 h1 (fun q=>q b 0 n cap rfl rfl)];exact h3,h4⟩
end
section
def row(nl:Bool)(t e:Nat)(els:List (List EV)):EV:=bif nl&&els.isEmpty then .aa else .fz t e els
theorem wM(nl:Bool)(t e:Nat)(els:List (List EV)):(row nl t e els=.aa/\els=[])\/row nl t e els=.fz t e els:=by
 unfold row;cases nl
 ·exact .inr rfl
 ·cases els with
  |nil=>exact .inl ⟨rfl,rfl⟩
  |cons a l=>exact .inr rfl
section
variable {m:Mem} {nl:Bool} {t e:Nat} {els:List (List EV)} {ρ:bm->EV}
def kA(v:EV)(m:Mem):Option R1:=match v with
 | .aa=>some (.val (.int .i64 0) m)
 | .slice _ _ n _=>some (.val (.int .i64 (n:Int)) m)
 | .fz _ _ els=>some (.val (.int .i64 (els.length:Int)) m)
 |_=>none
@[congr] theorem adN {v v' : EV} (h : v = v') : kA v m = kA v' m := by rw [h]
theorem SJ{x:bm}:aL ρ (.len x) m=kA (ρ x) m:=rfl
theorem VU:kA .aa m=some (.val (.int .i64 0) m):=rfl
theorem Nu{b off n:Nat}{c:Option Nat}:kA (.slice b off n c) m=some (.val (.int .i64 (n:Int)) m):=rfl
theorem ZU:kA (.fz t e els) m=some (.val (.int .i64 (els.length:Int)) m):=rfl
theorem VT:kA (row nl t e els) m=some (.val (.int .i64 (els.length:Int)) m):=by
 rcases wM nl t e els with⟨h,rfl⟩|h<;>rw[h]<;>rfl
def AB(o:Option Nat)(k:Nat->EV)(m:Mem):Option R1:=match o with
 |some i=>some (.val (k i) m)
 |none=>none
theorem Rx{i:Nat}{k:Nat->EV}:AB (some i) k m=some (.val (k i) m):=rfl
@[congr] theorem adr {o o' : Option Nat} {k : Nat -> EV} (h : o = o') : AB o k m = AB o' k m := by rw [h]
def xQ(e:Nat)(x i:EV)(m:Mem):Option R1:=match x with
 | .slice b off len _=>AB (idx len i) (fun j=>.ptr b (off+j*e)) m
 | .fz _ f els=>bif f.beq e then AB (idx els.length i) (fun j=>.gu f els j 0) m else none
 |_=>none
@[congr] theorem Z0 {x x' i i' : EV} (h : x = x') (h' : i = i') : xQ e x i m = xQ e x' i' m := by rw [h, h']
theorem KP{x i:bm}:aL ρ (.eZ e x i) m=xQ e (ρ x) (ρ i) m:=rfl
theorem HC{b off n:Nat}{c:Option Nat}{i:EV}:xQ e (.slice b off n c) i m=AB (idx n i) (fun j=>.ptr b (off+j*e)) m:=rfl
theorem Gg{i:EV}:xQ e (.fz t e els) i m=AB (idx els.length i) (fun j=>.gu e els j 0) m:=by simp only[xQ,Nat.beq_refl,cond_true]
theorem ND{i:EV}:xQ e (row nl t e els) i m=AB (idx els.length i) (fun j=>.gu e els j 0) m:=by
 rcases wM nl t e els with⟨h,rfl⟩|h
 ·rw[h];show none=AB (idx 0 i) _ m;have:idx 0 i=none:=by unfold idx;split<;>rfl
  rw[this];rfl
 ·rw[h];exact Gg
def ldF(agg:Option Nat)(o:Option (List EV))(k:Nat):Option EV:=match o with
 |some el=>partOf agg el k
 |none=>none
@[congr] theorem afo {agg : Option Nat} {o o' : Option (List EV)} {k : Nat} (h : o = o') : ldF agg o k = ldF agg o' k := by rw [h]
theorem VW{agg:Option Nat}{el:List EV}{k:Nat}:ldF agg (some el) k=partOf agg el k:=rfl
theorem R2{agg:Option Nat}{i k:Nat}:m.load agg (.gu e els i k)=ldF agg els[i]? k:=by
 simp only[Mem.load,ldF];cases els[i]?<;>rfl
def aoA(off:Nat)(x:EV)(m:Mem):Option R1:=match x with
 | .ptr b o=>some (.val (.ptr b (o+off)) m)
 | .gu e els i k=>some (.val (.gu e els i (k+off)) m)
 |_=>none
theorem FK:m.source e (.fz t e els)=some (els.length,els.flatten):=by simp only[Mem.source,Nat.beq_refl,cond_true]
theorem Mv:m.source e (row nl t e els)=some (els.length,els.flatten):=by
 rcases wM nl t e els with⟨h,rfl⟩|h
 ·rw[h];rfl
 ·rw[h];exact FK
theorem XY:(EV.fz t e els).cells=some [.fz t e els]:=rfl
theorem S5:(row nl t e els).cells=some [row nl t e els]:=by
 rcases wM nl t e els with⟨h,rfl⟩|h<;>rw[h]<;>rfl
theorem OA{i k:Nat}:(EV.gu e els i k).cells=some [.gu e els i k]:=rfl
theorem aiJ:ft (.bG 4) (.fz t e els) .aa=some false:=rfl
theorem aiH:ft (.bG 4) .aa (.fz t e els)=some false:=rfl
theorem aiC:ft (.bG 4) (row nl t e els) .aa=some (nl&&els.isEmpty):=by
 unfold row;cases nl&&els.isEmpty<;>rfl
def Bp(nl:Bool)(e:Nat)(els:List (List EV))(lo:Option EV)(h:Option Nat)(m:Mem):Option R1:=match h with
 |some h=>AB (aS lo 0 h) (fun l=>row nl 0 e ((els.take h).drop l)) m
 |none=>none
@[congr] theorem ab8 {lo : Option EV} {h h' : Option Nat} (q : h = h') : Bp nl e els lo h m = Bp nl e els lo h' m := by rw [q]
theorem MW{lo:Option EV}{h:Nat}:Bp nl e els lo (some h) m=AB (aS lo 0 h) (fun l=>row nl 0 e ((els.take h).drop l)) m:=rfl
theorem Fh{x:bm}{lo hi:Option bm}(hx:ρ x=row nl t e els):aL ρ (.pE e x lo hi none) m=Bp (nl&&els.isEmpty) e els (lo.map ρ) (aS (hi.map ρ) els.length els.length) m:=by
 have hf:(nl&&els.isEmpty)=false->ρ x=.fz t e els:=by
  intro h;rw[hx];unfold row;rw[h];rfl
 cases hn:nl&&els.isEmpty with
 |true=>
  obtain⟨rfl,hE⟩:=Bool.and_eq_true_iff.1 hn;have:els=[]:=List.isEmpty_iff.1 hE;subst this;have Cy:ρ x=.aa:=hx;simp only[aL,Cy,Option.map_none,ig,List.length_nil];cases h1:aS (hi.map ρ) 0 0 with
  |none=>rfl
  |some h=>
   have h0:h=0:=by
    have:=Eo h1 (cR 0);omega
   subst h0;simp only[Bp,AB];cases h2:aS (lo.map ρ) 0 0 with
   |none=>rfl
   |some l=>simp[row]
 |false=>
  simp only[aL,hf hn,Nat.beq_refl,cond_true];cases h1:aS (hi.map ρ) els.length els.length with
  |none=>rfl
  |some h=>
   simp only[Bp,AB];cases h2:aS (lo.map ρ) 0 h with
   |none=>rfl
   |some l=>simp[row]
def oc(e:Nat)(v:EV)(lo hi mx:Option EV)(m:Mem):Option R1:=match v with
  | .aa=>match aS mx 0 0,aS hi 0 0,aS lo 0 0 with
   |some _,some _,some _=>some (.val .aa m)
   |_,_,_=>none
  | .slice b off len (some c)=>jb m (cW e b off len (some c) lo hi mx)
  | .slice b off len none=>match m.get b with
   | .cells _ f _ _=>bif f.beq e then jb m (cW e b off len none lo hi mx)else none
   |_=>none
  | .fz _ f els=>match mx with
   |none=>bif f.beq e then
    match aS hi els.length els.length with
    |some h=>match aS lo 0 h with
     |some l=>some (.val (.fz 0 f ((els.take h).drop l)) m)
     |none=>none
    |none=>none
    else none
   |some _=>none
  |_=>none
@[congr] theorem ab5 {v v' : EV} {lo Dz hi AS mx Dw : Option EV} (h : v = v') (h1 : lo = Dz) (h2 : hi = AS) (h3 : mx = Dw) : oc e v lo hi mx m = oc e v' Dz AS Dw m := by rw [h, h1, h2, h3]
theorem D7{x:bm}{lo hi mx:Option bm}:aL ρ (.pE e x lo hi mx) m=oc e (ρ x) (lo.map ρ) (hi.map ρ) (mx.map ρ) m:=by
 simp only[aL,oc];cases ρ x<;>try rfl
 ·rename_i b off len cap
  cases cap
  ·simp only;cases m.get b<;>rfl
  ·rfl
 ·cases mx<;>rfl
theorem Q9{lo hi:Option EV}:oc e .aa lo hi none m=(match aS hi 0 0,aS lo 0 0 with
   |some _,some _=>some (.val .aa m)
   |_,_=>none):=by
 simp only[oc,ig];cases aS hi 0 0<;>cases aS lo 0 0<;>rfl
theorem Mz{b off len c:Nat}{lo hi mx:Option EV}:oc e (.slice b off len (some c)) lo hi mx m=jb m (cW e b off len (some c) lo hi mx):=rfl
def slB(e b off len:Nat)(lo hi mx:Option EV)(m:Mem)(B:bX):Option R1:=match B with
 | .cells _ f _ _=>bif f.beq e then jb m (cW e b off len none lo hi mx)else none
 |_=>none
@[congr] theorem afb {b off len : Nat} {lo hi mx : Option EV} {B B' : bX} (h : B = B') : slB e b off len lo hi mx m B = slB e b off len lo hi mx m B' := by rw [h]
theorem MC{b off len:Nat}{lo hi mx:Option EV}:oc e (.slice b off len none) lo hi mx m=slB e b off len lo hi mx m (m.get b):=by simp only[oc,slB]
theorem Ra{b off len t:Nat}{lo hi mx:Option EV}{cs:List EV}{ro:Bool}:slB e b off len lo hi mx m (.cells cs e t ro)=jb m (cW e b off len none lo hi mx):=by simp only[slB,Nat.beq_refl,cond_true]
theorem FL{lo hi:Option EV}:oc e (row nl t e els) lo hi none m=Bp (nl&&els.isEmpty) e els lo (aS hi els.length els.length) m:=by
 have:=Fh (m:=m) (nl:=nl) (t:=t) (e:=e) (els:=els) (ρ:=fun o=>match o with| .tmp 0=>row nl t e els| .tmp 1=>lo.getD .undef| .tmp _=>hi.getD .undef| .const x=>x) (x:=.tmp 0) (lo:=lo.map fun _=>.tmp 1) (hi:=hi.map fun _=>.tmp 2) rfl;rw[D7]at this;cases lo<;>cases hi<;>exact this
theorem Ux{lo hi:Option EV}:oc e (.fz t e els) lo hi none m=Bp false e els lo (aS hi els.length els.length) m:=by
 have:=FL (m:=m) (nl:=false) (t:=t) (e:=e) (els:=els) (lo:=lo) (hi:=hi);exact this
def fY(m:Mem)(v:EV):Option EV:=nJ (bZ 7 m) m v
def HU(m:Mem)(l:List EV):Option (List EV):=bZ deep m l
def XT(a:Option EV)(b:Option (List EV)):Option (List EV):=match a,b with
 |some a,some b=>some (a::b)
 |_,_=>none
theorem Oq{a:EV}{b:List EV}:XT (some a) (some b)=some (a::b):=rfl
theorem Xk:HU m []=some []:=rfl
theorem Sz{v:EV}{l:List EV}:HU m (v::l)=XT (fY m v) (HU m l):=by
 show ki (bZ 7 m) m (v::l)=_;simp only[ki];show _=XT (nJ (bZ 7 m) m v) (ki (bZ 7 m) m l);cases nJ (bZ 7 m) m v<;>cases ki (bZ 7 m) m l<;>rfl
theorem NT:fY m .undef=some .undef:=rfl
theorem Sy{b:Bool}:fY m (.bool b)=some (.bool b):=rfl
theorem aaZ{p:Prop}:fY m (bo p)=some (bo p):=rfl
theorem Xi{k:IntKind}{n:Int}:fY m (.int k n)=some (.int k n):=rfl
theorem Xg{s:List UInt8}:fY m (.str s)=some (.str s):=rfl
theorem sO:fY m .aa=some .aa:=rfl
theorem Kw:fY m .bM=some .bM:=rfl
theorem Fg:fY m .aP=some .aP:=rfl
theorem PU:fY m (.fz t e els)=some (.fz 0 e els):=by simp only[fY,nJ]
theorem Xh:fY m (row nl t e els)=some (row nl 0 e els):=by
 unfold row;cases nl&&els.isEmpty
 ·exact PU
 ·rfl
theorem Xj{x:List EV}:fY m (.agg x)=(HU m x).map .agg:=by simp only[fY,nJ];rfl
theorem NU{x:List EV}:fY m (.tuple x)=(HU m x).map .tuple:=by simp only[fY,nJ];rfl
mutual
def plain:EV->Bool
 | .ptr _ _| .slice _ _ _ _| .map _| .gu _ _ _ _=>false
 | .fz t _ _=>t.beq 0
 | .func _ x y=>kq x&&kq y
 | .iface _ v=>plain v
 | .agg x| .tuple x=>kq x
 |_=>true
def kq:List EV->Bool
 |[]=>true
 |v::l=>plain v&&kq l
end
mutual
theorem Gr{F:List EV->Option (List EV)}:∀{v:EV},plain v=true->nJ F m v=some v
 | .undef,_| .bool _,_| .int _ _,_| .str _,_| .bM,_| .aa,_| .bN,_| .bS,_| .aP,_=>by simp only[nJ]
 | .ptr _ _,h| .slice _ _ _ _,h| .map _,h| .gu _ _ _ _,h=>by simp[plain]at h
 | .fz t e els,h=>by simp only[plain]at h;rw[bf h];simp only[nJ]
 | .func f x y,h=>by
  simp only[plain,rC]at h;simp only[nJ,lX h.1,lX h.2]
 | .iface t v,h=>by simp only[nJ,Gr (v:=v) (by simpa only[plain]using h),Option.map_some]
 | .agg x,h=>by simp only[nJ,lX (l:=x) (by simpa only[plain]using h),Option.map_some]
 | .tuple x,h=>by simp only[nJ,lX (l:=x) (by simpa only[plain]using h),Option.map_some]
theorem lX{F:List EV->Option (List EV)}:∀{l:List EV},kq l=true->ki F m l=some l
 |[],_=>rfl
 |v::l,h=>by
  simp only[kq,rC]at h;simp only[ki,Gr h.1,lX h.2]
end
theorem xr:∀{a b:List EV},kq (a++b)=(kq a&&kq b)
 |[],b=>by simp[kq]
 |v::a,b=>by simp only[List.cons_append,kq,xr (a:=a),Bool.and_assoc]
theorem oe:∀{els:List (List EV)},(∀el∈els,kq el=true)->kq els.flatten=true
 |[],_=>rfl
 |el::els,h=>by rw[List.flatten_cons,xr,h el (by simp),oe fun x hx=>h x (by simp[hx])];rfl
theorem m8:∀{els:List (List EV)},(∀el∈els,el.length=e)->chunk e els.length els.flatten=els
 |[],_=>rfl
 |el::els,h=>by
  have he:=h el (by simp);rw[List.length_cons,List.flatten_cons,chunk,List.take_append_of_le_length (by omega),List.drop_append_of_le_length (by omega),<- he,List.take_length,List.drop_length,List.nil_append,he,m8 fun x hx=>h x (by simp[hx])]
theorem fo{b ty:Nat}{cap:Option Nat}{ro:Bool}(hb:m.get b=.cells els.flatten e ty ro)(hl:∀el∈els,el.length=e)(hp:∀el∈els,kq el=true)(hc:oW cap els.length=true):fY m (.slice b 0 els.length cap)=some (.fz 0 e els):=by
 have hlen:els.flatten.length=els.length*e:=mX hl;simp only[fY,nJ,hb,hc,cond_true,sx (show 0+els.length*e<=els.flatten.length by omega),List.drop_zero];rw[<- hlen,List.take_length];show (ki (bZ 6 m) m els.flatten).map _=_;rw[lX (oe hp),Option.map_some,m8 hl]
theorem Ou:closed (row nl t e els)=true:=by
 unfold row;cases nl&&els.isEmpty<;>rfl
theorem K4:gZ []=true:=rfl
theorem Ij{v:EV}{l:List EV}:gZ (v::l)=(closed v&&gZ l):=by simp only[gZ]
theorem SZ:closed (.fz t e els)=true:=rfl
theorem Ov{k:IntKind}{n:Int}:closed (.int k n)=true:=rfl
theorem K5{b:Bool}:closed (.bool b)=true:=rfl
theorem S0{p:Prop}:closed (bo p)=true:=rfl
theorem Ot{s:List UInt8}:closed (.str s)=true:=rfl
theorem B8:closed .aa=true:=rfl
theorem Ow{x:List EV}:closed (.agg x)=gZ x:=by simp only[closed]
theorem Ik{x:List EV}:closed (.tuple x)=gZ x:=by simp only[closed]
theorem Yn{k:IntKind}{n:Int}:Flat (.int k n)=true:=rfl
theorem Tp{b:Bool}:Flat (.bool b)=true:=rfl
theorem abP{p:Prop}:Flat (bo p)=true:=rfl
theorem Ym{s:List UInt8}:Flat (.str s)=true:=rfl
theorem Yo{x:List EV}:Flat (.agg x)=fL x:=by simp only[Flat]
theorem OU{x:List EV}:Flat (.tuple x)=fL x:=by simp only[Flat]
theorem SC:fL []=true:=rfl
theorem NW{v:EV}{l:List EV}:fL (v::l)=(Flat v&&fL l):=by simp only[fL]
def G0(i:Nat)(v:EV):EV:=match v with
 | .fz _ e els=>.fz i e els
 |v=>v
theorem Bf{i:Nat}:jj i []=[]:=rfl
theorem yF{i:Nat}{v:EV}{l:List EV}:jj i (v::l)=G0 i v::jj (i+1) l:=rfl
theorem YX{i:Nat}:G0 i (.fz t e els)=.fz i e els:=rfl
theorem IU{i:Nat}:G0 i (row nl t e els)=row nl i e els:=by
 unfold row;cases nl&&els.isEmpty<;>rfl
theorem Ub{i:Nat}{k:IntKind}{n:Int}:G0 i (.int k n)=.int k n:=rfl
theorem QQ{i:Nat}{b:Bool}:G0 i (.bool b)=.bool b:=rfl
theorem YY{i:Nat}{p:Prop}:G0 i (bo p)=bo p:=rfl
theorem Ua{i:Nat}{s:List UInt8}:G0 i (.str s)=.str s:=rfl
theorem E1{i:Nat}:G0 i .aa=.aa:=rfl
theorem Uc{i:Nat}{x:List EV}:G0 i (.agg x)=.agg x:=rfl
def p0E(o:Option EV)(m:Mem):Option Fin:=match o with
 |some V=>bif Flat V then some (.ret V m)else none
 |none=>none
@[congr] theorem afi {o o' : Option EV} (h : o = o') : p0E o m = p0E o' m := by rw [h]
theorem U7{V:EV}(h:Flat V=true):p0E (some V) m=some (.ret V m):=by simp only[p0E,h,cond_true]
def p1E(o:Option EV)(m:Mem):Option Fin:=match o with
 |some V=>some (.ret V ⟨m.next+1,m.ja⟩)
 |none=>none
@[congr] theorem afh {o o' : Option EV} (h : o = o') : p1E o m = p1E o' m := by rw [h]
theorem U6{V:EV}:p1E (some V) m=some (.ret V (bump m 1)):=rfl
def La(g:List EV->Option EV)(o:Option (List EV)):Option EV:=match o with
 |some fw=>g (jj 1 fw)
 |none=>none
@[congr] theorem acK {g : List EV -> Option EV} {o o' : Option (List EV)} (h : o = o') : La g o = La g o' := by rw [h]
theorem OD{g:List EV->Option EV}{fw:List EV}:La g (some fw)=g (jj 1 fw):=rfl
end
class bV (T:Nat->Option jm) (f:Nat) (F:outParam aC):Prop where
 has:T f=some (.go F)
section
variable {T:Nat->Option jm} {K:Nat->Nat} {m:Mem}
class gR (K:Nat->Nat) (f:Nat):Prop where
 s:K f=1
class GR (K:Nat->Nat) (f:Nat):Prop where
 s:K f=2
class bR (K:Nat->Nat) (f:Nat):Prop where
 s:K f=0
theorem adb{f:Nat}[h:gR K f]{args:List EV}:run (UT T K) f args m=p0E (La (bA T K f) (HU m args)) m:=by
 rw[vC (g:=mN (bA T K f)) (by unfold UT PT;rw[h.s];rfl)];unfold mN HU;cases bZ deep m args<;>rfl
theorem ada{f:Nat}[h:GR K f]{args:List EV}:run (UT T K) f args m=bif gZ args then p1E (La (bA T K f) (HU m args)) m else none:=by
 rw[vC (g:=lR (bA T K f)) (by unfold UT PT;rw[h.s];rfl)];unfold lR HU;cases gZ args
 ·rfl
 ·cases bZ deep m args<;>rfl
theorem cf{f:Nat}{F:aC}[h:bR K f][hF:bV T f F]{args:List EV}(hn:args.length<=F.ntmps):run (UT T K) f args m=pI F.results (exec (UT T K) F.body (kF args 0 mP) m):=
 Zj (by unfold UT PT;rw[h.s];exact hF.has) hn
theorem Db{f:Nat}{g:List EV->Mem->Option Fin}[h:bR K f](hg:T f=some (.spec g)){args:List EV}:run (UT T K) f args m=g args m:=
 vC (by unfold UT PT;rw[h.s];exact hg)
theorem ux{F:aC}{args:List EV}{v:EV}{k:Nat}{m1:Mem}(hl:args.length<=F.ntmps)(h:pI F.results (exec T F.body (kF args 0 mP) m)=some (.ret v m1))(hf:Flat v=true)(hn:m1.next=nb m.next k)(hk:jy m m1):kK T F args m=some (.ret v (bump m k)):=by
 unfold kK;rw[if_pos hl,Co];rw[show (⟨dh args 0 .leaf,[]⟩:Fr)=kF args 0 mP by unfold mP;rw[tW],h];simp only;rw[if_pos ⟨hf,by rw[hn];exact aq,hk⟩,hn]
 rfl
noncomputable def YL(o:Option Fin):Option EV:=match o with
 |some (.ret v m)=>fY m v
 |_=>none
@[congr] theorem afO {o o' : Option Fin} (h : o = o') : YL o = YL o' := by rw [h]
theorem PV{v:EV}:YL (some (.ret v m))=fY m v:=rfl
open Classical in
noncomputable def YB(p:Prop)(a b:Option EV):Option EV:=if p then a else b
theorem aeD{p:Prop}{a b:Option Fin}:YL (iF p a b)=YB p (YL a) (YL b):=by unfold iF YB;split<;>rfl
theorem Hy{p:Prop}{a b:Option EV}(h:p):YB p a b=a:=if_pos h
theorem Hz{p:Prop}{a b:Option EV}(h:¬p):YB p a b=b:=if_neg h
@[congr] theorem afr {p q : Prop} {a a' b b' : Option EV} (h : p = q) (ha : q -> a = a') (hb : ¬ q -> b = b') : YB p a b = YB q a' b' := by
 subst h;unfold YB;split
 ·exact ha ‹_›
 ·exact hb ‹_›
theorem dY{f:Nat}{F:aC}[h:bV T f F]{fw:List EV}(hn:fw.length<=F.ntmps):bA T K f fw=YL (pI F.results (exec (UT T K) F.body (kF fw 0 mP) fT)):=by
 rw[Dd h.has];unfold qt;rw[sx hn,cond_true,Co];rw[show (⟨dh fw 0 .leaf,[]⟩:Fr)=kF fw 0 mP by unfold mP;rw[tW]];cases pI F.results (exec (UT T K) F.body (kF fw 0 mP) fT)with
 |none=>rfl
 |some fin=>
  cases fin with
  |jk v m=>rfl
  |ret v m=>
   simp only[PV];show (match ki (bZ 7 m) m [v]with|some [V]=>some V|_=>none)=nJ (bZ 7 m) m v;simp only[ki];cases nJ (bZ 7 m) m v<;>rfl
end
end
section
def EF{σ:Type}(I:σ->Fr->Mem->Prop)(lt:σ->Prop)(Q:Out->Prop)(o:Option Out):Prop:=match o with
 |some (.norm fr m)=>∃s,lt s/\I s fr m
 |some o=>Q o
 |none=>False
theorem dr{T:Nat->Option jm}{c:ar}{σ:Type}(I:σ->Fr->Mem->Prop)(μ:σ->Nat)(Q:Out->Prop)(h:∀s fr m,I s fr m->EF I (fun s'=>μ s'<μ s) Q (exec T c fr m)):∀s fr m,I s fr m->∃o,exec T (.loop c) fr m=some o/\Q o:=by
 intro s;generalize hn:μ s=n
 induction n using Nat.strongRecOn generalizing s with
 |_ n ih=>
  intro fr m hI;have hw:=h s fr m hI;rw[qK];cases he:exec T c fr m with
  |none=>rw[he]at hw;exact hw.elim
  |some o=>
   rw[he]at hw;cases o with
   |norm iq m1=>obtain⟨s1,h1,h2⟩:=hw;exact ih (μ s1) (by omega) s1 rfl iq m1 h2
   |exit id iq m1=>exact⟨_,rfl,hw⟩
   |ret iq m1=>exact⟨_,rfl,hw⟩
   |jk v iq m1=>exact⟨_,rfl,hw⟩
section
variable {σ:Type} {I:σ->Fr->Mem->Prop} {lt:σ->Prop} {Q:Out->Prop}
theorem rY{p:Prop}{a b:Option Out}(h1:p->EF I lt Q a)(h2:¬p->EF I lt Q b):EF I lt Q (iF p a b):=by
 by_cases h:p
 ·rw[NE h];exact h1 h
 ·rw[NF h];exact h2 h
theorem bB{fr:Fr}{m:Mem}(s:σ)(h:lt s)(hI:I s fr m):EF I lt Q (some (.norm fr m)):=⟨s,h,hI⟩
theorem bK{id:Nat}{fr:Fr}{m:Mem}(h:Q (.exit id fr m)):EF I lt Q (some (.exit id fr m)):=h
theorem iD{fr:Fr}{m:Mem}(h:Q (.ret fr m)):EF I lt Q (some (.ret fr m)):=h
end
theorem cG{T:Nat->Option jm}{c:ar}{fr:Fr}{m:Mem}{X:Option Out}(hX:exec T (.loop c) fr m=X){Q:Out->Prop}(h:∃o,exec T (.loop c) fr m=some o/\Q o):∃o,X=some o/\Q o:=by
 rw[hX]at h;exact h
def bsF(e esz len:Nat)(o:Option (List EV))(m:Mem):Option R1:=match o with
 |some cs=>some (.val (.slice (nb m.next 0) 0 len (some len)) (ext m [.cells cs esz e false]))
 |none=>none
@[congr] theorem afT {e esz len : Nat} {o o' : Option (List EV)} {m : Mem} (h : o = o') : bsF e esz len o m = bsF e esz len o' m := by rw [h]
theorem oO{e esz len:Nat}{cs:List EV}{m:Mem}:bsF e esz len (some cs) m=some (.val (.slice (nb m.next 0) 0 len (some len)) (ext m [.cells cs esz e false])):=rfl
theorem iE{ρ:bm->EV}{m:Mem}{e esz len:Nat}{zero:List EV}{parts:List (Nat×bm)}:aL ρ (.aG e esz len zero parts) m=bsF e esz len (eQ (eA len zero) (parts.map fun p=>(p.1*esz,esz,ρ p.2))) m:=by
 simp only[aL,bsF];cases eQ (eA len zero) (parts.map fun p=>(p.1*esz,esz,ρ p.2))<;>rfl
def acN(call:Call)(n:Nat)(F:aC)(fw:List EV):Option EV:=match dv call n F fw fT with
 |some (.ret v m)=>fY m v
 |_=>none
theorem Bn{T:Nat->Option jm}{K:Nat->Nat}{f:Nat}{F:aC}[h:bV T f F]{fw:List EV}{V:EV}(n:Nat)(hb:∀call:Call,acN call n F fw=some V):bA T K f fw=some V:=by
 rw[Dd h.has];have hb:=hb (bc (UT T K) n);unfold acN at hb;cases he:dv (bc (UT T K) n) n F fw fT with
 |none=>rw[he]at hb;cases hb
 |some fin=>
  rw[he]at hb;cases fin with
  |jk v m=>cases hb
  |ret v m=>
   refine wy he ?_
   have sN:nJ (bZ 7 m) m v=some V:=hb;show ki (bZ 7 m) m [v]=some [V];simp only[ki,sN]
theorem eI.nJ{m:Mem}{v:EV}{els:List (List EV)}{n e lo:Nat}(h:eI m v els.flatten n e lo)(hn:els.length=n)(hl:∀el∈els,el.length=e)(hp:∀el∈els,kq el=true):∃nl,fY m v=some (row nl 0 e els):=by
 rcases h.is with⟨rfl,rfl,h3⟩|⟨b,cap,t,rfl,h1,h2,h3,h4⟩
 ·have:els=[]:=List.eq_nil_of_length_eq_zero hn;subst this;exact⟨true,rfl⟩
 ·subst hn;refine⟨false,?_⟩
  rw[fo h3 hl hp (by rcases h4 with rfl|rfl<;>simp[oW])];simp[row]
theorem adT{p q r:Prop}:YB p (some (bo q)) (some (bo r))=some (bo ((p/\q)\/(¬p/\r))):=by
 by_cases h:p
 ·rw[Hy h];exact congrArg some (qF ⟨fun x=>.inl ⟨h,x⟩,fun x=>x.elim (fun y=>y.2) (fun y=>absurd h y.1)⟩)
 ·rw[Hz h];exact congrArg some (qF ⟨fun x=>.inr ⟨h,x⟩,fun x=>x.elim (fun y=>absurd y.1 h) (fun y=>y.2)⟩)
theorem adS{p r:Prop}:YB p (some (.bool false)) (some (bo r))=some (bo (¬p/\r)):=by
 by_cases h:p
 ·rw[Hy h];exact congrArg some (mY fun x=>x.1 h)
 ·rw[Hz h];exact congrArg some (qF ⟨fun x=>⟨h,x⟩,fun x=>x.2⟩)
theorem fZ{p q:Prop}(h:p↔q):some (bo p)=some (bo q):=congrArg some (qF h)
theorem aI{a b:Prop}(x:a)(y:b):a/\b:=And.intro x y
def zz0:=aI @tQ<|aI @BA<|aI @Ji<|aI @Jj<|aI @C6<|aI @Xr<|aI @eval_const<|aI @RB<|aI @RC<|aI @Vq<|aI @L9<|aI @QN<|aI @Mb<|aI @QL<|aI @Md<|aI @Nw<|aI @R6<|aI @Nx<|aI @ac5<|aI @ac6<|aI @US<|aI @Rh<|aI @UU<|aI (@eq_self.{1})<|aI @Zp<|aI @Zo<|aI @ZA<|aI @Zz<|aI @ZB<|aI @abK<|aI @abB<|aI @abE<|aI @abD<|aI @abC<|aI @abJ<|aI @aeQ<|aI @abA<|aI @OL<|aI @abF<|aI @abG<|aI @abH<|aI @abI<|aI @Lq<|aI @Lo<|aI @Lp<|aI @Ln<|aI @eq_int<|aI @acU<|aI @aeN<|(@wq)
def zz1:=aI @BC<|aI @Gu<|aI @KE<|aI @Gv<|aI @D5<|aI @NZ<|aI @Ju<|aI @Dj<|aI @xL<|aI (@Option.map_some.{0,0})<|aI (@Option.map_none.{0,0})<|aI (@List.map_cons.{0,0})<|aI (@List.map_nil.{0,0})<|aI @Th<|aI @Fp<|aI @fu<|aI @fh<|aI @aau<|aI @W0<|aI @ai0<|aI @QK<|aI @QJ<|aI @Xa<|aI @aaC<|aI @aaD<|aI @aaw<|aI @aax<|aI @Xc<|aI @aaU<|aI @aaV<|aI @aaO<|aI @aaP<|aI @Ry<|aI @Jv<|aI @wL<|aI (@List.nil_append.{0})<|aI (@List.append_nil.{0})<|aI (@List.cons_append.{0})<|aI @N5<|aI @U3<|aI @Zv<|aI @Rr<|aI @U2<|aI @adm<|aI @adn<|aI @QC<|aI @aeJ<|aI @aeI<|aI @T5<|(@VV)
def zz2:=aI @T4<|aI @T7<|aI @Zq<|aI @not_true_eq_false<|aI @not_false_eq_true<|aI @and_true<|aI @true_and<|aI @and_false<|aI @false_and<|aI @or_true<|aI @true_or<|aI @or_false<|aI @false_or<|aI @Classical.not_not<|aI @Bool.false_bne<|aI @Bool.true_bne<|aI @Bool.false_xor<|aI @Bool.true_xor<|aI @Xs<|aI @N9<|aI @SI<|aI @N2<|aI @N6<|aI @Xx<|aI @abc<|aI @abb<|aI @SL<|aI @N7<|aI @SH<|aI @H2<|aI @N3<|aI @N4<|aI @N8<|aI @Xv<|aI @Fi<|aI @KN<|aI @KO<|aI @KI<|aI @KH<|aI @KQ<|aI @KL<|aI @H0<|aI @H3<|aI @KJ<|aI @KM<|aI @Xw<|aI @Xu<|aI @Xt<|aI @KR<|(@SK)
def zz3:=aI @aoH<|aI @aoI<|aI @aib<|aI @aic<|aI @aid<|aI @aie<|aI @aay<|aI @aaz<|aI @aaA<|aI @aaB<|aI @aim<|aI @ain<|aI @aio<|aI @aip<|aI @aaQ<|aI @aaR<|aI @aaS<|aI @aaT<|aI @MU<|aI @MV<|aI @Rp<|aI @Rq<|aI @abh<|aI @abi<|aI @abe<|aI @abg<|aI @aiz<|aI @aiK<|aI @aiA<|aI @aiI<|aI @TP<|aI @TQ<|aI @UB<|aI @UC<|aI @Kp<|aI @decide_true<|aI @decide_false<|aI @Bool.not_true<|aI @Bool.not_false<|aI (@cond_true.{1})<|aI (@cond_false.{1})<|aI @Int.cast_ofNat_Int<|aI @Vz<|aI @aa4<|aI @lV<|aI @ak<|aI @aj<|aI @aN<|aI @af<|(@ai)
def zz4:=aI @aw<|aI @Kq<|aI @R0<|aI @R7<|aI @Rt<|aI @Rs<|aI @Mh<|aI @Um<|aI @TK<|aI @Qv<|aI @C5<|aI @Jb<|aI @Bi<|aI @S8<|aI @OB<|aI @XZ<|aI @S4<|aI @Il<|aI @S6<|aI @Eh<|aI @K6<|aI @Im<|aI @S7<|aI @Fm<|aI @Oz<|aI @Ei<|aI @K7<|aI @S9<|aI @DZ<|aI @Gt<|aI @D2<|aI @SM<|aI @Td<|aI @KS<|aI @KG<|aI @fK<|aI @au<|aI @Uz<|aI @R3<|aI @agx<|aI @adA<|aI @agC<|aI @aeK<|aI @abd<|aI @XA<|aI @SQ<|aI @Tl<|aI @ON<|aI @aeS<|(@aeT)
def zz5:=aI @Yb<|aI @UR<|aI @UZ<|aI (@List.length_cons.{0})<|aI (@List.length_nil.{0})<|aI @Nat.zero_add<|aI @Nat.add_zero<|aI (@List.take_succ_cons.{0})<|aI (@List.take_zero.{0})<|aI (@List.take_nil.{0})<|aI (@List.drop_succ_cons.{0})<|aI (@List.drop_zero.{0})<|aI (@List.drop_nil.{0})<|aI (@List.getElem?_cons_zero.{0})<|aI (@List.getElem?_cons_succ.{0})<|aI (@List.getElem?_nil.{0})<|aI (@Option.getD_some.{0})<|aI (@List.set_cons_zero.{0})<|aI (@List.set_cons_succ.{0})<|aI @cR<|aI (@ne_eq.{1})<|aI @Bool.or_true<|aI @Bool.or_false<|aI @Bool.true_or<|aI @Bool.false_or<|aI @Bool.and_true<|aI @Bool.true_and<|aI @Bool.and_false<|aI @Bool.false_and<|aI @aiD<|aI @aiF<|aI @aiG<|aI @aiB<|aI @aiE<|aI @abf<|aI @H4<|aI @H5<|(@Lg)
def zz6:=aI @Zb<|aI @Q7<|aI @Zh<|aI @Q6<|aI @Mt<|aI @QY<|aI @Q1<|aI @Zi<|aI @ac3<|aI @ac2<|aI @Q3<|aI @Uq<|aI @Q2<|aI @I4<|aI @QZ<|aI @Uo<|aI @Q0<|aI @Q5<|aI @Zf<|aI @Q4<|aI @G4<|aI @Mp<|aI @Mq<|aI @Mj<|aI @Mi<|aI @Mr<|aI @Ml<|aI @I3<|aI @I5<|aI @Ze<|aI @Mk<|aI @Mn<|aI @Zg<|aI @Zd<|aI @Zc<|aI @Mu<|aI @Ut<|aI @Up<|aI @Ms<|aI @I7<|aI @G5<|aI @I6<|aI @NY<|aI @Qa<|aI @Ma<|aI @pR<|aI @Oi<|aI @Oh<|aI @QM<|(@abw)
def zz7:=aI @XV<|aI @Uv<|aI @Q8<|aI @U5<|aI @Rv<|aI @QW<|aI @rO<|aI @ZJ<|aI @Jx<|aI @ZK<|aI @Jz<|aI @GA<|aI @SS<|aI @P9<|aI @abn<|aI @GB<|aI @SU<|aI @UQ<|aI @abp<|aI @abo<|aI @XM<|aI @XL<|aI @XK<|aI @XJ<|aI @Ol<|aI @Oj<|aI @aaM<|aI @aaN<|aI @aih<|aI @aii<|aI @aij<|aI @aik<|aI @Xb<|aI @aaG<|aI @aaH<|aI @aaI<|aI @aaJ<|aI @aaK<|aI @aaL<|aI @QI<|aI @YV<|aI @TX<|aI @TU<|aI @IS<|aI @TV<|aI @EY<|aI @LZ<|aI @IT<|aI @TW<|(@GZ)
def zz8:=aI @EZ<|aI @LX<|aI @TY<|aI @LY<|aI @L4<|aI @QH<|aI @QG<|aI @LW<|aI @ZZ<|aI @Wg<|aI @ZC<|aI @Vl<|aI @Nat.beq_refl<|aI @SJ<|aI @VU<|aI @Nu<|aI @ZU<|aI @VT<|aI @Rx<|aI @KP<|aI @HC<|aI @Gg<|aI @ND<|aI @VW<|aI @R2<|aI @FK<|aI @Mv<|aI @XY<|aI @S5<|aI @OA<|aI @aiJ<|aI @aiH<|aI @aiC<|aI @MW<|aI @Oq<|aI @Xk<|aI @Sz<|aI @NT<|aI @Sy<|aI @aaZ<|aI @Xi<|aI @Xg<|aI @sO<|aI @Kw<|aI @Fg<|aI @PU<|aI @Xh<|aI @Xj<|aI @NU<|(@Ou)
def zz9:=aI @K4<|aI @Ij<|aI @SZ<|aI @Ov<|aI @K5<|aI @S0<|aI @Ot<|aI @B8<|aI @Ow<|aI @Ik<|aI @Bf<|aI @yF<|aI @YX<|aI @IU<|aI @Ub<|aI @QQ<|aI @YY<|aI @Ua<|aI @E1<|aI @Uc<|aI @U7<|aI @U6<|aI @OD<|aI @adb<|aI @ada<|aI @PV<|aI @aeD<|aI @Yn<|aI @Tp<|aI @abP<|aI @Ym<|aI @Yo<|aI @OU<|aI @SC<|aI @NW<|aI @Bool.and_self<|aI (@List.getElem?_map.{0,0})<|aI (@List.length_map.{0,0})<|aI @D7<|aI @Q9<|aI @Mz<|aI @MC<|aI @Ra<|aI @FL<|aI @Ux<|(@List.isEmpty_nil.{0})
def ay:=aI @Kp<|aI @UB<|aI @UC<|aI @C6<|aI @tQ<|aI @BA<|aI @Ji<|(@Jj)
def zza:=aI zz0<|aI zz1<|aI zz2<|aI zz3<|aI zz4<|aI zz5<|aI zz6<|aI zz7<|aI zz8<|(zz9)
def ao:=aI zza<|aI @kF.eq_1<|aI @kF.eq_2<|aI (implies_true.{0})<|(implies_true.{1})
end
section
def jO(n:Int):Prop:=(97<=n/\n<=122\/65<=n/\n<=90)\/n=95
def mT(n:Int):Prop:=48<=n/\n<=57
def OY(n:Int):Prop:=((n=32\/n=9)\/n=10)\/n=13
instance(n:Int):Decidable (jO n):=by unfold jO;infer_instance
instance(n:Int):Decidable (mT n):=by unfold mT;infer_instance
instance(n:Int):Decidable (OY n):=by unfold OY;infer_instance
abbrev cH:=List UInt8
abbrev cI(c:UInt8):Int:=(c.toNat:Int)
def vu:List cH:=[[102,110],[118,97,114],[105,102],[101,108,115,101],[119,104,105,108,101],[102,111,114],[98,114,101,97,107],[99,111,110,116,105,110,117,101],[114,101,116,117,114,110],[112,114,105,110,116],[108,101,110],[110,101,119],[116,114,117,101],[102,97,108,115,101],[110,105,108],[105,110,116],[98,111,111,108],[97,114,114]]
def akF:List cH:=[[124,124],[38,38],[61,61],[33,61],[60,61],[62,61],[43,37],[45,37],[42,37]]
def akY:cH:=[60,62,43,45,42,47,37,33,61,40,41,123,125,91,93,44,59]
def FM:Bool->cH->Nat
 |_,[]=>0
 |r,c::s=>let r1:=if cI c=10 then false else if cI c=35 then true else r
  if r1=false/\¬OY (cI c)then 0 else 1+FM r1 s
def agw:Nat->cH->Option Nat
 |n,[]=>some n
 |n,c::s=>if 922337203685477580<n\/n=922337203685477580/\7<c.toNat- 48 then none else agw (10*n+(c.toNat- 48)) s
def ab6(s:cH):Nat:=if 2<=s.length/\s.take 2∈akF then 2 else if ∃c∈akY,s[0]?=some c then 1 else 0
def lead(p:Int->Prop)[DecidablePred p]:cH->Nat
 |[]=>0
 |c::s=>if p (cI c)then 1+lead p s else 0
def xu(s:cH):Prop:=(∀(i:Nat) (c:UInt8),s[i]?=some c->jO (cI c)\/i≠0/\mT (cI c))/\0<s.length/\s.length<=32/\s∉vu
def afZ:cH->Nat
 |[]=>0
 |c::s=>if jO (cI c)then 1+lead (fun n=>jO n\/mT n) s else 0
structure Tok where
 kind:Nat
 text:cH
 n:Nat
 pos:Nat
deriving DecidableEq
inductive OP(α:Type) where
 |ok (a:α)
 |bad (e p:Nat)
def OP.map{α β:Type}(f:α->β):OP α->OP β
 | .ok a=>.ok (f a)
 | .bad e p=>.bad e p
def OP.bind{α β:Type}(x:OP α)(f:α->OP β):OP β:=match x with
 | .ok a=>f a
 | .bad e p=>.bad e p
def amw(k:cH)(p:Nat):OP Tok:=match agw 0 k with
 |some n=>.ok ⟨2,k,n,p⟩
 |none=>.bad 7 p
def akZ(s:cH)(p:Nat):OP Tok:=
 if ∃c∈s[0]?,mT (cI c)then
  amw (s.take (lead mT s)) p
 else
  let k:=afZ s
  if 0<k/\s.take k∈vu then .ok ⟨3,s.take k,0,p⟩
  else if 32<k then .bad 3 p
  else if 0<k then .ok ⟨1,s.take k,0,p⟩
  else if ab6 s=0 then .bad 6 p
  else .ok ⟨4,s.take (ab6 s),0,p⟩
def TZ:Nat->cH->Nat->OP (List Tok)
 |0,_,p=>.bad 0 p
 |_+1,[],_=>.ok []
 |k+1,s,p=>match akZ s p with
  | .bad e q=>.bad e q
  | .ok t=>
   let r:=s.drop t.text.length
   let j:=FM false r
   (TZ k (r.drop j) (p+t.text.length+j)).map (t:: ·)
def atr(s:cH):OP (List Tok):=
 if 65536<s.length then .bad 3 0
 else(TZ (s.length+1) (s.drop (FM false s)) (FM false s)).map (· ++[⟨0,[],0,s.length⟩])
end
section
structure Pv where
 name:cH
 block:Int
 slot:Int
 kind:Int
def pd(s:cH)(V:List Pv):List Pv:=V.filter fun v=>v.name=s
def ri(s:cH):List Pv->Nat->Int->Int
 |[],_,a=>a
 |v::V,i,a=>ri s V (i+1) (if v.name=s then(i:Int)else a)
theorem DX{s:cH}{x:Pv}:∀(V:List Pv) (i:Nat) (a:Int),ri s (V++[x]) i a=if x.name=s then((i+V.length:Nat):Int)else ri s V i a
 |[],i,a=>by simp only[List.nil_append,ri,List.length_nil,Nat.add_zero]
 |v::V,i,a=>by
  simp only[List.cons_append,ri,List.length_cons];rw[DX V (i+1)]
  congr 2;omega
theorem vG{s:cH}{x:Pv}(V:List Pv):pd s (V++[x])=pd s V++if x.name=s then[x]else[]:=by
 unfold pd;rw[List.filter_append]
 congr 1
 by_cases h:x.name=s<;>simp[h]
theorem Uu{α:Type}{p:List α->Prop}(h0:p [])(h1:∀l x,p l->p (l++[x])):∀l,p l:=by
 intro l;generalize hn:l.length=n
 induction n generalizing l with
 |zero=>rw[List.eq_nil_of_length_eq_zero hn];exact h0
 |succ n ih=>
  have fR:l≠[]:=fun q=>by rw[q]at hn;simp at hn
  rw[<- List.dropLast_concat_getLast fR];exact h1 _ _ (ih _ (by simp[hn]))
theorem A2{s:cH}:∀V:List Pv,(pd s V=[]/\ri s V 0 (-1)= -1)\/∃(l:List Pv) (v:Pv) (k:Nat),pd s V=l++[v]/\ri s V 0 (-1)=(k:Int)/\V[k]?=some v:=by
 refine Uu (.inl ⟨rfl,rfl⟩) fun V x ih=> ?_
 rw[DX,vG];by_cases h:x.name=s
 ·rw[if_pos h,if_pos h];exact .inr ⟨_,x,V.length,rfl,by rw[Nat.zero_add],by rw[yy (cR _),Nat.sub_self];rfl⟩
 ·rw[if_neg h,if_neg h,List.append_nil];rcases ih with ih|⟨l,v,k,h1,h2,h3⟩
  ·exact .inl ih
  ·exact .inr ⟨l,v,k,h1,h2,by rw[rB (mu.1 h3).1];exact h3⟩
structure Mo where
 V:List Pv
 K:List Int
 D:Int
def Mo.new:Mo:=⟨[],[],1⟩
def Mo.open_(x:Mo):Mo:={x with D:=x.D+1}
def Mo.close(x:Mo):Mo:={x with V:=x.V.filter fun v=>v.block<x.D,D:=x.D- 1}
def Mo.bad(x:Mo)(s:cH)(k:Int):Prop:=(k<1\/3<k)\/∃v∈(pd s x.V).getLast?,v.block=x.D
def Mo.add(x:Mo)(s:cH)(k:Int):Mo:=⟨x.V++[⟨s,x.D,x.K.length,k⟩],x.K++[k],x.D⟩
structure Mo.Ok(x:Mo):Prop where
 Zm:x.V.Pairwise fun a b=>a.block<=b.block
 vP:∀v∈x.V,v.block<=x.D
 d:1<=x.D
theorem Mo.Ok.new:Mo.new.Ok:=⟨.nil,fun _ h=>(by cases h),by decide⟩
theorem Mo.Ok.open_{x:Mo}(h:x.Ok):x.open_.Ok:=⟨h.Zm,fun v hv=>by have:=h.vP v hv;simp only[Mo.open_];omega,by have:=h.d;simp only[Mo.open_];omega⟩
theorem Mo.Ok.close{x:Mo}(h:x.Ok)(h2:1<x.D):x.close.Ok:=⟨h.Zm.filter _,fun v hv=>by
 simp only[Mo.close,List.mem_filter,decide_eq_true_eq]at hv;simp only[Mo.close];omega,by simp only[Mo.close];omega⟩
theorem Mo.Ok.add{x:Mo}(h:x.Ok)(s:cH)(k:Int):(x.add s k).Ok:=by
 refine⟨?_,fun v hv=> ?_,h.d⟩
 ·simp only[Mo.add];rw[List.pairwise_append];exact⟨h.Zm,List.pairwise_singleton _ _,fun a ha b hb=>by rw[IA.1 hb];exact h.vP a ha⟩
 ·simp only[Mo.add,Ag,IA]at hv;rcases hv with hv|rfl
  ·exact h.vP v hv
  ·exact Int.le_refl _
theorem KA{D:Int}:∀{V:List Pv},V.Pairwise (fun a b=>a.block<=b.block)->∀k,k<=V.length->(∀v∈V.drop k,D<=v.block)->(∀v∈(V.take k).getLast?,v.block<D)->V.filter (fun v=>v.block<D)=V.take k:=by
 intro V h k hk h1 h2;have e:V=V.take k++V.drop k:=(List.take_append_drop k V).symm;have hd:(V.drop k).filter (fun v=>decide (v.block<D))=[]:=List.filter_eq_nil_iff.2 fun v hv=>by have:=h1 v hv;simp;omega
 have ht:(V.take k).filter (fun v=>decide (v.block<D))=V.take k:=List.filter_eq_self.2 fun v hv=>by
  have fR:V.take k≠[]:=fun q=>by rw[q]at hv;cases hv
  have hl:=h2 _ (List.getLast?_eq_some_getLast fR);have hp:(V.take k).Pairwise fun a b=>a.block<=b.block:=by
   rw[e]at h;exact(List.pairwise_append.1 h).1
  rw[<- List.dropLast_concat_getLast fR]at hv hp;rcases Ag.1 hv with hv|hv
  ·have:=(List.pairwise_append.1 hp).2.2 v hv _ (IA.2 rfl);simp;omega
  ·rw[IA.1 hv];simpa using hl
 conv=>lhs;rw[e]
 rw[List.filter_append,hd,ht,List.append_nil]
end
section
def G:List Nat:=[0]
abbrev zV(d:Nat)(o:oa):bd:=⟨some d,.val o,none⟩
abbrev zG(d:Nat)(o:oa)(g:Nat)(b:Bool):bd:=⟨some d,.val o,some (g,b)⟩
abbrev zN(o:oa):bd:=⟨none,.val o,none⟩
abbrev zC(d f:Nat)(a:List bm):bd:=⟨some d,.call (.const (.func f [] [])) a,none⟩
abbrev zH(d f:Nat)(a:List bm)(g:Nat)(b:Bool):bd:=⟨some d,.call (.const (.func f [] [])) a,some (g,b)⟩
abbrev zT(t:Nat):bm:=.tmp t
abbrev jn(d f a:Nat):=zC d f [.tmp a]
abbrev gX(d f a b:Nat):=zC d f [.tmp a,.tmp b]
abbrev Yq(d f a b c:Nat):=zC d f [.tmp a,.tmp b,.tmp c]
abbrev zI(n:Int):bm:=.const (.int .i64 n)
abbrev zS(s:List UInt8):bm:=.const (.str s)
abbrev zB(b:Bool):bm:=.const (.bool b)
abbrev ae(d t:Nat):=zV d (.tA (.tmp t))
abbrev eG(d:Nat)(n:Int):=zV d (.tA (.const (.int .i64 n)))
abbrev iz(d:Nat)(b:Bool):=zV d (.tA (.const (.bool b)))
abbrev aA(d k t:Nat):=zV d (.xA k (.tmp t))
abbrev aJ(d t:Nat):=zV d (.load none (.tmp t))
abbrev oR(d x t:Nat):=zV d (.load (some x) (.tmp t))
abbrev bP(d t:Nat):=zV d (.lU (.tmp t))
abbrev eJ(d k a b:Nat):=zV d (.eZ k (.tmp a) (.tmp b))
abbrev eN(k a b:Nat):bd:=⟨none,.val (.store k (.tmp a) (.tmp b)),none⟩
abbrev fG(d t:Nat)(n:Int):=zV d (.eq false (.bG 1) (.tmp t) (.const (.int .i64 n)))
abbrev Be(d t:Nat)(n:Int):=zV d (.eq true (.bG 1) (.tmp t) (.const (.int .i64 n)))
abbrev iP(d t:Nat):=zV d (.len (.tmp t))
abbrev mI(d t:Nat)(n:Int):=zV d (.bin .add (.tmp t) (.const (.int .i64 n)))
abbrev CK(d t:Nat)(n:Int):=zV d (.bin .sub (.tmp t) (.const (.int .i64 n)))
abbrev oT(d a b:Nat):=zV d (.bin .lss (.tmp a) (.tmp b))
abbrev lK(d a b:Nat):=zV d (.pick (.tmp a) (.tmp b) (.const (.bool false)))
abbrev qP(d a b:Nat):=zV d (.pick (.tmp a) (.const (.bool true)) (.tmp b))
abbrev pB(d t k:Nat):=zV d (.extract (.tmp t) k)
abbrev w7(d t:Nat):=zV d (.un .not (.tmp t))
abbrev yz(d e s b x y:Nat):=zV d (.append e s b (.tmp x) (.tmp y))
abbrev eb(d t g:Nat)(b:Bool):=zG d (.tA (.tmp t)) g b
abbrev ly(d k t g:Nat)(b:Bool):=zG d (.xA k (.tmp t)) g b
abbrev kU(d t g:Nat)(b:Bool):=zG d (.load none (.tmp t)) g b
abbrev IK(d t g:Nat)(b:Bool):=zG d (.len (.tmp t)) g b
abbrev BJ(d t:Nat)(n:Int)(g:Nat)(b:Bool):=zG d (.eq false (.bG 1) (.tmp t) (.const (.int .i64 n))) g b
abbrev zR(l:List bd):ar:=.region l
abbrev zJ(l:List bd)(c:ar):ar:=.seq (.region l) c
abbrev zD(l:List bd)(p:List (Nat×Nat))(c:ar):ar:=.seq (.draw l p) c
abbrev zW(t:Nat)(a b:ar):ar:=.cond (.tmp t) a b
abbrev zU(t:Nat)(a:ar):ar:=.cond (.tmp t) a .skip
abbrev zX(t n:Nat):ar:=.cond (.tmp t) .skip (.exit n)
abbrev zL(a b:ar):ar:=.seq a b
abbrev ajr:Nat:=2
abbrev xo:Nat:=3
abbrev acW:Nat:=4
abbrev YZ:Nat:=5
abbrev ID:Nat:=6
abbrev IC:Nat:=8
abbrev af6:Nat:=9
abbrev IB:Nat:=10
abbrev IV:Nat:=11
abbrev ae6:Nat:=12
abbrev BK:Nat:=14
abbrev Ap:Nat:=15
abbrev EM:Nat:=16
abbrev Y3:Nat:=17
abbrev CW:Nat:=19
abbrev ajs:Nat:=21
abbrev Y2:Nat:=23
abbrev ab1:Nat:=24
abbrev ab0:Nat:=26
abbrev ajt:Nat:=30
abbrev ae8:Nat:=31
abbrev Y1:Nat:=33
abbrev acV:Nat:=36
abbrev Yt:Nat:=42
abbrev Ue:Nat:=45
abbrev Y0:Nat:=47
abbrev abZ:Nat:=49
abbrev eO:Nat:=59
abbrev O5:Nat:=60
abbrev QS:Nat:=61
abbrev aX:Nat:=63
abbrev Yu:Nat:=65
abbrev ab3:Nat:=66
abbrev aW:Nat:=68
abbrev ax:Nat:=70
abbrev acZ:Nat:=87
abbrev ba:Nat:=94
abbrev lA:Nat:=102
abbrev af7:Nat:=106
abbrev iJ:Nat:=109
abbrev Tq:Nat:=112
abbrev kV:Nat:=123
abbrev ae7:Nat:=130
abbrev BL:Nat:=139
abbrev FC:Nat:=142
abbrev af5:Nat:=143
abbrev ab2:Nat:=144
abbrev acY:Nat:=145
abbrev ae9:Nat:=147
abbrev Ys:Nat:=148
abbrev Yr:Nat:=149
abbrev acX:Nat:=151
abbrev QR:Nat:=152
abbrev RT:Nat:=3
def iW:aC:=⟨48,(zJ [iz 2 false] (zL (zJ [ae 9 0,zV 10 (.gj (zT 9)),zV 11 (.bin .gtr (zT 10) (zI 1500))] (zU 11 (zJ [zC 12 5 [],ae 2 12] .ret))) (zJ [ae 14 0,jn 15 6 14,ae 13 15,pB 16 13 0,pB 17 13 1,zV 4 (.alloc 26 [(.int .i64 0),(.int .i64 0)]),ae 3 16,eN 2 4 17] (zL (zJ [aA 18 0 4,aJ 19 18,Be 20 19 0,ae 21 20,eb 22 3 21 false,zH 23 7 [(zT 22)] 21 false,zG 24 (.un .not (zT 23)) 21 false,qP 25 21 24] (zU 25 (zJ [zC 26 5 [],ae 2 26] .ret))) (zJ [ae 28 3,jn 29 8 28,ae 27 29,pB 30 27 0,pB 31 27 1,zV 5 (.alloc 33 [.aa,.aa,.aa,.aa,.aa,(.int .i64 0)]),zV 6 (.alloc 26 [(.int .i64 0),(.int .i64 0)]),eN 6 5 30,eN 2 6 31] (zJ [ae 33 3,jn 34 9 33,ae 32 34,pB 35 32 0,pB 36 32 1,zV 7 (.alloc 36 [.aa,.aa,.aa,.aa,.aa,(.int .i64 0)]),zV 8 (.alloc 26 [(.int .i64 0),(.int .i64 0)]),eN 6 7 35,eN 2 8 36] (zJ [oR 37 6 5,oR 38 6 7,gX 39 10 37 38,ae 40 39,zG 41 (.load (some 2) (zT 6)) 40 true,zG 42 (.load (some 2) (zT 8)) 40 true,zG 43 (.eq false (.agg [(none,0,(.bG 1)),(none,1,(.bG 1))]) (zT 41) (zT 42)) 40 true,lK 44 40 43,ae 45 44,zH 46 5 [] 45 true,lK 47 45 46,ae 2 47] .ret))))))),[.tmp 2]⟩
theorem ok3:bH Tryz.prog G Tryz.f3=some iW:=by kernel_rfl
abbrev mz:Nat:=4
def bF:aC:=⟨37,(zJ [iz 2 false] (zL (zJ [ae 7 0,jn 8 7 7,w7 9 8,ae 10 9,eb 11 0 10 false,IK 12 11 10 false,zG 13 (.bin .gtr (zT 12) (zI 80)) 10 false,qP 14 10 13] (zU 14 (zJ [zC 15 5 [],ae 2 15] .ret))) (zJ [ae 17 0,jn 18 8 17,ae 16 18,pB 19 16 0,pB 20 16 1,zV 3 (.alloc 33 [.aa,.aa,.aa,.aa,.aa,(.int .i64 0)]),zV 4 (.alloc 26 [(.int .i64 0),(.int .i64 0)]),eN 6 3 19,eN 2 4 20] (zJ [ae 22 0,jn 23 9 22,ae 21 23,pB 24 21 0,pB 25 21 1,zV 5 (.alloc 36 [.aa,.aa,.aa,.aa,.aa,(.int .i64 0)]),zV 6 (.alloc 26 [(.int .i64 0),(.int .i64 0)]),eN 6 5 24,eN 2 6 25] (zJ [oR 26 6 3,oR 27 6 5,gX 28 10 26 27,ae 29 28,zG 30 (.load (some 2) (zT 4)) 29 true,zG 31 (.load (some 2) (zT 6)) 29 true,zG 32 (.eq false (.agg [(none,0,(.bG 1)),(none,1,(.bG 1))]) (zT 30) (zT 31)) 29 true,lK 33 29 32,ae 34 33,zH 35 5 [] 34 true,lK 36 34 35,ae 2 36] .ret))))),[.tmp 2]⟩
theorem ok4:bH Tryz.prog G Tryz.f4=some bF:=by kernel_rfl
abbrev ach:Nat:=5
def nT:aC:=⟨47,(zJ [iz 0 false] (zJ [zC 10 6 [(zS [102,110,32,109,97,105,110,40,120,32,97,114,114,41,32,105,110,116,32,123,32,112,114,105,110,116,32,121,59,32,125])],ae 9 10,pB 11 9 0,pB 12 9 1,zV 2 (.alloc 26 [(.int .i64 0),(.int .i64 0)]),ae 1 11,eN 2 2 12] (zJ [ae 14 1,jn 15 8 14,ae 13 15,pB 16 13 0,pB 17 13 1,zV 3 (.alloc 33 [.aa,.aa,.aa,.aa,.aa,(.int .i64 0)]),zV 4 (.alloc 26 [(.int .i64 0),(.int .i64 0)]),eN 6 3 16,eN 2 4 17] (zJ [zC 19 6 [(zS [102,110,32,109,97,105,110,40,120,32,97,114,114,41,32,105,110,116,32,123,32,118,97,114,32,110,32,61,32,108,101,110,40,120,41,59,32,114,101,116,117,114,110,32,110,59,32,125])],ae 18 19,pB 20 18 0,pB 21 18 1,zV 6 (.alloc 26 [(.int .i64 0),(.int .i64 0)]),ae 5 20,eN 2 6 21] (zJ [ae 23 5,jn 24 8 23,ae 22 24,pB 25 22 0,pB 26 22 1,zV 7 (.alloc 33 [.aa,.aa,.aa,.aa,.aa,(.int .i64 0)]),zV 8 (.alloc 26 [(.int .i64 0),(.int .i64 0)]),eN 6 7 25,eN 2 8 26] (zJ [oR 27 2 4,zV 28 (.build [(.int .i64 0),(.int .i64 0)] [(0,1,(zI 9)),(1,1,(zI 27))]),zV 29 (.eq false (.agg [(none,0,(.bG 1)),(none,1,(.bG 1))]) (zT 27) (zT 28)),ae 30 29,zG 31 (.load (some 2) (zT 8)) 30 true,zG 32 (.build [(.int .i64 0),(.int .i64 0)] []) 30 true,zG 33 (.eq false (.agg [(none,0,(.bG 1)),(none,1,(.bG 1))]) (zT 31) (zT 32)) 30 true,lK 34 30 33,ae 35 34,ly 36 4 7 35 true,kU 37 36 35 true,zG 38 (.aG 3 1 2 [(.int .i64 0)] [(0,(zI 3)),(1,(zI 1))]) 35 true,zG 39 (.aG 30 1 1 [.aa] [(0,(zT 38))]) 35 true,zH 40 11 [(zT 37),(zT 39)] 35 true,lK 41 35 40,ae 42 41,ly 43 5 7 42 true,kU 44 43 42 true,BJ 45 44 0 42 true,lK 46 42 45,ae 0 46] .ret)))))),[.tmp 0]⟩
theorem ok5:bH Tryz.prog G Tryz.f5=some nT:=by kernel_rfl
abbrev ace:Nat:=6
def EJ:ar:=zL (zJ [ae 25 6,bP 26 25,aA 27 5 26,aA 28 0 27,aJ 29 28,fG 30 29 0,ae 31 30,eb 32 6 31 true,zH 33 13 [(zT 32)] 31 true,zG 34 (.CC none 0 (zT 33)) 31 true,zG 35 (.eq true (.bG 1) (zT 34) (zI 0)) 31 true,lK 36 31 35] (zX 36 0)) (.block 1 (zJ [ae 37 6,jn 38 13 37,zV 39 (.CC none 3 (zT 38)),ae 8 39] (zJ [ae 40 6,zC 41 14 [(zT 40),(zS [102,110])]] (zL (zJ [ae 42 7,iP 43 42,zV 44 (.bin .geq (zT 43) (zI 200))] (zU 44 (zR [ae 45 6,ae 46 8,zC 47 15 [(zT 45),(zI 3),(zT 46)]]))) (zJ [ae 49 6,jn 50 16 49,ae 48 50,pB 51 48 0,pB 52 48 1,ae 9 51,ae 10 52] (zJ [ae 53 6,jn 54 17 53,ae 11 54] (zJ [ae 55 6,jn 56 18 55,ae 12 56] (zJ [ae 57 11,ae 58 6,jn 59 19 58,zV 60 (.aG 3 1 1 [(.int .i64 0)] [(0,(zT 59))]),yz 61 3 1 8 57 60,ae 11 61] (zR [ae 62 7,ae 63 6,ae 64 9,ae 65 12,ae 66 11,ae 67 10,zV 68 (.build [(.int .i64 0),.aa,(.int .i64 0),(.str []),(.int .i64 0)] [(0,1,(zI 25)),(3,1,(zT 64)),(2,1,(zT 65)),(1,1,(zT 66)),(4,1,(zT 67))]),gX 69 20 63 68,zV 70 (.aG 3 1 1 [(.int .i64 0)] [(0,(zT 69))]),yz 71 3 1 8 62 70,ae 7 71])))))))))
def nN:aC:=⟨94,(zJ [zV 2 (.tA (.const .aa)),zV 3 (.alloc 26 [(.int .i64 0),(.int .i64 0)])] (zJ [ae 14 0,jn 15 12 14,ae 13 15,pB 16 13 0,pB 17 13 1,zV 5 (.alloc 26 [(.int .i64 0),(.int .i64 0)]),ae 4 16,eN 2 5 17] (zL (zJ [aA 18 0 5,aJ 19 18,Be 20 19 0] (zU 20 (zD [oR 21 2 5,zV 2 (.tA (.const .aa)),eN 2 3 21] [] .ret))) (zJ [ae 22 4,zV 23 (.build [.aa,(.int .i64 0),(.int .i64 0),.aa,.aa,(.int .i64 0),(.int .i64 0)] [(0,1,(zT 22))]),zV 24 (.box 47 (zT 23)),ae 6 24] (zJ [zV 7 (.tA (.const .aa))] (zL (.block 0 (.loop EJ)) (zJ [ae 72 6,ae 73 7,zV 74 (.build [(.int .i64 0),.aa,(.int .i64 0),(.str []),(.int .i64 0)] [(0,1,(zI 26)),(1,1,(zT 73))]),gX 75 20 72 74] (zL (zJ [ae 76 6,bP 77 76,aA 78 5 77,aA 79 0 78,aJ 80 79,Be 81 80 0] (zU 81 (zD [ae 82 6,bP 83 82,aA 84 5 83,oR 85 2 84,zV 2 (.tA (.const .aa)),eN 2 3 85] [] .ret))) (zD [ae 86 6,bP 87 86,aA 88 3 87,aJ 89 88,ae 90 6,bP 91 90,aA 92 5 91,oR 93 2 92,ae 2 89,eN 2 3 93] [] .ret))))))))),[.tmp 2,.cell 3 (some 2)]⟩
theorem ok6:bH Tryz.prog G Tryz.f6=some nN:=by kernel_rfl
abbrev tx:Nat:=7
def jT:ar:=zL (zJ [ae 5 4,ae 6 0,iP 7 6,oT 8 5 7] (zX 8 0)) (zL (.block 1 (zJ [ae 11 3,ae 12 0,ae 13 4,eJ 14 5 12 13,aA 15 1 14,aJ 16 15,iP 17 16,zV 18 (.bin .add (zT 11) (zT 17)),ae 3 18] (zJ [ae 19 0,ae 20 4,eJ 21 5 19 20,aA 22 3 21,aJ 23 22,zV 24 (.gj (zT 23)),zV 25 (.bin .gtr (zT 24) (zI 40))] (zU 25 (zJ [iz 2 false] .ret))))) (zR [ae 9 4,mI 10 9 1,ae 4 10]))
def nU:aC:=⟨33,(zJ [iz 2 false] (zJ [eG 3 0] (zL (zJ [eG 4 0] (.block 0 (.loop jT))) (zJ [ae 26 0,iP 27 26,zV 28 (.bin .leq (zT 27) (zI 400)),ae 29 28,eb 30 3 29 true,zG 31 (.bin .leq (zT 30) (zI 800)) 29 true,lK 32 29 31,ae 2 32] .ret)))),[.tmp 2]⟩
theorem ok7:bH Tryz.prog G Tryz.f7=some nU:=by kernel_rfl
abbrev mU:Nat:=8
def iX:ar:=zJ [oT 40 39 38] (zL (zX 40 0) (zL (.block 1 (zJ [ae 41 39,ae 5 41] (.draw [ae 42 4,bP 43 42,aA 44 1 43,aA 45 1 44,aJ 46 45,ae 47 5,ae 48 4,bP 49 48,aA 50 1 49,aA 51 2 50,aJ 52 51,ae 53 5,eJ 54 1 46 47,zN (.store 1 (zT 54) (zI (-1))),eJ 55 1 52 53,zN (.store 1 (zT 55) (zI (-1)))] []))) (zR [mI 56 39 1,ae 39 56])))
def gG:ar:=zJ [oT 66 65 64] (zL (zX 66 2) (zL (.block 3 (zJ [eJ 67 1 63 65,aJ 68 67,ae 7 68] (zJ [ae 69 4,jn 70 23 69] (zU 70 (zR [ae 71 4,ae 72 7,gX 73 24 71 72]))))) (zR [mI 74 65 1,ae 65 74])))
def e9:aC:=⟨88,(zJ [zV 2 (.alloc 33 [.aa,.aa,.aa,.aa,.aa,(.int .i64 0)]),zV 3 (.alloc 26 [(.int .i64 0),(.int .i64 0)])] (zL (zJ [ae 8 0,jn 9 21 8,w7 10 9] (zU 10 (zJ [zV 11 (.build [.aa,.aa,.aa,.aa,.aa,(.int .i64 0)] []),zV 12 (.build [(.int .i64 0),(.int .i64 0)] [(0,1,(zI 5))]),eN 6 2 11,eN 2 3 12] .ret))) (zJ [ae 13 0,zV 14 (.build [.aa,.aa,.aa,.aa,.aa,.aa,(.int .i64 0),.bM,(.int .i64 0),(.int .i64 0),(.int .i64 0),(.int .i64 0)] [(0,1,(zT 13))]),zV 15 (.box 63 (zT 14)),ae 4 15] (zD [ae 16 4,ae 17 4,ae 18 4,ae 19 0,iP 20 19,zV 21 (.jI 3 1 [(.int .i64 0)] (zT 20) (zT 20)),ae 22 0,iP 23 22,zV 24 (.jI 3 1 [(.int .i64 0)] (zT 23) (zT 23)),ae 25 0,iP 26 25,zV 27 (.jI 3 1 [(.int .i64 0)] (zT 26) (zT 26)),bP 28 16,aA 29 1 28,aA 30 0 29,eN 1 30 21,bP 31 17,aA 32 1 31,aA 33 1 32,eN 1 33 24,bP 34 18,aA 35 1 34,aA 36 2 35,eN 1 36 27] [] (zL (zJ [ae 37 0,iP 38 37,eG 39 0] (.block 0 (.loop iX))) (zJ [ae 57 4,jn 58 22 57] (zL (zJ [ae 59 4,bP 60 59,aA 61 1 60,aA 62 3 61,aJ 63 62,iP 64 63,eG 65 0] (.block 2 (.loop gG))) (zL (zJ [ae 75 4,jn 76 23 75,w7 77 76] (zU 77 (zD [zV 78 (.build [.aa,.aa,.aa,.aa,.aa,(.int .i64 0)] []),ae 79 4,bP 80 79,aA 81 10 80,oR 82 2 81,eN 6 2 78,eN 2 3 82] [(4,5)] .ret))) (zJ [ae 83 4,bP 84 83,aA 85 1 84,oR 86 6 85,zV 87 (.build [(.int .i64 0),(.int .i64 0)] []),eN 6 2 86,eN 2 3 87] .ret))))))))),[.cell 2 (some 6),.cell 3 (some 2)]⟩
theorem ok8:bH Tryz.prog G Tryz.f8=some e9:=by kernel_rfl
abbrev rU:Nat:=9
def kH:ar:=zL (zJ [ae 17 5,ae 18 0,iP 19 18,oT 20 17 19] (zX 20 0)) (zL (.block 1 (zJ [ae 23 4,ae 24 4,bP 25 24,aA 26 1 25,aA 27 0 26,aJ 28 27,zV 29 (.aG 3 1 1 [(.int .i64 0)] [(0,(zI 0))]),yz 30 3 1 8 28 29,bP 31 23,aA 32 1 31,aA 33 0 32,eN 1 33 30] (zJ [ae 34 4,ae 35 4,bP 36 35,aA 37 1 36,aA 38 1 37,aJ 39 38,zV 40 (.aG 3 1 1 [(.int .i64 0)] [(0,(zI (-1)))]),yz 41 3 1 8 39 40,bP 42 34,aA 43 1 42,aA 44 1 43,eN 1 44 41] (zR [ae 45 4,ae 46 4,bP 47 46,aA 48 1 47,aA 49 2 48,aJ 50 49,zV 51 (.aG 3 1 1 [(.int .i64 0)] [(0,(zI (-1)))]),yz 52 3 1 8 50 51,bP 53 45,aA 54 1 53,aA 55 2 54,eN 1 55 52])))) (zR [ae 21 5,mI 22 21 1,ae 5 22]))
def kG:ar:=zL (zJ [ae 96 8,aA 97 1 7,aJ 98 97,iP 99 98,CK 100 99 1,oT 101 96 100] (zX 101 4)) (zL (.block 5 (.draw [ae 104 4,aA 105 1 7,aJ 106 105,ae 107 8,eJ 108 1 106 107,aJ 109 108,ae 110 0,aA 111 1 7,aJ 112 111,ae 113 8,eJ 114 1 112 113,aJ 115 114,eJ 116 5 110 115,aA 117 2 116,aJ 118 117,Yq 119 28 104 109 118] [])) (zR [ae 102 8,mI 103 102 1,ae 8 103]))
def dX:ar:=zL (zJ [ae 58 6,ae 59 4,bP 60 59,aA 61 1 60,aA 62 3 61,aJ 63 62,iP 64 63,oT 65 58 64,ae 66 65,eb 67 4 66 true,zG 68 (.lU (zT 67)) 66 true,ly 69 12 68 66 true,ly 70 0 69 66 true,kU 71 70 66 true,BJ 72 71 0 66 true,lK 73 66 72] (zX 73 2)) (zL (.block 3 (zJ [ae 76 0,ae 77 4,bP 78 77,aA 79 1 78,aA 80 3 79,aJ 81 80,ae 82 6,eJ 83 1 81 82,aJ 84 83,eJ 85 5 76 84,oR 86 5 85,zV 7 (.alloc 59 [(.int .i64 0),.aa,(.int .i64 0),(.str []),(.int .i64 0)]),eN 5 7 86] (zJ [ae 87 4,zC 88 27 [],bP 89 87,aA 90 7 89,eN 3 90 88] (zJ [ae 91 4,aA 92 2 7,aJ 93 92,bP 94 91,aA 95 11 94,eN 1 95 93] (zL (zJ [eG 8 0] (.block 4 (.loop kG))) (zL (zJ [ae 120 4,bP 121 120,aA 122 12 121,aA 123 0 122,aJ 124 123,fG 125 124 0] (zU 125 (zR [ae 126 4,aA 127 1 7,aJ 128 127,aA 129 1 7,aJ 130 129,iP 131 130,CK 132 131 1,eJ 133 1 128 132,aJ 134 133,gX 135 29 126 134]))) (.draw [ae 136 4,ae 137 4,bP 138 137,aA 139 1 138,aA 140 4 139,aJ 141 140,zV 142 (.aG 3 1 0 [(.int .i64 0)] []),ae 143 4,bP 144 143,aA 145 7 144,aA 146 1 145,aJ 147 146,yz 148 3 1 8 142 147,zV 149 (.aG 30 1 1 [.aa] [(0,(zT 148))]),yz 150 30 1 24 141 149,bP 151 136,aA 152 1 151,aA 153 4 152,eN 1 153 150] [(5,12)]))))))) (zR [ae 74 6,mI 75 74 1,ae 6 75]))
def gU:aC:=⟨173,(zJ [zV 2 (.alloc 36 [.aa,.aa,.aa,.aa,.aa,(.int .i64 0)]),zV 3 (.alloc 26 [(.int .i64 0),(.int .i64 0)])] (zL (zJ [ae 9 0,jn 10 25 9,w7 11 10] (zU 11 (zJ [zV 12 (.build [.aa,.aa,.aa,.aa,.aa,(.int .i64 0)] []),zV 13 (.build [(.int .i64 0),(.int .i64 0)] [(0,1,(zI 5))]),eN 6 2 12,eN 2 3 13] .ret))) (zJ [ae 14 0,zV 15 (.build [.aa,.aa,.aa,.aa,.aa,.aa,(.int .i64 0),.aa,.aa,(.int .i64 0),(.int .i64 0),(.int .i64 0),(.int .i64 0),(.int .i64 0)] [(0,1,(zT 14))]),zV 16 (.box 70 (zT 15)),ae 4 16] (zL (zJ [eG 5 0] (.block 0 (.loop kH))) (zJ [ae 56 4,jn 57 26 56] (zL (zJ [eG 6 0] (.block 2 (.loop dX))) (zL (zJ [ae 154 4,bP 155 154,aA 156 12 155,aA 157 0 156,aJ 158 157,Be 159 158 0] (zU 159 (zD [zV 160 (.build [.aa,.aa,.aa,.aa,.aa,(.int .i64 0)] []),ae 161 4,bP 162 161,aA 163 12 162,oR 164 2 163,eN 6 2 160,eN 2 3 164] [(4,5)] .ret))) (zD [ae 165 4,bP 166 165,aA 167 1 166,oR 168 6 167,ae 169 4,bP 170 169,aA 171 12 170,oR 172 2 171,eN 6 2 168,eN 2 3 172] [(7,8)] .ret)))))))),[.cell 2 (some 6),.cell 3 (some 2)]⟩
theorem ok9:bH Tryz.prog G Tryz.f9=some gU:=by kernel_rfl
abbrev qZ:Nat:=10
def mr:aC:=⟨45,(zJ [zV 2 (.box 33 (zT 0)),zV 3 (.box 36 (zT 1)),iz 4 false] (zJ [aA 5 0 2,aJ 6 5,aA 7 0 3,aJ 8 7,gX 9 30 6 8,ae 10 9,ly 11 1 2 10 true,kU 12 11 10 true,ly 13 1 3 10 true,kU 14 13 10 true,zH 15 30 [(zT 12),(zT 14)] 10 true,lK 16 10 15,ae 17 16,ly 18 2 2 17 true,kU 19 18 17 true,ly 20 2 3 17 true,kU 21 20 17 true,zH 22 30 [(zT 19),(zT 21)] 17 true,lK 23 17 22,ae 24 23,ly 25 3 2 24 true,kU 26 25 24 true,ly 27 3 3 24 true,kU 28 27 24 true,zH 29 30 [(zT 26),(zT 28)] 24 true,lK 30 24 29,ae 31 30,ly 32 4 2 31 true,kU 33 32 31 true,ly 34 4 3 31 true,kU 35 34 31 true,zH 36 11 [(zT 33),(zT 35)] 31 true,lK 37 31 36,ae 38 37,ly 39 5 2 38 true,kU 40 39 38 true,ly 41 5 3 38 true,kU 42 41 38 true,zG 43 (.eq false (.bG 1) (zT 40) (zT 42)) 38 true,lK 44 38 43,ae 4 44] .ret)),[.tmp 4]⟩
theorem amr:bH Tryz.prog G Tryz.f10=some mr:=by kernel_rfl
abbrev AI:Nat:=11
def eU:ar:=zL (zJ [ae 11 5,ae 12 0,iP 13 12,oT 14 11 13] (zX 14 0)) (zL (.block 1 (zD [ae 17 0,ae 18 5,eJ 19 1 17 18,aJ 20 19,ae 21 1,ae 22 5,eJ 23 1 21 22,aJ 24 23,gX 25 30 20 24,w7 26 25] [] (zU 26 (zJ [iz 4 false] .ret)))) (zR [ae 15 5,mI 16 15 1,ae 5 16]))
def fF:aC:=⟨27,(zJ [iz 4 false] (zL (zJ [ae 6 0,iP 7 6,ae 8 1,iP 9 8,zV 10 (.eq true (.bG 1) (zT 7) (zT 9))] (zU 10 (zJ [iz 4 false] .ret))) (zL (zJ [eG 5 0] (.block 0 (.loop eU))) (zJ [iz 4 true] .ret)))),[.tmp 4]⟩
theorem amq:bH Tryz.prog G Tryz.f11=some fF:=by kernel_rfl
abbrev y8:Nat:=12
def Cf:ar:=zL (zJ [ae 14 5,ae 15 0,zV 16 (.gj (zT 15)),oT 17 14 16] (zX 17 0)) (.block 1 (zJ [ae 19 0,ae 20 5,zV 21 (.ob (zT 19) (some (zT 20)) none),ae 22 5,gX 23 32 21 22,ae 18 23,pB 24 18 0,pB 25 18 1,zV 6 (.alloc 49 [(.int .i64 0),(.str []),(.int .i64 0),(.int .i64 0)]),eN 4 6 24,ae 7 25] (zL (zJ [ae 26 7,Be 27 26 0] (zU 27 (zJ [ae 28 7,ae 29 5,zV 30 (.build [(.int .i64 0),(.int .i64 0)] [(0,1,(zT 28)),(1,1,(zT 29))]),zV 2 (.tA (.const .aa)),eN 2 3 30] .ret))) (zJ [ae 31 4,oR 32 4 6,zV 33 (.aG 49 4 1 [(.int .i64 0),(.str []),(.int .i64 0),(.int .i64 0)] [(0,(zT 32))]),yz 34 49 4 40 31 33,ae 4 34] (zJ [ae 35 5,aA 36 1 6,aJ 37 36,zV 38 (.gj (zT 37)),zV 39 (.bin .add (zT 35) (zT 38)),ae 5 39] (zR [ae 40 5,ae 41 0,ae 42 5,zV 43 (.ob (zT 41) (some (zT 42)) none),jn 44 31 43,zV 45 (.bin .add (zT 40) (zT 44)),ae 5 45]))))))
def gM:aC:=⟨53,(zJ [zV 2 (.tA (.const .aa)),zV 3 (.alloc 26 [(.int .i64 0),(.int .i64 0)])] (zL (zJ [ae 8 0,zV 9 (.gj (zT 8)),zV 10 (.bin .gtr (zT 9) (zI 65536))] (zU 10 (zJ [zV 11 (.build [(.int .i64 0),(.int .i64 0)] [(0,1,(zI 3))]),zV 2 (.tA (.const .aa)),eN 2 3 11] .ret))) (zJ [zV 4 (.tA (.const .aa))] (zJ [ae 12 0,jn 13 31 12,ae 5 13] (zL (.block 0 (.loop Cf)) (zJ [ae 46 4,ae 47 0,zV 48 (.gj (zT 47)),zV 49 (.build [(.int .i64 0),(.str []),(.int .i64 0),(.int .i64 0)] [(3,1,(zT 48))]),zV 50 (.aG 49 4 1 [(.int .i64 0),(.str []),(.int .i64 0),(.int .i64 0)] [(0,(zT 49))]),yz 51 49 4 40 46 50,zV 52 (.build [(.int .i64 0),(.int .i64 0)] []),ae 2 51,eN 2 3 52] .ret)))))),[.tmp 2,.cell 3 (some 2)]⟩
theorem amp:bH Tryz.prog G Tryz.f12=some gM:=by kernel_rfl
abbrev RR:Nat:=13
def gF:aC:=⟨13,(zJ [zV 2 (.alloc 49 [(.int .i64 0),(.str []),(.int .i64 0),(.int .i64 0)])] (zD [ae 3 0,bP 4 3,aA 5 0 4,aJ 6 5,ae 7 0,bP 8 7,aA 9 1 8,aJ 10 9,eJ 11 4 6 10,oR 12 4 11,eN 4 2 12] [] .ret)),[.cell 2 (some 4)]⟩
theorem amo:bH Tryz.prog G Tryz.f13=some gF:=by kernel_rfl
abbrev Pq:Nat:=14
def hH:aC:=⟨13,(zJ [ae 4 0,ae 5 1,gX 6 33 4 5,w7 7 6] (zU 7 (zR [ae 8 0,ae 9 0,jn 10 13 9,zV 11 (.CC none 3 (zT 10)),zC 12 15 [(zT 8),(zI 8),(zT 11)]]))),[]⟩
theorem amn:bH Tryz.prog G Tryz.f14=some hH:=by kernel_rfl
abbrev Pr:Nat:=15
def hJ:aC:=⟨18,(zJ [ae 6 0,bP 7 6,aA 8 5 7,aA 9 0 8,aJ 10 9,fG 11 10 0] (zU 11 (zR [ae 12 0,ae 13 1,ae 14 2,zV 15 (.build [(.int .i64 0),(.int .i64 0)] [(0,1,(zT 13)),(1,1,(zT 14))]),bP 16 12,aA 17 5 16,eN 2 17 15]))),[]⟩
theorem amm:bH Tryz.prog G Tryz.f15=some hJ:=by kernel_rfl
end
section
abbrev adD:Nat:=16
def pp:aC:=⟨35,(zJ [zV 2 (.tA (zS [])),eG 3 0] (zJ [ae 5 0,jn 6 13 5,zV 4 (.alloc 49 [(.int .i64 0),(.str []),(.int .i64 0),(.int .i64 0)]),eN 4 4 6] (zL (zJ [ae 7 0,bP 8 7,aA 9 5 8,aA 10 0 9,aJ 11 10,Be 12 11 0,ae 13 12,ly 14 0 4 13 false,kU 15 14 13 false,zG 16 (.eq true (.bG 1) (zT 15) (zI 1)) 13 false,qP 17 13 16] (zU 17 (zJ [ae 18 0,aA 19 3 4,aJ 20 19,zC 21 15 [(zT 18),(zI 8),(zT 20)]] (zD [aA 22 3 4,aJ 23 22,zV 2 (.tA (zS [])),ae 3 23] [] .ret)))) (zJ [ae 24 0,bP 25 24,aA 26 1 25,aJ 27 26,mI 28 27 1,bP 29 24,aA 30 1 29,eN 1 30 28] (zD [aA 31 1 4,aJ 32 31,aA 33 3 4,aJ 34 33,ae 2 32,ae 3 34] [] .ret))))),[.tmp 2,.tmp 3]⟩
theorem aml:bH Tryz.prog G Tryz.f16=some pp:=by kernel_rfl
abbrev ZO:Nat:=17
def Cd:ar:=zL (zJ [ae 13 4,ae 14 13,eb 15 0 14 true,zG 16 (.lU (zT 15)) 14 true,ly 17 5 16 14 true,ly 18 0 17 14 true,kU 19 18 14 true,BJ 20 19 0 14 true,lK 21 14 20] (zX 21 0)) (.block 1 (zJ [ae 23 0,jn 24 16 23,ae 22 24,pB 25 22 0,pB 26 22 1,ae 5 25,ae 6 26] (zL (zJ [ae 27 3,iP 28 27,zV 29 (.bin .geq (zT 28) (zI 8))] (zU 29 (zR [ae 30 0,ae 31 6,zC 32 15 [(zT 30),(zI 3),(zT 31)]]))) (zJ [ae 33 0,jn 34 18 33,ae 7 34] (zJ [ae 35 3,ae 36 0,ae 37 5,ae 38 7,ae 39 6,zV 40 (.build [(.int .i64 0),.aa,(.int .i64 0),(.str []),(.int .i64 0)] [(0,1,(zI 24)),(3,1,(zT 37)),(2,1,(zT 38)),(4,1,(zT 39))]),gX 41 20 36 40,zV 42 (.aG 3 1 1 [(.int .i64 0)] [(0,(zT 41))]),yz 43 3 1 8 35 42,ae 3 43] (zR [ae 44 0,zC 45 33 [(zT 44),(zS [44])],ae 4 45]))))))
def mF:aC:=⟨49,(zJ [zV 2 (.tA (.const .aa))] (zJ [zV 3 (.tA (.const .aa))] (zJ [ae 8 0,zC 9 14 [(zT 8),(zS [40])]] (zJ [ae 10 0,zC 11 34 [(zT 10),(zS [41])],w7 12 11,ae 4 12] (zL (.block 0 (.loop Cd)) (zJ [ae 46 0,zC 47 14 [(zT 46),(zS [41])]] (zJ [ae 48 3,ae 2 48] .ret))))))),[.tmp 2]⟩
theorem amk:bH Tryz.prog G Tryz.f17=some mF:=by kernel_rfl
abbrev adE:Nat:=18
def pq:aC:=⟨14,(zJ [eG 2 0] (zL (zJ [ae 3 0,zC 4 33 [(zT 3),(zS [105,110,116])]] (zU 4 (zJ [eG 2 1] .ret))) (zL (zJ [ae 5 0,zC 6 33 [(zT 5),(zS [98,111,111,108])]] (zU 6 (zJ [eG 2 2] .ret))) (zL (zJ [ae 7 0,zC 8 33 [(zT 7),(zS [97,114,114])]] (zU 8 (zJ [eG 2 3] .ret))) (zJ [ae 9 0,ae 10 0,jn 11 13 10,zV 12 (.CC none 3 (zT 11)),zC 13 15 [(zT 9),(zI 8),(zT 12)]] (zJ [eG 2 0] .ret)))))),[.tmp 2]⟩
theorem amj:bH Tryz.prog G Tryz.f18=some pq:=by kernel_rfl
abbrev acd:Nat:=19
def EI:ar:=zL (zJ [ae 19 0,bP 20 19,aA 21 5 20,aA 22 0 21,aJ 23 22,fG 24 23 0,ae 25 24,eb 26 0 25 true,zH 27 33 [(zT 26),(zS [125])] 25 true,zG 28 (.un .not (zT 27)) 25 true,lK 29 25 28] (zX 29 0)) (.block 1 (zR [ae 30 4,ae 31 0,jn 32 36 31,zV 33 (.aG 3 1 1 [(.int .i64 0)] [(0,(zT 32))]),yz 34 3 1 8 30 33,ae 4 34]))
def nM:aC:=⟨47,(zJ [eG 2 0] (zJ [ae 5 0,jn 6 13 5,zV 7 (.CC none 3 (zT 6)),ae 3 7] (zJ [ae 8 0,zC 9 14 [(zT 8),(zS [123])]] (zL (zJ [ae 10 0,bP 11 10,aA 12 5 11,aA 13 0 12,aJ 14 13,fG 15 14 0] (zU 15 (zR [ae 16 0,ae 17 3,gX 18 35 16 17]))) (zJ [zV 4 (.tA (.const .aa))] (zL (.block 0 (.loop EI)) (zJ [ae 35 0,bP 36 35,aA 37 2 36,aJ 38 37,CK 39 38 1,bP 40 35,aA 41 2 40,eN 1 41 39] (zJ [ae 42 0,ae 43 4,ae 44 3,zV 45 (.build [(.int .i64 0),.aa,(.int .i64 0),(.str []),(.int .i64 0)] [(0,1,(zI 23)),(1,1,(zT 43)),(4,1,(zT 44))]),gX 46 20 42 45,ae 2 46] .ret)))))))),[.tmp 2]⟩
theorem ami:bH Tryz.prog G Tryz.f19=some nM:=by kernel_rfl
abbrev RS:Nat:=20
def xk:ar:=zL (zJ [ae 7 6,aA 8 1 3,aJ 9 8,iP 10 9,oT 11 7 10,ae 12 11,eb 13 0 12 true,zG 14 (.lU (zT 13)) 12 true,ly 15 5 14 12 true,ly 16 0 15 12 true,kU 17 16 12 true,BJ 18 17 0 12 true,lK 19 12 18] (zX 19 0)) (zL (.block 1 (.draw [ae 22 5,ae 23 0,bP 24 23,aA 25 4 24,aJ 26 25,aA 27 1 3,aJ 28 27,ae 29 6,eJ 30 1 28 29,aJ 31 30,eJ 32 1 26 31,aJ 33 32,zV 34 (.bin .add (zI 1) (zT 33)),zV 35 (.max [(zT 22),(zT 34)]),ae 5 35] [])) (zR [ae 20 6,mI 21 20 1,ae 6 21]))
def iV:aC:=⟨74,(zJ [zV 3 (.box 59 (zT 1)),eG 4 0] (zJ [eG 5 1] (zL (zJ [eG 6 0] (.block 0 (.loop xk))) (zL (zJ [ae 36 5,zV 37 (.bin .gtr (zT 36) (zI 200))] (zU 37 (zR [ae 38 0,aA 39 4 3,aJ 40 39,zC 41 15 [(zT 38),(zI 4),(zT 40)]]))) (zL (zJ [ae 42 0,bP 43 42,aA 44 5 43,aA 45 0 44,aJ 46 45,Be 47 46 0] (zU 47 (zJ [eG 4 (-1)] .ret))) (zD [ae 48 0,ae 49 0,bP 50 49,aA 51 3 50,aJ 52 51,oR 53 5 3,zV 54 (.aG 59 5 1 [(.int .i64 0),.aa,(.int .i64 0),(.str []),(.int .i64 0)] [(0,(zT 53))]),yz 55 59 5 64 52 54,bP 56 48,aA 57 3 56,eN 1 57 55] [] (zJ [ae 58 0,ae 59 0,bP 60 59,aA 61 4 60,aJ 62 61,ae 63 5,zV 64 (.aG 3 1 1 [(.int .i64 0)] [(0,(zT 63))]),yz 65 3 1 8 62 64,bP 66 58,aA 67 4 66,eN 1 67 65] (zJ [ae 68 0,bP 69 68,aA 70 3 69,aJ 71 70,iP 72 71,CK 73 72 1,ae 4 73] .ret)))))))),[.tmp 4]⟩
theorem amh:bH Tryz.prog G Tryz.f20=some iV:=by kernel_rfl
abbrev uq:Nat:=21
def iH:aC:=⟨15,(zJ [iz 2 false] (zJ [ae 3 0,jn 4 37 3,ae 5 4,eb 6 0 5 true,eb 7 0 5 true,IK 8 7 5 true,zG 9 (.bin .sub (zT 8) (zI 1)) 5 true,zG 10 (.eZ 5 (zT 6) (zT 9)) 5 true,ly 11 0 10 5 true,kU 12 11 5 true,BJ 13 12 26 5 true,lK 14 5 13,ae 2 14] .ret)),[.tmp 2]⟩
theorem amg:bH Tryz.prog G Tryz.f21=some iH:=by kernel_rfl
abbrev rH:Nat:=22
def cg:ar:=zJ [oT 44 43 42] (zL (zX 44 2) (zL (.block 3 (zJ [eJ 45 1 41 43,aJ 46 45,ae 6 46] (.draw [ae 47 0,ae 48 0,bP 49 48,aA 50 0 49,aJ 51 50,ae 52 6,eJ 53 5 51 52,aA 54 3 53,aJ 55 54,aA 56 3 4,aJ 57 56,zV 58 (.eq true (.bG 2) (zT 55) (zT 57)),oR 59 5 4,zC 60 38 [(zT 47),(zT 58),(zI 10),(zT 59)]] []))) (zR [mI 61 43 1,ae 43 61])))
def cS:ar:=zJ [oT 27 26 25] (zL (zX 27 0) (zL (.block 1 (zJ [eJ 28 1 24 26,aJ 29 28,ae 3 29] (zJ [ae 30 0,bP 31 30,aA 32 0 31,aJ 33 32,ae 34 3,eJ 35 5 33 34,oR 36 5 35,zV 4 (.alloc 59 [(.int .i64 0),.aa,(.int .i64 0),(.str []),(.int .i64 0)]),eN 5 4 36] (zL (zJ [ae 37 0,bP 38 37,aA 39 1 38,aA 40 3 39,aJ 41 40,iP 42 41,eG 43 0] (.block 2 (.loop cg))) (zL (zJ [aA 62 3 4,aJ 63 62,zV 64 (.eq false (.bG 2) (zT 63) (zS [109,97,105,110])),ae 65 64,eb 66 0 65 true,zG 67 (.lU (zT 66)) 65 true,ly 68 1 67 65 true,ly 69 5 68 65 true,kU 70 69 65 true,zG 71 (.bin .lss (zT 70) (zI 0)) 65 true,lK 72 65 71] (zU 72 (zR [ae 73 0,ae 74 0,bP 75 74,aA 76 1 75,aA 77 3 76,aJ 78 77,iP 79 78,bP 80 73,aA 81 1 80,aA 82 5 81,eN 1 82 79]))) (zR [ae 83 0,ae 84 0,bP 85 84,aA 86 1 85,aA 87 3 86,aJ 88 87,ae 89 3,zV 90 (.aG 3 1 1 [(.int .i64 0)] [(0,(zT 89))]),yz 91 3 1 8 88 90,bP 92 83,aA 93 1 92,aA 94 3 93,eN 1 94 91])))))) (zR [mI 95 26 1,ae 26 95])))
def cq:aC:=⟨150,(zJ [ae 8 0,bP 9 8,aA 10 1 9,aA 11 5 10,zN (.store 1 (zT 11) (zI (-1)))] (zL (zD [ae 12 0,bP 13 12,aA 14 0 13,aJ 15 14,ae 16 0,bP 17 16,aA 18 0 17,aJ 19 18,iP 20 19,CK 21 20 1,eJ 22 5 15 21,aA 23 1 22,aJ 24 23,iP 25 24,eG 26 0] [] (.block 0 (.loop cS))) (zL (zJ [ae 96 0,ae 97 0,bP 98 97,aA 99 1 98,aA 100 5 99,aJ 101 100,zV 102 (.bin .geq (zT 101) (zI 0)),zV 103 (.build [(.int .i64 0),.aa,(.int .i64 0),(.str []),(.int .i64 0)] []),zC 104 38 [(zT 96),(zT 102),(zI 13),(zT 103)],w7 105 104] (zU 105 .ret)) (zD [ae 106 0,bP 107 106,aA 108 0 107,aJ 109 108,ae 110 0,bP 111 110,aA 112 1 111,aA 113 3 112,aJ 114 113,ae 115 0,bP 116 115,aA 117 1 116,aA 118 5 117,aJ 119 118,eJ 120 1 114 119,aJ 121 120,eJ 122 5 109 121,oR 123 5 122,zV 7 (.alloc 59 [(.int .i64 0),.aa,(.int .i64 0),(.str []),(.int .i64 0)]),eN 5 7 123] [] (.draw [ae 124 0,aA 125 2 7,aJ 126 125,fG 127 126 1,ae 128 127,ly 129 1 7 128 true,kU 130 129 128 true,IK 131 130 128 true,BJ 132 131 2 128 true,lK 133 128 132,ae 134 133,eb 135 0 134 true,zG 136 (.lU (zT 135)) 134 true,ly 137 0 136 134 true,kU 138 137 134 true,ly 139 1 7 134 true,kU 140 139 134 true,zG 141 (.eZ 1 (zT 140) (zI 0)) 134 true,kU 142 141 134 true,zG 143 (.eZ 5 (zT 138) (zT 142)) 134 true,ly 144 2 143 134 true,kU 145 144 134 true,BJ 146 145 3 134 true,lK 147 134 146,oR 148 5 7,zC 149 38 [(zT 124),(zT 147),(zI 13),(zT 148)]] []))))),[]⟩
theorem amf:bH Tryz.prog G Tryz.f22=some cq:=by kernel_rfl
abbrev pM:Nat:=23
def aY:aC:=⟨9,(zJ [iz 2 false] (zJ [ae 3 0,bP 4 3,aA 5 10 4,aA 6 0 5,aJ 7 6,fG 8 7 0,ae 2 8] .ret)),[.tmp 2]⟩
theorem ame:bH Tryz.prog G Tryz.f23=some aY:=by kernel_rfl
abbrev sF:Nat:=24
def dm:ar:=zJ [oT 34 33 32] (zL (zX 34 0) (zL (.block 1 (zJ [eJ 35 1 31 33,aJ 36 35,ae 7 36] (zR [ae 37 0,ae 38 7,ae 39 0,bP 40 39,aA 41 0 40,aJ 42 41,ae 43 7,eJ 44 5 42 43,aA 45 2 44,aJ 46 45,Yq 47 40 37 38 46]))) (zR [mI 48 33 1,ae 33 48])))
def cC:aC:=⟨74,(zJ [ae 8 0,bP 9 8,aA 10 0 9,aJ 11 10,ae 12 1,eJ 13 5 11 12,oR 14 5 13,zV 4 (.alloc 59 [(.int .i64 0),.aa,(.int .i64 0),(.str []),(.int .i64 0)]),eN 5 4 14] (zD [ae 15 0,ae 16 0,zC 17 39 [],aA 18 2 4,aJ 19 18,bP 20 15,aA 21 7 20,eN 1 21 17,bP 22 16,aA 23 9 22,eN 1 23 19] [(4,2),(4,7)] (zJ [aA 24 1 4,aJ 25 24,iP 26 25,CK 27 26 1,ae 5 27] (zL (zJ [aA 28 1 4,aJ 29 28,ae 30 5,zV 31 (.pE 1 (zT 29) none (some (zT 30)) none),iP 32 31,eG 33 0] (.block 0 (.loop dm))) (zL (zJ [ae 49 0,jn 50 23 49] (zU 50 (zR [ae 51 0,aA 52 1 4,aJ 53 52,ae 54 5,eJ 55 1 53 54,aJ 56 55,gX 57 41 51 56]))) (.draw [ae 58 0,ae 59 0,bP 60 59,aA 61 1 60,aA 62 4 61,aJ 63 62,ae 64 0,bP 65 64,aA 66 7 65,aJ 67 66,jn 68 42 67,zV 69 (.aG 30 1 1 [.aa] [(0,(zT 68))]),yz 70 30 1 24 63 69,bP 71 58,aA 72 1 71,aA 73 4 72,eN 1 73 70] [(5,10)])))))),[]⟩
theorem amd:bH Tryz.prog G Tryz.f24=some cC:=by kernel_rfl
abbrev vM:Nat:=25
def jQ:aC:=⟨15,(zJ [iz 2 false] (zJ [ae 3 0,jn 4 43 3,ae 5 4,eb 6 0 5 true,eb 7 0 5 true,IK 8 7 5 true,zG 9 (.bin .sub (zT 8) (zI 1)) 5 true,zG 10 (.eZ 5 (zT 6) (zT 9)) 5 true,ly 11 0 10 5 true,kU 12 11 5 true,BJ 13 12 26 5 true,lK 14 5 13,ae 2 14] .ret)),[.tmp 2]⟩
theorem amc:bH Tryz.prog G Tryz.f25=some jQ:=by kernel_rfl
abbrev yY:Nat:=26
def fx:ar:=zL (zJ [ae 18 3,ae 19 2,iP 20 19,oT 21 18 20] (zX 21 0)) (zL (.block 1 (zD [ae 24 0,ae 25 0,ae 26 0,bP 27 26,aA 28 0 27,aJ 29 28,ae 30 2,ae 31 3,eJ 32 1 30 31,aJ 33 32,eJ 34 5 29 33,aA 35 3 34,aJ 36 35,gX 37 45 25 36,zV 38 (.bin .geq (zT 37) (zI 0)),ae 39 2,ae 40 3,eJ 41 1 39 40,aJ 42 41,zC 43 44 [(zT 24),(zT 38),(zI 10),(zT 42)]] [(18,13)] (.draw [ae 44 0,ae 45 0,bP 46 45,aA 47 1 46,aA 48 3 47,aJ 49 48,ae 50 2,ae 51 3,eJ 52 1 50 51,aJ 53 52,zV 54 (.aG 3 1 1 [(.int .i64 0)] [(0,(zT 53))]),yz 55 3 1 8 49 54,bP 56 44,aA 57 1 56,aA 58 3 57,eN 1 58 55] []))) (zR [ae 22 3,mI 23 22 1,ae 3 23]))
def eW:aC:=⟨137,(zD [ae 5 0,bP 6 5,aA 7 0 6,aJ 8 7,ae 9 0,bP 10 9,aA 11 0 10,aJ 12 11,iP 13 12,CK 14 13 1,eJ 15 5 8 14,aA 16 1 15,aJ 17 16,ae 2 17] [] (zL (zJ [eG 3 0] (.block 0 (.loop fx))) (zJ [ae 59 0,ae 60 0,zC 61 45 [(zT 60),(zS [109,97,105,110])],bP 62 59,aA 63 1 62,aA 64 5 63,eN 1 64 61] (zL (zJ [ae 65 0,bP 66 65,aA 67 1 66,aA 68 5 67,aJ 69 68,zV 70 (.bin .lss (zT 69) (zI 0))] (zU 70 (zL (zJ [ae 71 0,bP 72 71,aA 73 12 72,aA 74 0 73,aJ 75 74,fG 76 75 0] (zU 76 (zR [ae 77 0,zV 78 (.build [(.int .i64 0),(.int .i64 0)] [(0,1,(zI 13))]),bP 79 77,aA 80 12 79,eN 2 80 78]))) .ret))) (zD [ae 81 0,bP 82 81,aA 83 1 82,aA 84 3 83,aJ 85 84,ae 86 0,bP 87 86,aA 88 1 87,aA 89 5 88,aJ 90 89,eJ 91 1 85 90,aJ 92 91,ae 4 92] [] (.draw [ae 93 0,ae 94 0,bP 95 94,aA 96 0 95,aJ 97 96,ae 98 4,eJ 99 5 97 98,aA 100 2 99,aJ 101 100,Be 102 101 1,ae 103 102,eb 104 0 103 false,zG 105 (.lU (zT 104)) 103 false,ly 106 0 105 103 false,kU 107 106 103 false,eb 108 4 103 false,zG 109 (.eZ 5 (zT 107) (zT 108)) 103 false,ly 110 1 109 103 false,kU 111 110 103 false,IK 112 111 103 false,zG 113 (.eq true (.bG 1) (zT 112) (zI 2)) 103 false,qP 114 103 113,ae 115 114,eb 116 0 115 false,zG 117 (.lU (zT 116)) 115 false,ly 118 0 117 115 false,kU 119 118 115 false,eb 120 0 115 false,zG 121 (.lU (zT 120)) 115 false,ly 122 0 121 115 false,kU 123 122 115 false,eb 124 4 115 false,zG 125 (.eZ 5 (zT 123) (zT 124)) 115 false,ly 126 1 125 115 false,kU 127 126 115 false,zG 128 (.eZ 1 (zT 127) (zI 0)) 115 false,kU 129 128 115 false,zG 130 (.eZ 5 (zT 119) (zT 129)) 115 false,ly 131 2 130 115 false,kU 132 131 115 false,zG 133 (.eq true (.bG 1) (zT 132) (zI 3)) 115 false,qP 134 115 133,ae 135 4,zC 136 44 [(zT 93),(zT 134),(zI 13),(zT 135)]] [])))))),[]⟩
theorem amb:bH Tryz.prog G Tryz.f26=some eW:=by kernel_rfl
abbrev F8:Nat:=27
def nL:aC:=⟨2,(zJ [zV 0 (.alloc 68 [.aa,.aa,(.int .i64 0)])] (zJ [zV 1 (.build [.aa,.aa,(.int .i64 0)] [(2,1,(zI 1))]),eN 3 0 1] .ret)),[.cell 0 (some 3)]⟩
theorem ama:bH Tryz.prog G Tryz.f27=some nL:=by kernel_rfl
abbrev xc:Nat:=28
def eh:aC:=⟨53,(zD [ae 9 0,bP 10 9,aA 11 7 10,oR 12 3 11,ae 13 0,bP 14 13,aA 15 0 14,aJ 16 15,ae 17 1,eJ 18 5 16 17,aA 19 3 18,aJ 20 19,ae 21 2,Yq 22 46 12 20 21,ae 8 22,pB 23 8 0,pB 24 8 1,zV 6 (.alloc 68 [.aa,.aa,(.int .i64 0)]),eN 3 6 23,ae 7 24] [] (zJ [ae 25 0,ae 26 7,w7 27 26,ae 28 1,zC 29 44 [(zT 25),(zT 27),(zI 10),(zT 28)]] (zJ [ae 30 0,bP 31 30,aA 32 12 31,aA 33 0 32,aJ 34 33,fG 35 34 0] (zU 35 (zD [ae 36 0,bP 37 36,aA 38 1 37,aA 39 1 38,aJ 40 39,ae 41 1,ae 42 0,bP 43 42,aA 44 7 43,aA 45 1 44,aJ 46 45,iP 47 46,eJ 48 1 40 41,eN 1 48 47] [] (zR [ae 49 0,oR 50 3 6,bP 51 49,aA 52 7 51,eN 3 52 50])))))),[]⟩
theorem al9:bH Tryz.prog G Tryz.f28=some eh:=by kernel_rfl
abbrev rT:Nat:=29
def fD:ar:=zL (zJ [ae 14 4,ae 15 0,bP 16 15,aA 17 0 16,aJ 18 17,ae 19 1,eJ 20 5 18 19,aA 21 1 20,aJ 22 21,iP 23 22,oT 24 14 23] (zX 24 0)) (zL (.block 1 (zR [ae 27 0,ae 28 0,bP 29 28,aA 30 0 29,aJ 31 30,ae 32 1,eJ 33 5 31 32,aA 34 1 33,aJ 35 34,ae 36 4,eJ 37 1 35 36,aJ 38 37,gX 39 47 27 38])) (zR [ae 25 4,mI 26 25 1,ae 4 26]))
def eY:aC:=⟨48,(zJ [ae 5 0,bP 6 5,aA 7 7 6,aA 8 2 7,aJ 9 8,mI 10 9 1,bP 11 5,aA 12 7 11,aA 13 2 12,eN 1 13 10] (zL (zJ [eG 4 0] (.block 0 (.loop fD))) (zR [ae 40 0,ae 41 0,bP 42 41,aA 43 7 42,oR 44 3 43,jn 45 48 44,bP 46 40,aA 47 7 46,eN 3 47 45]))),[]⟩
theorem al8:bH Tryz.prog G Tryz.f29=some eY:=by kernel_rfl
abbrev BP:Nat:=30
def eF:ar:=zL (zJ [ae 11 5,ae 12 0,iP 13 12,oT 14 11 13] (zX 14 0)) (zL (.block 1 (zD [ae 17 0,ae 18 5,eJ 19 1 17 18,aJ 20 19,ae 21 1,ae 22 5,eJ 23 1 21 22,aJ 24 23,zV 25 (.eq true (.bG 1) (zT 20) (zT 24))] [] (zU 25 (zJ [iz 4 false] .ret)))) (zR [ae 15 5,mI 16 15 1,ae 5 16]))
def fg:aC:=⟨26,(zJ [iz 4 false] (zL (zJ [ae 6 0,iP 7 6,ae 8 1,iP 9 8,zV 10 (.eq true (.bG 1) (zT 7) (zT 9))] (zU 10 (zJ [iz 4 false] .ret))) (zL (zJ [eG 5 0] (.block 0 (.loop eF))) (zJ [iz 4 true] .ret)))),[.tmp 4]⟩
theorem al7:bH Tryz.prog G Tryz.f30=some fg:=by kernel_rfl
end
end Go.Proofs.YtfbnghpabppljaaGreatDoor.Ev
