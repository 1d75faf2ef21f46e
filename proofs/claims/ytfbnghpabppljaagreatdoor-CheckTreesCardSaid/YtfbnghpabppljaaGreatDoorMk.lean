/- WTr3, WTr3b, PTr1, WTr4, PTr2, WTrW, WCk24, WCk25, WSc8, WSc9, WRk1, WRk2, WRk3, WRk4. -/
import Derived.Test.YtfbnghpabppljaaGreatDoorMj
set_option linter.unusedSimpArgs false
set_option linter.unusedVariables false
set_option linter.unusedSectionVars false
set_option linter.defProp false
set_option maxRecDepth 20000
set_option maxHeartbeats 8000000
namespace Go.Proofs.YtfbnghpabppljaaGreatDoor.Ev
open Go
section
def mW(r:qk)(k:List Int):Nat:=if 0<r.more then k.length- r.kids.length else 0
def qh(l:List Nd)(ks:List Int)(ss:List Int):Prop:=∀(i:Nat) (x s:Int),ks[i]?=some x->ss[i]?=some s->qo (kindOf l x) s
def WT(l:List Nd)(d:Nd):Prop:=
 let r:=pa d.kind
 (1<=d.kind/\d.kind<=26)/\0<=d.pos/\r.low<=d.n/\d.n<=r.high/\(r.name=true↔d.s≠[])/\(r.name=true->xu d.s)/\
 (∀x∈d.kids.take (mW r d.kids),qo (kindOf l x) r.sort)/\(0<r.more->(mW r d.kids:Int)<=r.more)/\
 ((d.kids.drop (mW r d.kids)).length=r.kids.length\/r.maybe=true/\(d.kids.drop (mW r d.kids)).length+1=r.kids.length)/\
 qh l (d.kids.drop (mW r d.kids)) r.kids
def xB(m0 m:Mem):Prop:=m0.next<=m.next/\∀b,m.get b=m0.get b
theorem xB.refl(m:Mem):xB m m:=⟨cR _,fun _=>rfl⟩
theorem xB.bump{m0 m:Mem}(h:xB m0 m)(k:Nat):xB m0 (Ev.bump m k):=⟨by rw[au];have:=h.1;unfold nb;omega,fun b=>by rw[fK];exact h.2 b⟩
theorem aew{l:List Nd}{r:qk}{k:List Int}{t1 t2 b5 ty:Nat}{nl1 nl2:Bool}{v7 v8:EV}(hv:oZ l k)(hl:k.length<1000000000){m0:Mem}(Kl:m0.get b5=.cells r.cells 8 ty false){fr:Fr}(h0:fr.get 0=row nl1 t1 5 (lC l))(h5:fr.get 5=.ptr b5 0)(h7:fr.get 7=v7)(h8:fr.get 8=v8)(h72:fr.get 72=row nl2 t2 1 (ints k))(h73:fr.get 73=.int .i64 (k.length:Int))(h74:fr.get 74=.int .i64 0)(hd:fr.defers=[]) :
  ∃o,exec U (.loop j4) fr m0=some o/\((¬(∀x∈k,qo (kindOf l x) r.sort)/\∃fr' m',o=.ret fr' m'/\fr'.get 4=.bool false/\fr'.defers=[])\/((∀x∈k,qo (kindOf l x) r.sort)/\∃fr' m',o=.exit 0 fr' m'/\xB m0 m'/\fr'.get 0=row nl1 t1 5 (lC l)/\fr'.get 5=.ptr b5 0/\fr'.get 7=v7/\fr'.get 8=v8/\fr'.defers=[])):=by
 refine dr (σ:=Nat) (fun i fr m=>xB m0 m/\i<=k.length/\(∀x∈k.take i,qo (kindOf l x) r.sort)/\fr.get 0=row nl1 t1 5 (lC l)/\fr.get 5=.ptr b5 0/\fr.get 7=v7/\fr.get 8=v8/\fr.get 72=row nl2 t2 1 (ints k)/\fr.get 73=.int .i64 (k.length:Int)/\fr.get 74=.int .i64 (i:Int)/\fr.defers=[]) (fun i=>k.length- i) _ ?_ 0 fr m0 ⟨.refl _,nZ _,by simp,h0,h5,h7,h8,h72,h73,h74,hd⟩
 rintro i fr m ⟨hm,hi,hn,h0,h5,h7,h8,h72,h73,h74,hd⟩;replace Kl:=(hm.2 b5).trans Kl;generalize hX:exec U j4 fr m=X;by_cases lP:i<k.length
 ·have hc:(i:Int)<(k.length:Int):=by omega
  have hg:k[i]?=some k[i]:=jE lP;obtain⟨x0,x1⟩:=hv k[i] (oX lP);obtain⟨d,IF,zt⟩:=uo x0 x1;have eC:=uA (k:=.i64) x0 x1;have gP:=aZ (i:=i) (by omega);simp only[j4,h0,h5,h7,h8,h72,h73,h74,hd,hc,hg,lP,gP,Kl,qk.cells,ap,gh,aF,jG,eL,eC,IF,Nd.cells,O3,ao,simprocAttr]at hX;subst hX;refine rY (fun he=>iD (Or.inl ⟨fun q=>he ?_,_,_,rfl,by simp[hd,ay]⟩)) (fun he=>bB (i+1) (by omega) ⟨hm.bump _,lP,?_,by simp[h0,h5,h7,h8,h72,h73,hd,ay]⟩)
  ·rw[<- zt];exact q _ (oX lP)
  ·intro x hx;rw[List.take_succ_eq_append_getElem lP,Ag]at hx;rcases hx with hx|hx
   ·exact hn x hx
   ·rw[IA.1 hx,zt];exact Classical.not_not.1 he
 ·have hc:¬((i:Int)<(k.length:Int)):=by omega
  rw[uP (by omega)]at hn;simp only[j4,h0,h5,h7,h8,h72,h73,h74,hd,hc,ao,simprocAttr]at hX;subst hX;exact bK (Or.inr ⟨hn,_,_,rfl,hm,by simp[h0,h5,h7,h8,hd,ay]⟩)
theorem aev{l:List Nd}{r:qk}{k:List Int}{t1 t2 b5 ty:Nat}{nl1 nl2:Bool}(hv:oZ l k)(uW:k.length<=r.kids.length)(hl:k.length<1000000000){m0:Mem}(Kl:m0.get b5=.cells r.cells 8 ty false){fr:Fr}(h0:fr.get 0=row nl1 t1 5 (lC l))(h5:fr.get 5=.ptr b5 0)(WZ:fr.get 115=row nl2 t2 1 (ints k))(WY:fr.get 116=.int .i64 (k.length:Int))(aat:fr.get 117=.int .i64 0)(hd:fr.defers=[]) :
  ∃o,exec U (.loop gL) fr m0=some o/\((¬qh l k r.kids/\∃fr' m',o=.ret fr' m'/\fr'.get 4=.bool false/\fr'.defers=[])\/(qh l k r.kids/\∃fr' m',o=.exit 2 fr' m'/\xB m0 m'/\fr'.defers=[])):=by
 refine dr (σ:=Nat) (fun i fr m=>xB m0 m/\i<=k.length/\qh l (k.take i) r.kids/\fr.get 0=row nl1 t1 5 (lC l)/\fr.get 5=.ptr b5 0/\fr.get 115=row nl2 t2 1 (ints k)/\fr.get 116=.int .i64 (k.length:Int)/\fr.get 117=.int .i64 (i:Int)/\fr.defers=[]) (fun i=>k.length- i) _ ?_ 0 fr m0 ⟨.refl _,nZ _,fun i x s h=>by simp at h,h0,h5,WZ,WY,aat,hd⟩
 rintro i fr m ⟨hm,hi,hn,h0,h5,WZ,WY,aat,hd⟩;replace Kl:=(hm.2 b5).trans Kl;generalize hX:exec U gL fr m=X;by_cases lP:i<k.length
 ·have hc:(i:Int)<(k.length:Int):=by omega
  have hg:k[i]?=some k[i]:=jE lP;have Fb:i<r.kids.length:=by omega
  have Kd:r.kids[i]?=some r.kids[i]:=jE Fb;obtain⟨x0,x1⟩:=hv k[i] (oX lP);obtain⟨d,IF,zt⟩:=uo x0 x1;have eC:=uA (k:=.i64) x0 x1;have gP:=aZ (i:=i) (by omega);have hr0:∀y,idx r.kids.length (.int .i64 (i:Int))=some y↔i=y:=fun y=>by rw[ap Fb];simp
  simp only[gL,h0,h5,WZ,WY,aat,hd,hc,hg,Kd,lP,Fb,gP,Kl,qk.cells,ap,gh,aF,jG,eL,eC,IF,Nd.cells,O3,ao,simprocAttr]at hX;subst hX;refine rY (fun he=>iD (Or.inl ⟨fun q=>he ?_,_,_,rfl,by simp[hd,ay]⟩)) (fun he=>bB (i+1) (by omega) ⟨hm.bump _,lP,?_,by simp[h0,h5,WZ,WY,hd,ay]⟩)
  ·rw[<- zt];exact q i _ _ hg Kd
  ·intro j x s hj hs;rw[List.getElem?_take]at hj
   split at hj
   ·rename_i Gj
    by_cases PK:j<i
    ·exact hn j x s (by rw[List.getElem?_take,if_pos PK];exact hj) hs
    ·obtain rfl:j=i:=by omega
     rw[hg]at hj;rw[Kd]at hs;cases hj;cases hs;rw[zt];exact Classical.not_not.1 he
   ·cases hj
 ·have hc:¬((i:Int)<(k.length:Int)):=by omega
  rw[uP (by omega)]at hn;simp only[gL,h0,h5,WZ,WY,aat,hd,hc,ao,simprocAttr]at hX;subst hX;exact bK (Or.inr ⟨hn,_,_,rfl,hm,by simp[hd,ay]⟩)
end
section
theorem wU{p:Prop}{a b v:Option EV}(h1:p->a=v)(h2:¬p->b=v):YB p a b=v:=by
 by_cases h:p
 ·rw[Hy h];exact h1 h
 ·rw[Hz h];exact h2 h
theorem ML(k:Int):(pa k).kids.length<=3:=by
 unfold pa
 split
 ·have:∀n:Nat,n<26->((qp.getD n xm).kids.length<=3):=by decide
  exact this _ (by omega)
 ·decide
theorem amE{n:Nat}{m:Nat}(h:n<1000000000)(h2:m<=3):sl [.int .i64 0,.int .i64 (IntKind.i64.wrap ((n:Int)-(m:Int)))]=some (.int .i64 ((n- m:Nat):Int)):=by
 rw[wrap_i64 (by omega) (by omega)];simp only[sl,ng,Nat.beq_refl,cond_true]
 congr 2
 split<;>omega
theorem WR{l:List Nd}{kind n pos:Int}{kids:List Int}{nl:Bool}{s:cH}{r:qk}{n0:Nat}(hr:pa kind=r)(hn:mW r kids=n0):WT l ⟨kind,kids,nl,n,s,pos⟩↔((1<=kind/\kind<=26)/\0<=pos/\r.low<=n/\n<=r.high/\(r.name=true↔s≠[])/\(r.name=true->xu s)/\
 (∀x∈kids.take n0,qo (kindOf l x) r.sort)/\(0<r.more->(n0:Int)<=r.more)/\((kids.drop n0).length=r.kids.length\/r.maybe=true/\(kids.drop n0).length+1=r.kids.length)/\qh l (kids.drop n0) r.kids):=by
 subst hr hn;exact Iff.rfl
theorem TT{l:List Nd}{d:Nd}{t1:Nat}{nl1:Bool}(hv:oZ l d.kids)(hl:d.kids.length<1000000000)(hs:d.s.length<1000000000):bA B K Ds [row nl1 t1 5 (lC l),.agg d.cells]=some (bo (WT l d)):=by
 rw[dY (by simp[lp])];generalize hL0:exec (UT B K) (ar.loop j4)=L0;generalize hL1:exec (UT B K) (ar.loop gL)=L1;have lN:=QE (k:=d.kind);have BT:=QF hs;have hr3:=ML d.kind;obtain⟨kind,kids,nl,n,s,pos⟩:=d;simp only at hv hl hs lN BT hr3;generalize hr:pa kind=r at *;generalize Tx:mW r kids=n0 at *;have hP:=WR (l:=l) (kind:=kind) (n:=n) (pos:=pos) (kids:=kids) (nl:=nl) (s:=s) hr Tx;have yx:=amE hl hr3;have hvt:oZ l (kids.take n0):=fun x hx=>hv x (List.mem_of_mem_take hx)
 have hvd:oZ l (kids.drop n0):=fun x hx=>hv x (List.mem_of_mem_drop hx)
 have hw3:IntKind.i64.wrap ((r.kids.length:Int)- 1)=(r.kids.length:Int)- 1:=wrap_i64 (by omega) (by omega);have e1:(((kids.drop n0).length:Int)=(r.kids.length:Int))=((kids.drop n0).length=r.kids.length):=propext (by omega);have e2:(((kids.drop n0).length:Int)=(r.kids.length:Int)- 1)=((kids.drop n0).length+1=r.kids.length):=propext (by omega);have e3:((kids.length:Int)=(r.kids.length:Int))=(kids.length=r.kids.length):=propext (by omega);have e4:((kids.length:Int)=(r.kids.length:Int)- 1)=(kids.length+1=r.kids.length):=propext (by omega);have fin:∀{fr:Fr} {m:Mem} {b5:Nat} {nl2:Bool} {t2 ty:Nat},m.get b5=.cells r.cells 8 ty false->fr.get 0=row nl1 t1 5 (lC l)->fr.get 5=.ptr b5 0->fr.get 115=row nl2 t2 1 (ints (kids.drop n0))->fr.get 116=.int .i64 ((kids.drop n0).length:Int)->fr.get 117=.int .i64 0->fr.defers=[]->(kids.drop n0).length<=r.kids.length->
   ∃o,exec U (.loop gL) fr m=some o/\((¬qh l (kids.drop n0) r.kids/\∃fr' m',o=.ret fr' m'/\fr'.get 4=.bool false/\fr'.defers=[])\/(qh l (kids.drop n0) r.kids/\∃fr' m',o=.exit 2 fr' m'/\xB m m'/\fr'.defers=[])):=
  fun g0 g1 g2 g3 g4 g5 g6 g7=>aev hvd g7 (by rw[OZ];omega) g0 g1 g2 g3 g4 g5 g6
 by_cases hm:0<r.more
 ·have Wy:n0=kids.length- r.kids.length:=by rw[<- Tx];exact if_pos hm
  have hle:n0<=kids.length:=by omega
  have aH:(kids.take n0).length=n0:=by rw[List.length_take];omega
  rw[<- Wy]at yx;cases hb:r.name
  all_goals
   simp +contextual -implicitDefEqProofs (maxSteps:=1000000) (maxDischargeDepth:=8) only[lp,Nd.cells,qk.cells,lN,BT,hm,hb,rF,aF,yx,hle,lm,ig,AO,tD,ao,simprocAttr];refine wU (fun hc=>congrArg some (mY fun q=> ?_)) (fun hc=> ?_)
   ·rw[hP]at q;grind
   subst hL0;generalize hX:exec _ (.loop j4) _ _=X;have Kl:(bX.cells [EV.str r.word,bo (r.name=true),EV.int IntKind.i64 r.low,EV.int IntKind.i64 r.high,EV.int IntKind.i64 r.more,EV.int IntKind.i64 r.sort,row r.kids.isEmpty 0 1 (ints r.kids),bo (r.maybe=true)] 8 kV false)=.cells r.cells 8 kV false:=rfl;simp only[hb,rF,fu,fh]at Kl;obtain⟨o,rfl,h⟩:=cG hX (aew (l:=l) (r:=r) (k:=kids.take n0) (b5:=nb fT.next 2) (ty:=kV) (t1:=t1) (nl1:=nl1) (nl2:=nl&&(ints kids).isEmpty) (t2:=0) (v7:=row nl 0 1 (ints kids)) (v8:=.int .i64 (n0:Int)) hvt (by omega) (by simp only[Kl,ao,simprocAttr]) (by simp only[ay,simprocAttr]) (by simp only[ay,simprocAttr]) (by simp only[ay,simprocAttr]) (by simp only[ay,simprocAttr]) (by simp only[ay,simprocAttr]) (by simp only[aH,ay,simprocAttr]) (by simp only[ay,simprocAttr]) (by simp only[ay,simprocAttr]));rcases h with⟨h,fr',m',rfl,g4,gd⟩|⟨h,fr',m',rfl,Sj,g0,g5,g7,g8,gd⟩
   ·simp only[g4,gd,ao,simprocAttr];exact congrArg some (mY fun q=>h (hP.1 q).2.2.2.2.2.2.1)
   have TE:m'.get (nb fT.next 2)=.cells r.cells 8 kV false:=(Sj.2 _).trans (by simp only[Kl,ao,simprocAttr]);have hb7:=TE;simp only[qk.cells]at TE;by_cases acy:r.more<(n0:Int)
   ·simp only[g0,g5,g7,g8,gd,TE,acy,ao,simprocAttr];exact congrArg some (mY fun q=>by have:=(hP.1 q).2.2.2.2.2.2.2.1 hm;omega)
   simp +contextual -implicitDefEqProofs (maxDischargeDepth:=8) only[g0,g5,g7,g8,gd,TE,acy,hle,lm,ig,List.take_length,AO,tD,aF,hw3,e1,e2,ao,simprocAttr];refine wU (fun hc=>congrArg some (mY fun q=> ?_)) (fun tL=> ?_)
   ·have:=(hP.1 q).2.2.2.2.2.2.2.2.1;grind
   subst hL1;generalize hY:exec _ (.loop gL) _ _=Y;obtain⟨o,rfl,h2⟩:=cG hY (fin (b5:=nb fT.next 2) (ty:=kV) (nl2:=nl&&(ints kids).isEmpty) (t2:=0) (by simp only[hb7,ao,simprocAttr]) (by simp only[g0,ay,simprocAttr]) (by simp only[g5,ay,simprocAttr]) (by simp only[ay,simprocAttr]) (by simp only[ay,simprocAttr]) (by simp only[ay,simprocAttr]) (by simp only[gd,ay,simprocAttr]) (by grind));rcases h2 with⟨h2,HV,m2,rfl,k4,kd⟩|⟨h2,HV,m2,rfl,am7,kd⟩
   ·simp only[k4,kd,ao,simprocAttr];exact congrArg some (mY fun q=>h2 (hP.1 q).2.2.2.2.2.2.2.2.2)
   ·simp only[kd,ao,simprocAttr];refine congrArg some (IR (hP.2 ?_))
    grind
 ·have Wy:n0=0:=by rw[<- Tx];exact if_neg hm
  subst Wy;rw[List.drop_zero]at *;cases hb:r.name
  all_goals
   simp +contextual -implicitDefEqProofs (maxSteps:=1000000) (maxDischargeDepth:=8) only[lp,Nd.cells,qk.cells,lN,BT,hm,hb,rF,aF,hw3,e3,e4,ao,simprocAttr];refine wU (fun hc=>congrArg some (mY fun q=> ?_)) (fun hc=> ?_)
   ·rw[hP]at q;grind
   refine wU (fun hc=>congrArg some (mY fun q=> ?_)) (fun tL=> ?_)
   ·have:=(hP.1 q).2.2.2.2.2.2.2.2.1;grind
   subst hL1;have Kl:(bX.cells [EV.str r.word,bo (r.name=true),EV.int IntKind.i64 r.low,EV.int IntKind.i64 r.high,EV.int IntKind.i64 r.more,EV.int IntKind.i64 r.sort,row r.kids.isEmpty 0 1 (ints r.kids),bo (r.maybe=true)] 8 kV false)=.cells r.cells 8 kV false:=rfl;simp only[hb,rF,fu,fh]at Kl;generalize hY:exec _ (.loop gL) _ _=Y;obtain⟨o,rfl,h2⟩:=cG hY (fin (b5:=nb fT.next 2) (ty:=kV) (nl2:=nl) (t2:=0) (by simp only[Kl,ao,simprocAttr]) (by simp only[ay,simprocAttr]) (by simp only[ay,simprocAttr]) (by simp only[ay,simprocAttr]) (by simp only[ay,simprocAttr]) (by simp only[ay,simprocAttr]) (by simp only[ay,simprocAttr]) (by grind));rcases h2 with⟨h2,HV,m2,rfl,k4,kd⟩|⟨h2,HV,m2,rfl,am7,kd⟩
   ·simp only[k4,kd,ao,simprocAttr];exact congrArg some (mY fun q=>h2 (hP.1 q).2.2.2.2.2.2.2.2.2)
   ·simp only[kd,ao,simprocAttr];refine congrArg some (IR (hP.2 ?_))
    have:∀x∈List.take 0 kids,qo (kindOf l x) r.sort:=by simp
    grind
end
section
theorem te{l:List Nd}{ss:List Int}:qh l [] ss↔True:=⟨fun _=>trivial,fun _ i x s h=>by simp at h⟩
theorem Mw{l:List Nd}{ks:List Int}:qh l ks []↔True:=⟨fun _=>trivial,fun _ i x s _ h=>by simp at h⟩
theorem C0{l:List Nd}{k s:Int}{ks ss:List Int}:qh l (k::ks) (s::ss)↔qo (kindOf l k) s/\qh l ks ss:=by
 constructor
 ·intro h;exact⟨h 0 k s rfl rfl,fun i x t hx ht=>h (i+1) x t (by simpa using hx) (by simpa using ht)⟩
 ·rintro⟨h1,h2⟩ i x t hx ht;cases i with
  |zero=>simp at hx ht;subst hx;subst ht;exact h1
  |succ i=>exact h2 i x t (by simpa using hx) (by simpa using ht)
theorem Zw{k:Int}{d:Nd}(hd:d.kind=k){name:Bool}{low high:Int}(hn:(k∈sD)↔name=true)(hr:1<=k/\k<=26)(hi:(if k=1 then 0<=d.n else if k=2 then d.n=0\/d.n=1 else if k=5 then 1<=d.n/\d.n<=16 else if k=24\/k=25 then 1<=d.n/\d.n<=3 else d.n=0)↔(low<=d.n/\d.n<=high)) :
  xK d↔(0<=d.pos/\low<=d.n/\d.n<=high/\(name=true↔d.s≠[])/\(name=true->xu d.s)):=by
 unfold xK;rw[hd,hi,hn];constructor
 ·rintro⟨h1,h2,h3⟩;simp only[not_or,Classical.not_not]at h1;refine⟨by omega,h3.1,h3.2,h1.2,fun h=> ?_⟩
  have:=h1.2.1 h;exact vt fun q=>h2 ⟨this,q⟩
 ·rintro⟨h1,h2,h3,h4,h5⟩;refine⟨?_,fun q=>q.2 (h5 (h4.2 q.1)),h2,h3⟩
  simp only[not_or,Classical.not_not];exact⟨⟨⟨by omega,by omega⟩,by omega⟩,h4⟩
theorem WS{l:List Nd}{d:Nd}(hn:d.n<=9223372036854775807)(hk:d.kids.length<1000000000):WT l d↔xK d/\cJ l d:=by
 by_cases h:1<=d.kind/\d.kind<=26
 ·have hc:d.kind=1\/d.kind=2\/d.kind=3\/d.kind=4\/d.kind=5\/d.kind=6\/d.kind=7\/d.kind=8\/d.kind=9\/d.kind=10\/d.kind=11\/d.kind=12\/d.kind=13\/d.kind=14\/d.kind=15\/d.kind=16\/d.kind=17\/d.kind=18\/d.kind=19\/d.kind=20\/d.kind=21\/d.kind=22\/d.kind=23\/d.kind=24\/d.kind=25\/d.kind=26:=by omega
  have key:∀r:qk,pa d.kind=r->(((d.kind∈sD)↔r.name=true)/\((if d.kind=1 then 0<=d.n else if d.kind=2 then d.n=0\/d.n=1 else if d.kind=5 then 1<=d.n/\d.n<=16 else if d.kind=24\/d.kind=25 then 1<=d.n/\d.n<=3 else d.n=0)↔(r.low<=d.n/\d.n<=r.high))/\
    (cJ l d↔(∀x∈d.kids.take (mW r d.kids),qo (kindOf l x) r.sort)/\(0<r.more->(mW r d.kids:Int)<=r.more)/\((d.kids.drop (mW r d.kids)).length=r.kids.length\/r.maybe=true/\(d.kids.drop (mW r d.kids)).length+1=r.kids.length)/\qh l (d.kids.drop (mW r d.kids)) r.kids))->
    (WT l d↔xK d/\cJ l d):=by
   rintro r hr ⟨h1,h2,h3⟩;rw[Zw (k:=d.kind) rfl h1 h h2,h3];unfold WT;rw[hr];simp only;constructor
   ·rintro⟨_,a1,a2,a3,a4,a5,a6,a7,a8,a9⟩;exact⟨⟨a1,a2,a3,a4,a5⟩,a6,a7,a8,a9⟩
   ·rintro⟨⟨a1,a2,a3,a4,a5⟩,a6,a7,a8,a9⟩;exact⟨h,a1,a2,a3,a4,a5,a6,a7,a8,a9⟩
  obtain⟨kind,kids,nl,n,s,pos⟩:=d;simp only at *;have l0:∀{p q r:Prop},True:=trivial
  rcases hc with rfl|rfl|rfl|rfl|rfl|rfl|rfl|rfl|rfl|rfl|rfl|rfl|rfl|rfl|rfl|rfl|rfl|rfl|rfl|rfl|rfl|rfl|rfl|rfl|rfl|rfl
  all_goals refine key _ rfl ⟨by simp[sD,pa,qp],by simp[pa,qp]<;>omega,?_⟩
  case inr.inr.inr.inr.inr.inr.inr.inr.inr.inr.inl=>
   have e:mW (pa 11) kids=kids.length:=by simp[mW,pa,qp]
   rw[e,List.take_length,List.drop_length];simp[cJ,te,qo,mQ,lu,pa,qp];exact⟨fun q=>⟨q.2,by omega⟩,fun q=>⟨by omega,q.1⟩⟩
  case inr.inr.inr.inr.inr.inr.inr.inr.inr.inr.inr.inr.inr.inr.inr.inr.inr.inr.inr.inr.inr.inr.inl=>
   have e:mW (pa 23) kids=kids.length:=by simp[mW,pa,qp]
   rw[e,List.take_length,List.drop_length];simp[cJ,te,qo,nu,pa,qp]
   intros
   omega
  case inr.inr.inr.inr.inr.inr.inr.inr.inr.inr.inr.inr.inr.inr.inr.inr.inr.inr.inr.inr.inr.inr.inr.inr.inl=>
   have e:mW (pa 25) kids=kids.length- 1:=by simp[mW,pa,qp]
   rw[e];rcases List.eq_nil_or_concat kids with rfl|⟨ks,x,rfl⟩
   ·simp[cJ,pa,qp]
   ·simp[cJ,te,C0,qo,yo,pa,qp];grind
  case inr.inr.inr.inr.inr.inr.inr.inr.inr.inr.inr.inr.inr.inr.inr.inr.inr.inr.inr.inr.inr.inr.inr.inr.inr=>
   have e:mW (pa 26) kids=kids.length:=by simp[mW,pa,qp]
   rw[e,List.take_length,List.drop_length];simp[cJ,te,qo,yo,pa,qp];grind
  all_goals
   rcases kids with _|⟨a,_|⟨b,_|⟨c,_|⟨e,ks⟩⟩⟩⟩<;>simp[cJ,mW,te,Mw,C0,qo,mQ,yo,lu,nu,pa,qp]<;>grind
 ·constructor
  ·intro q;exact absurd q.1 h
  ·rintro⟨q,_⟩;unfold xK at q;refine absurd ?_ h
   have:=q.1;simp only[not_or]at this;omega
end
section
theorem max2{k:IntKind}{a b:Int}:sl [.int k a,.int k b]=some (.int k (max a b)):=by
 simp only[sl,ng,Nat.beq_refl,cond_true]
 congr 2
 split<;>omega
def outs(l:List Nd)(i:Nat)(h:Int):List EV:=(List.range l.length).map fun j=>.int .i64 (if j<i then(eu l j:Int)else if j=i then h else 0)
noncomputable def mJ(n:Nat)(u:List Int):List EV:=(List.range n).map fun(j:Nat)=>bo ((j:Int)∈u)
theorem yT{l:List Nd}{i:Nat}{h:Int}:(outs l i h).length=l.length:=by simp[outs]
theorem Am{n:Nat}{u:List Int}:(mJ n u).length=n:=by simp[mJ]
theorem Pc{l:List Nd}{i:Nat}{h:Int}(hi:i<l.length):(outs l i h)[i]?=some (.int .i64 h):=by
 unfold outs;rw[List.getElem?_map,List.getElem?_range hi];simp
theorem Zx{l:List Nd}{i j:Nat}{h:Int}(hi:i<=l.length)(hj:j<i):(outs l i h)[j]?=some (.int .i64 (eu l j:Int)):=by
 unfold outs;rw[List.getElem?_map,List.getElem?_range (by omega)];simp[hj]
theorem Js{l:List Nd}{i:Nat}{h h2:Int}(hi:i<l.length):(outs l i h).take i++[.int .i64 h2]++(outs l i h).drop (i+1)=outs l i h2:=by
 apply List.ext_getElem?
 intro j;have hl:=yT (l:=l) (i:=i) (h:=h);have e:∀h,(outs l i h)[j]?=if j<l.length then some (.int .i64 (if j<i then(eu l j:Int)else if j=i then h else 0))else none:=by
  intro h;unfold outs;rw[List.getElem?_map];by_cases q:j<l.length
  ·rw[List.getElem?_range q,if_pos q];rfl
  ·rw[List.getElem?_eq_none (by simp;omega),if_neg q];rfl
 rw[e];by_cases h1:j<i
 ·rw[List.append_assoc,rB (by rw[List.length_take];omega),List.getElem?_take,if_pos h1,e];simp[h1]
 ·by_cases Gj:j=i
  ·subst Gj;rw[List.append_assoc,yy (by rw[List.length_take];omega),List.length_take,hl,show j- min j l.length=0 by omega];simp[hi]
  ·rw[yy (by simp;omega),List.getElem?_drop];rw[show i+1+(j-((outs l i h).take i++[EV.int .i64 h2]).length)=j by simp[yT];omega,e];simp[h1,Gj]
theorem Rw{l:List Nd}{i:Nat}:outs l i (eu l i:Int)=outs l (i+1) 0:=by
 unfold outs;refine List.map_congr_left fun j _=> ?_
 by_cases h1:j<i
 ·rw[if_pos h1,if_pos (by omega)]
 ·by_cases h2:j=i
  ·subst h2;rw[if_neg (by omega),if_pos rfl,if_pos (by omega)]
  ·rw[if_neg h1,if_neg h2,if_neg (by omega)];split<;>rfl
theorem adq{l:List Nd}:eA l.length [.int .i64 0]=outs l 0 0:=by
 unfold eA outs;apply List.ext_getElem?
 intro j;have:(List.replicate l.length [EV.int .i64 0]).flatten=List.replicate l.length (EV.int .i64 0):=by
  generalize l.length=n
  induction n with
  |zero=>rfl
  |succ n ih=>rw[List.replicate_succ,List.flatten_cons,ih];rfl
 rw[this,List.getElem?_replicate,List.getElem?_map];by_cases q:j<l.length
 ·rw[if_pos q,List.getElem?_range q];simp
 ·rw[if_neg q,List.getElem?_eq_none (by simp;omega)];rfl
theorem Vh{l:List Nd}:outs l l.length 0=(ints ((List.range l.length).map fun j=>(eu l j:Int))).flatten:=by
 unfold outs;rw[AP,List.map_map];refine List.map_congr_left fun j hj=> ?_
 rw[if_pos (List.mem_range.1 hj)];rfl
theorem IN{n j:Nat}{u:List Int}(h:j<n):(mJ n u)[j]?=some (bo ((j:Int)∈u)):=by
 unfold mJ;rw[List.getElem?_map,List.getElem?_range h];rfl
theorem QA{n x:Nat}{u:List Int}(hx:x<n):(mJ n u).take x++[.bool true]++(mJ n u).drop (x+1)=mJ n (u++[(x:Int)]):=by
 apply List.ext_getElem?
 intro j;have hl:=Am (n:=n) (u:=u);have e:∀u,(mJ n u)[j]?=if j<n then some (bo ((j:Int)∈u))else none:=by
  intro u;unfold mJ;rw[List.getElem?_map];by_cases q:j<n
  ·rw[List.getElem?_range q,if_pos q];rfl
  ·rw[List.getElem?_eq_none (by simp;omega),if_neg q];rfl
 rw[e (u++[(x:Int)])];by_cases h1:j<x
 ·rw[List.append_assoc,rB (by rw[List.length_take];omega),List.getElem?_take,if_pos h1,e,if_pos (by omega),if_pos (by omega)];refine congrArg some (qF ?_)
  simp;omega
 ·by_cases h2:j=x
  ·subst h2;rw[List.append_assoc,yy (by rw[List.length_take];omega),List.length_take,hl,show j- min j n=0 by omega,if_pos hx];simp[bo]
  ·rw[yy (by simp;omega),List.getElem?_drop,show x+1+(j-((mJ n u).take x++[EV.bool true]).length)=j by simp[Am];omega,e];by_cases q:j<n
   ·rw[if_pos q,if_pos q];refine congrArg some (qF ?_)
    simp;omega
   ·rw[if_neg q,if_neg q]
theorem YS{n:Nat}:eA n [.bool false]=mJ n []:=by
 unfold eA mJ;apply List.ext_getElem?
 intro j;have:(List.replicate n [EV.bool false]).flatten=List.replicate n (EV.bool false):=by
  clear j
  induction n with
  |zero=>rfl
  |succ n ih=>rw[List.replicate_succ,List.flatten_cons,ih];rfl
 rw[this,List.getElem?_replicate,List.getElem?_map];by_cases q:j<n
 ·rw[if_pos q,List.getElem?_range q];simp[bo]
 ·rw[if_neg q,List.getElem?_eq_none (by simp;omega)];rfl
def wo(l:List Nd)(ks:List Int):Nat:=ks.foldl (fun h x=>max h (1+eu l x.toNat)) 1
theorem NV{l:List Nd}{ks:List Int}{x:Int}:wo l (ks++[x])=max (wo l ks) (1+eu l x.toNat):=by unfold wo;rw[List.foldl_append];rfl
theorem DN{l:List Nd}{i:Nat}(hk:fW (l.take i)):∀(f y:Nat),y<i->pS (l.take i) f y=pS l f y
 |0,y,_=>rfl
 |f+1,y,hy=>by
  simp only[pS];rw[List.getElem?_take,if_pos hy];cases hd:l[y]? with
  |none=>rfl
  |some d=>
   simp only;have hx:=hk y d (by rw[List.getElem?_take,if_pos hy,hd]);generalize d.kids=ks at hx;have:∀(ks:List Int) (a:Nat),(∀x∈ks,0<=x/\x<(y:Int))->ks.foldl (fun h x=>max h (1+pS (l.take i) f x.toNat)) a=ks.foldl (fun h x=>max h (1+pS l f x.toNat)) a:=by
    intro ks
    induction ks with
    |nil=>intro a _;rfl
    |cons x ks Wf=>
     intro a h;have:=h x (by simp);rw[List.foldl_cons,List.foldl_cons,DN hk f x.toNat (by omega)];exact Wf _ fun z hz=>h z (by simp[hz])
   exact this ks 1 hx
theorem xR{l:List Nd}{i y:Nat}(hy:y<i)(hk:fW (l.take i)):eu (l.take i) y=eu l y:=DN hk _ _ hy
theorem NQ{l:List Nd}{i bo_ bu to tu:Nat}{d:Nd}{u:List Int}{v0 v6:EV}{nl:Bool}{t:Nat}{w15 w16 w17:EV}(hk:fW (l.take i))(hs:Small l)(hd0:l[i]?=some d)(hu:u.Nodup){m0:Mem}{fr:Fr}(fR:bo_≠bu)
  (TD:m0.get bo_=.cells (outs l i 1) 1 to false) (TC:m0.get bu=.cells (mJ l.length u) 1 tu false) (h0:fr.get 0=v0) (h6:fr.get 6=v6)
  (h3:fr.get 3=.slice bo_ 0 l.length (some l.length)) (h4:fr.get 4=.slice bu 0 l.length (some l.length)) (h5:fr.get 5=.int .i64 (i:Int))
  (Sw:fr.get 15=w15) (Kn:fr.get 16=w16) (LP:fr.get 17=w17)
  (h26:fr.get 26=row nl t 1 (ints d.kids)) (h27:fr.get 27=.int .i64 (d.kids.length:Int)) (h28:fr.get 28=.int .i64 0) (hd:fr.defers=[]) :
  ∃o,exec U (.loop dK) fr m0=some o/\((((∀x∈d.kids,0<=x/\x<(i:Int))/\(u++d.kids).Nodup)/\∃fr' m',o=.exit 2 fr' m'/\m'.get bo_=.cells (outs l i (wo l d.kids:Int)) 1 to false/\m'.get bu=.cells (mJ l.length (u++d.kids)) 1 tu false/\
   m0.next<=m'.next/\(∀b,b≠bo_->b≠bu->m'.get b=m0.get b)/\fr'.get 0=v0/\fr'.get 6=v6/\fr'.get 3=.slice bo_ 0 l.length (some l.length)/\fr'.get 4=.slice bu 0 l.length (some l.length)/\fr'.get 5=.int .i64 (i:Int)/\fr'.get 15=w15/\fr'.get 16=w16/\fr'.get 17=w17/\fr'.defers=[])\/
   (¬((∀x∈d.kids,0<=x/\x<(i:Int))/\(u++d.kids).Nodup)/\∃fr' m',o=.ret fr' m'/\fr'.get 2=.aa/\fr'.defers=[])):=by
 have kh:i<l.length:=(mu.1 hd0).1;have hlen:=hs.len;have uW:=hs.kids d (List.mem_of_getElem? hd0);refine dr (σ:=Nat) (fun j fr m=>j<=d.kids.length/\(∀x∈d.kids.take j,0<=x/\x<(i:Int))/\(u++d.kids.take j).Nodup/\m.get bo_=.cells (outs l i (wo l (d.kids.take j):Int)) 1 to false/\m.get bu=.cells (mJ l.length (u++d.kids.take j)) 1 tu false/\
   m0.next<=m.next/\(∀b,b≠bo_->b≠bu->m.get b=m0.get b)/\fr.get 0=v0/\fr.get 6=v6/\fr.get 3=.slice bo_ 0 l.length (some l.length)/\fr.get 4=.slice bu 0 l.length (some l.length)/\fr.get 5=.int .i64 (i:Int)/\fr.get 15=w15/\fr.get 16=w16/\fr.get 17=w17/\
   fr.get 26=row nl t 1 (ints d.kids)/\fr.get 27=.int .i64 (d.kids.length:Int)/\fr.get 28=.int .i64 (j:Int)/\fr.defers=[]) (fun j=>d.kids.length- j) _ ?_ 0 fr m0
  ⟨nZ _,by simp,by simpa using hu,TD,by simpa using TC,cR _,fun _ _ _=>rfl,h0,h6,h3,h4,h5,Sw,Kn,LP,h26,h27,h28,hd⟩
 rintro j fr m ⟨hj,hall,hnd,TD,TC,YI,PJ,h0,h6,h3,h4,h5,Sw,Kn,LP,h26,h27,h28,hd⟩;generalize hX:exec U dK fr m=X;by_cases aH:j<d.kids.length
 ·have hc:(j:Int)<(d.kids.length:Int):=by omega
  have hg:d.kids[j]?=some d.kids[j]:=jE aH;have IE:d.kids.take (j+1)=d.kids.take j++[d.kids[j]]:=List.take_succ_eq_append_getElem aH;have zi:=oX aH;have gP:=aZ (i:=j) (by omega);generalize d.kids[j]=x at *;by_cases x0:x<0
  ·simp only[dK,h3,h4,h5,h26,h27,h28,hd,hc,hg,aH,ap,gh,aF,x0,ao,simprocAttr]at hX;subst hX;exact iD (Or.inr ⟨fun q=>by have:=q.1 x zi;omega,_,_,rfl,by simp[hd,ay]⟩)
  ·by_cases x1:(i:Int)<=x
   ·simp only[dK,h3,h4,h5,h26,h27,h28,hd,hc,hg,aH,ap,gh,aF,x0,x1,ao,simprocAttr]at hX;subst hX;exact iD (Or.inr ⟨fun q=>by have:=q.1 x zi;omega,_,_,rfl,by simp[hd,ay]⟩)
   ·obtain⟨y,rfl⟩:=Int.eq_ofNat_of_zero_le (show 0<=x by omega);have HE:y<i:=by omega
    have hyl:y<l.length:=by omega
    have eC:idx l.length (.int .i64 (y:Int))=some y:=ap hyl;have hii:idx l.length (.int .i64 (i:Int))=some i:=ap kh;have hua:=IN (u:=u++d.kids.take j) hyl;by_cases PE:(y:Int)∈u++d.kids.take j
    ·simp only[dK,h3,h4,h5,h26,h27,h28,hd,hc,hg,aH,ap,gh,aF,x0,x1,eC,hua,TC,PE,fu,Nat.mul_one,ao,simprocAttr]at hX;subst hX;refine iD (Or.inr ⟨fun q=> ?_,_,_,rfl,by simp[hd,ay]⟩)
     have q2:(u++d.kids.take j++[(y:Int)]).Nodup:=by
      rw[List.append_assoc,<- IE];exact List.Nodup.sublist (List.Sublist.append (List.Sublist.refl u) (List.take_sublist _ _)) q.2
     rw[List.nodup_append]at q2;exact q2.2.2 _ PE _ (by simp) rfl
    ·have hou:=Pc (l:=l) (h:=(wo l (d.kids.take j):Int)) kh;have hoy:=Zx (l:=l) (h:=(wo l (d.kids.take j):Int)) (Nat.le_of_lt kh) HE;have hul:=Am (n:=l.length) (u:=u++d.kids.take j);have Tw:=yT (l:=l) (i:=i) (h:=(wo l (d.kids.take j):Int));have hus:=QA (u:=u++d.kids.take j) hyl;have hos:=fun h2=>Js (l:=l) (h:=(wo l (d.kids.take j):Int)) (h2:=h2) kh
     have hhy:eu l y<=y+1:=by
      have:=DM hk y;rw[xR HE hk]at this;exact this
     have YE:IntKind.i64.wrap ((eu l y:Int)+1)=((eu l y+1:Nat):Int):=by rw[wrap_i64 (by omega) (by omega)];omega
     have z1:y+1<=l.length:=hyl;have z2:i+1<=l.length:=kh;simp only[dK,h3,h4,h5,h26,h27,h28,hd,hc,hg,aH,gP,ap,gh,aF,x0,x1,eC,hii,hua,TC,TD,fR,fR.symm,PE,hou,hoy,hul,Tw,hus,hos,YE,z1,z2,max2,fh,Nat.mul_one,ao,simprocAttr]at hX;subst hX;refine bB (j+1) (by omega) ⟨aH,?_,?_,?_,?_,?_,?_,by simp[h0,h6,h3,h4,h5,Sw,Kn,LP,h26,h27,hd,ay]⟩
     ·intro z hz;rw[IE,Ag]at hz;rcases hz with hz|hz
      ·exact hall z hz
      ·rw[IA.1 hz];omega
     ·rw[IE,<- List.append_assoc,List.nodup_append];refine⟨hnd,by simp,fun a ha2 b hb=> ?_⟩
      rw[IA.1 hb];rintro rfl;exact PE ha2
     ·rw[fK,aN,IE,NV]
      congr 3
      show max _ _=((max _ (1+eu l (y:Int).toNat):Nat):Int);rw[show ((y:Nat):Int).toNat=y by omega];omega
     ·rw[fK,af fR.symm,aN,IE,List.append_assoc]
     ·rw[au,aj,aj];unfold nb;omega
     ·intro b PM mC;rw[fK,af PM,af mC];exact PJ b PM mC
 ·have hc:¬((j:Int)<(d.kids.length:Int)):=by omega
  have IE:d.kids.take j=d.kids:=uP (by omega);rw[IE]at hall hnd TD TC;simp only[dK,h3,h4,h5,h26,h27,h28,hd,hc,ao,simprocAttr]at hX;subst hX;exact bK (Or.inl ⟨⟨hall,hnd⟩,_,_,rfl,TD,TC,YI,PJ,by simp[h0,h6,h3,h4,h5,Sw,Kn,LP,hd,ay]⟩)
end
section
theorem IP{l:List Nd}(hk:fW l):∀x∈dJ l,x∈upto (l.length- 1):=by
 intro x hx;obtain⟨i,d,hi,hx⟩:=sZ.1 hx;have h1:=hk i d hi x hx;have h2:=(mu.1 hi).1;exact qR.2 ⟨h1.1,by omega⟩
theorem zA{f:Int->Nat}:∀(ks:List Int) (a:Nat),a<=ks.foldl (fun h x=>max h (f x)) a
 |[],a=>cR _
 |x::ks,a=>by rw[List.foldl_cons];exact ji (Nat.le_max_left _ _) (zA ks _)
theorem xz{f:Int->Nat}{x:Int}:∀(ks:List Int) (a:Nat),x∈ks->f x<=ks.foldl (fun h x=>max h (f x)) a
 |y::ks,a,h=>by
  rw[List.foldl_cons];rcases qn.1 h with rfl|h
  ·exact ji (Nat.le_max_right _ _) (zA ks _)
  ·exact xz ks _ h
theorem WG{l:List Nd}(hk:fW l){i:Nat}{d:Nd}(hd:l[i]?=some d){x:Int}(hx:x∈d.kids):eu l x.toNat+1<=eu l i:=by
 rw[zo hk hd,Nat.add_comm];exact xz (f:=fun x=>1+eu l x.toNat) _ _ hx
theorem Kc{l:List Nd}(hk:fW l)(hu:∀x∈upto (l.length- 1),x∈dJ l):∀(n j:Nat),l.length- j<=n->j<l.length->eu l j<=eu l (l.length- 1)
 |0,j,h,hj=>by omega
 |n+1,j,h,hj=>by
  by_cases e:j=l.length- 1
  ·rw[e];exact cR _
  ·obtain⟨i,d,hi,hx⟩:=sZ.1 (hu (j:Int) (qR.2 ⟨by omega,by omega⟩));have h1:=hk i d hi _ hx;have h2:=(mu.1 hi).1;have h3:=WG hk hi hx;rw[show ((j:Int)).toNat=j by omega]at h3;have:=Kc hk hu n i (by omega) h2;omega
def tK(l:List Nd)(i:Nat):Prop:=(∀(j:Nat) (d:Nd),j<i->l[j]?=some d->(∀x∈d.kids,0<=x/\x<(j:Int))/\(xK d/\cJ l d)/\eu l j<=200)/\(dJ (l.take i)).Nodup
theorem sI{l:List Nd}:jW l↔tK l l.length/\0<l.length/\∀x∈upto (l.length- 1),x∈dJ l:=by
 unfold tK;rw[uP (cR _)];constructor
 ·rintro⟨⟨h1,h2,h3⟩,h4,h5,h6⟩;have hall:∀x∈upto (l.length- 1),x∈dJ l:=by
   intro x hx;refine vt fun hn=> ?_
   have:(x::dJ l).length<=(upto (l.length- 1)).length:=rc (List.nodup_cons.2 ⟨hn,h2⟩) fun y hy=>by
    rcases qn.1 hy with rfl|hy
    ·exact hx
    ·exact IP h1 y hy
   rw[CO,List.length_cons]at this;omega
  refine⟨⟨fun j d hj hd=>⟨h1 j d hd,h3 d (List.mem_of_getElem? hd),ji (Kc h1 hall _ j (cR _) hj) h6⟩,h2⟩,h4,hall⟩
 ·rintro⟨⟨h1,h2⟩,h3,h4⟩;have hk:fW l:=fun i d hd=>(h1 i d (mu.1 hd).1 hd).1
  refine⟨⟨hk,h2,fun d hd=> ?_⟩,h3,?_,?_⟩
  ·obtain⟨i,hi⟩:=List.mem_iff_getElem?.1 hd;exact(h1 i d (mu.1 hi).1 hi).2.1
  ·have a:=rc h2 (IP hk);have b:=rc LQ h4;rw[CO]at a b;omega
  ·obtain⟨d,hd⟩:∃d,l[l.length- 1]?=some d:=⟨_,jE (by omega)⟩
   exact(h1 _ d (by omega) hd).2.2
theorem Sm{l:List Nd}{i:Nat}{d:Nd}(hk:fW (l.take i))(hd:l[i]?=some d)(hx:∀x∈d.kids,0<=x/\x<(i:Int)):eu l i=wo l d.kids:=by
 have Bx:fW (l.take (i+1)):=by
  intro j e he;rw[List.getElem?_take]at he
  split at he
  ·by_cases hj:j<i
   ·exact hk j e (by rw[List.getElem?_take,if_pos hj];exact he)
   ·obtain rfl:j=i:=by omega
    rw[hd]at he;cases he;exact hx
  ·cases he
 have zt:(l.take (i+1))[i]?=some d:=by rw[List.getElem?_take,if_pos (by omega),hd]
 have h:=zo Bx zt;rw[xR (by omega) Bx]at h;rw[h];unfold wo;generalize d.kids=ks at hx;have:∀(ks:List Int) (a:Nat),(∀x∈ks,0<=x/\x<(i:Int))->ks.foldl (fun h x=>max h (1+eu (l.take (i+1)) x.toNat)) a=ks.foldl (fun h x=>max h (1+eu l x.toNat)) a:=by
  intro ks
  induction ks with
  |nil=>intro a _;rfl
  |cons x ks Wf=>
   intro a h;have:=h x (by simp);rw[List.foldl_cons,List.foldl_cons,xR (by omega) Bx];exact Wf _ fun z hz=>h z (by simp[hz])
 exact this ks 1 hx
end
section
theorem Tj{n k b ty:Nat}{u:List Int}{cap:Option Nat}(hn:n<1000000000)(hk:k<=n){m0:Mem}(hb:m0.get b=.cells (mJ n u) 1 ty false){fr:Fr}(h0:fr.get 0=.slice b 0 k cap)(h1:fr.get 1=.bool false)(h7:fr.get 7=.int .i64 (k:Int))(h8:fr.get 8=.int .i64 0)(hd:fr.defers=[]) :
  ∃o,exec U (.loop cX) fr m0=some o/\(((∃x∈upto k,x∉u)/\∃fr' r,o=.ret fr' m0/\fr'.get 4=.int .i64 r/\0<=r/\fr'.defers=[])\/((¬∃x∈upto k,x∉u)/\∃fr',o=.exit 0 fr' m0/\fr'.defers=[])):=by
 refine dr (σ:=Nat) (fun i fr m=>m=m0/\i<=k/\(∀j:Nat,j<i->(j:Int)∈u)/\fr.get 0=.slice b 0 k cap/\fr.get 1=.bool false/\fr.get 7=.int .i64 (k:Int)/\fr.get 8=.int .i64 (i:Int)/\fr.defers=[]) (fun i=>k- i) _ ?_ 0 fr m0 ⟨rfl,nZ _,by omega,h0,h1,h7,h8,hd⟩
 rintro i fr m ⟨rfl,hi,hall,h0,h1,h7,h8,hd⟩;generalize hX:exec U cX fr m=X;by_cases aH:i<k
 ·have hc:(i:Int)<(k:Int):=by omega
  have hg:=IN (u:=u) (show i<n by omega);have eC:idx k (.int .i64 (i:Int))=some i:=ap aH;have gP:=aZ (i:=i) (by omega);by_cases he:(i:Int)∈u
  ·simp only[cX,h0,h1,h7,h8,hd,hc,hb,hg,eC,he,gP,fu,Nat.mul_one,ao,simprocAttr]at hX;subst hX;refine bB (i+1) (by omega) ⟨rfl,aH,fun j hj=> ?_,by simp[h0,h1,h7,hd,ay]⟩
   by_cases Gj:j<i
   ·exact hall j Gj
   ·obtain rfl:j=i:=by omega
    exact he
  ·simp only[cX,h0,h1,h7,h8,hd,hc,hb,hg,eC,he,gP,fh,Nat.mul_one,ao,simprocAttr]at hX;subst hX;exact iD (.inl ⟨⟨(i:Int),qR.2 ⟨by omega,hc⟩,he⟩,_,(i:Int),rfl,by simp[ay],by omega,by simp[hd,ay]⟩)
 ·have hc:¬((i:Int)<(k:Int)):=by omega
  simp only[cX,h0,h1,h7,h8,hd,hc,ao,simprocAttr]at hX;subst hX;refine bK (.inr ⟨?_,_,rfl,by simp[hd,ay]⟩)
  rintro⟨x,hx,hxu⟩;have:=qR.1 hx;have h:=hall x.toNat (by omega);rw[show ((x.toNat:Nat):Int)=x by omega]at h;exact hxu h
theorem X9{n k b ty:Nat}{u:List Int}{cap:Option Nat}(hn:n<1000000000)(hk:k<=n){m:Mem}(hb:m.get b=.cells (mJ n u) 1 ty false):∃r,run U w9 [.slice b 0 k cap,.bool false] m=some (.ret (.int .i64 r) m)/\(0<=r↔∃x∈upto k,x∉u):=by
 rw[cf (by simp[ef])];generalize hL:exec (UT B K) (ar.loop cX)=L;simp only[ef,ao,simprocAttr];subst hL;generalize hX:exec _ (.loop cX) _ _=X;obtain⟨o,rfl,h⟩:=cG hX (Tj (n:=n) (k:=k) (b:=b) (ty:=ty) (u:=u) (cap:=cap) hn hk hb (by simp[ay]) (by simp[ay]) (by simp[ay]) (by simp[ay]) (by simp[ay]));rcases h with⟨h,fr',r,rfl,h4,hr,hd⟩|⟨h,fr',rfl,hd⟩
 ·refine⟨r,?_,⟨fun _=>h,fun _=>hr⟩⟩
  simp only[h4,hd,ao,simprocAttr]
 ·refine⟨-1,?_,⟨fun q=>by omega,fun q=>absurd q h⟩⟩
  simp only[hd,ao,simprocAttr]
theorem Ya{n k b ty:Nat}{u:List Int}{cap:Option Nat}(hn:n<1000000000)(hk:k<=n){m:Mem}(hb:m.get b=.cells (mJ n u) 1 ty false):run U uu [.slice b 0 k cap,.bool false] m=some (.ret (bo (∃x∈upto k,x∉u)) m):=by
 rw[cf (by simp[cZ])];obtain⟨r,h,hr⟩:=X9 (cap:=cap) hn hk hb;simp only[cZ,h,hr,ao,simprocAttr]
theorem NP{l:List Nd}{t bo_ bu to tu:Nat}{nl:Bool}(hs:Small l)(hn:∀d∈l,d.n<=9223372036854775807){m0:Mem}{fr:Fr}(fR:bo_≠bu)(im:bo_<m0.next)(hlu:bu<m0.next)
  (TD:m0.get bo_=.cells (outs l 0 0) 1 to false) (TC:m0.get bu=.cells (mJ l.length []) 1 tu false) (h0:fr.get 0=row nl t 5 (lC l))
  (h3:fr.get 3=.slice bo_ 0 l.length (some l.length)) (h4:fr.get 4=.slice bu 0 l.length (some l.length)) (Sw:fr.get 15=row nl t 5 (lC l)) (Kn:fr.get 16=.int .i64 (l.length:Int)) (LP:fr.get 17=.int .i64 0) (hd:fr.defers=[]) :
  ∃o,exec U (.loop fM) fr m0=some o/\((tK l l.length/\∃fr' m',o=.exit 0 fr' m'/\m'.get bo_=.cells (outs l l.length 0) 1 to false/\m'.get bu=.cells (mJ l.length (dJ l)) 1 tu false/\bo_<m'.next/\bu<m'.next/\fr'.get 0=row nl t 5 (lC l)/\fr'.get 3=.slice bo_ 0 l.length (some l.length)/\fr'.get 4=.slice bu 0 l.length (some l.length)/\fr'.defers=[])\/
   (¬tK l l.length/\∃fr' m',o=.ret fr' m'/\fr'.get 2=.aa/\fr'.defers=[])):=by
 have hlen:=hs.len;refine dr (σ:=Nat) (fun i fr m=>i<=l.length/\tK l i/\m.get bo_=.cells (outs l i 0) 1 to false/\m.get bu=.cells (mJ l.length (dJ (l.take i))) 1 tu false/\bo_<m.next/\bu<m.next/\fr.get 0=row nl t 5 (lC l)/\fr.get 3=.slice bo_ 0 l.length (some l.length)/\fr.get 4=.slice bu 0 l.length (some l.length)/\
   fr.get 15=row nl t 5 (lC l)/\fr.get 16=.int .i64 (l.length:Int)/\fr.get 17=.int .i64 (i:Int)/\fr.defers=[]) (fun i=>l.length- i) _ ?_ 0 fr m0
  ⟨nZ _,⟨fun j d hj=>by omega,by simp[dJ]⟩,TD,by simpa[dJ]using TC,im,hlu,h0,h3,h4,Sw,Kn,LP,hd⟩
 rintro i fr m ⟨hi,hr,TD,TC,im,hlu,h0,h3,h4,Sw,Kn,LP,hd⟩;generalize hX:exec U fM fr m=X;by_cases aH:i<l.length
 ·have hc:(i:Int)<(l.length:Int):=by omega
  have hd0:l[i]?=some l[i]:=jE aH;have zi:=oX aH;have rD:=hs.kids _ zi;have Bx:=hs.s _ zi;have hnn:=hn _ zi;have BS:=uf hd0;generalize l[i]=d at *;have LJ:fW (l.take i):=by
   intro j e he;rw[List.getElem?_take]at he
   split at he
   ·exact(hr.1 j e ‹_› he).1
   ·cases he
  have gP:=aZ (i:=i) (by omega);have hii:idx l.length (.int .i64 (i:Int))=some i:=ap aH;have Tw:=yT (l:=l) (i:=i) (h:=0);have hos:=Js (l:=l) (h:=0) (h2:=1) aH;have z2:i+1<=l.length:=aH;generalize hL:exec (UT B K) (ar.loop dK)=L;simp only[fM,h0,h3,h4,Sw,Kn,LP,hd,hc,hd0,hii,TD,im,Tw,hos,z2,Nat.mul_one,jG,eL,Nd.cells,ao,simprocAttr]at hX;subst hL;generalize hY:exec _ (.loop dK) _ _=Y at hX;have b1:(ext (m.set bo_ (bX.cells (outs l i 1) 1 to false)) [bX.cells [EV.int IntKind.i64 d.kind,row d.nl 0 1 (ints d.kids),EV.int IntKind.i64 d.n,EV.str d.s,EV.int IntKind.i64 d.pos] 5 eO false]).get bo_=.cells (outs l i 1) 1 to false:=by rw[ai (by rw[aj];exact im),aN]
  have b2:(ext (m.set bo_ (bX.cells (outs l i 1) 1 to false)) [bX.cells [EV.int IntKind.i64 d.kind,row d.nl 0 1 (ints d.kids),EV.int IntKind.i64 d.n,EV.str d.s,EV.int IntKind.i64 d.pos] 5 eO false]).get bu=.cells (mJ l.length (dJ (l.take i))) 1 tu false:=by rw[ai (by rw[aj];exact hlu),af fR.symm,TC]
  have b3:(ext (m.set bo_ (bX.cells (outs l i 1) 1 to false)) [bX.cells [EV.int IntKind.i64 d.kind,row d.nl 0 1 (ints d.kids),EV.int IntKind.i64 d.n,EV.str d.s,EV.int IntKind.i64 d.pos] 5 eO false]).get (nb m.next 0)=bX.cells [EV.int IntKind.i64 d.kind,row d.nl 0 1 (ints d.kids),EV.int IntKind.i64 d.n,EV.str d.s,EV.int IntKind.i64 d.pos] 5 eO false:=by rw[aw (by rw[aj]) (by simp)];rfl
  have b4:(ext (m.set bo_ (bX.cells (outs l i 1) 1 to false)) [bX.cells [EV.int IntKind.i64 d.kind,row d.nl 0 1 (ints d.kids),EV.int IntKind.i64 d.n,EV.str d.s,EV.int IntKind.i64 d.pos] 5 eO false]).next=nb m.next 1:=by rw[ak,aj];rfl
  generalize (ext (m.set bo_ (bX.cells (outs l i 1) 1 to false)) _)=M1 at b1 b2 b3 b4 hY;obtain⟨o,rfl,h⟩:=cG hY (NQ (l:=l) (i:=i) (bo_:=bo_) (bu:=bu) (to:=to) (tu:=tu) (d:=d) (u:=dJ (l.take i)) (v0:=row nl t 5 (lC l)) (v6:=.ptr (nb m.next 0) 0) (nl:=d.nl) (t:=0) (w15:=row nl t 5 (lC l)) (w16:=.int .i64 (l.length:Int)) (w17:=.int .i64 (i:Int)) LJ hs hd0 hr.2 fR b1 b2
   (by simp[h0,ay]) (by simp[ay]) (by simp[h3,ay]) (by simp[h4,ay]) (by simp[ay]) (by simp[Sw,ay]) (by simp[Kn,ay]) (by simp[LP,ay]) (by simp[ay]) (by simp only[aF,ay,Nat.reduceBEq]) (by simp[ay]) (by simp[hd,ay]))
  rcases h with⟨⟨g1,g2⟩,fr',m',rfl,c1,c2,c3,c4,h0,h6,h3,h4,h5,Sw,Kn,LP,hd⟩|⟨g,fr',m',rfl,h2,hd⟩
  ·have hv:oZ l d.kids:=fun x hx=>by have:=g1 x hx;omega
   have vo:=ze g1 (List.nodup_append.1 g2).2.1;have hh:=Sm LJ hd0 g1;rw[<- hh]at c1;have Sn:∀t1 nl1,bA B K Ds [row nl1 t1 5 (lC l),.agg [.int .i64 d.kind,row d.nl 0 1 (ints d.kids),.int .i64 d.n,.str d.s,.int .i64 d.pos]]=some (bo (xK d/\cJ l d)):=fun t1 nl1=>by
    have:=TT (l:=l) (d:=d) (t1:=t1) (nl1:=nl1) hv (by omega) (by omega);rw[qF (WS hnn (by omega))]at this;exact this
   have Tx:nb m.next 0=m.next:=rfl;have b5:m'.get (nb m.next 0)=bX.cells [EV.int IntKind.i64 d.kind,row d.nl 0 1 (ints d.kids),EV.int IntKind.i64 d.n,EV.str d.s,EV.int IntKind.i64 d.pos] 5 eO false:=(c4 _ (by rw[Tx];omega) (by rw[Tx];omega)).trans b3;have hou:=Pc (l:=l) (h:=(eu l i:Int)) aH;have hq2:((200:Int)<(eu l i:Int))=(200<eu l i):=propext (by omega);have nx:nb m.next 1=m.next+1:=rfl;simp +contextual -implicitDefEqProofs (maxDischargeDepth:=8) only[h0,h3,h4,h5,h6,Sw,Kn,LP,hd,Sn,b5,c1,hou,hii,hq2,gP,Nat.mul_one,ao,simprocAttr]at hX;subst hX;refine rY (fun hp=>iD (Or.inr ⟨fun q=> ?_,_,_,rfl,by simp[hd,ay]⟩)) (fun hp=>bB (i+1) (by omega) ⟨aH,⟨fun j e hj he=> ?_,by rw[BS];exact g2⟩,by rw[<- Rw];exact c1,by rw[BS];exact c2,by omega,by omega,by simp[h0,h3,h4,Sw,Kn,hd,ay]⟩)
   ·obtain⟨_,q1,q2⟩:=q.1 i d aH hd0;exact hp.elim (fun h=>h q1) (fun h=>by omega)
   ·by_cases Gj:j<i
    ·exact hr.1 j e Gj he
    ·obtain rfl:j=i:=by omega
     rw[hd0]at he;cases he;exact⟨g1,vt fun h=>hp (.inl h),vt fun h=>hp (.inr (by omega))⟩
  ·simp only[h2,hd,ao,simprocAttr]at hX;subst hX;refine iD (Or.inr ⟨fun q=>g ⟨(q.1 i d aH hd0).1,?_⟩,_,_,rfl,h2,hd⟩)
   rw[<- BS];exact q.2.sublist (by rw[uP (cR _)];exact wG _)
 ·have hc:¬((i:Int)<(l.length:Int)):=by omega
  obtain rfl:i=l.length:=by omega
  rw[uP (cR _)]at TC;simp only[fM,h0,h3,h4,Sw,Kn,LP,hd,hc,ao,simprocAttr]at hX;subst hX;exact bK (Or.inl ⟨hr,_,_,rfl,TD,TC,im,hlu,by simp[h0,h3,h4,hd,ay]⟩)
def oI(l:List Nd):List Int:=(List.range l.length).map fun j=>(eu l j:Int)
open Classical in
noncomputable def v9(l:List Nd):EV:=if jW l then .fz 0 1 (ints (oI l))else .aa
theorem aba{e b off len c h:Nat}{k:IntKind}(hh:h<=c):cW e b off len (some c) none (some (.int k (h:Int))) none=some (.slice b off h (some c)):=by
 have h1:aS (some (.int k (h:Int))) len c=some h:=lm hh;unfold cW;simp only[ig,h1,Nat.zero_mul,Nat.add_zero,Nat.sub_zero];cases c.beq 0<;>rfl
theorem yD{l:List Nd}{t:Nat}{nl:Bool}(hs:Small l)(hn:∀d∈l,d.n<=9223372036854775807):bA B K qX [row nl t 5 (lC l)]=some (v9 l):=by
 have hlen:=hs.len;rw[dY (by simp[gS])];generalize hL:exec (UT B K) (ar.loop fM)=L;have Kj:((l.length:Nat):Int)=Int.ofNat l.length:=rfl;have k1:l.length.ble l.length=true:=sx (cR _);have k2:l.length.ble room=true:=sx (by unfold room;omega);simp only[gS,eL,Kj,k1,k2,adq,YS,ao,simprocAttr];subst hL;generalize hX:exec _ (.loop fM) _ _=X;have hnn:nb fT.next 0=fT.next:=rfl;obtain⟨o,rfl,h⟩:=cG hX (NP (l:=l) (t:=t) (nl:=nl) (bo_:=fT.next) (bu:=nb fT.next 1) (to:=xo) (tu:=acW) hs hn (by unfold nb;omega) (by rw[ak];unfold nb;simp) (by rw[ak];unfold nb;simp) (by rw[<- hnn,aw rfl (by simp)];rfl) (by rw[aw rfl (by simp)];rfl)
  (by simp[ay]) (by simp[ay]) (by simp[ay]) (by simp[ay]) (by simp only[Kj,ay,Nat.reduceBEq]) (by simp[ay]) (by simp[ay]))
 rcases h with⟨h,fr',m',rfl,c1,c2,c3,c4,h0,h3,h4,hd⟩|⟨h,fr',m',rfl,h2,hd⟩
 ·by_cases hl0:l.length=0
  ·have hv:v9 l=.aa:=if_neg fun q=>by have:=q.2.1;omega
   rw[hv];simp only[h0,hd,hl0,eL,ao,simprocAttr]
  ·have hc:¬((l.length:Int)=0):=by omega
   have hw:IntKind.i64.wrap ((l.length:Int)- 1)=((l.length- 1:Nat):Int):=by rw[wrap_i64 (by omega) (by omega)];omega
   have YG:=fun b=>aba (e:=1) (b:=b) (off:=0) (len:=l.length) (c:=l.length) (h:=l.length- 1) (k:=.i64) (by omega)
   have Sn:=fun cap=>Ya (n:=l.length) (k:=l.length- 1) (cap:=cap) (by omega) (by omega) c2
   have hfz:fY m' (.slice fT.next 0 l.length (some l.length))=some (.fz 0 1 (ints (oI l))):=by
    have e:(ints (oI l)).length=l.length:=by rw[aF];simp[oI]
    have:=fo (m:=m') (els:=ints (oI l)) (e:=1) (b:=fT.next) (cap:=some l.length) (ty:=xo) (ro:=false) (by rw[c1,Vh];rfl) (jJ _) (fJ _) (by rw[e];simp[oW]);rw[e]at this;exact this
   by_cases hex:∃x∈upto (l.length- 1),x∉dJ l
   ·have hv:v9 l=.aa:=if_neg fun q=>by
     obtain⟨x,hx,hxu⟩:=hex;exact hxu ((sI.1 q).2.2 x hx)
    rw[hv];simp only[h0,h3,h4,hd,hc,hw,YG,Sn,hex,fu,eL,ao,simprocAttr]
   ·have hv:v9 l=.fz 0 1 (ints (oI l)):=if_pos (sI.2 ⟨h,by omega,fun x hx=>vt fun q=>hex ⟨x,hx,q⟩⟩);rw[hv];simp only[h0,h3,h4,hd,hc,hw,YG,Sn,hex,fh,eL,hfz,ao,simprocAttr]
 ·have hv:v9 l=.aa:=if_neg fun q=>h (sI.1 q).1
  rw[hv];simp only[h2,hd,ao,simprocAttr]
theorem Kh{l:List Nd}{t:Nat}{nl:Bool}(hs:Small l)(hn:∀d∈l,d.n<=9223372036854775807)(h:jW l):bA B K qX [row nl t 5 (lC l)]=some (.fz 0 1 (ints (oI l))):=by
 rw[yD hs hn];exact congrArg some (if_pos h)
theorem NO{l:List Nd}{t:Nat}{nl:Bool}(hs:Small l)(hn:∀d∈l,d.n<=9223372036854775807)(h:¬jW l):bA B K qX [row nl t 5 (lC l)]=some .aa:=by
 rw[yD hs hn];exact congrArg some (if_neg h)
theorem HM{l:List Nd}:(oI l).length=l.length:=by simp[oI]
theorem LV{l:List Nd}{t:Nat}{nl:Bool}(hs:Small l)(hn:∀d∈l,d.n<=9223372036854775807):bA B K Hl [row nl t 5 (lC l)]=some (bo (jW l)):=by
 rw[dY (by simp[iI])];by_cases h:jW l
 ·have e:=fun t nl=>Kh (t:=t) (nl:=nl) hs hn h
  have hc:(0:Int)<(l.length:Int):=by have:=h.2.1;omega
  simp only[iI,e,h,HM,aF,hc,fu,ao,simprocAttr]
 ·have e:=fun t nl=>NO (t:=t) (nl:=nl) hs hn h
  simp only[iI,e,h,fh,ao,simprocAttr]
def lH(l:List Nd):Prop:=jW l/\kindOf l ((l.length- 1:Nat):Int)=26
theorem PA{l:List Nd}(h:0<l.length):∃d,l[l.length- 1]?=some d/\kindOf l ((l.length- 1:Nat):Int)=d.kind:=by
 have hd:l[l.length- 1]?=some l[l.length- 1]:=jE (by omega);refine⟨_,hd,?_⟩
 unfold kindOf;rw[show (((l.length- 1:Nat):Int)).toNat=l.length- 1 by omega,hd];rfl
theorem CU{l:List Nd}{t:Nat}{nl:Bool}(hs:Small l)(hn:∀d∈l,d.n<=9223372036854775807):bA B K uq [row nl t 5 (lC l)]=some (bo (lH l)):=by
 have hlen:=hs.len;rw[dY (by simp[iH])];have e:=fun t nl=>LV (t:=t) (nl:=nl) hs hn
 unfold lH;by_cases h:jW l
 ·have hw:IntKind.i64.wrap ((l.length:Int)- 1)=((l.length- 1:Nat):Int):=by have:=h.2.1;rw[wrap_i64 (by omega) (by omega)];omega
  obtain⟨d,hd,hk⟩:=PA h.2.1;have hi:idx l.length (.int .i64 ((l.length- 1:Nat):Int))=some (l.length- 1):=ap (by have:=h.2.1;omega);simp only[iH,e,h,hw,hk,hi,hd,jG,eL,Nd.cells,fu,ao,simprocAttr]
 ·simp only[iH,e,h,fh,ao,simprocAttr]
end
section
structure YO(lb:Nat)(lc:Option Nat)(t:Nat)(ro:Bool)(xs:List Nv)(m:Mem):Prop where
 g:m.get lb=.cells (mO xs) 5 t ro
 lt:lb<m.next
 c:lc=none\/lc=some xs.length
 k:∀x∈xs,Iv m x.d x.kv
 z:∀x∈xs,(x.d.nl=true/\x.kv=.aa)\/(x.d.nl=false/\x.kv≠.aa)
theorem YO.cU{lb t:Nat}{lc:Option Nat}{ro:Bool}{xs:List Nv}{m m':Mem}(h:YO lb lc t ro xs m)(hn:m.next<=m'.next)(hk:∀b,b<m.next->m'.get b=m.get b):YO lb lc t ro xs m':=
 ⟨(hk _ h.lt).trans h.g,cQ h.lt hn,h.c,fun x hx=>(h.k x hx).cU hn fun b n c hb _=>hk b hb,h.z⟩
theorem Xf{m:Mem}{d:Nd}{kv:EV}{n:Nat}(h:Iv m d kv)(hz:(d.nl=true/\kv=.aa)\/(d.nl=false/\kv≠.aa)):nJ (bZ (n+1) m) m kv=some (row d.nl 0 1 (ints d.kids)):=by
 rcases hz with⟨q1,q2⟩|⟨q1,q2⟩
 ·rcases h.is with⟨k0,_⟩|⟨b,c,t,ro,e,_⟩
  ·rw[q1,q2,k0];simp only[nJ];rfl
  ·rw[q2]at e;cases e
 ·rcases h.is with k0|⟨b,c,t,ro,e,g,l,h4,ne⟩
  ·rcases k0 with⟨k0,k1|⟨t,_,k1⟩⟩
   ·exact absurd k1 q2
   ·rw[q1,k1,k0];simp only[nJ];rfl
  ·have hc:oW c d.kids.length=true:=by rcases h4 with rfl|rfl<;>simp[oW]
   rw[e,q1];simp only[nJ,g,hc,cond_true,sx (show 0+d.kids.length*1<=(is d.kids).length by rw[eM];omega),List.drop_zero];rw[Nat.mul_one,<- eM,List.take_length];have hp:kq (is d.kids)=true:=by
    rw[sf];exact oe fun el xg=>by
     obtain⟨x,_,rfl⟩:=List.mem_map.1 xg;rfl
   rw[show bZ (n+1) m (is d.kids)=some (is d.kids)from lX hp,Option.map_some]
   congr 1
   simp only[row,Bool.false_and,cond_false]
   congr 1
   rw[eM,sf,<- show (ints d.kids).length=d.kids.length from List.length_map ..];exact m8 fun el xg=>by obtain⟨x,_,rfl⟩:=List.mem_map.1 xg;rfl
theorem DU{m:Mem}{n:Nat}:∀{xs:List Nv},(∀x∈xs,Iv m x.d x.kv)->(∀x∈xs,(x.d.nl=true/\x.kv=.aa)\/(x.d.nl=false/\x.kv≠.aa))->ki (bZ (n+1) m) m (mO xs)=some (lC (xs.map Nv.d)).flatten
 |[],_,_=>rfl
 |x::xs,h,hz=>by
  have h1:=Xf (n:=n) (h x (by simp)) (hz x (by simp));have h2:=DU (n:=n) (xs:=xs) (fun y hy=>h y (by simp[hy])) (fun y hy=>hz y (by simp[hy]));refine Bz ?_ h2
  simp only[Nv.cells,Hk,ki,nJ,h1]
  rfl
theorem YO.nJ{lb t:Nat}{lc:Option Nat}{ro:Bool}{xs:List Nv}{m:Mem}(h:YO lb lc t ro xs m):fY m (.slice lb 0 xs.length lc)=some (.fz 0 5 (lC (xs.map Nv.d))):=by
 have hc:oW lc xs.length=true:=by rcases h.c with q|q<;>rw[q]<;>simp[oW]
 simp only[fY,Ev.nJ,h.g,hc,cond_true,sx (show 0+xs.length*5<=(mO xs).length by rw[Cq];omega),List.drop_zero];rw[<- Cq,List.take_length,show bZ 7 m (mO xs)=ki (bZ 6 m) m (mO xs)from rfl,DU h.k h.z,Option.map_some]
 congr 2
 have e1:xs.length=(lC (xs.map Nv.d)).length:=by simp[lC]
 rw[e1];exact m8 fun el xg=>by obtain⟨x,_,rfl⟩:=List.mem_map.1 xg;rfl
def EB(m:Mem)(v:EV)(k:List Int):Prop:=(k=[]/\v=.aa)\/∃b c t,v=.slice b 0 k.length c/\m.get b=.cells (is k) 1 t false/\(c=none\/c=some k.length)
theorem Kv{m:Mem}{v:EV}{k:List Int}{n:Nat}(h:EB m v k):∃nl,nJ (bZ (n+1) m) m v=some (row nl 0 1 (ints k)):=by
 rcases h with⟨rfl,rfl⟩|⟨b,c,t,rfl,g,hc⟩
 ·exact⟨true,by simp only[nJ];rfl⟩
 ·have hc:oW c k.length=true:=by rcases hc with rfl|rfl<;>simp[oW]
  refine⟨false,?_⟩
  simp only[nJ,g,hc,cond_true,sx (show 0+k.length*1<=(is k).length by rw[eM];omega),List.drop_zero];rw[Nat.mul_one,<- eM,List.take_length];have hp:kq (is k)=true:=by
   rw[sf];exact oe fun el xg=>by
    obtain⟨x,_,rfl⟩:=List.mem_map.1 xg;rfl
  rw[show bZ (n+1) m (is k)=some (is k)from lX hp,Option.map_some]
  congr 1
  simp only[row,Bool.false_and,cond_false]
  congr 1
  rw[eM,sf,<- show (ints k).length=k.length from List.length_map ..];exact m8 fun el xg=>by obtain⟨x,_,rfl⟩:=List.mem_map.1 xg;rfl
theorem Jp{m:Mem}{v:EV}{k:List Int}{lo:Nat}(h:eI m v (is k) k.length 1 lo):EB m v k:=by
 rcases h.is with⟨rfl,q,_⟩|⟨b,cap,t,rfl,_,_,h3,h4⟩
 ·exact .inl ⟨List.eq_nil_of_length_eq_zero q,rfl⟩
 ·exact .inr ⟨b,cap,t,rfl,h3,h4⟩
theorem nI{m:Mem}{v:EV}{k:List Int}(h:EB m v k):∃nl,fY m v=some (row nl 0 1 (ints k)):=Kv (n:=6) h
theorem Gp{m:Mem}{n:Nat}:∀{vs:List EV} {V:List (List Int)},vs.length=V.length->(∀(j:Nat) v k,vs[j]?=some v->V[j]?=some k->EB m v k)->∃ws,ki (bZ (n+1) m) m vs=some ws/\ws.length=V.length/\∀(j:Nat) k,V[j]?=some k->∃nl,ws[j]?=some (row nl 0 1 (ints k))
 |[],[],_,_=>⟨[],rfl,rfl,fun j k h=>by cases h⟩
 |[],_::_,h,_=>by cases h
 |_::_,[],h,_=>by cases h
 |v::vs,k::V,h,hq=>by
  obtain⟨nl,h1⟩:=Kv (n:=n) (hq 0 v k rfl rfl);obtain⟨ws,h2,h3,h4⟩:=Gp (n:=n) (vs:=vs) (V:=V) (by simpa using h) fun j v k a b=>hq (j+1) v k (by simpa using a) (by simpa using b)
  refine⟨row nl 0 1 (ints k)::ws,by simp only[ki,h1,h2],by simp[h3],fun j k' hj=> ?_⟩
  cases j with
  |zero=>simp only[List.getElem?_cons_zero,bQ]at hj;subst hj;exact⟨nl,rfl⟩
  |succ j=>simp only[List.getElem?_cons_succ]at hj⊢;exact h4 j k' hj
theorem GK:∀(ws:List EV),chunk 1 ws.length ws=ws.map fun x=>[x]
 |[]=>rfl
 |w::ws=>by
  have:=GK ws;simp only[List.length_cons,chunk,List.take_succ_cons,List.take_zero,List.drop_succ_cons,List.drop_zero,List.map_cons,this]
theorem Ku{m:Mem}{vv:EV}{vs:List EV}{V:List (List Int)}{lo:Nat}(hl:vs.length=V.length)(ho:eI m vv vs V.length 1 lo)(hq:∀(j:Nat) v k,vs[j]?=some v->V[j]?=some k->EB m v k):∃n5 us,fY m vv=some (row n5 0 1 us)/\us.length=V.length/\∀(j:Nat) k,V[j]?=some k->∃nl,us[j]?=some [row nl 0 1 (ints k)]:=by
 rcases ho.is with⟨rfl,q,_⟩|⟨b,cap,t,rfl,_,_,h3,h4⟩
 ·have hV:=List.eq_nil_of_length_eq_zero q;exact⟨true,[],rfl,by simp[hV],fun j k h=>by rw[hV]at h;cases h⟩
 ·obtain⟨ws,w1,w2,w3⟩:=Gp (n:=5) hl hq;have hc:oW cap V.length=true:=by rcases h4 with rfl|rfl<;>simp[oW]
  refine⟨false,ws.map fun x=>[x],?_,by simp[w2],fun j k h=> ?_⟩
  ·simp only[fY,nJ,h3,hc,cond_true,sx (show 0+V.length*1<=vs.length by omega),List.drop_zero];rw[Nat.mul_one,<- hl,List.take_length,show bZ 7 m vs=ki (bZ 6 m) m vs from rfl];rw[w1,Option.map_some];simp only[row,Bool.false_and,cond_false]
   congr 2
   rw[hl,<- w2];exact GK ws
  ·obtain⟨nl,hn⟩:=w3 j k h;exact⟨nl,by rw[List.getElem?_map,hn];rfl⟩
end
section
structure Yl(m:Mem)(a:List EV)(c:CS):Prop where
 is:∃k z s f v,a=[k,z,s,f,v,.int .i64 c.M]/\∀M:Mem,m.next<=M.next->(∀b,b<m.next->M.get b=m.get b)->∃n1 n2 n3 n4 n5 vs,fY M k=some (row n1 0 1 (ints c.K))/\fY M z=some (row n2 0 1 (ints c.S))/\fY M s=some (row n3 0 1 (ints c.C))/\fY M f=some (row n4 0 1 (ints c.F))/\fY M v=some (row n5 0 1 vs)/\vs.length=c.V.length/\∀(j:Nat) k,c.V[j]?=some k->∃nl,vs[j]?=some [row nl 0 1 (ints k)]
def pe:List EV:=[.aa,.aa,.aa,.aa,.aa,.int .i64 0]
theorem Oy{e:CE}{m:Mem}(e1:e.cb=nb m.next 2)(e2:e.kb=nb m.next 3+5)(e3:e.zb=nb m.next 3+8)(e4:e.ab=nb m.next 3+11)(h:YO e.lb e.lc e.lt e.lr e.xs m)(hs:Small e.l)(hn:∀d∈e.l,d.n<=9223372036854775807)(hl:e.xs.length<100000)(hk:jW e.l->∀x∈e.xs,x.d.kids.length<1000000)(hw:jW e.l->∀i,dM e.l (i+1) i<500000){X:Option Fin}(hX:run U mU [.slice e.lb 0 e.xs.length e.lc] m=X) :
  ∃m' a fe fp,X=some (.ret (.tuple [.agg a,.agg [.int .i64 fe,.int .i64 fp]]) m')/\m.next<=m'.next/\(∀b,b<m.next->m'.get b=m.get b)/\
   ((¬lH e.l/\a=pe/\fe=5/\fp=0)\/(lH e.l/\fe=(e8 e.l).fe/\(fe≠0->a=pe/\fp=(e8 e.l).fp)/\(fe=0->fp=0/\Yl m' a (e8 e.l)))):=by
 rw[cf (by simp[e9])]at hX;have hz:∀Bs,fY (ext m Bs) (.slice e.lb 0 e.xs.length e.lc)=some (.fz 0 5 (lC e.l)):=fun Bs=>(h.cU (by rw[ak];exact aq) fun b hb=>ai hb).nJ
 have hwh:∀t,bA B Ev.K uq [.fz t 5 (lC e.l)]=some (bo (lH e.l)):=fun t=>CU (t:=t) (nl:=false) hs hn
 have nb0:nb m.next 0=m.next:=rfl;have nb1:nb m.next 1=m.next+1:=rfl;have k1:e.xs.length.ble e.xs.length=true:=sx (cR _);have k2:e.xs.length.ble room=true:=sx (by unfold room;omega);by_cases hp:lH e.l
 ·simp only[e9,hz,hwh,hp,k1,k2,GI,ao,simprocAttr]at hX;generalize hD:Mem.mk (nb m.next 27) _=D at hX;have n3:nb m.next 3=m.next+3:=rfl;have n2:nb m.next 2=m.next+2:=rfl;have dn:D.next=m.next+27:=by rw[<- hD];rfl
  have dg:∀b,D.get b=if b=nb m.next 3+11 then .cells (is (List.replicate e.xs.length 0)) 1 3 false else if b=nb m.next 3+8 then .cells (is (List.replicate e.xs.length 0)) 1 3 false else if b=nb m.next 3+5 then .cells (is (List.replicate e.xs.length 0)) 1 3 false else(ext m [bX.cells [EV.aa,EV.aa,EV.aa,EV.aa,EV.aa,EV.int IntKind.i64 0] 6 33 false,bX.cells [EV.int IntKind.i64 0,EV.int IntKind.i64 0] 2 26 false,bX.cells [EV.slice e.lb 0 e.xs.length e.lc,EV.aa,EV.aa,EV.aa,EV.aa,EV.aa,EV.int IntKind.i64 0,EV.bM,EV.int IntKind.i64 0,EV.int IntKind.i64 0,EV.int IntKind.i64 0,EV.int IntKind.i64 0] 12 63 false]).get b:=by
   intro b;rw[<- hD];show (Ec (Ec (Ec (bump (ext m _) 24) (nb m.next 3+5) _) (nb m.next 3+8) _) (nb m.next 3+11) _).get b=_;rw[ko,ko,ko];rfl
  clear hD;have fc:∀b,b<m.next->D.get b=m.get b:=fun b hb=>by rw[dg,if_neg (by omega),if_neg (by omega),if_neg (by omega)];exact ai hb
  have d0:D.get (nb m.next 0)=bX.cells [EV.aa,EV.aa,EV.aa,EV.aa,EV.aa,EV.int IntKind.i64 0] 6 33 false:=by rw[dg,if_neg (by omega),if_neg (by omega),if_neg (by omega),aw rfl (by simp)];rfl
  have d1:D.get (nb m.next 1)=bX.cells [EV.int IntKind.i64 0,EV.int IntKind.i64 0] 2 26 false:=by rw[dg,if_neg (by omega),if_neg (by omega),if_neg (by omega),aw rfl (by simp)];rfl
  have d2:D.get (nb m.next 2)=bX.cells [EV.slice e.lb 0 e.xs.length e.lc,EV.aa,EV.aa,EV.aa,EV.aa,EV.aa,EV.int IntKind.i64 0,EV.bM,EV.int IntKind.i64 0,EV.int IntKind.i64 0,EV.int IntKind.i64 0,EV.int IntKind.i64 0] 12 63 false:=by rw[dg,if_neg (by omega),if_neg (by omega),if_neg (by omega),aw rfl (by simp)];rfl
  have dk:D.get (nb m.next 3+5)=.cells (is (List.replicate e.xs.length 0)) 1 3 false:=by rw[dg,if_neg (by omega),if_neg (by omega),if_pos rfl]
  have dz:D.get (nb m.next 3+8)=.cells (is (List.replicate e.xs.length 0)) 1 3 false:=by rw[dg,if_neg (by omega),if_pos rfl]
  have da:D.get (nb m.next 3+11)=.cells (is (List.replicate e.xs.length 0)) 1 3 false:=by rw[dg,if_pos rfl]
  have l2:nb m.next 2<D.next:=by omega
  simp only[d2,l2,ao,simprocAttr]at hX;rw[<- e1,<- e2,<- e3,<- e4]at hX;rw[<- e1]at d2 l2;rw[<- e2]at dk;rw[<- e3]at dz;rw[<- e4]at da;obtain⟨c0,uF⟩:∃c0:CS,c0={CS.zero e.l with M:=0}:=⟨_,rfl⟩
  have zk:e.l.length=e.xs.length:=CE.Fa;have hsN:pG e.xs.length 0=List.replicate e.xs.length 0:=by unfold pG;simp
  have hsE:pG e.xs.length e.xs.length=List.replicate e.xs.length (-1):=by unfold pG;simp
  generalize hM:Mem.set (Mem.set (Mem.set D e.cb _) e.cb _) e.cb _=M at hX;have mn:M.next=m.next+27:=by rw[<- hM];exact dn
  have mo:∀b,b≠e.cb->M.get b=D.get b:=fun b hb=>by rw[<- hM,af hb,af hb,af hb]
  have hW:∀b,e.W b->m.next+2<=b/\b<m.next+27:=fun b hb=>by rcases hb with q|q|q|q<;>omega
  have hW0:¬e.W (nb m.next 0):=fun q=>by have:=hW _ q;omega
  have hW1:¬e.W (nb m.next 1):=fun q=>by have:=hW _ q;omega
  have hnd:uO e oth M:=by
   refine⟨(mo _ (by have:=h.lt;omega)).trans ((fc _ h.lt).trans h.g),by rw[mn];have:=h.lt;omega,fun q=>by have:=hW _ q;have:=h.lt;omega,rfl,fun x hx=>(h.k x hx).cU (by omega) fun b n c hb _=>(mo _ (by omega)).trans (fc _ hb),fun x hx b n c he=>⟨fun q=> ?_,rfl⟩⟩
   have oP:=hW _ q;rcases(h.k x hx).is with⟨_,q2|⟨b2,o2,q2⟩⟩|⟨b2,c2,t2,ro2,q2,g2,l2',_⟩
   ·rw[q2]at he;cases he
   ·rw[q2]at he;cases he
   ·rw[q2]at he;injection he with h1;omega
  have hcb:Cb e M .aa .aa .bM {c0 with S:=pG e.xs.length 0,C:=pG e.xs.length 0}:=by
   refine⟨?_,(mo _ (by omega)).trans (dk.trans (by rw[uF];unfold CS.zero;rw[zk])),(mo _ (by omega)).trans (dz.trans (by rw[hsN])),(mo _ (by omega)).trans (da.trans (by rw[hsN])),fun b hb=>by have:=hW b hb;omega,⟨by omega,by omega,by omega,by omega,by omega,by omega⟩,⟨by rw[uF];unfold CS.zero;simp[zk],by simp[hsN],by simp[hsN]⟩,hnd,by rw[uF];exact⟨.inl ⟨rfl,rfl,rfl⟩,rfl⟩,fun b hb=>absurd iw.nil hb⟩
   rw[<- hM,aN,uF];rfl
  have m0:M.get (nb m.next 0)=bX.cells [EV.aa,EV.aa,EV.aa,EV.aa,EV.aa,EV.int IntKind.i64 0] 6 33 false:=(mo _ (by omega)).trans d0;have m1:M.get (nb m.next 1)=bX.cells [EV.int IntKind.i64 0,EV.int IntKind.i64 0] 2 26 false:=(mo _ (by omega)).trans d1;have amC:∀b,b<m.next->M.get b=m.get b:=fun b hb=>(mo _ (by omega)).trans (fc _ hb)
  clear hM;generalize hY:exec _ (.loop iX) _ _=Y at hX;obtain⟨ou,rfl,HV,M2,rfl,h2,s2,f2,f3,f4,fd⟩:=cG hY (XX (n:=e.xs.length) rfl hl hcb (v2:=.ptr (nb m.next 0) 0) (v3:=.ptr (nb m.next 1) 0) (by simp[ay]) (by simp[ay]) (by simp[ay]) (by simp[ay]) (by simp[ay]) (by simp[ay]));clear hY;simp only[f2,f3,f4,fd,ao,simprocAttr]at hX;generalize hC:run (UT B Ev.K) 22 _ _=C at hX;have qC:(dZ e.l (e.l.length- 1)).kind=26:=by
   have:=hp.2;rw[iR]at this;unfold ee at this;rw[Int.toNat_natCast]at this;exact this
  have s:Shape e:=⟨hp.1,qC,by omega,hk hp.1,hl⟩;have hlb:=h.lt;have lw0:Lx e M.next:=by
   refine⟨by omega,fun b hb=>by have:=hW b hb;omega,fun x hx b n c he=> ?_⟩
   rcases(h.k x hx).is with⟨_,q2|⟨b2,o2,q2⟩⟩|⟨b2,c2,t2,ro2,q2,g2,l2',_⟩
   ·rw[q2]at he;cases he
   ·rw[q2]at he;cases he
   ·rw[q2]at he;injection he with h1;omega
  have hz0:({({c0 with S:=pG e.xs.length e.xs.length,C:=pG e.xs.length e.xs.length}:CS)with M:= -1}:CS)=CS.zero e.l:=by
   rw[uF,hsE];unfold CS.zero;rw[zk]
  obtain⟨M3,fv,c3,rfl,h3,o3,b3,k3,F3,BZ,V3,L3⟩:=aa1 s lw0 s2.n h2 (by rw[uF];rfl) (by rw[uF];rfl) hC;clear hC;rw[hz0]at BZ;have V3':c3.V=[]:=V3.trans (by rw[uF];rfl);have L3':c3.L=0:=L3.trans (by rw[uF];rfl);have jV:=h3.g;have pz:=h3.lt _ (.inl rfl);have zl:=(tU h3).kA;unfold j0 CE.lv at jV;simp only[f2,f3,f4,fd,jV,pz,zl,ao,simprocAttr]at hX;generalize hY:exec _ (.loop gG) _ _=Y at hX;have hi:e.xs.length- 1<e.xs.length:=by have:=hp.1.2.1;omega
  have Sl:(dZ e.l (e.l.length- 1)).kids.length<100000:=by
   have hk:=s.kids hi;unfold cJ at hk;rw[<- zk]at hk;rw[qC]at hk;simp only[Int.reduceEq,or_self,if_false,if_true]at hk;have:=hk.2;omega
  have lw3:Low e M3.next fv:=⟨by omega,fun b hb=>cQ (lw0.w b hb) b3,fun x hx b n c he=>cQ (lw0.k x hx b n c he) b3,fun b hb=>(o3.lT hb).2⟩;obtain⟨ou,rfl,fr4,M4,TM,sp4,c4,rfl,h4,v4,b4,k4,KX,F4,g2,g3,g4,gd⟩:=cG hY (XW (c0:=c3) s lw3 (cR _) (hw hp.1) h3 (by rw[V3'];exact⟨[],rfl,⟨.inl ⟨rfl,rfl,rfl⟩,rfl⟩,fun j v k a=>by cases a⟩) (fun x hx=>by rw[F3]at hx;exact hx) (by rw[F3];exact Sl) L3' V3' (v2:=.ptr (nb m.next 0) 0) (v3:=.ptr (nb m.next 1) 0) (by simp[f2,ay]) (by simp[f3,ay]) (by simp[f4,ay]) (by simp[ay]) (by simp[ay]) (by simp[ay]) (by simp[fd,ay]));clear hY;have eqc:jz c4 (e8 e.l):=by
   have e0:e8 e.l=aO (nY e.l) (eP e.l (CS.zero e.l)).F (eP e.l (CS.zero e.l)):=rfl;by_cases hf:c3.fe=0
   ·have:=BZ.2.2 hf;rw[e0,<- this];exact KX
   ·have hn:=BZ.1;rw[kZ hf]at KX;rw[e0,kZ (by rw[<- hn];exact hf)];exact⟨KX.1.trans BZ.1,KX.2.1.trans BZ.2.1,fun q=>absurd (KX.1.symm.trans q) hf⟩
  have m04:M4.get (nb m.next 0)=bX.cells [EV.aa,EV.aa,EV.aa,EV.aa,EV.aa,EV.int IntKind.i64 0] 6 33 false:=(k4 _ (by omega) hW0).trans ((k3 _ (by omega) hW0).trans ((s2.k _ (by omega) hW0).trans m0));have m14:M4.get (nb m.next 1)=bX.cells [EV.int IntKind.i64 0,EV.int IntKind.i64 0] 2 26 false:=(k4 _ (by omega) hW1).trans ((k3 _ (by omega) hW1).trans ((s2.k _ (by omega) hW1).trans m1));have Vm:∀b,b<m.next->M4.get b=m.get b:=fun b hb=>by
   have Tv:¬e.W b:=fun q=>by have:=hW _ q;omega
   exact(k4 _ (by omega) Tv).trans ((k3 _ (by omega) Tv).trans ((s2.k _ (by omega) Tv).trans (amC b hb)))
  have HQ:=yg h4;have nW:=h4.g;have uZ:=h4.lt _ (.inl rfl);have l04:nb m.next 0<M4.next:=by omega
  have VZ:nb m.next 1<M4.next:=by omega
  unfold j0 CE.lv at nW;have hcn:e.cb≠nb m.next 0:=by omega
  by_cases hf:c4.fe=0
  ·rw[gQ hf]at HQ;simp only[g2,g3,g4,gd,HQ,nW,uZ,m04,m14,l04,VZ,ao,simprocAttr]at hX;have c4e:c4=e8 e.l:=eqc.2.2 hf;refine⟨_,_,_,_,hX.symm,?_,?_,.inr ⟨hp,?_,?_,?_⟩⟩
   ·simp only[au,aj];exact ji (by omega) aq
   ·intro b hb;rw[fK,af (by omega),af (by omega)];exact Vm b hb
   ·rw[<- c4e];exact hf.symm
   ·intro q;exact absurd rfl q
   ·intro _;refine⟨rfl,⟨?_⟩⟩
    rw[<- c4e];have key:∀b,b≠nb m.next 0->b≠nb m.next 1->(bump ((M4.set (nb m.next 0) (bX.cells [e.row e.kb,e.row e.zb,e.row e.ab,fv,TM,EV.int IntKind.i64 c4.M] 6 33 false)).set (nb m.next 1) (bX.cells [EV.int IntKind.i64 0,EV.int IntKind.i64 0] 2 26 false)) 0).get b=M4.get b:=fun b q1 q2=>by rw[fK,af q2,af q1]
    have kn:M4.next<=(bump ((M4.set (nb m.next 0) (bX.cells [e.row e.kb,e.row e.zb,e.row e.ab,fv,TM,EV.int IntKind.i64 c4.M] 6 33 false)).set (nb m.next 1) (bX.cells [EV.int IntKind.i64 0,EV.int IntKind.i64 0] 2 26 false)) 0).next:=by
     simp only[au,aj];exact aq
    generalize bump ((M4.set (nb m.next 0) (bX.cells [e.row e.kb,e.row e.zb,e.row e.ab,fv,TM,EV.int IntKind.i64 c4.M] 6 33 false)).set (nb m.next 1) (bX.cells [EV.int IntKind.i64 0,EV.int IntKind.i64 0] 2 26 false)) 0=M5 at *;have lk4:=h4.lt _ (.inr (.inl rfl));have lz4:=h4.lt _ (.inr (.inr (.inl rfl)));have la4:=h4.lt _ (.inr (.inr (.inr rfl)));refine⟨e.row e.kb,e.row e.zb,e.row e.ab,fv,TM,rfl,fun Mx we TG=> ?_⟩
    have kn2:M4.next<=Mx.next:=ji kn we;have AM:∀b,b<M4.next->b≠nb m.next 0->b≠nb m.next 1->Mx.get b=M4.get b:=fun b q0 q1 q2=>(TG b (cQ q0 kn)).trans (key b q1 q2)
    have rk:EB Mx (e.row e.kb) c4.K:=.inr ⟨e.kb,some e.xs.length,3,by unfold CE.row;rw[h4.len.1],(AM _ (by omega) (by omega) (by omega)).trans h4.gk,.inr (by rw[h4.len.1])⟩;have rz:EB Mx (e.row e.zb) c4.S:=.inr ⟨e.zb,some e.xs.length,3,by unfold CE.row;rw[h4.len.2.1],(AM _ (by omega) (by omega) (by omega)).trans h4.gz,.inr (by rw[h4.len.2.1])⟩;have ra:EB Mx (e.row e.ab) c4.C:=.inr ⟨e.ab,some e.xs.length,3,by unfold CE.row;rw[h4.len.2.2],(AM _ (by omega) (by omega) (by omega)).trans h4.ga,.inr (by rw[h4.len.2.2])⟩;have o5:eI Mx fv (is c4.F) c4.F.length 1 M.next:=by
     have o4:eI M4 fv (is c3.F) c3.F.length 1 M.next:=o3.eB b4 fun b hb im iv=>k4 b hb fun q=>by have:=hW _ q;omega
     rw[F4];exact o4.eB kn2 fun b hb im iv=>AM b hb (by omega) (by omega)
    obtain⟨vs,v1,v2,v3⟩:=v4.is;have v5:eI Mx TM vs c4.V.length 1 M3.next:=v2.eB kn2 fun b hb im iv=>AM b hb (by omega) (by omega)
    obtain⟨n1,r1⟩:=nI rk;obtain⟨n2,r2⟩:=nI rz;obtain⟨n3,r3⟩:=nI ra;obtain⟨n4,r4⟩:=nI (Jp o5);obtain⟨n5,us,r5,r6,r7⟩:=Ku v1 v5 fun j v k a b=>by
     rcases(v3 j v k a b).1 with q|⟨b',c',t',q1,q2,q3,q4,q5⟩
     ·exact .inl q
     ·refine .inr ⟨b',c',t',q1,?_,q5⟩
      rw[AM b' q3 (fun w=> ?_) (fun w=> ?_)];exact q2
      ·rw[w,m04]at q2;injection q2 with w1 w2
       cases w2
      ·rw[w,m14]at q2;injection q2 with w1 w2
       cases w2
    exact⟨n1,n2,n3,n4,n5,us,r1,r2,r3,r4,r5,r6,r7⟩
  ·rw[ij hf]at HQ;have Tz:=fun x=>(af (m:=M4) (x:=x) hcn).trans nW
   simp only[g2,g3,g4,gd,HQ,nW,Tz,uZ,m04,m14,l04,VZ,ao,simprocAttr]at hX;refine⟨_,_,_,_,hX.symm,?_,?_,.inr ⟨hp,eqc.1,fun _=>⟨rfl,eqc.2.1⟩,fun q=>absurd q hf⟩⟩
   ·simp only[au,aj];exact ji (by omega) (ji aq aq)
   ·intro b hb;simp only[fK];rw[af (by omega),af (by omega)];exact Vm b hb
 ·simp only[e9,hz,hwh,hp,ao,simprocAttr]at hX;refine⟨_,_,_,_,hX.symm,?_,?_,.inl ⟨hp,rfl,rfl,rfl⟩⟩
  ·simp only[aj,au,ak];exact aq
  ·intro b hb;exact ai hb
theorem S1{lb t:Nat}{lc:Option Nat}{ro:Bool}{xs:List Nv}{m:Mem}(h:YO lb lc t ro xs m)(hs:Small (xs.map Nv.d))(hn:∀d∈xs.map Nv.d,d.n<=9223372036854775807)(hl:xs.length<100000)(hk:jW (xs.map Nv.d)->∀x∈xs,x.d.kids.length<1000000)(hw:jW (xs.map Nv.d)->∀i,dM (xs.map Nv.d) (i+1) i<500000){X:Option Fin}(hX:run U mU [.slice lb 0 xs.length lc] m=X) :
  ∃m' a fe fp,X=some (.ret (.tuple [.agg a,.agg [.int .i64 fe,.int .i64 fp]]) m')/\m.next<=m'.next/\(∀b,b<m.next->m'.get b=m.get b)/\
   ((¬lH (xs.map Nv.d)/\a=pe/\fe=5/\fp=0)\/(lH (xs.map Nv.d)/\fe=(e8 (xs.map Nv.d)).fe/\(fe≠0->a=pe/\fp=(e8 (xs.map Nv.d)).fp)/\(fe=0->fp=0/\Yl m' a (e8 (xs.map Nv.d))))):=
 Oy (e:=⟨nb m.next 2,nb m.next 3+5,nb m.next 3+8,nb m.next 3+11,lb,lc,t,ro,xs⟩) rfl rfl rfl rfl h hs hn hl hk hw hX
end
section
theorem CN(l:List Pv)(v:Pv):yA (l++[v])=yA l++[vc v]:=by simp[yA]
theorem JZ(l:List Int)(k:Int):Hx (l++[k])=Hx l++[[.int .i64 k]]:=by simp[Hx]
theorem KB{V:List Pv}{D:Int}{i:Nat}{v:Pv}(h:V[i]?=some v):(V.take (i+1)).filter (fun u=>decide (u.block<D))=(V.take i).filter (fun u=>decide (u.block<D))++if v.block<D then[v]else[]:=by
 rw[List.take_add_one,h,List.filter_append]
 congr 1
 by_cases q:v.block<D<;>simp[q]
abbrev vg(m:Mem)(v:EV)(V:List Pv)(lo:Nat):Prop:=eI m v (yA V).flatten V.length 4 lo
abbrev Bc(m:Mem)(v:EV)(K:List Int)(lo:Nat):Prop:=eI m v (Hx K).flatten K.length 1 lo
theorem eI.stay{m m':Mem}{v:EV}{cs:List EV}{n esz lo:Nat}(h:eI m v cs n esz lo)(hn:m.next<=m'.next)(hk:∀c,c<m.next->¬iw v c->m'.get c=m.get c):eI m' v cs n esz lo:=by
 refine⟨?_,h.len⟩
 rcases h.is with h|⟨b,cap,t,rfl,h1,h2,h3,h4⟩
 ·exact .inl h
 ·exact .inr ⟨b,cap,t,rfl,h1,by omega,by rw[hk b h2 (fun ho=>ho b 0 n cap rfl rfl)];exact h3,h4⟩
theorem eI.below{m:Mem}{v:EV}{cs:List EV}{n esz lo c:Nat}(h:eI m v cs n esz lo)(hc:¬iw v c):lo<=c/\c<m.next:=by
 rcases h.is with⟨rfl,_⟩|⟨b,cap,t,rfl,h1,h2,_⟩
 ·exact absurd iw.nil hc
 ·by_cases q:c=b
  ·subst q;exact⟨h1,h2⟩
  ·exact absurd (iw.of q) hc
theorem Cg{V:List Pv}{i:Nat}{u:Pv}(h:V[i]?=some u):(yA V).flatten[i*4]?=some (.str u.name)/\(yA V).flatten[i*4+1]?=some (.int .i64 u.block)/\(yA V).flatten[i*4+2]?=some (.int .i64 u.slot)/\(yA V).flatten[i*4+3]?=some (.int .i64 u.kind)/\partOf (some 4) (yA V).flatten (i*4)=some (.agg (vc u)):=by
 have hg:(yA V)[i]?=some (vc u):=by rw[GX,h];rfl
 have g:=fun p hp=>DW (css:=yA V) (ue V) i p hp
 have e0:=g 0 (by decide);have e1:=g 1 (by decide);have e2:=g 2 (by decide);have e3:=g 3 (by decide);rw[hg]at e0 e1 e2 e3;have aH:i<V.length:=(mu.1 h).1;have rE:(yA V).flatten.length=V.length*4:=by rw[mX (ue V),pv]
 refine⟨e0,e1,e2,e3,?_⟩
 have hd:((yA V).flatten.drop (i*4)).take 4=vc u:=by
  refine List.ext_getElem? fun p=> ?_
  rw[List.getElem?_take];by_cases hp:p<4
  ·rw[if_pos hp,List.getElem?_drop,g p hp,hg];rfl
  ·rw[if_neg hp,List.getElem?_eq_none (by show 4<=p;omega)]
 simp only[partOf];rw[sx (by rw[rE];omega),cond_true,hd]
theorem Ox{x:Mo}{v0:EV}(hl:x.V.length<1000000){bx bo:Nat}{m0:Mem}(fR:bx≠bo)(tH:vg m0 v0 x.V 0)(ad6:iw v0 bo){kv:EV}(hg:m0.get bx=.cells [v0,kv,.int .i64 x.D] 3 aW false)(hbx:bx<m0.next)(TD:bo<m0.next)(hgo:m0.get bo=.cells [.aa,kv,.int .i64 (x.D- 1)] 3 aW false)
  {fr:Fr} (h1:fr.get 1=.ptr bx 0) (h3:fr.get 3=.ptr bo 0) (h4:fr.get 4=.int .i64 0) (hd:fr.defers=[]) :
  ∃o,exec U (.loop gW) fr m0=some o/\∃fr' m' v,o=.exit 0 fr' m'/\m0.next<=m'.next/\vg m' v (x.V.filter fun u=>decide (u.block<x.D)) m0.next/\m'.get bo=.cells [v,kv,.int .i64 (x.D- 1)] 3 aW false/\(∀c,c<m0.next->c≠bo->m'.get c=m0.get c)/\fr'.get 3=.ptr bo 0/\fr'.get 2=fr.get 2/\fr'.defers=[]:=by
 refine dr (σ:=Nat) (fun i f m=>i<=x.V.length/\m0.next<=m.next/\(∃v,m.get bo=.cells [v,kv,.int .i64 (x.D- 1)] 3 aW false/\vg m v ((x.V.take i).filter fun u=>decide (u.block<x.D)) m0.next)/\(∀c,c<m0.next->c≠bo->m.get c=m0.get c)/\f.get 1=.ptr bx 0/\f.get 3=.ptr bo 0/\f.get 4=.int .i64 (i:Int)/\f.get 2=fr.get 2/\f.defers=[]) (fun i=>x.V.length- i) _ ?_ 0 fr m0
  ⟨nZ _,cR _,⟨.aa,hgo,⟨.inl ⟨rfl,rfl,rfl⟩,rfl⟩⟩,fun _ _ _=>rfl,h1,h3,h4,rfl,hd⟩
 rintro i f m ⟨hi,hn,⟨v,So,own⟩,hk,h1,h3,h4,h2,hd⟩;have hgx:=(hk bx hbx fR).trans hg;have anv:∀M:Mem,kA v0 M=some (.val (.int .i64 (x.V.length:Int)) M):=fun M=>by
  rcases tH.is with⟨rfl,q,_⟩|⟨b',cap,t,rfl,_⟩
  ·rw[q];rfl
  ·rfl
 generalize hX:exec U gW f m=X;by_cases aH:i<x.V.length
 ·have hic:(i:Int)<(x.V.length:Int):=by omega
  have hti:x.V[i]?=some x.V[i]:=jE aH;have hw:=aZ (i:=i) (by omega);have bT:=KB (D:=x.D) hti;have rE:((x.V.take i).filter fun u=>decide (u.block<x.D)).length<1000000:=Nat.lt_of_le_of_lt (List.length_filter_le ..) (by rw[List.length_take];omega);obtain⟨-,vc1,-,-,vca⟩:=Cg hti;rcases tH.is with⟨_,q,_⟩|⟨b',cap,t,ev,_,DO,Kf,_⟩
  ·omega
  have Wu:b'≠bo:=fun q=>ad6 b' 0 _ cap ev q.symm
  have WK:=(hk b' DO Wu).trans Kf;generalize x.V[i]=u at *;have hvc:vc u=[.str u.name,.int .i64 u.block,.int .i64 u.slot,.int .i64 u.kind]:=rfl;rw[hvc]at vca;have ev':=ev;rw[ev]at hgx;have hbm:b'<m.next:=by omega
  by_cases hb:u.block<x.D
  ·rw[if_pos hb]at bT;simp only[gW,h1,h3,h4,hd,hgx,So,hic,aH,hw,hb,WK,vc1,vca,hbm,Nat.zero_add,ap,ao,simprocAttr]at hX;generalize qD:Mem.mk (nb m.next 20) _=M1 at hX;have g1n:M1.next=m.next+20:=by rw[<- qD];rfl
   have g1k:∀c,c<m.next->M1.get c=m.get c:=by
    intro c hc;rw[<- qD];show (ext (Mem.mk _ _) _).get c=_;rw[ai (show c<nb m.next 9+7 by unfold nb;omega)]
    rfl
   have g1x:M1.get (nb (nb m.next 9+7) 0)=.cells (vc u) 4 lA false:=by
    rw[<- qD];show (ext (Mem.mk _ _) _).get _=_;rw[aw rfl (by simp)];rfl
   have lh:M1.source 4 (.slice (nb (nb m.next 9+7) 0) 0 1 (some 1))=some (1,vc u):=lB g1x rfl;clear qD;have MX:=own.mono (m':=M1) (by omega) g1k;obtain⟨v',m2,ha,qW,Bx,hn2,_,_⟩:=nq (e:=lA) MX (by omega) lh rfl (by decide) (by unfold room;omega);have acw:∀c,c<m0.next->iw v c:=fun c hc=>by
    rcases own.is with⟨rfl,_⟩|⟨b',cap,t,rfl,q1,_⟩
    ·exact iw.nil
    ·exact iw.of (by omega)
   have kI:m2.get bo=.cells [v,kv,.int .i64 (x.D- 1)] 3 aW false:=by rw[Bx bo (by omega) (acw bo TD),g1k bo (by omega)];exact So
   have hc':v'.cells=some [v']:=by
    rcases qW.is with⟨rfl,_⟩|⟨b',cap,t,rfl,_⟩<;>rfl
   simp only[ha,kI,hc',hw,h4,ao,simprocAttr]at hX;subst hX;refine bB (i+1) (by omega) ⟨by omega,by rw[aj];omega,⟨v',aN,?_⟩,fun c hc fR=>by rw[af fR,Bx c (by omega) (acw c hc),g1k c (by omega)];exact hk c hc fR,by simp[h1,h3,h2,hd,ay]⟩
   unfold vg;rw[bT,CN,List.flatten_append,w6];have Vb:eI (m2.set bo (.cells [v',kv,.int .i64 (x.D- 1)] 3 aW false)) v' ((yA (List.filter (fun u=>decide (u.block<x.D)) (List.take i x.V))).flatten++vc u) ((List.filter (fun u=>decide (u.block<x.D)) (List.take i x.V)).length+1) 4 m0.next:=
    qW.stay (cR _) fun c _ ho=>af fun e=>by have:=(qW.below ho).1;omega
   simpa using Vb
  ·rw[if_neg hb,List.append_nil]at bT;simp only[gW,h1,h3,h4,hd,hgx,So,hic,aH,hw,hb,WK,vc1,vca,hbm,Nat.zero_add,ap,ao,simprocAttr]at hX;subst hX;have PM:(bump m 9).next=m.next+9:=rfl;refine bB (i+1) (by omega) ⟨by omega,by omega,⟨v,So,?_⟩,hk,by simp[h1,h3,h2,hd,ay]⟩
   rw[bT];exact own.mono (by omega) fun _ _=>rfl
 ·have hic:¬(i:Int)<(x.V.length:Int):=by omega
  obtain rfl:i=x.V.length:=by omega
  simp only[gW,h1,h4,hd,hgx,anv,hic,ao,simprocAttr]at hX;subst hX;rw[List.take_length]at own;exact bK ⟨_,_,v,rfl,hn,own,So,hk,by simp[h3,h2,hd,ay]⟩
theorem b9{m:Mem}{v:EV}{cs:List EV}{n esz lo:Nat}(h:eI m v cs n esz lo):v.cells=some [v]:=by
 rcases h.is with⟨rfl,_⟩|⟨b',cap,t,rfl,_⟩<;>rfl
theorem yQ{m:Mem}{x:Mo}{v w:EV}(hl:x.V.length<1000000)(hd: -1000000<x.D/\x.D<1000000)(hv:vg m v x.V 0)(Z3:Bc m w x.K 0):∃v' m',run U vL [.agg [v,w,.int .i64 x.D]] m=some (.ret (.agg [v',w,.int .i64 (x.D- 1)]) m')/\vg m' v' x.close.V m.next/\m.next<=m'.next/\jy m m':=by
 generalize hX:run U vL [.agg [v,w,.int .i64 x.D]] m=X;rw[cf (by simp[kP])]at hX;generalize hL:exec (UT B Ev.K) (ar.loop gW)=L0 at hX;have hw:IntKind.i64.wrap (x.D- 1)=x.D- 1:=wrap_i64 (by omega) (by omega);have wW:=b9 hv;have HN:=b9 Z3;simp only[kP,hw,wW,HN,ao,simprocAttr]at hX;subst hL;generalize hC:exec _ (.loop gW) _ _=C at hX;have e0:nb m.next 0=m.next:=rfl;have e1:nb m.next 1=m.next+1:=rfl;have e2:nb m.next 2=m.next+2:=rfl;have en:(ext m [bX.cells [v,w,EV.int IntKind.i64 x.D] 3 aW false,bX.cells [EV.aa,EV.aa,EV.int IntKind.i64 0] 3 aW false,bX.cells [EV.aa,w,EV.int IntKind.i64 (x.D- 1)] 3 aW false]).next=m.next+3:=by rw[ak];rfl
 have g1:(ext m [bX.cells [v,w,EV.int IntKind.i64 x.D] 3 aW false,bX.cells [EV.aa,EV.aa,EV.int IntKind.i64 0] 3 aW false,bX.cells [EV.aa,w,EV.int IntKind.i64 (x.D- 1)] 3 aW false]).get (nb m.next 1)=.cells [.aa,.aa,.int .i64 0] 3 aW false:=by rw[aw rfl (by simp)];rfl
 obtain⟨oo,rfl,fr',m',v',rfl,hn,own,hgo,hk,f3,f2,fd⟩:=cG hC (Ox (x:=x) (v0:=v) hl (bx:=nb m.next 0) (bo:=nb m.next 2) (kv:=w) (by rw[e0,e2];omega) (hv.ext _) (vt fun q=>by have:=(hv.below q).2;omega) (by rw[aw rfl (by simp)];rfl) (by rw[en,e0];omega) (by rw[en,e2];omega) (by rw[aw rfl (by simp)];rfl) (by simp[ay]) (by simp[ay]) (by simp[ay]) (by simp[ay]));rw[en]at hn own hk;have g1':=(hk (nb m.next 1) (by rw[e1];omega) (by rw[e1,e2];omega)).trans g1;simp only[ay,Nat.reduceBEq]at f2;have hc':=b9 own;simp only[f3,f2,fd,hgo,g1',hc',HN,ao,simprocAttr]at hX;refine⟨v',_,hX.symm,?_,by rw[aj];omega,fun c hc=>by rw[af (by rw[e1];omega),hk c (by omega) (by rw[e2];omega),ai hc]⟩
 have qW:vg (m'.set (nb m.next 1) (.cells [v',w,.int .i64 (x.D- 1)] 3 aW false)) v' (x.V.filter fun u=>decide (u.block<x.D)) (m.next+3):=own.stay (cR _) fun c _ ho=>af fun e=>by have:=(own.below ho).1;rw[e1]at e;omega
 refine⟨?_,qW.len⟩
 rcases qW.is with q|⟨b',cap,t,q,q1,q2⟩
 ·exact .inl q
 ·exact .inr ⟨b',cap,t,q,by omega,q2⟩
end
section
theorem abM{m:Mem}{b0 e esz lo n:Nat}{x:EV}{xs:List EV}{t:Nat}(hb:m.get b0=.cells [] esz t false)(aH:b0<m.next)(im:lo<=b0)(hx:m.source esz x=some (n,xs))(hl:xs.length=n*esz)(hr:n<1000000) :
  ∃v' m',cM m e esz (.slice b0 0 0 (some 0)) x=some (v',m')/\eI m' v' xs n esz lo/\(∀c,c<m.next->c≠b0->m'.get c=m.get c)/\m.next<=m'.next/\v'≠.aa:=by
 have own:eI m (.slice b0 0 0 (some 0)) [] 0 esz lo:=⟨.inr ⟨b0,some 0,t,rfl,im,aH,hb,.inr rfl⟩,by simp⟩;by_cases h0:n=0
 ·subst h0;refine⟨.slice b0 0 0 (some 0),m,by unfold cM;rw[hx];rfl,?_,fun _ _ _=>rfl,cR _,by simp⟩
  have sR:xs=[]:=List.eq_nil_of_length_eq_zero (by rw[hl];simp);subst sR;exact own
 ·obtain⟨v',m',ha,qW,hk,hn,_,rfl⟩:=nq (e:=e) own (by omega) hx hl h0 (by unfold room;omega);exact⟨_,m',ha,by simpa using qW,fun c hc fR=>hk c hc (iw.of fR),by omega,by simp⟩
theorem eI.raise{m:Mem}{v:EV}{cs:List EV}{n esz lo Dz:Nat}(h:eI m v cs n esz lo)(hl:Dz<=lo):eI m v cs n esz Dz:=by
 refine⟨?_,h.len⟩
 rcases h.is with h|⟨b,cap,t,e,q1,q⟩
 ·exact .inl h
 ·exact .inr ⟨b,cap,t,e,by omega,q⟩
theorem E7{m:Mem}{x:Mo}{v w:EV}{s:cH}{k:Int}(hl:x.V.length<1000000)(hv:vg m v x.V 0)(Z3:Bc m w x.K 0)(sM:x.bad s k):∃m',run U px [.agg [v,w,.int .i64 x.D],.str s,.int .i64 k] m=some (.ret (.tuple [.agg [v,w,.int .i64 x.D],.bool false]) m')/\m.next<=m'.next/\jy m m':=by
 obtain⟨a,uC⟩:=(hv.ext [.cells [v,w,.int .i64 x.D] 3 aW false,.cells [.aa,.aa,.int .i64 0] 3 aW false]).nJ pv (ue _) (Al _);obtain⟨b,Wj⟩:=(Z3.ext [.cells [v,w,.int .i64 x.D] 3 aW false,.cells [.aa,.aa,.int .i64 0] 3 aW false]).nJ uz (wT _) (AN _);have PL:=xI (x:=x) (a:=a) (b:=b) (s:=s) hl;unfold moV at PL;have wW:=b9 hv;have HN:=b9 Z3;generalize hX:run U px [.agg [v,w,.int .i64 x.D],.str s,.int .i64 k] m=X;rw[cf (by simp[ed])]at hX;have fin:∀m',X=some (.ret (.tuple [.agg [v,w,.int .i64 x.D],.bool false]) m')->m.next<=m'.next->jy m m'->∃m',X=some (.ret (.tuple [.agg [v,w,.int .i64 x.D],.bool false]) m')/\m.next<=m'.next/\jy m m':=fun m' h1 h2 h3=>⟨m',h1,h2,h3⟩
 by_cases k1:k<1
 ·simp only[ed,PL,uC,Wj,wW,HN,k1,ao,simprocAttr]at hX;exact fin _ hX.symm (by simp only[au,ak,lV];exact aq) (fk lF)
 by_cases k2:3<k
 ·simp only[ed,PL,uC,Wj,wW,HN,k1,k2,ao,simprocAttr]at hX;exact fin _ hX.symm (by simp only[au,ak,lV];exact aq) (fk lF)
 rcases sM with q|⟨u,hu,hub⟩
 ·omega
 rcases A2 (s:=s) x.V with⟨h1,_⟩|⟨l,v',j,h1,h2,h3⟩
 ·rw[h1]at hu;cases hu
 ·rw[h1]at hu;simp at hu;subst hu;have hj:(0:Int)<=(j:Int):=by omega
  have WD:j<x.V.length:=(mu.1 h3).1;rw[h2]at PL;obtain⟨-,vc1,-,-,-⟩:=Cg h3;rcases hv.is with⟨_,q,_⟩|⟨b',cap,t,ev,_,DO,Kf,_⟩
  ·omega
  rw[ev]at uC wW;rw[ev]at Wj;rw[ev]at hX fin⊢;simp only[ed,PL,uC,Wj,wW,HN,k1,k2,hj,WD,hub,vc1,Kf,DO,Nat.zero_add,ap,ao,simprocAttr]at hX;exact fin _ hX.symm (by simp only[au,ak,lV];exact aq) (fk lF)
theorem Dc{m:Mem}{x:Mo}{v w:EV}{s:cH}{k:Int}(hl:x.V.length<1000000)(uW:x.K.length<1000000)(hv:vg m v x.V 0)(Z3:Bc m w x.K 0)(sM:¬x.bad s k):∃v' w' m',run U px [.agg [v,w,.int .i64 x.D],.str s,.int .i64 k] m=some (.ret (.tuple [.agg [v',w',.int .i64 x.D],.bool true]) m')/\vg m' v' (x.add s k).V m.next/\Bc m' w' (x.add s k).K m.next/\m.next<=m'.next/\jy m m':=by
 obtain⟨a,uC⟩:=(hv.ext [.cells [v,w,.int .i64 x.D] 3 aW false,.cells [.aa,.aa,.int .i64 0] 3 aW false]).nJ pv (ue _) (Al _);obtain⟨b,Wj⟩:=(Z3.ext [.cells [v,w,.int .i64 x.D] 3 aW false,.cells [.aa,.aa,.int .i64 0] 3 aW false]).nJ uz (wT _) (AN _);have PL:=xI (x:=x) (a:=a) (b:=b) (s:=s) hl;unfold moV at PL;have wW:=b9 hv;have HN:=b9 Z3;have k1:¬k<1:=fun q=>sM (.inl (.inl q))
 have k2:¬3<k:=fun q=>sM (.inl (.inr q))
 generalize hX:run U px [.agg [v,w,.int .i64 x.D],.str s,.int .i64 k] m=X;rw[cf (by simp[ed])]at hX;rcases A2 (s:=s) x.V with⟨h1,h2⟩|⟨l,v',j,h1,h2,h3⟩
 ·rw[h2]at PL;have hj:¬(0:Int)<= -1:=by decide
  simp only[ed,PL,uC,Wj,wW,HN,k1,k2,hj,ao,simprocAttr]at hX;generalize qD:ext (bump (ext m _) 21) _=M1 at hX;have n1:M1.next=m.next+24:=by rw[<- qD];rfl
  have e0:nb m.next 0=m.next:=rfl;have e1:nb m.next 1=m.next+1:=rfl;have XH:nb m.next 23=m.next+23:=rfl;have gb:M1.get (nb m.next 0)=.cells [v,w,.int .i64 x.D] 3 aW false:=by
   rw[<- qD,ai (show m.next<m.next+23 by omega),fK,aw rfl (by simp)];rfl
  have gt:M1.get (nb m.next 1)=.cells [.aa,.aa,.int .i64 0] 3 aW false:=by
   rw[<- qD,ai (show m.next+1<m.next+23 by omega),fK,aw rfl (by simp)];rfl
  have gd:M1.get (nb m.next 23)=.cells [] 4 lA false:=by
   rw[<- qD];exact(aw (n:=m.next+23) (i:=0) rfl (by simp)).trans rfl
  have gk:jy m M1:=fun c hc=>by rw[<- qD,ai (show c<m.next+23 by omega),fK,ai hc]
  clear qD;have hsV:=(hv.mono (m':=M1) (by omega) gk).source;obtain⟨v1,M2,a1,MX,rD,AR,anm⟩:=abM (e:=lA) (lo:=m.next+23) gd (by rw[n1,XH];omega) (by rw[XH];exact cR _) hsV (by rw[mX (ue _),pv]) hl;have DS:=(rD (nb m.next 0) (by rw[n1,e0];omega) (by rw[e0,XH];omega)).trans gb;have gt2:=(rD (nb m.next 1) (by rw[n1,e1];omega) (by rw[e1,XH];omega)).trans gt;have II:jy m M2:=fun c hc=>(rD c (by omega) (by rw[XH];omega)).trans (gk c hc)
  have hsK:=((Z3.mono (m':=M2) (by omega) II).ext [.cells [] 1 3 false]).source;have gd2:(ext M2 [bX.cells [] 1 3 false]).get (nb M2.next 0)=.cells [] 1 3 false:=by rw[aw rfl (by simp)];rfl
  have WA:M2.next<(ext M2 [bX.cells [] 1 3 false]).next:=by rw[ak];show M2.next<M2.next+1;omega
  obtain⟨v2,M3,a2,qW,Bx,hn2,ad8⟩:=abM (e:=3) (lo:=M2.next) gd2 WA (cR _) hsK (by rw[mX (wT _),uz]) uW;have HI:∀c,c<M2.next->M3.get c=M2.get c:=fun c hc=>by rw[Bx c (by omega) (fun q=>by have:nb M2.next 0=M2.next:=rfl;omega),ai hc]
  have TJ:=(HI (nb m.next 0) (by rw[e0];omega)).trans DS;have gt3:=(HI (nb m.next 1) (by rw[e1];omega)).trans gt2;have tO:jy m M3:=fun c hc=>(HI c (by omega)).trans (II c hc)
  have Vf:eI M3 v1 (yA x.V).flatten x.V.length 4 (m.next+23):=MX.mono (by omega) HI;have ad9:∀M:Mem,kA v2 M=some (.val (.int .i64 (x.K.length:Int)) M):=fun M=>by
   rcases qW.is with⟨q,_⟩|⟨b',cap,t,rfl,_⟩
   ·exact absurd q ad8
   ·rfl
  have l0:nb m.next 0<M2.next:=by rw[e0];omega
  have l3:nb m.next 0<M3.next:=by rw[e0];omega
  have l4:nb m.next 1<M3.next:=by rw[e1];omega
  simp only[a1,DS,l0,a2,TJ,ad9,l3,l4,ao,simprocAttr]at hX;generalize zw:Mem.mk (nb M3.next 19) _=M4 at hX;have n4:M4.next=M3.next+19:=by rw[<- zw];rfl
  have k4:∀c,c<M3.next->M4.get c=M3.get c:=by
   intro c hc;rw[<- zw];show (ext (Mem.mk _ _) _).get c=_;rw[ai (show c<M3.next+8 by omega)]
   rfl
  have x4:M4.get (nb (M3.next+8) 0)=.cells (vc ⟨s,x.D,x.K.length,k⟩) 4 lA false:=by
   rw[<- zw];show (ext (Mem.mk _ _) _).get _=_;rw[aw rfl (by simp)];rfl
  clear zw;have W9:=(k4 _ l3).trans TJ;have Ve:=Vf.mono (m':=M4) (by omega) k4;have Jr:=qW.mono (m':=M4) (by omega) k4;obtain⟨v3,M5,a3,Vb,k5,n5,_,Sg⟩:=nq (e:=lA) (x:=.slice (nb (M3.next+8) 0) 0 1 (some 1)) Ve (by omega) (lB x4 rfl) rfl (by decide) (by unfold room;omega);have He:∀c,(M2.next<=c\/c<m.next+23)->iw v1 c:=fun c hc=>vt fun q=>by have:=MX.below q;omega
  have gb5:=(k5 (nb m.next 0) (by omega) (He _ (by rw[e0];omega))).trans W9;have gt5:=(k5 (nb m.next 1) (by omega) (He _ (by rw[e1];omega))).trans ((k4 _ l4).trans gt3);have Vd:eI M5 v2 (Hx x.K).flatten x.K.length 1 M2.next:=Jr.stay (by omega) fun c hc ho=>k5 c hc (He _ (.inl (Jr.below ho).1))
  simp only[a3,ao,simprocAttr]at hX;generalize WW:Mem.mk M5.next _=M6 at hX;have n6:M6.next=M5.next:=by rw[<- WW]
  have k6:∀c,c≠M3.next+12->M6.get c=M5.get c:=by
   intro c hc;rw[<- WW];show (Mem.new (Mem.mk (M3.next+12) M5.ja) _).get c=_;rw[cN,if_neg hc];rfl
  have x6:M6.get (nb (M3.next+12) 0)=.cells [.int .i64 k] 1 3 false:=by
   rw[<- WW];show (ext (Mem.mk _ _) _).get _=_;rw[aw rfl (by simp)];rfl
  clear WW;have gb6:=(k6 (nb m.next 0) (by rw[e0];omega)).trans gb5;have gt6:=(k6 (nb m.next 1) (by rw[e1];omega)).trans gt5;have mC:∀c,¬iw v2 c->c<M3.next:=fun c hq=>(qW.below hq).2
  have Vc:eI M6 v2 (Hx x.K).flatten x.K.length 1 M2.next:=Vd.stay (by omega) fun c _ ho=>k6 c (by have:=mC c ho;omega)
  obtain⟨v4,M7,a4,U9,k7,n7,_,hv4⟩:=nq (e:=3) (x:=.slice (nb (M3.next+12) 0) 0 1 (some 1)) Vc (by omega) (lB x6 rfl) rfl (by decide) (by unfold room;omega);have Dl:∀c,(M3.next<=c\/c<M2.next)->iw v2 c:=fun c hc=>vt fun q=>by have:=qW.below q;omega
  have gb7:=(k7 (nb m.next 0) (by rw[e0];omega) (Dl _ (by rw[e0];omega))).trans gb6;have gt7:=(k7 (nb m.next 1) (by rw[e1];omega) (Dl _ (by rw[e1];omega))).trans gt6;have Va:eI (M7.set (nb m.next 1) (.cells [v3,v4,.int .i64 x.D] 3 aW false)) v3 (yA (x.V++[Pv.mk s x.D x.K.length k])).flatten (x.V++[Pv.mk s x.D x.K.length k]).length 4 (m.next+23):=by
   rw[CN,List.flatten_append,w6,show ([vc (Pv.mk s x.D x.K.length k)]:List (List EV)).flatten=vc (Pv.mk s x.D x.K.length k)by simp];refine eI.stay Vb (by rw[aj];omega) fun c hc ho=> ?_
   have sN:c=M4.next:=vt fun q=>by rw[Sg]at ho;exact ho (iw.of q)
   rw[af (by rw[e1];omega),k7 c (by omega) (Dl _ (by omega)),k6 c (by omega)]
  have U8:eI (M7.set (nb m.next 1) (.cells [v3,v4,.int .i64 x.D] 3 aW false)) v4 (Hx (x.K++[k])).flatten (x.K++[k]).length 1 M2.next:=by
   rw[JZ,List.flatten_append,w6,show ([[EV.int .i64 k]]:List (List EV)).flatten=[.int .i64 k]by simp];exact eI.stay U9 (by rw[aj];omega) fun c hc ho=>af (by have:=(U9.below ho).1;rw[e1];omega)
  subst Sg hv4;have l7:nb m.next 1<M7.next:=by rw[e1];omega
  simp only[a4,W9,gb6,gb7,gt7,l7,ao,simprocAttr]at hX;refine⟨_,_,_,hX.symm,Va.raise (by omega),U8.raise (by omega),by rw[aj];omega,fun c hc=> ?_⟩
  rw[af (by rw[e1];omega),k7 c (by omega) (Dl _ (by omega)),k6 c (by omega),k5 c (by omega) (He _ (by omega)),k4 c (by omega)];exact tO c hc
 ·rw[h2]at PL;have hj:(0:Int)<=(j:Int):=by omega
  have WD:j<x.V.length:=(mu.1 h3).1;have hvb:¬v'.block=x.D:=fun q=>sM (.inr ⟨v',by rw[h1];simp,q⟩)
  obtain⟨-,vc1,-,-,-⟩:=Cg h3;obtain⟨b',cap,t,ev,DO,Kf⟩:∃b' cap t,v=.slice b' 0 x.V.length cap/\b'<m.next/\m.get b'=.cells (yA x.V).flatten 4 t false:=by
   rcases hv.is with⟨_,q,_⟩|⟨b',cap,t,ev,_,DO,Kf,_⟩
   ·omega
   ·exact⟨b',cap,t,ev,DO,Kf⟩
  subst ev;simp only[ed,PL,uC,Wj,wW,HN,k1,k2,hj,WD,hvb,vc1,Kf,DO,Nat.zero_add,ap,ao,simprocAttr]at hX;generalize qD:ext (bump (ext m _) 21) _=M1 at hX;have n1:M1.next=m.next+24:=by rw[<- qD];rfl
  have e0:nb m.next 0=m.next:=rfl;have e1:nb m.next 1=m.next+1:=rfl;have XH:nb m.next 23=m.next+23:=rfl;have gb:M1.get (nb m.next 0)=.cells [.slice b' 0 x.V.length cap,w,.int .i64 x.D] 3 aW false:=by
   rw[<- qD,ai (show m.next<m.next+23 by omega),fK,aw rfl (by simp)];rfl
  have gt:M1.get (nb m.next 1)=.cells [.aa,.aa,.int .i64 0] 3 aW false:=by
   rw[<- qD,ai (show m.next+1<m.next+23 by omega),fK,aw rfl (by simp)];rfl
  have gd:M1.get (nb m.next 23)=.cells [] 4 lA false:=by
   rw[<- qD];exact(aw (n:=m.next+23) (i:=0) rfl (by simp)).trans rfl
  have gk:jy m M1:=fun c hc=>by rw[<- qD,ai (show c<m.next+23 by omega),fK,ai hc]
  clear qD;have hsV:=(hv.mono (m':=M1) (by omega) gk).source;obtain⟨v1,M2,a1,MX,rD,AR,anm⟩:=abM (e:=lA) (lo:=m.next+23) gd (by rw[n1,XH];omega) (by rw[XH];exact cR _) hsV (by rw[mX (ue _),pv]) hl;have DS:=(rD (nb m.next 0) (by rw[n1,e0];omega) (by rw[e0,XH];omega)).trans gb;have gt2:=(rD (nb m.next 1) (by rw[n1,e1];omega) (by rw[e1,XH];omega)).trans gt;have II:jy m M2:=fun c hc=>(rD c (by omega) (by rw[XH];omega)).trans (gk c hc)
  have hsK:=((Z3.mono (m':=M2) (by omega) II).ext [.cells [] 1 3 false]).source;have gd2:(ext M2 [bX.cells [] 1 3 false]).get (nb M2.next 0)=.cells [] 1 3 false:=by rw[aw rfl (by simp)];rfl
  have WA:M2.next<(ext M2 [bX.cells [] 1 3 false]).next:=by rw[ak];show M2.next<M2.next+1;omega
  obtain⟨v2,M3,a2,qW,Bx,hn2,ad8⟩:=abM (e:=3) (lo:=M2.next) gd2 WA (cR _) hsK (by rw[mX (wT _),uz]) uW;have HI:∀c,c<M2.next->M3.get c=M2.get c:=fun c hc=>by rw[Bx c (by omega) (fun q=>by have:nb M2.next 0=M2.next:=rfl;omega),ai hc]
  have TJ:=(HI (nb m.next 0) (by rw[e0];omega)).trans DS;have gt3:=(HI (nb m.next 1) (by rw[e1];omega)).trans gt2;have tO:jy m M3:=fun c hc=>(HI c (by omega)).trans (II c hc)
  have Vf:eI M3 v1 (yA x.V).flatten x.V.length 4 (m.next+23):=MX.mono (by omega) HI;have ad9:∀M:Mem,kA v2 M=some (.val (.int .i64 (x.K.length:Int)) M):=fun M=>by
   rcases qW.is with⟨q,_⟩|⟨b',cap,t,rfl,_⟩
   ·exact absurd q ad8
   ·rfl
  have l0:nb m.next 0<M2.next:=by rw[e0];omega
  have l3:nb m.next 0<M3.next:=by rw[e0];omega
  have l4:nb m.next 1<M3.next:=by rw[e1];omega
  simp only[a1,DS,l0,a2,TJ,ad9,l3,l4,ao,simprocAttr]at hX;generalize zw:Mem.mk (nb M3.next 19) _=M4 at hX;have n4:M4.next=M3.next+19:=by rw[<- zw];rfl
  have k4:∀c,c<M3.next->M4.get c=M3.get c:=by
   intro c hc;rw[<- zw];show (ext (Mem.mk _ _) _).get c=_;rw[ai (show c<M3.next+8 by omega)]
   rfl
  have x4:M4.get (nb (M3.next+8) 0)=.cells (vc ⟨s,x.D,x.K.length,k⟩) 4 lA false:=by
   rw[<- zw];show (ext (Mem.mk _ _) _).get _=_;rw[aw rfl (by simp)];rfl
  clear zw;have W9:=(k4 _ l3).trans TJ;have Ve:=Vf.mono (m':=M4) (by omega) k4;have Jr:=qW.mono (m':=M4) (by omega) k4;obtain⟨v3,M5,a3,Vb,k5,n5,_,Sg⟩:=nq (e:=lA) (x:=.slice (nb (M3.next+8) 0) 0 1 (some 1)) Ve (by omega) (lB x4 rfl) rfl (by decide) (by unfold room;omega);have He:∀c,(M2.next<=c\/c<m.next+23)->iw v1 c:=fun c hc=>vt fun q=>by have:=MX.below q;omega
  have gb5:=(k5 (nb m.next 0) (by omega) (He _ (by rw[e0];omega))).trans W9;have gt5:=(k5 (nb m.next 1) (by omega) (He _ (by rw[e1];omega))).trans ((k4 _ l4).trans gt3);have Vd:eI M5 v2 (Hx x.K).flatten x.K.length 1 M2.next:=Jr.stay (by omega) fun c hc ho=>k5 c hc (He _ (.inl (Jr.below ho).1))
  simp only[a3,ao,simprocAttr]at hX;generalize WW:Mem.mk M5.next _=M6 at hX;have n6:M6.next=M5.next:=by rw[<- WW]
  have k6:∀c,c≠M3.next+12->M6.get c=M5.get c:=by
   intro c hc;rw[<- WW];show (Mem.new (Mem.mk (M3.next+12) M5.ja) _).get c=_;rw[cN,if_neg hc];rfl
  have x6:M6.get (nb (M3.next+12) 0)=.cells [.int .i64 k] 1 3 false:=by
   rw[<- WW];show (ext (Mem.mk _ _) _).get _=_;rw[aw rfl (by simp)];rfl
  clear WW;have gb6:=(k6 (nb m.next 0) (by rw[e0];omega)).trans gb5;have gt6:=(k6 (nb m.next 1) (by rw[e1];omega)).trans gt5;have mC:∀c,¬iw v2 c->c<M3.next:=fun c hq=>(qW.below hq).2
  have Vc:eI M6 v2 (Hx x.K).flatten x.K.length 1 M2.next:=Vd.stay (by omega) fun c _ ho=>k6 c (by have:=mC c ho;omega)
  obtain⟨v4,M7,a4,U9,k7,n7,_,hv4⟩:=nq (e:=3) (x:=.slice (nb (M3.next+12) 0) 0 1 (some 1)) Vc (by omega) (lB x6 rfl) rfl (by decide) (by unfold room;omega);have Dl:∀c,(M3.next<=c\/c<M2.next)->iw v2 c:=fun c hc=>vt fun q=>by have:=qW.below q;omega
  have gb7:=(k7 (nb m.next 0) (by rw[e0];omega) (Dl _ (by rw[e0];omega))).trans gb6;have gt7:=(k7 (nb m.next 1) (by rw[e1];omega) (Dl _ (by rw[e1];omega))).trans gt6;have Va:eI (M7.set (nb m.next 1) (.cells [v3,v4,.int .i64 x.D] 3 aW false)) v3 (yA (x.V++[Pv.mk s x.D x.K.length k])).flatten (x.V++[Pv.mk s x.D x.K.length k]).length 4 (m.next+23):=by
   rw[CN,List.flatten_append,w6,show ([vc (Pv.mk s x.D x.K.length k)]:List (List EV)).flatten=vc (Pv.mk s x.D x.K.length k)by simp];refine eI.stay Vb (by rw[aj];omega) fun c hc ho=> ?_
   have sN:c=M4.next:=vt fun q=>by rw[Sg]at ho;exact ho (iw.of q)
   rw[af (by rw[e1];omega),k7 c (by omega) (Dl _ (by omega)),k6 c (by omega)]
  have U8:eI (M7.set (nb m.next 1) (.cells [v3,v4,.int .i64 x.D] 3 aW false)) v4 (Hx (x.K++[k])).flatten (x.K++[k]).length 1 M2.next:=by
   rw[JZ,List.flatten_append,w6,show ([[EV.int .i64 k]]:List (List EV)).flatten=[.int .i64 k]by simp];exact eI.stay U9 (by rw[aj];omega) fun c hc ho=>af (by have:=(U9.below ho).1;rw[e1];omega)
  subst Sg hv4;have l7:nb m.next 1<M7.next:=by rw[e1];omega
  simp only[a4,W9,gb6,gb7,gt7,l7,ao,simprocAttr]at hX;refine⟨_,_,_,hX.symm,Va.raise (by omega),U8.raise (by omega),by rw[aj];omega,fun c hc=> ?_⟩
  rw[af (by rw[e1];omega),k7 c (by omega) (Dl _ (by omega)),k6 c (by omega),k5 c (by omega) (He _ (by omega)),k4 c (by omega)];exact tO c hc
end
section
structure RE extends CE where
 ck:Option Nat
 cz:Option Nat
 ca:Option Nat
def lO(e:RE)(fv vv sv sk:EV)(c:CS):List EV:=[e.lv,.slice e.kb 0 e.xs.length e.ck,.slice e.zb 0 e.xs.length e.cz,.slice e.ab 0 e.xs.length e.ca,fv,vv,.int .i64 c.M,sv,sk,.int .i64 c.X.D,.int .i64 c.L,.int .i64 c.R,.int .i64 c.fe,.int .i64 c.fp]
structure Rk(e:RE)(m:Mem)(fv vv sv sk:EV)(c:CS):Prop where
 g:m.get e.cb=.cells (lO e fv vv sv sk c) 14 ax false
 gk:m.get e.kb=.cells (is c.K) 1 3 false
 gz:m.get e.zb=.cells (is c.S) 1 3 false
 ga:m.get e.ab=.cells (is c.C) 1 3 false
 lt:∀b,e.W b->b<m.next
 ne:e.cb≠e.kb/\e.cb≠e.zb/\e.cb≠e.ab/\e.kb≠e.zb/\e.kb≠e.ab/\e.zb≠e.ab
 len:c.K.length=e.xs.length/\c.S.length=e.xs.length/\c.C.length=e.xs.length
 nd:uO e.toCE oth m
 fn:eI m fv (is c.F) c.F.length 1 0
 ff:∀b,¬iw fv b->¬e.W b
 sV:vg m sv c.X.V 0
 sK:Bc m sk c.X.K 0
 vf:∀b,¬iw sv b->¬e.W b
 kf:∀b,¬iw sk b->¬e.W b
section
variable {e:RE} {m m':Mem} {fv vv sv sk sv' sk' vv':EV} {c c':CS}
theorem Rk.O1(h:Rk e m fv vv sv sk c)(st:bO e.toCE m m')(g:m'.get e.cb=.cells (lO e fv vv' sv' sk' c') 14 ax false)(gk:m'.get e.kb=.cells (is c'.K) 1 3 false)(gz:m'.get e.zb=.cells (is c'.S) 1 3 false)(ga:m'.get e.ab=.cells (is c'.C) 1 3 false)(hl:c'.K.length=e.xs.length/\c'.S.length=e.xs.length/\c'.C.length=e.xs.length)(hF:c'.F=c.F)
  (hV:vg m' sv' c'.X.V 0) (hK:Bc m' sk' c'.X.K 0) (vf:∀b,¬iw sv' b->¬e.W b) (kf:∀b,¬iw sk' b->¬e.W b):Rk e m' fv vv' sv' sk' c' where
 g:=g
 gk:=gk
 gz:=gz
 ga:=ga
 lt:=fun b hb=>cQ (h.lt b hb) st.n
 ne:=h.ne
 len:=hl
 nd:=h.nd.cU st.n (fun b hb hw _=>st.k b hb hw) fun _ _=>rfl
 fn:=by rw[hF];exact h.fn.eB st.n fun b hb _ iv=>st.k b hb (h.ff b iv)
 ff:=h.ff
 sV:=hV
 sK:=hK
 vf:=vf
 kf:=kf
theorem Rk.TO(h:Rk e m fv vv sv sk c)(st:bO e.toCE m m')(g:m'.get e.cb=.cells (lO e fv vv' sv sk c') 14 ax false)(gk:m'.get e.kb=.cells (is c'.K) 1 3 false)(gz:m'.get e.zb=.cells (is c'.S) 1 3 false)(ga:m'.get e.ab=.cells (is c'.C) 1 3 false)(hl:c'.K.length=e.xs.length/\c'.S.length=e.xs.length/\c'.C.length=e.xs.length)(hF:c'.F=c.F)
  (hV:c'.X.V=c.X.V) (hK:c'.X.K=c.X.K):Rk e m' fv vv' sv sk c':=
 h.O1 st g gk gz ga hl hF (by rw[hV];exact h.sV.eB st.n fun b hb _ iv=>st.k b hb (h.vf b iv)) (by rw[hK];exact h.sK.eB st.n fun b hb _ iv=>st.k b hb (h.kf b iv)) h.vf h.kf
theorem Rk.same(h:Rk e m fv vv sv sk c)(hn:m.next<=m'.next)(hk:∀b,b<m.next->m'.get b=m.get b):Rk e m' fv vv sv sk c:=
 h.TO (.bJ hn hk) ((hk _ (h.lt _ (.inl rfl))).trans h.g) ((hk _ (h.lt _ (.inr (.inl rfl)))).trans h.gk) ((hk _ (h.lt _ (.inr (.inr (.inl rfl))))).trans h.gz) ((hk _ (h.lt _ (.inr (.inr (.inr rfl))))).trans h.ga) h.len rfl rfl rfl
theorem Rk.bump(h:Rk e m fv vv sv sk c)(k:Nat):Rk e (Ev.bump m k) fv vv sv sk c:=h.same aq fun _ _=>rfl
theorem Rk.rG(h:Rk e m fv vv sv sk c)(h1:c'.K=c.K)(h2:c'.S=c.S)(h3:c'.C=c.C)(hF:c'.F=c.F)(hV:c'.X.V=c.X.V)(hK:c'.X.K=c.X.K):Rk e (m.set e.cb (.cells (lO e fv vv' sv sk c') 14 ax false)) fv vv' sv sk c'/\bO e.toCE m (m.set e.cb (.cells (lO e fv vv' sv sk c') 14 ax false)):=by
 have st:bO e.toCE m (m.set e.cb (.cells (lO e fv vv' sv sk c') 14 ax false)):=⟨by rw[aj];exact cR _,fun b _ hw=>af fun q=>hw (.inl q)⟩;obtain⟨n1,n2,n3,n4,n5,n6⟩:=h.ne;exact⟨h.TO st aN (by rw[af n1.symm,h1];exact h.gk) (by rw[af n2.symm,h2];exact h.gz) (by rw[af n3.symm,h3];exact h.ga) (by rw[h1,h2,h3];exact h.len) hF hV hK,st⟩
theorem Rk.ac4(h:Rk e m fv vv sv sk c)(h1:c'.K=c.K)(h2:c'.S=c.S)(h3:c'.C=c.C)(hF:c'.F=c.F)(hV:vg m sv' c'.X.V 0)(hK:Bc m sk' c'.X.K 0)(vf:∀b,¬iw sv' b->¬e.W b)(kf:∀b,¬iw sk' b->¬e.W b):Rk e (m.set e.cb (.cells (lO e fv vv' sv' sk' c') 14 ax false)) fv vv' sv' sk' c'/\bO e.toCE m (m.set e.cb (.cells (lO e fv vv' sv' sk' c') 14 ax false)):=by
 have st:bO e.toCE m (m.set e.cb (.cells (lO e fv vv' sv' sk' c') 14 ax false)):=⟨by rw[aj];exact cR _,fun b _ hw=>af fun q=>hw (.inl q)⟩;obtain⟨n1,n2,n3,n4,n5,n6⟩:=h.ne;exact⟨h.O1 st aN (by rw[af n1.symm,h1];exact h.gk) (by rw[af n2.symm,h2];exact h.gz) (by rw[af n3.symm,h3];exact h.ga) (by rw[h1,h2,h3];exact h.len) hF (hV.eB st.n fun b hb _ iv=>st.k b hb (vf b iv)) (hK.eB st.n fun b hb _ iv=>st.k b hb (kf b iv)) vf kf,st⟩
theorem Rk.o7(h:Rk e m fv vv sv sk c){i:Nat}{x:Int}:Rk e (m.set e.kb (.cells (is (c.K.set i x)) 1 3 false)) fv vv sv sk {c with K:=c.K.set i x}/\bO e.toCE m (m.set e.kb (.cells (is (c.K.set i x)) 1 3 false)):=by
 have st:bO e.toCE m (m.set e.kb (.cells (is (c.K.set i x)) 1 3 false)):=⟨by rw[aj];exact cR _,fun b _ hw=>af fun q=>hw (.inr (.inl q))⟩;obtain⟨n1,n2,n3,n4,n5,n6⟩:=h.ne;exact⟨h.TO st ((af n1).trans h.g) aN ((af n4.symm).trans h.gz) ((af n5.symm).trans h.ga) ⟨by rw[List.length_set];exact h.len.1,h.len.2⟩ rfl rfl rfl,st⟩
theorem Rk.Jc(h:Rk e m fv vv sv sk c){i:Nat}{x:Int}:Rk e (m.set e.zb (.cells (is (c.S.set i x)) 1 3 false)) fv vv sv sk {c with S:=c.S.set i x}/\bO e.toCE m (m.set e.zb (.cells (is (c.S.set i x)) 1 3 false)):=by
 have st:bO e.toCE m (m.set e.zb (.cells (is (c.S.set i x)) 1 3 false)):=⟨by rw[aj];exact cR _,fun b _ hw=>af fun q=>hw (.inr (.inr (.inl q)))⟩;obtain⟨n1,n2,n3,n4,n5,n6⟩:=h.ne;exact⟨h.TO st ((af n2).trans h.g) ((af n4).trans h.gk) aN ((af n6.symm).trans h.ga) ⟨h.len.1,by rw[List.length_set];exact h.len.2.1,h.len.2.2⟩ rfl rfl rfl,st⟩
theorem Rk.UA(h:Rk e m fv vv sv sk c){i:Nat}{x:Int}:Rk e (m.set e.ab (.cells (is (c.C.set i x)) 1 3 false)) fv vv sv sk {c with C:=c.C.set i x}/\bO e.toCE m (m.set e.ab (.cells (is (c.C.set i x)) 1 3 false)):=by
 have st:bO e.toCE m (m.set e.ab (.cells (is (c.C.set i x)) 1 3 false)):=⟨by rw[aj];exact cR _,fun b _ hw=>af fun q=>hw (.inr (.inr (.inr q)))⟩;obtain⟨n1,n2,n3,n4,n5,n6⟩:=h.ne;exact⟨h.TO st ((af n3).trans h.g) ((af n5).trans h.gk) ((af n6).trans h.gz) aN ⟨h.len.1,h.len.2.1,by rw[List.length_set];exact h.len.2.2⟩ rfl rfl rfl,st⟩
theorem Rk.at(h:Rk e m fv vv sv sk c){i:Nat}(hx:i<e.xs.length):∃y:Nv,y.d=dZ e.l i/\e.xs[i]?=some y/\idx e.xs.length (.int .i64 (i:Int))=some i/\(mO e.xs)[i*5]?=some (.int .i64 y.d.kind)/\(mO e.xs)[i*5+1]?=some y.kv/\(mO e.xs)[i*5+2]?=some (.int .i64 y.d.n)/\(mO e.xs)[i*5+3]?=some (.str y.d.s)/\(mO e.xs)[i*5+4]?=some (.int .i64 y.d.pos)/\partOf (some 5) (mO e.xs) (i*5)=some (.agg [.int .i64 y.d.kind,y.kv,.int .i64 y.d.n,.str y.d.s,.int .i64 y.d.pos])/\y∈e.xs:=by
 have hg:e.xs[i]?=some e.xs[i]:=jE hx;obtain⟨a1,a2,a3,a4,a5,a6⟩:=tj hg;exact⟨_,(nc (by unfold CE.l;rw[List.getElem?_map,hg];rfl)).symm,hg,ap hx,a1,a2,a3,a4,a5,a6,oX hx⟩
def CS.bU(c:CS)(p:Prop)[Decidable p](e q:Int):CS:=if p/\c.fe=0 then c.fault e q else c
theorem dE(h:Rk e m fv vv sv sk c){p:Prop}[Decidable p]{er:Int}{i:Nat}(hi:i<e.xs.length){X:Option Fin}(hX:run U rS [.ptr e.cb 0,bo p,.int .i64 er,.int .i64 (i:Int)] m=X) :
  ∃m',X=some (.ret (.tuple []) m')/\Rk e m' fv vv sv sk (c.bU p er (dZ e.l i).pos)/\bO e.toCE m m':=by
 rw[cf (by simp[dL])]at hX;obtain⟨y,hy,si,eC,a1,a2,a3,a4,a5,a6,hm⟩:=h.at hi;have hg:=h.g;have hb:=h.lt _ (.inl rfl);have gl:=h.nd.g;have ll:=h.nd.lt;unfold lO CE.lv at hg;rw[<- hy];by_cases hp:p
 ·by_cases hf:c.fe=0
  ·rw[gQ hp]at hX;simp only[dL,hg,hb,gl,ll,eC,a5,hf,fu,ao,simprocAttr]at hX;obtain⟨h2,s2⟩:=h.rG (vv':=vv) (c':=c.fault er y.d.pos) rfl rfl rfl rfl rfl rfl;refine⟨_,hX.symm,?_,?_⟩
   ·rw[CS.bU,if_pos ⟨hp,hf⟩];exact h2
   ·exact s2
  ·rw[gQ hp]at hX;simp only[dL,hg,hb,hf,fh,ao,simprocAttr]at hX;refine⟨_,hX.symm,?_,?_⟩
   ·rw[CS.bU,if_neg (fun q=>hf q.2)];exact h
   ·exact .refl
 ·rw[ij hp]at hX;simp only[dL,ao,simprocAttr]at hX;refine⟨_,hX.symm,?_,?_⟩
  ·rw[CS.bU,if_neg (fun q=>hp q.1)];first|exact h|exact h.same aq fun _ _=>rfl
  ·first|exact .refl|exact bO.bump
theorem jc(h:Rk e m fv vv sv sk c){i:Nat}(hi:i<e.xs.length){X:Option Fin}(hX:run U AE [.ptr e.cb 0,.int .i64 (i:Int)] m=X) :
  ∃k,X=some (.ret (.int .i64 (c.K.getD i 0)) (Ev.bump m k)):=by
 rw[cf (by simp[fy])]at hX;have hg:=h.g;have hb:=h.lt _ (.inl rfl);have gk:=h.gk;have lk:=h.lt _ (.inr (.inl rfl));have eC:=ap (k:=.i64) hi;have sS:(is c.K)[i]?=some (.int .i64 (c.K.getD i 0)):=by
  have hl:=h.len.1;rw[gp,List.getD_eq_getElem?_getD,jE (by omega)];rfl
 unfold lO CE.lv at hg;simp only[fy,hg,hb,gk,lk,eC,sS,Nat.mul_one,ao,simprocAttr]at hX
 first
  |exact⟨_,hX.symm⟩
  |exact⟨0,hX.symm⟩
end
end
section
section
variable {e:RE} {m m' M0:Mem} {fv vv sv sk sv' sk' vv':EV} {c c':CS}
def IJ(l:List Nd)(F:List Int)(s:cH):Int:=match uI l F s with|some f=>(f:Int)|none=> -1
theorem yM(h:Rk e m fv vv sv sk c):uM e.toCE m fv c.F:=by
 rcases h.fn.is with⟨e1,e2,_⟩|⟨b,cap,t,rfl,h1,h2,h3,h4⟩
 ·exact .inl ⟨List.eq_nil_of_length_eq_zero e2,.inl e1⟩
 ·exact .inr ⟨b,cap,t,false,[],rfl,by rw[List.append_nil];exact h3,h2,h.ff b fun q=>q b 0 _ cap rfl rfl⟩
theorem adh(h0:Rk e M0 fv vv sv sk c)(hF:∀x∈c.F,0<=x/\x.toNat<e.xs.length)(hn:c.F.length<1000000){s:cH}{fr:Fr}(f0:fr.get 0=.ptr e.cb 0)(f1:fr.get 1=.str s)(f5:fr.get 5=.int .i64 0)(fd:fr.defers=[]) :
  ∃ou,exec U (.loop eX) fr M0=some ou/\∃m',M0.next<=m'.next/\(∀b,m'.get b=M0.get b)/\((∃i:Nat,uI e.l c.F s=some i/\i<c.F.length/\∃fr',ou=.ret fr' m'/\fr'.get 4=.int .i64 (i:Int)/\fr'.defers=[])\/(uI e.l c.F s=none/\∃fr',ou=.exit 0 fr' m'/\fr'.defers=[])):=by
 refine dr (σ:=Nat) (fun j fr m=>j<=c.F.length/\(∀i:Nat,i<j->∀x,c.F[i]?=some x->(ee e.l x).s≠s)/\M0.next<=m.next/\(∀b,m.get b=M0.get b)/\fr.get 0=.ptr e.cb 0/\fr.get 1=.str s/\fr.get 5=.int .i64 (j:Int)/\fr.defers=[]) (fun j=>c.F.length- j) _ ?_ 0 fr M0 ⟨nZ _,fun i hi=>absurd hi (Nat.not_lt_zero _),cR _,fun _=>rfl,f0,f1,f5,fd⟩
 rintro j fr m ⟨hj,iv,n1,k1,f0,f1,f5,fd⟩;have h:Rk e m fv vv sv sk c:=h0.same n1 fun b _=>k1 b
 generalize hX:exec U eX fr m=X;have hg:=h.g;have hb:=h.lt _ (.inl rfl);have gl:=h.nd.g;have ll:=h.nd.lt;unfold lO CE.lv at hg;have hlen:=(yM h).kA;by_cases aH:j<c.F.length
 ·have hc:(j:Int)<(c.F.length:Int):=by omega
  have gP:=aZ (i:=j) (by omega);have hgj:c.F[j]?=some c.F[j]:=jE aH;have nV:c.F[j]∈c.F:=oX aH;generalize c.F[j]=x at *;rcases yM h with⟨q,_⟩|⟨b,cp,t,ro,rest,rfl,gb,bl,bw⟩
  ·rw[q]at aH;cases aH
  have tM:(is (c.F++rest))[j]?=some (.int .i64 x):=by rw[gp,rB aH,hgj];rfl
  have eC:=ap (n:=c.F.length) (i:=j) (k:=.i64) aH;obtain⟨n,rfl⟩:∃n:Nat,x=(n:Int):=⟨x.toNat,by have:=(hF x nV).1;omega⟩
  obtain⟨y,hy,si,ahw,a1,a2,a3,a4,a5,a6,hm⟩:=h.at (i:=n) (by have:=(hF _ nV).2;omega);have hyn:y.d.s=(ee e.l (n:Int)).s:=by rw[hy];rfl
  by_cases hs:y.d.s=s
  ·rw[hs]at a4;simp only[eX,f0,f1,f5,fd,hg,hb,gl,ll,gb,bl,hc,eC,tM,ahw,a4,gP,Nat.mul_one,ao,simprocAttr]at hX;subst hX;refine iD ⟨_,?_,?_,.inl ⟨j,PW hgj (hyn▸hs) iv,aH,_,rfl,by simp[fd,ay]⟩⟩
   ·exact ji n1 aq
   ·exact fun b=>k1 b
  ·simp only[eX,f0,f1,f5,fd,hg,hb,gl,ll,gb,bl,hc,eC,tM,ahw,a4,hs,gP,Nat.mul_one,ao,simprocAttr]at hX;subst hX;refine bB (j+1) (by omega) ⟨aH,fun i hi x hx=> ?_,by first|exact n1|exact ji n1 aq,fun b=>k1 b,by simp[f0,f1,fd,ay]⟩
   by_cases PK:i=j
   ·subst PK;rw[hgj]at hx;cases hx;rw[<- hyn];exact hs
   ·exact iv i (by omega) x hx
 ·have hc:¬((j:Int)<(c.F.length:Int)):=by omega
  obtain rfl:j=c.F.length:=by omega
  simp only[eX,f0,f1,f5,fd,hg,hb,hlen,hc,ao,simprocAttr]at hX;subst hX;exact bK ⟨_,by first|exact n1|exact ji n1 aq,fun b=>k1 b,.inr ⟨HW fun x hx=>by
   obtain⟨i,hi⟩:=List.mem_iff_getElem?.1 hx;exact iv i (mu.1 hi).1 x hi,_,rfl,by simp[fd,ay]⟩⟩
theorem Ha(h:Rk e m fv vv sv sk c)(hF:∀x∈c.F,0<=x/\x.toNat<e.xs.length)(hn:c.F.length<1000000){s:cH}{X:Option Fin}(hX:run U Du [.ptr e.cb 0,.str s] m=X) :
  ∃m',X=some (.ret (.int .i64 (IJ e.l c.F s)) m')/\m.next<=m'.next/\∀b,m'.get b=m.get b:=by
 rw[cf (by simp[gT])]at hX;generalize hL:exec (UT B Ev.K) (ar.loop eX)=L0 at hX;simp only[gT,ao,simprocAttr]at hX;subst hL;generalize hY:exec _ (.loop eX) _ _=Y at hX;obtain⟨ou,rfl,m2,n2,k2,q⟩:=cG hY (adh h hF hn (s:=s) (by simp[ay]) (by simp[ay]) (by simp[ay]) (by simp[ay]));clear hY;rcases q with⟨i,q1,q2,fr',rfl,f4,fd⟩|⟨q1,fr',rfl,fd⟩
 ·simp only[f4,fd,ao,simprocAttr]at hX;exact⟨m2,by rw[<- hX,IJ,q1],n2,k2⟩
 ·simp only[fd,ao,simprocAttr]at hX
  first
   |exact⟨m2,by rw[<- hX,IJ,q1],n2,k2⟩
   |exact⟨_,by rw[<- hX,IJ,q1],ji n2 aq,k2⟩
theorem Xd{m:Mem}{v:EV}{V:List Pv}{lo:Nat}(h:vg m v V lo):∃a,∀m',vg m' v V 0->fY m' v=some (row a 0 4 (yA V)):=by
 rcases h.is with⟨rfl,h1,_⟩|⟨b,cap,t,rfl,_,h2,h3,h4⟩
 ·refine⟨true,fun m' _=> ?_⟩
  rw[List.eq_nil_of_length_eq_zero h1,sO];rfl
 ·refine⟨false,fun m' h'=> ?_⟩
  rcases h'.is with⟨q,_⟩|⟨b',aoG,t',q,_,g2,g3,g4⟩
  ·cases q
  ·cases q;have:=fo (m:=m') (b:=b) (els:=yA V) (e:=4) (cap:=cap) (ty:=t') (ro:=false) g3 (ue _) (Al _) (by rw[pv];rcases h4 with rfl|rfl<;>simp[oW]);rw[pv]at this;exact this
theorem Xe{m:Mem}{v:EV}{K:List Int}{lo:Nat}(h:Bc m v K lo):∃a,∀m',Bc m' v K 0->fY m' v=some (row a 0 1 (Hx K)):=by
 rcases h.is with⟨rfl,h1,_⟩|⟨b,cap,t,rfl,_,h2,h3,h4⟩
 ·refine⟨true,fun m' _=> ?_⟩
  rw[List.eq_nil_of_length_eq_zero h1,sO];rfl
 ·refine⟨false,fun m' h'=> ?_⟩
  rcases h'.is with⟨q,_⟩|⟨b',aoG,t',q,_,g2,g3,g4⟩
  ·cases q
  ·cases q;have:=fo (m:=m') (b:=b) (els:=Hx K) (e:=1) (cap:=cap) (ty:=t') (ro:=false) g3 (wT _) (AN _) (by rw[uz];rcases h4 with rfl|rfl<;>simp[oW]);rw[uz]at this;exact this
theorem Av(h:Rk e m fv vv sv sk c){i:Nat}(hi:i<e.xs.length)(hl:c.X.V.length<1000000){X:Option Fin}(hX:run U AF [.ptr e.cb 0,.int .i64 (i:Int)] m=X) :
  ∃m' k c',X=some (.ret (.int .i64 k) m')/\Rk e m' fv vv sv sk c'/\bO e.toCE m m'/\((c.fe≠0/\c'=c)\/(c.fe=0/\pP c (dZ e.l i).s=none/\c'=c.fault 9 (dZ e.l i).pos)\/(c.fe=0/\∃v,pP c (dZ e.l i).s=some v/\c'={c with S:=c.S.set i v.slot}/\k=v.kind)):=by
 rw[cf (by simp[fA])]at hX;obtain⟨y,hy,si,eC,a1,a2,a3,a4,a5,a6,hm⟩:=h.at hi;have hg:=h.g;have hb:=h.lt _ (.inl rfl);have gl:=h.nd.g;have ll:=h.nd.lt;unfold lO CE.lv at hg;obtain⟨a,ha⟩:=Xd h.sV;obtain⟨b,mC⟩:=Xe h.sK;have uC:=fun k=>ha _ (h.bump k).sV
 have Wj:=fun k=>mC _ (h.bump k).sK
 have PL:=fun p q=>xI (x:=c.X) (a:=p) (b:=q) (s:=y.d.s) hl
 unfold moV at PL;have wW:=b9 h.sV;have HN:=b9 h.sK;have ad0:=og h.sV;have Wm:=og h.sK;simp only[fA,hg,hb,gl,ll,eC,a4,uC,Wj,PL,wW,HN,ad0,Wm,ao,simprocAttr]at hX;generalize hC:run (UT B Ev.K) 44 _ _=C at hX;obtain⟨M2,rfl,h2,s2⟩:=dE (h.bump 14) hi hC;clear hC;rw[<- hy]at h2⊢;have s02:bO e.toCE m M2:=bO.bump.trans s2;have Ss:=h2.lt _ (.inl rfl);by_cases hf:c.fe=0
 ·rcases A2 (s:=y.d.s) c.X.V with⟨q1,q2⟩|⟨l,v,k,q1,q2,q3⟩
  ·have hw:c.bU (ri y.d.s c.X.V 0 (-1)<0) 9 y.d.pos=c.fault 9 y.d.pos:=by rw[CS.bU,if_pos ⟨by rw[q2];decide,hf⟩]
   rw[hw]at h2;have kI:=h2.g;unfold lO CE.lv CS.fault at kI;simp only[kI,Ss,fh,ao,simprocAttr]at hX;exact⟨M2,_,_,hX.symm,h2,s02,.inr (.inl ⟨hf,by unfold pP;rw[q1];rfl,rfl⟩)⟩
  ·have hw:c.bU (ri y.d.s c.X.V 0 (-1)<0) 9 y.d.pos=c:=by rw[CS.bU,if_neg];rintro⟨q,_⟩;rw[q2]at q;omega
   rw[hw]at h2;rw[q2]at hX;have kI:=h2.g;have gz2:=h2.gz;have lz2:=h2.lt _ (.inr (.inr (.inl rfl)));have uW:k<c.X.V.length:=(mu.1 q3).1;obtain⟨-,-,vc2,vc3,-⟩:=Cg q3;obtain⟨b',cap,t,ev,DO,Kf⟩:∃b' cap t,sv=.slice b' 0 c.X.V.length cap/\b'<M2.next/\M2.get b'=.cells (yA c.X.V).flatten 4 t false:=by
    rcases h2.sV.is with⟨_,q,_⟩|⟨b',cap,t,ev,_,DO,Kf,_⟩
    ·omega
    ·exact⟨b',cap,t,ev,DO,Kf⟩
   have hkx:=ap (n:=c.X.V.length) (i:=k) (k:=.i64) uW;have YG:i<c.S.length:=by rw[h2.len.2.1];exact hi
   have ad1:i+1<=(is c.S).length:=by rw[eM];exact YG
   have fm:=fX (x:=v.slot) YG;obtain⟨h3,s3⟩:=h2.Jc (i:=i) (x:=v.slot);have fR:=h2.ne;have jV:=fun x=>(af (m:=M2) (x:=x) fR.2.1).trans h2.g
   have hvz:b'≠e.zb:=fun q=>h2.vf b' (by rw[ev];exact fun z=>z b' 0 _ cap rfl rfl) (.inr (.inr (.inl q)))
   have anO:=fun x=>(af (m:=M2) (x:=x) hvz).trans Kf
   unfold lO CE.lv at kI jV;rw[ev]at kI jV;rw[ev]at hX;simp only[kI,jV,Ss,hf,fu,gz2,lz2,eC,hkx,Kf,anO,DO,vc2,vc3,ad1,fm,Nat.zero_add,Nat.mul_one,ao,simprocAttr]at hX;exact⟨_,_,_,hX.symm,h3.bump 17,(s02.trans s3).trans bO.bump,.inr (.inr ⟨hf,v,by unfold pP;rw[q1];simp,rfl,rfl⟩)⟩
 ·have hw:c.bU (ri y.d.s c.X.V 0 (-1)<0) 9 y.d.pos=c:=by rw[CS.bU,if_neg];exact fun q=>hf q.2
  rw[hw]at h2;have kI:=h2.g;unfold lO CE.lv at kI;simp only[kI,Ss,hf,fh,ao,simprocAttr]at hX;exact⟨M2,_,_,hX.symm,h2,s02,.inl ⟨hf,rfl⟩⟩
end
end
section
section
variable {e:RE} {m m' M0:Mem} {fv vv sv sk sv' sk' vv':EV} {c c':CS}
theorem Ax(h:Rk e m fv vv sv sk c){i:Nat}(hi:i<e.xs.length)(hl:c.X.V.length<1000000)(uW:c.X.K.length<1000000){k:Int}{X:Option Fin}(hX:run U xc [.ptr e.cb 0,.int .i64 (i:Int),.int .i64 k] m=X) :
  ∃m' sv' sk',X=some (.ret (.tuple []) m')/\Rk e m' fv vv sv' sk' (if c.fe=0 then eK e.l i k c else c)/\bO e.toCE m m':=by
 rw[cf (by simp[eh])]at hX;obtain⟨y,hy,si,eC,a1,a2,a3,a4,a5,a6,hm⟩:=h.at hi;have hg:=h.g;have hb:=h.lt _ (.inl rfl);have gl:=h.nd.g;have ll:=h.nd.lt;unfold lO CE.lv at hg;have wW:=b9 h.sV;have HN:=b9 h.sK;have ad0:=og h.sV;have Wm:=og h.sK;simp only[eh,hg,hb,gl,ll,eC,a4,wW,HN,ad0,Wm,ao,simprocAttr]at hX;generalize hC:run (UT B Ev.K) 46 _ _=C at hX;have q17:nb (m.next+17) 0=m.next+17:=rfl;have q20:(bump m 20).next=m.next+20:=rfl;have agM:∀(M2 D:Mem),(bump m 20).next<=M2.next->jy (bump m 20) M2->D=Ec M2 (m.next+17) (bX.cells [EV.aa,EV.aa,EV.int IntKind.i64 0] 3 68 false)->∀B,D.get (m.next+17)=bX.cells [EV.aa,EV.aa,EV.int IntKind.i64 0] 3 68 false/\m.next+17<D.next/\m.next<=(D.set (m.next+17) B).next/\(∀b,b<m.next->(D.set (m.next+17) B).get b=m.get b)/\(D.set (m.next+17) B).get (m.next+17)=B:=by
  intro M2 D n2 k2 hD B;have n2':m.next+20<=M2.next:=n2;refine⟨by rw[hD,ko,if_pos rfl],by rw[hD,jK];omega,by rw[aj,hD,jK];omega,fun b hb=> ?_,aN⟩
  rw[af (by omega),hD,ko,if_neg (by omega)];exact k2 b (by show b<m.next+20;omega)
 by_cases sM:c.X.bad y.d.s k
 ·obtain⟨M2,q,n2,k2⟩:=E7 hl ((h.bump 20).sV) ((h.bump 20).sK) sM;obtain rfl:=hC.symm.trans q;clear hC q;simp only[wW,HN,ao,simprocAttr]at hX;generalize hD:Mem.mk M2.next _=D at hX;obtain⟨d1,d2,d3,d4,d5⟩:=agM M2 D n2 k2 hD.symm (bX.cells [sv,sk,.int .i64 c.X.D] 3 68 false);rw[q17]at hX;simp only[d1,d2,ao,simprocAttr]at hX;generalize D.set (m.next+17) (bX.cells [sv,sk,.int .i64 c.X.D] 3 68 false)=M3 at *;have h3:=h.same d3 d4;generalize hC:run (UT B Ev.K) 44 _ _=C at hX;obtain⟨M4,rfl,h4,s4⟩:=dE (p:=True) (X:=C) h3 hi (by rw[gQ trivial];exact hC);clear hC;have nW:=h4.g;have uZ:=h4.lt _ (.inl rfl);have fR:(c.bU True 10 (dZ e.l i).pos).fe≠0:=by
   rw[CS.bU];by_cases hf:c.fe=0
   ·rw[if_pos ⟨trivial,hf⟩];show (10:Int)≠0;decide
   ·rw[if_neg (fun q=>hf q.2)];exact hf
  have uX:(if c.fe=0 then eK e.l i k c else c)=c.bU True 10 (dZ e.l i).pos:=by
   rw[CS.bU];by_cases hf:c.fe=0
   ·rw[if_pos hf,if_pos ⟨trivial,hf⟩,eK,if_pos (by rw[<- hy];exact sM)]
   ·rw[if_neg hf,if_neg (fun q=>hf q.2)]
  rw[uX];generalize c.bU True 10 (dZ e.l i).pos=c4 at *;unfold lO CE.lv at nW;simp only[nW,uZ,fR,fh,ao,simprocAttr]at hX;exact⟨M4,sv,sk,hX.symm,h4,(bO.bJ d3 d4).trans s4⟩
 ·obtain⟨v',w',M2,q,sg1,sg2,n2,k2⟩:=Dc hl uW ((h.bump 20).sV) ((h.bump 20).sK) sM;obtain rfl:=hC.symm.trans q;clear hC q;have Sq:=b9 sg1;have aai:=b9 sg2;simp only[Sq,aai,ao,simprocAttr]at hX;generalize hD:Mem.mk M2.next _=D at hX;obtain⟨d1,d2,d3,d4,d5⟩:=agM M2 D n2 k2 hD.symm (bX.cells [v',w',.int .i64 c.X.D] 3 68 false);have akQ:vg (D.set (m.next+17) (bX.cells [v',w',.int .i64 c.X.D] 3 68 false)) v' (c.X.add y.d.s k).V (m.next+20):=sg1.eB (by rw[aj,<- hD];exact cR _) fun b hb im iv=>by
   have im:m.next+20<=b:=im;rw[af (by omega),<- hD];show (Ec M2 (m.next+17) _).get b=_;rw[ko,if_neg (by omega)]
  have akP:Bc (D.set (m.next+17) (bX.cells [v',w',.int .i64 c.X.D] 3 68 false)) w' (c.X.add y.d.s k).K (m.next+20):=sg2.eB (by rw[aj,<- hD];exact cR _) fun b hb im iv=>by
   have im:m.next+20<=b:=im;rw[af (by omega),<- hD];show (Ec M2 (m.next+17) _).get b=_;rw[ko,if_neg (by omega)]
  have hDn:D.next=M2.next:=by rw[<- hD]
  rw[q17]at hX;simp only[d1,d2,ao,simprocAttr]at hX;have l17:m.next+17<(D.set (m.next+17) (bX.cells [v',w',.int .i64 c.X.D] 3 68 false)).next:=by rw[aj];exact d2
  generalize D.set (m.next+17) (bX.cells [v',w',.int .i64 c.X.D] 3 68 false)=M3 at *;have h3:=h.same d3 d4;generalize hC:run (UT B Ev.K) 44 _ _=C at hX;obtain⟨M4,rfl,h4,s4⟩:=dE (p:=False) (X:=C) h3 hi (by rw[ij not_false];exact hC);clear hC;rw[show c.bU False 10 (dZ e.l i).pos=c by rw[CS.bU,if_neg (fun q=>q.1)]]at h4;have nW:=h4.g;have uZ:=h4.lt _ (.inl rfl);have s34:bO e.toCE m M4:=(bO.bJ d3 d4).trans s4;by_cases hf:c.fe=0
  ·rw[if_pos hf,eK,if_neg (by rw[<- hy];exact sM)];rw[<- hy];have im:∀b,e.W b->b<m.next:=h.lt
   have an5:¬e.W (m.next+17):=fun q=>by have:=im _ q;omega
   have p4:M4.get (m.next+17)=bX.cells [v',w',.int .i64 c.X.D] 3 68 false:=(s4.k _ l17 an5).trans d5;have l4:m.next+17<M4.next:=cQ l17 s4.n;have gz4:=h4.gz;have lz4:=h4.lt _ (.inr (.inr (.inl rfl)));have ahq:∀M:Mem,kA sk M=some (.val (.int .i64 (c.X.K.length:Int)) M):=fun M=>by
    rcases h4.sK.is with⟨rfl,q,_⟩|⟨b',cap,t,rfl,_⟩
    ·rw[q];rfl
    ·rfl
   have YG:i<c.S.length:=by rw[h4.len.2.1];exact hi
   have ad1:i+1<=(is c.S).length:=by rw[eM];exact YG
   have fm:=fX (x:=(c.X.K.length:Int)) YG;obtain⟨h5,s5⟩:=h4.Jc (i:=i) (x:=c.X.K.length);have fR:=h4.ne;have Tz:=h5.g;have p5:∀x,(M4.set e.zb x).get (m.next+17)=bX.cells [v',w',.int .i64 c.X.D] 3 68 false:=fun x=>(af (by have:=h.lt e.zb (.inr (.inr (.inl rfl)));omega)).trans p4
   unfold lO CE.lv at nW Tz;simp only[nW,uZ,hf,fu,gz4,lz4,eC,ahq,ad1,fm,Tz,p5,l4,Sq,aai,Nat.mul_one,ao,simprocAttr]at hX;have acn:∀x b,m.next+20<=b->b<M3.next->(M4.set e.zb x).get b=M3.get b:=fun x b q1 q2=>by
    have oP:¬e.W b:=fun q=>by have:=im _ q;omega
    rw[af (fun q=>oP (.inr (.inr (.inl q))))];exact s4.k b q2 oP
   have sV5:∀x,vg (M4.set e.zb x) v' (c.X.add y.d.s k).V (m.next+20):=fun x=>akQ.eB (by rw[aj];exact s4.n) fun b hb im _=>acn x b im hb
   have sK5:∀x,Bc (M4.set e.zb x) w' (c.X.add y.d.s k).K (m.next+20):=fun x=>akP.eB (by rw[aj];exact s4.n) fun b hb im _=>acn x b im hb
   obtain⟨h6,s6⟩:=h5.ac4 (vv':=vv) (sv':=v') (sk':=w') (c':={c with S:=c.S.set i c.X.K.length,X:=c.X.add y.d.s k}) rfl rfl rfl rfl ((sV5 _).lo0) ((sK5 _).lo0) (fun b hb q=>by have:=im _ q;have:=((sV5 (.cells [] 1 3 false)).lT hb).1;omega) (fun b hb q=>by have:=im _ q;have:=((sK5 (.cells [] 1 3 false)).lT hb).1;omega);have s56:=(s34.trans s5).trans s6;unfold lO CE.lv at h6 s56;simp only[hf,Mo.add]at h6 s56⊢;exact⟨_,v',w',hX.symm,h6.bump 14,s56.trans bO.bump⟩
  ·rw[if_neg hf];unfold lO CE.lv at nW;simp only[nW,uZ,hf,fh,ao,simprocAttr]at hX;exact⟨M4,sv,sk,hX.symm,h4,s34⟩
end
end
section
section
variable {e:RE} {m m' M0:Mem} {fv vv sv sk sv' sk' vv':EV} {c c':CS}
theorem Rk.row(h:Rk e m fv vv sv sk c){y:Nv}(hy:y∈e.xs)(fR:y.d.kids≠[]):∃b cp t ro,y.kv=.slice b 0 y.d.kids.length cp/\m.get b=.cells (is y.d.kids) 1 t ro/\b<m.next/\¬e.W b:=by
 rcases(h.nd.k y hy).is with⟨q,_⟩|⟨b,cp,t,ro,w1,w2,w3,_⟩
 ·exact absurd q fR
 ·refine⟨b,cp,t,ro,w1,w2,w3,?_⟩
  obtain⟨n,AR⟩:∃n,y.d.kids.length=n+1:=⟨y.d.kids.length- 1,by have:=List.length_pos_iff.2 fR;omega⟩
  exact(h.nd.kf y hy b n cp (by rw[w1,AR])).1
theorem vE(h:Rk e m fv vv sv sk c){i a:Nat}{y:Nv}(si:e.xs[i]?=some y){ks:List Int}(hk:y.d.kids=(a:Int)::ks)(ha:a<e.xs.length){p q:Int}{X:Option Fin}(hX:run U BO [.ptr e.cb 0,.int .i64 (i:Int),.int .i64 p,.int .i64 q] m=X) :
  ∃m',X=some (.ret (.tuple []) m')/\Rk e m' fv vv sv sk {c.bU (c.K.getD a 0≠p) 11 y.d.pos with K:=c.K.set i q}/\bO e.toCE m m':=by
 rw[cf (by simp[fV])]at hX;have hi:=(mu.1 si).1;obtain⟨y',hy,vV,eC,a1,a2,a3,a4,a5,a6,hm⟩:=h.at hi;obtain rfl:y'=y:=by rw[si]at vV;cases vV;rfl
 obtain⟨b,cp,t,ro,w1,w2,w3,w4⟩:=h.row hm (by rw[hk];simp);have hg:=h.g;have hb:=h.lt _ (.inl rfl);have gl:=h.nd.g;have ll:=h.nd.lt;have kL:idx y'.d.kids.length (.int .i64 0)=some 0:=ap (i:=0) (by rw[hk];simp);have sS:(is y'.d.kids)[0]?=some (.int .i64 (a:Int)):=by rw[hk];rfl
 unfold lO CE.lv at hg;rw[w1]at a2;simp only[fV,hg,hb,gl,ll,eC,a2,w2,w3,kL,sS,Nat.mul_one,ao,simprocAttr]at hX;generalize hC:run (UT B Ev.K) 71 _ _=C at hX;obtain⟨k1,rfl⟩:=jc h ha hC;clear hC;simp only[hg,hb,gl,ll,eC,a2,w2,w3,kL,sS,Nat.mul_one,ao,simprocAttr]at hX;generalize hC:run (UT B Ev.K) 44 _ _=C at hX;obtain⟨M2,rfl,h2,s2⟩:=dE (h.bump k1) hi hC;clear hC;rw[<- hy]at h2;have kI:=h2.g;have mC:=h2.lt _ (.inl rfl);have II:=h2.gk;have lk2:=h2.lt _ (.inr (.inl rfl));have cK:(c.bU (¬c.K.getD a 0=p) 11 y'.d.pos).K=c.K:=by unfold CS.bU;split<;>rfl
 have uW:i<(c.bU (¬c.K.getD a 0=p) 11 y'.d.pos).K.length:=by rw[h2.len.1];exact hi
 have Fc:i+1<=(is (c.bU (¬c.K.getD a 0=p) 11 y'.d.pos).K).length:=by rw[eM];exact uW
 have fm:=fX (x:=q) uW;obtain⟨h3,s3⟩:=h2.o7 (i:=i) (x:=q);unfold lO CE.lv at kI;simp only[kI,mC,II,lk2,eC,Fc,fm,Nat.mul_one,ao,simprocAttr]at hX;refine⟨_,hX.symm,?_,(bO.bump.trans s2).trans s3⟩
 rw[cK]at h3⊢;exact h3
theorem UF(h:Rk e m fv vv sv sk c){i a b:Nat}{y:Nv}(si:e.xs[i]?=some y)(hk:y.d.kids=[(a:Int),(b:Int)])(ha:a<e.xs.length)(hb:b<e.xs.length){X:Option Fin}(hX:run U BN [.ptr e.cb 0,.int .i64 (i:Int)] m=X) :
  ∃m',X=some (.ret (.tuple []) m')/\Rk e m' fv vv sv sk (({c with K:=c.K.set i (if y.d.n<=8 then 2 else 1)}:CS).bU (¬yn y.d.n (c.K.getD a 0) (c.K.getD b 0)) 11 y.d.pos)/\bO e.toCE m m':=by
 rw[cf (by simp[fU])]at hX;have hi:=(mu.1 si).1;obtain⟨y',hy,vV,eC,a1,a2,a3,a4,a5,a6,hm⟩:=h.at hi;obtain rfl:y'=y:=by rw[si]at vV;cases vV;rfl
 obtain⟨rb,cp,t,ro,w1,w2,w3,w4⟩:=h.row hm (by rw[hk];simp);have hg:=h.g;have sj:=h.lt _ (.inl rfl);have gl:=h.nd.g;have ll:=h.nd.lt;have kL:idx y'.d.kids.length (.int .i64 0)=some 0:=ap (i:=0) (by rw[hk];simp);have vW:idx y'.d.kids.length (.int .i64 1)=some 1:=ap (i:=1) (by rw[hk];simp);have sS:(is y'.d.kids)[0]?=some (.int .i64 (a:Int)):=by rw[hk];rfl
 have vY:(is y'.d.kids)[0+1]?=some (.int .i64 (b:Int)):=by rw[hk];rfl
 have vX:(is y'.d.kids)[1]?=some (.int .i64 (b:Int)):=by rw[hk];rfl
 unfold lO CE.lv at hg;rw[w1]at a2;simp only[fU,hg,sj,gl,ll,eC,a2,a3,w2,w3,kL,sS,vW,vY,vX,Nat.mul_one,ao,simprocAttr]at hX;generalize hC:run (UT B Ev.K) 71 _ _=C at hX;obtain⟨k1,rfl⟩:=jc (h.bump _) ha hC;clear hC;simp only[hg,sj,gl,ll,eC,a2,a3,w2,w3,kL,sS,vW,vY,vX,Nat.mul_one,ao,simprocAttr]at hX;generalize hC:run (UT B Ev.K) 71 _ _=C at hX;obtain⟨k2,rfl⟩:=jc ((h.bump _).bump _) hb hC;clear hC;have gk:=h.gk;have lk:=h.lt _ (.inr (.inl rfl));have uW:i<c.K.length:=by rw[h.len.1];exact hi
 have Fc:i+1<=(is c.K).length:=by rw[eM];exact uW
 have fm:=fX (x:=1) uW;have ahs:i<(c.K.set i 1).length:=by rw[List.length_set];exact uW
 have WC:i+1<=(is (c.K.set i 1)).length:=by rw[eM];exact ahs
 have PG:=fX (x:=2) ahs;rw[List.set_set]at PG;have fR:=h.ne;have hgs:=fun(M:Mem) (x:bX)=>af (m:=M) (x:=x) fR.1
 have hwr:∀(k:Int) (M:Mem),Rk e M fv vv sv sk {c with K:=c.K.set i k}->bO e.toCE m M->∀(p:Prop) [Decidable p],(p↔¬yn y'.d.n (c.K.getD a 0) (c.K.getD b 0))->k=(if y'.d.n<=8 then 2 else 1)->∀C,run U 44 [.ptr e.cb 0,bo p,.int .i64 11,.int .i64 (i:Int)] M=C->∃m',C=some (.ret (.tuple []) m')/\Rk e m' fv vv sv sk (({c with K:=c.K.set i (if y'.d.n<=8 then 2 else 1)}:CS).bU (¬yn y'.d.n (c.K.getD a 0) (c.K.getD b 0)) 11 y'.d.pos)/\bO e.toCE m m':=by
  intro k M hR st p _ hp hk8 C hC;subst hk8;obtain⟨M2,rfl,h2,s2⟩:=dE hR hi hC;refine⟨M2,rfl,?_,st.trans s2⟩
  rw[<- hy]at h2;have e0:({c with K:=c.K.set i (if y'.d.n<=8 then 2 else 1)}:CS).bU p 11 y'.d.pos=({c with K:=c.K.set i (if y'.d.n<=8 then 2 else 1)}:CS).bU (¬yn y'.d.n (c.K.getD a 0) (c.K.getD b 0)) 11 y'.d.pos:=by
   unfold CS.bU;by_cases q:p
   ·simp only[q,hp.1 q,true_and,not_false_eq_true]
   ·have:¬¬yn y'.d.n (c.K.getD a 0) (c.K.getD b 0):=fun w=>q (hp.2 w)
    simp only[q,this,false_and]
  rw[e0]at h2;exact h2
 by_cases q8:y'.d.n<=8
 ·by_cases q2:y'.d.n<=2
  ·simp +contextual -implicitDefEqProofs (maxDischargeDepth:=8) only[hg,sj,gl,ll,eC,a2,a3,w2,w3,kL,sS,vW,vY,vX,gk,lk,Fc,fm,WC,PG,hgs,q8,q2,Nat.mul_one,ao,simprocAttr]at hX;generalize hC:run (UT B Ev.K) 44 _ _=C at hX;obtain⟨h1,s1⟩:=h.o7 (i:=i) (x:=1);obtain⟨h2,s2⟩:=h1.o7 (i:=i) (x:=2);simp only[List.set_set]at h2 s2;obtain⟨m',rfl,r1,r2⟩:=hwr 2 _ (((h2.bump 35).bump k1).bump k2) ((((s1.trans s2).trans bO.bump).trans bO.bump).trans bO.bump) _ (by unfold yn;simp only[q2,if_true,if_false];try omega) (by rw[if_pos q8]) C hC;clear hC;simp only[ao,simprocAttr]at hX;exact⟨m',hX.symm,r1,r2⟩
  ·by_cases q4:y'.d.n<=4
   ·simp only[hg,sj,gl,ll,eC,a2,a3,w2,w3,kL,sS,vW,vY,vX,gk,lk,Fc,fm,WC,PG,hgs,q8,q2,q4,Nat.mul_one,ao,simprocAttr]at hX;generalize hC:run (UT B Ev.K) 44 _ _=C at hX;obtain⟨h1,s1⟩:=h.o7 (i:=i) (x:=1);obtain⟨h2,s2⟩:=h1.o7 (i:=i) (x:=2);simp only[List.set_set]at h2 s2;obtain⟨m',rfl,r1,r2⟩:=hwr 2 _ (((h2.bump 35).bump k1).bump k2) ((((s1.trans s2).trans bO.bump).trans bO.bump).trans bO.bump) _ (by unfold yn;simp only[q2,q4,if_true,if_false];try omega) (by rw[if_pos q8]) C hC;clear hC;simp only[ao,simprocAttr]at hX;exact⟨m',hX.symm,r1,r2⟩
   ·simp +contextual -implicitDefEqProofs (maxDischargeDepth:=8) only[hg,sj,gl,ll,eC,a2,a3,w2,w3,kL,sS,vW,vY,vX,gk,lk,Fc,fm,WC,PG,hgs,q8,q2,q4,Nat.mul_one,ao,simprocAttr]at hX;generalize hC:run (UT B Ev.K) 44 _ _=C at hX;obtain⟨h1,s1⟩:=h.o7 (i:=i) (x:=1);obtain⟨h2,s2⟩:=h1.o7 (i:=i) (x:=2);simp only[List.set_set]at h2 s2;obtain⟨m',rfl,r1,r2⟩:=hwr 2 _ (((h2.bump 35).bump k1).bump k2) ((((s1.trans s2).trans bO.bump).trans bO.bump).trans bO.bump) _ (by unfold yn;simp only[q2,q4,if_true,if_false];try omega) (by rw[if_pos q8]) C hC;clear hC;simp only[ao,simprocAttr]at hX;exact⟨m',hX.symm,r1,r2⟩
 ·have q2:¬y'.d.n<=2:=by omega
  have q4:¬y'.d.n<=4:=by omega
  simp +contextual -implicitDefEqProofs (maxDischargeDepth:=8) only[hg,sj,gl,ll,eC,a2,a3,w2,w3,kL,sS,vW,vY,vX,gk,lk,Fc,fm,hgs,q8,q2,q4,Nat.mul_one,ao,simprocAttr]at hX;generalize hC:run (UT B Ev.K) 44 _ _=C at hX;obtain⟨h1,s1⟩:=h.o7 (i:=i) (x:=1);obtain⟨m',rfl,r1,r2⟩:=hwr 1 _ (((h1.bump 35).bump k1).bump k2) (((s1.trans bO.bump).trans bO.bump).trans bO.bump) _ (by unfold yn;simp only[q2,q4,if_true,if_false];try omega) (by rw[if_neg q8]) C hC;clear hC;simp only[ao,simprocAttr]at hX;exact⟨m',hX.symm,r1,r2⟩
end
end
end Go.Proofs.YtfbnghpabppljaaGreatDoor.Ev
