/- WRk5, WRk6, WRk7, WRk8, WRk9, WRk10, WRk11, WRk12, WRk13, WRk14, WRk15, WRk16, WRk18. -/
import Derived.Test.YtfbnghpabppljaaGreatDoorMk
set_option linter.unusedSimpArgs false
set_option linter.unusedVariables false
set_option linter.unusedSectionVars false
set_option linter.defProp false
set_option maxRecDepth 20000
set_option maxHeartbeats 8000000
namespace Go.Proofs.YtfbnghpabppljaaGreatDoor.Ev
open Go
section
section
variable {e:RE} {m m' M0:Mem} {fv vv sv sk sv' sk' vv':EV} {c c':CS}
theorem Rk.DB(h:Rk e m fv vv sv sk c){y:Nv}(hy:y∈e.xs):∀M:Mem,kA y.kv M=some (.val (.int .i64 (y.d.kids.length:Int)) M):=fun M=>by
 rcases(h.nd.k y hy).is with⟨q,z1|⟨b,o,z2⟩⟩|⟨b,cp,t,ro,w1,_⟩
 ·rw[q,z1];rfl
 ·rw[q,z2];rfl
 ·rw[w1];rfl
def jt(y:Nv):List EV:=[.int .i64 y.d.kind,y.kv,.int .i64 y.d.n,.str y.d.s,.int .i64 y.d.pos]
theorem Hf(h:Rk e m fv vv sv sk c)(y:Nv):∃M,ext m [.cells [.int .i64 y.d.kind,y.kv,.int .i64 y.d.n,.str y.d.s,.int .i64 y.d.pos] 5 59 false]=M/\Rk e M fv vv sv sk c/\bO e.toCE m M/\M.get m.next=.cells (jt y) 5 59 false/\m.next<M.next/\¬e.W m.next:=by
 have n0:nb m.next 0=m.next:=rfl;refine⟨_,rfl,h.same (by rw[ak];exact aq) fun b hb=>ai hb,.bJ (by rw[ak];exact aq) fun b hb=>ai hb,?_,by rw[ak];unfold nb;simp,fun q=>by have:=h.lt _ q;omega⟩
 rw[<- n0,aw rfl (by simp)];rfl
theorem UY{i:Nat}{y g:Nv}(h0:Rk e M0 fv vv sv sk c)(si:e.xs[i]?=some y)(WI:g∈e.xs)(hyk:∀x∈y.d.kids,0<=x/\x.toNat<e.xs.length)(hgk:∀x∈g.d.kids,0<=x/\x.toNat<e.xs.length)(hn:y.d.kids.length<1000000)(hlen:c.fe=0->g.d.kids.length=y.d.kids.length+1)
  {bx gx t1 t2:Nat} (gb:M0.get bx=.cells (jt y) 5 t1 false) (gg:M0.get gx=.cells (jt g) 5 t2 false) (lb:bx<M0.next) (lg:gx<M0.next) (wb:¬e.W bx) (wg:¬e.W gx) {fr:Fr} (f0:fr.get 0=.ptr e.cb 0) (f1:fr.get 1=.int .i64 (i:Int)) (f4:fr.get 4=.ptr bx 0) (f6:fr.get 6=.ptr gx 0) (f7:fr.get 7=.int .i64 0) (fd:fr.defers=[]) :
  ∃ou,exec U (.loop eT) fr M0=some ou/\∃fr' m',ou=.exit 0 fr' m'/\Rk e m' fv vv sv sk (if c.fe=0 then(if kk c.K y.d.kids=g.d.kids.dropLast.map (fun x=>(ee e.l x).n)then c else c.fault 11 y.d.pos)else c)/\bO e.toCE M0 m'/\fr'.get 0=.ptr e.cb 0/\fr'.get 1=.int .i64 (i:Int)/\fr'.get 6=.ptr gx 0/\fr'.defers=[]:=by
 have hi:=(mu.1 si).1;have qg:y∈e.xs:=List.mem_of_getElem? si;refine dr (σ:=Nat) (fun j fr m=>j<=y.d.kids.length/\(∃c',Rk e m fv vv sv sk c'/\((c'=c/\(c.fe=0->∀(t:Nat) x z,t<j->y.d.kids[t]?=some x->g.d.kids[t]?=some z->(ee e.l z).n=c.K.getD x.toNat 0))\/(c.fe=0/\c'=c.fault 11 y.d.pos/\∃t:Nat,∃x z,y.d.kids[t]?=some x/\g.d.kids[t]?=some z/\(ee e.l z).n≠c.K.getD x.toNat 0)))/\bO e.toCE M0 m/\fr.get 0=.ptr e.cb 0/\fr.get 1=.int .i64 (i:Int)/\fr.get 4=.ptr bx 0/\fr.get 6=.ptr gx 0/\fr.get 7=.int .i64 (j:Int)/\fr.defers=[]) (fun j=>y.d.kids.length- j) _ ?_ 0 fr M0 ⟨nZ _,⟨c,h0,.inl ⟨rfl,fun _ t x z ht=>absurd ht (Nat.not_lt_zero _)⟩⟩,.refl,f0,f1,f4,f6,f7,fd⟩
 have fin:∀c':CS,((c'=c/\(c.fe=0->∀(t:Nat) x z,t<y.d.kids.length->y.d.kids[t]?=some x->g.d.kids[t]?=some z->(ee e.l z).n=c.K.getD x.toNat 0))\/(c.fe=0/\c'=c.fault 11 y.d.pos/\∃t:Nat,∃x z,y.d.kids[t]?=some x/\g.d.kids[t]?=some z/\(ee e.l z).n≠c.K.getD x.toNat 0))->c'=(if c.fe=0 then(if kk c.K y.d.kids=g.d.kids.dropLast.map (fun x=>(ee e.l x).n)then c else c.fault 11 y.d.pos)else c):=by
  rintro c' (⟨rfl,q⟩|⟨q1,rfl,t,x,z,q3,q4,q5⟩)
  ·by_cases hf:c'.fe=0
   ·rw[if_pos hf,if_pos];have hl:=hlen hf;refine List.ext_getElem? fun t=> ?_
    unfold kk;rw[List.getElem?_map,List.getElem?_map];by_cases ht:t<y.d.kids.length
    ·have hx:y.d.kids[t]?=some y.d.kids[t]:=jE ht;have hz:g.d.kids[t]?=some g.d.kids[t]:=jE (by omega);have hz':g.d.kids.dropLast[t]?=some g.d.kids[t]:=by rw[List.getElem?_dropLast,if_pos (by omega)];exact hz
     rw[hx,hz'];exact congrArg some (q hf t _ _ ht hx hz).symm
    ·rw[List.getElem?_eq_none (by omega),List.getElem?_eq_none (by rw[List.length_dropLast];omega)];rfl
   ·rw[if_neg hf]
  ·rw[if_pos q1,if_neg];intro w;have:=congrArg (fun l=>l[t]?) w;unfold kk at this;simp only[List.getElem?_map]at this;have hl:=hlen q1;have htl:=(mu.1 q3).1;rw[q3,List.getElem?_dropLast,if_pos (by omega),q4]at this;exact q5 (zqm this).symm
 rintro j fr m ⟨hj,⟨c',h,hh⟩,st,f0,f1,f4,f6,f7,fd⟩;generalize hX:exec U eT fr m=X;have nG:=(st.k bx lb wb).trans gb;have gg':=(st.k gx lg wg).trans gg;have Gd:=cQ lb st.n;have lg':=cQ lg st.n;have hg:=h.g;have hb:=h.lt _ (.inl rfl);have gl:=h.nd.g;have ll:=h.nd.lt;unfold lO CE.lv at hg;unfold jt at nG gg';have lP:=h.DB qg;by_cases aH:j<y.d.kids.length
 ·have hc:(j:Int)<(y.d.kids.length:Int):=by omega
  by_cases hf:c'.fe=0
  ·obtain⟨rfl,hall⟩:c'=c/\(c.fe=0->∀(t:Nat) x z,t<j->y.d.kids[t]?=some x->g.d.kids[t]?=some z->(ee e.l z).n=c.K.getD x.toNat 0):=by
    rcases hh with q|⟨_,q,_⟩
    ·exact q
    ·rw[q]at hf;exact absurd hf (by show ¬(11:Int)=0;decide)
   have hl:=hlen hf;have gP:=aZ (i:=j) (by omega);have hx:y.d.kids[j]?=some y.d.kids[j]:=jE aH;have hz:g.d.kids[j]?=some g.d.kids[j]:=jE (by omega);have nV:=oX aH;have Z1:g.d.kids[j]∈g.d.kids:=oX (by omega);generalize y.d.kids[j]=x at *;generalize g.d.kids[j]=z at *;obtain⟨xn,rfl⟩:∃n:Nat,x=(n:Int):=⟨x.toNat,by have:=(hyk x nV).1;omega⟩
   obtain⟨zn,rfl⟩:∃n:Nat,z=(n:Int):=⟨z.toNat,by have:=(hgk z Z1).1;omega⟩
   have hxn:xn<e.xs.length:=by have:=(hyk _ nV).2;omega
   have hzn:zn<e.xs.length:=by have:=(hgk _ Z1).2;omega
   obtain⟨u,hu,hui,BR,b1,b2,b3,b4,b5,b6,hum⟩:=h.at hzn;obtain⟨yb,yc,yt,yr,v1,v2,v3,v4⟩:=h.row qg (by intro q;rw[q]at aH;simp at aH);obtain⟨kb,kc,kt,kr,w1,w2,w3,w4⟩:=h.row WI (by intro q;rw[q]at hl;simp at hl);have HE:=ap (n:=y.d.kids.length) (i:=j) (k:=.i64) aH;have hgi:=ap (n:=g.d.kids.length) (i:=j) (k:=.i64) (by omega);have LG:(is y.d.kids)[j]?=some (.int .i64 (xn:Int)):=by rw[gp,hx];rfl
   have hgg:(is g.d.kids)[j]?=some (.int .i64 (zn:Int)):=by rw[gp,hz];rfl
   rw[v1]at nG lP;rw[w1]at gg';simp only[eT,f0,f1,f4,f6,f7,fd,hg,hb,gl,ll,nG,gg',Gd,lg',lP,hc,hf,fu,v2,v3,w2,w3,HE,hgi,LG,hgg,BR,b3,Nat.mul_one,ao,simprocAttr]at hX;generalize hC:run U 71 _ _=C at hX;obtain⟨k1,rfl⟩:=jc (h.bump _) hxn hC;clear hC;simp only[hg,hb,gl,ll,nG,gg',Gd,lg',v2,v3,w2,w3,HE,hgi,LG,hgg,BR,b3,Nat.mul_one,ao,simprocAttr]at hX;generalize hC:run (UT B Ev.K) 44 _ _=C at hX;obtain⟨M2,rfl,h2,s2⟩:=dE ((h.bump 23).bump k1) hi hC;clear hC;simp only[f0,f1,f4,f6,f7,fd,gP,ao,simprocAttr]at hX;subst hX;have HF:(dZ e.l i).pos=y.d.pos:=by rw[show dZ e.l i=y.d from nc (by unfold CE.l;rw[List.getElem?_map,si];rfl)]
   have hun:u.d.n=(ee e.l (zn:Int)).n:=by rw[hu];rfl
   refine bB (j+1) (by omega) ⟨aH,⟨_,h2,?_⟩,st.trans ((bO.bump.trans bO.bump).trans s2),by simp[f0,f1,f4,f6,fd,ay]⟩
   rw[HF];by_cases hq:u.d.n=c'.K.getD xn 0
   ·left
    refine⟨by rw[CS.bU,if_neg (fun q=>q.1 hq)],fun _ t x z ht hxt hzt=> ?_⟩
    by_cases htj:t=j
    ·subst htj;rw[hx]at hxt;rw[hz]at hzt;cases hxt;cases hzt;rw[<- hun,hq];rfl
    ·exact hall hf t x z (by omega) hxt hzt
   ·right
    refine⟨hf,by rw[CS.bU,if_pos ⟨hq,hf⟩],j,_,_,hx,hz,?_⟩
    rw[<- hun];exact hq
  ·simp only[eT,f0,f1,f4,f6,f7,fd,hg,hb,nG,Gd,lP,hc,hf,fh,ao,simprocAttr]at hX;subst hX;refine bK ⟨_,_,rfl,?_,?_,by simp[f0,f1,f6,fd,ay]⟩
   ·rw[<- fin c' (hh.imp (fun q=>⟨q.1,fun w=>absurd (by rw[q.1];exact w) hf⟩) id)];exact h
   ·exact st
 ·have hc:¬((j:Int)<(y.d.kids.length:Int)):=by omega
  obtain rfl:j=y.d.kids.length:=by omega
  simp only[eT,f0,f1,f4,f6,f7,fd,hg,hb,nG,Gd,lP,hc,ao,simprocAttr]at hX;subst hX;refine bK ⟨_,_,rfl,?_,?_,by simp[f0,f1,f6,fd,ay]⟩
  ·rw[<- fin c' hh];exact h
  ·exact st
end
end
section
section
variable {e:RE} {m m' M0:Mem} {fv vv sv sk sv' sk' vv':EV} {c c':CS}
theorem Ri(s:Shape e.toCE){i:Nat}{y:Nv}(h:Rk e m fv vv sv sk c)(si:e.xs[i]?=some y)(anF:y.d.kind=11)(hf:c.fe=0)(hFr:∀x∈c.F,x∈(dZ e.l (e.l.length- 1)).kids)(hFl:c.F.length<1000000){X:Option Fin}(hX:run U AH [.ptr e.cb 0,.int .i64 (i:Int)] m=X) :
  ∃m' c',X=some (.ret (.tuple []) m')/\Rk e m' fv vv sv sk c'/\bO e.toCE m m'/\jz c' (ju e.l i c)/\gI c c':=by
 rw[cf (by simp[fC])]at hX;have hi:=(mu.1 si).1;have hyd:dZ e.l i=y.d:=nc (by unfold CE.l;rw[List.getElem?_map,si];rfl);obtain⟨y',hy,vV,eC,a1,a2,a3,a4,a5,a6,hm⟩:=h.at hi;obtain rfl:y'=y:=by rw[si]at vV;cases vV;rfl
 have hg:=h.g;have hb:=h.lt _ (.inl rfl);have gl:=h.nd.g;have ll:=h.nd.lt;unfold lO CE.lv at hg;simp only[fC,hg,hb,gl,ll,eC,a6,ao,simprocAttr]at hX;obtain⟨M1,qD,h1,s1,g1,l1,w1⟩:=Hf h y';rw[qD,show nb m.next 0=m.next from rfl]at hX;clear qD;generalize hC:run (UT B Ev.K) 45 _ _=C at hX;obtain⟨M2,rfl,n2,k2⟩:=Ha h1 (fun x hx=>by have:=s.sQ (hFr x hx);exact⟨this.1,this.2.2.1⟩) hFl hC;clear hC;have h2:=h1.same n2 fun b _=>k2 b
 have s2:bO e.toCE m M2:=s1.trans (.bJ n2 fun b _=>k2 b);have g2:M2.get m.next=.cells (jt y') 5 59 false:=(k2 _).trans g1;have l2:m.next<M2.next:=cQ l1 n2;clear n2 k2 g1 l1 h1 s1;simp only[ao,simprocAttr]at hX;generalize hC:run (UT B Ev.K) 44 _ _=C at hX;obtain⟨M3,rfl,h3,s3⟩:=dE h2 hi hC;clear hC;rw[hyd]at h3;have s03:=s2.trans s3;have g3:M3.get m.next=.cells (jt y') 5 59 false:=(s3.k _ l2 w1).trans g2;have l3:m.next<M3.next:=cQ l2 s3.n;have pz:=h3.lt _ (.inl rfl);unfold ju;simp only[hyd,anF,if_neg (show ¬(11:Int)=4 by decide),if_true];cases hfn:uI e.l c.F y'.d.s with
 |none=>
  have hz:IJ e.l c.F y'.d.s= -1:=by unfold IJ;rw[hfn]
  have hw:c.bU (IJ e.l c.F y'.d.s<0) 9 y'.d.pos=c.fault 9 y'.d.pos:=by rw[CS.bU,if_pos ⟨by rw[hz];decide,hf⟩]
  rw[hw]at h3;have jV:=h3.g;unfold lO CE.lv CS.fault at jV;simp only[jV,pz,fh,ao,simprocAttr]at hX;exact⟨M3,_,hX.symm,h3,s03,.refl,⟨rfl,rfl,rfl,rfl,rfl,rfl,rfl,rfl,rfl⟩⟩
 |some f=>
  have hz:IJ e.l c.F y'.d.s=(f:Int):=by unfold IJ;rw[hfn]
  have hw:c.bU (IJ e.l c.F y'.d.s<0) 9 y'.d.pos=c:=by rw[CS.bU,if_neg];rintro⟨q,_⟩;rw[hz]at q;omega
  rw[hw]at h3;rw[hz]at hX;obtain⟨rE,_⟩:f<c.F.length/\True:=by
   unfold uI at hfn;rw[List.findIdx?_eq_some_iff_getElem]at hfn;exact⟨hfn.1,trivial⟩
  have WJ:c.F[f]?=some c.F[f]:=jE rE;have oQ:c.F.getD f 0=c.F[f]:=by rw[List.getD_eq_getElem?_getD,WJ];rfl
  have nV:c.F[f]∈c.F:=oX rE;simp only[oQ];generalize c.F[f]=x at *;obtain⟨x0,_,xl,_⟩:=s.sQ (hFr x nV);obtain⟨xn,rfl⟩:∃n:Nat,x=(n:Int):=⟨x.toNat,by omega⟩
  have xl:xn<e.xs.length:=by omega
  obtain⟨hq1,hq2,hq3,hq4,hq5⟩:=s.fn (hFr _ nV)
  -- Calls[i]=f
  obtain⟨h4,s4⟩:=h3.UA (i:=i) (x:=(f:Int));have jV:=h3.g;have ga3:=h3.ga;have la3:=h3.lt _ (.inr (.inr (.inr rfl)));have hal:i<c.C.length:=by rw[h3.len.2.2];exact hi
  have an1:i+1<=(is c.C).length:=by rw[eM];exact hal
  have fm:=fX (x:=(f:Int)) hal;obtain⟨g,hgx,hgi,anL,b1,b2,b3,b4,b5,b6,WI⟩:=h4.at xl;unfold lO CE.lv at jV;rcases yM h3 with⟨q,_⟩|⟨rb,rcp,rt,rro,rest,BX,gb,bl,bw⟩
  ·rw[q]at rE;cases rE
  have tM:(is (c.F++rest))[f]?=some (.int .i64 (xn:Int)):=by rw[gp,rB rE,WJ];rfl
  have hfx:=ap (n:=c.F.length) (i:=f) (k:=.i64) rE;have nW:=h4.g;have PP:=h4.nd.g;have hba:rb≠e.ab:=fun q=>bw (.inr (.inr (.inr q)))
  have W9:=fun x=>(af (m:=M3) (x:=x) hba).trans gb
  have ll3:=h3.nd.lt;unfold lO CE.lv at nW;rw[BX]at jV nW;simp only[jV,pz,hf,fu,ga3,la3,eC,an1,fm,nW,PP,ll3,W9,bl,tM,hfx,anL,b6,Nat.mul_one,ao,simprocAttr]at hX;have anr:(M3.set e.ab (bX.cells (is (c.C.set i (f:Int))) 1 3 false)).next=M3.next:=aj;have o34:∀b,b≠e.ab->(M3.set e.ab (bX.cells (is (c.C.set i (f:Int))) 1 3 false)).get b=M3.get b:=fun b hb=>af hb
  generalize M3.set e.ab (bX.cells (is (c.C.set i (f:Int))) 1 3 false)=M4 at *;rw[<- anr]at hX;obtain⟨D,hD⟩:∃D,ve M4 16 14 (.cells [EV.int .i64 0,EV.aa,EV.int .i64 0,EV.str [],EV.int .i64 0] 5 59 false)=D:=⟨_,rfl⟩
  have dn:D.next=M4.next+16:=by rw[<- hD,jL];rfl
  have fc:∀b,b<M4.next->D.get b=M4.get b:=fun b hb=>by rw[<- hD];exact lI hb
  have mR:D.get (nb (M4.next+14) 0)=.cells [EV.int .i64 0,EV.aa,EV.int .i64 0,EV.str [],EV.int .i64 0] 5 59 false:=by rw[<- hD];exact lJ
  unfold ve at hD;rw[hD]at hX;have ane:nb (M4.next+14) 0=M4.next+14:=rfl;rw[ane]at hX mR;simp only[mR,ao,simprocAttr]at hX;generalize Sv:D.set (M4.next+14) _=M5 at hX;have n5:M5.next=M4.next+16:=by rw[<- Sv,aj];exact dn
  have o5:∀b,b<M4.next->M5.get b=M4.get b:=fun b hb=>by rw[<- Sv,af (by omega)];exact fc b hb
  have p5:M5.get (M4.next+14)=.cells (jt g) 5 59 false:=by rw[<- Sv];exact aN
  have l5:M4.next+14<M5.next:=by omega
  clear Sv hD dn fc mR;have h5:=h4.same (m':=M5) (by omega) o5;have w5:¬e.W (M4.next+14):=fun q=>by have:=h4.lt _ q;omega
  have PN:m.next≠e.ab:=fun q=>w1 (.inr (.inr (.inr q)))
  have gy5:M5.get m.next=.cells (jt y') 5 59 false:=(o5 _ (by omega)).trans ((o34 _ PN).trans g3);have ly5:m.next<M5.next:=by omega
  have s05:bO e.toCE m M5:=(s03.trans s4).trans (.bJ (by omega) o5);have anz:=h5.DB hm;have anA:=h5.DB WI;have anN:g.d=ee e.l (xn:Int):=by rw[hgx];rfl
  rw[<- anN]at hq1 hq2 hq3 hq4 hq5⊢;have tG:IntKind.i64.wrap ((g.d.kids.length:Int)- 1)=((g.d.kids.length- 1:Nat):Int):=by rw[wrap_i64 (by omega) (by omega)];omega
  have ah8:=gy5;have p5':=p5;unfold jt at ah8 p5';simp only[ah8,p5',ly5,l5,anz,anA,tG,ao,simprocAttr]at hX;generalize hC:run (UT B Ev.K) 44 _ _=C at hX;obtain⟨M6,rfl,h6,s6⟩:=dE h5 hi hC;clear hC;rw[hyd]at h6;obtain⟨c1,Ai⟩:∃c1:CS,c1={c with C:=c.C.set i (f:Int)}:=⟨_,rfl⟩
  rw[<- Ai]at h6;have f1:c1.fe=0:=by rw[Ai];exact hf
  have k1:c1.K=c.K:=by rw[Ai]
  obtain⟨c2,tL⟩:∃c2:CS,c2=c1.bU (¬((g.d.kids.length- 1:Nat):Int)=(y'.d.kids.length:Int)) 11 y'.d.pos:=⟨_,rfl⟩
  rw[<- tL]at h6;have k2:c2.K=c1.K:=by rw[tL];unfold CS.bU;split<;>rfl
  have uV:c2.fe=0->g.d.kids.length=y'.d.kids.length+1:=by
   intro q;rw[tL,CS.bU]at q;by_cases w:((g.d.kids.length- 1:Nat):Int)=(y'.d.kids.length:Int)
   ·omega
   ·rw[if_pos ⟨w,f1⟩]at q;exact absurd q (by show ¬(11:Int)=0;decide)
  have gy6:=(s6.k _ ly5 w1).trans gy5;have p6:=(s6.k _ l5 w5).trans p5;have ly6:=cQ ly5 s6.n;have l6:=cQ l5 s6.n;simp only[ao,simprocAttr]at hX;generalize hY:exec _ (.loop eT) _ _=Y at hX;obtain⟨ou,rfl,fr',M7,rfl,h7,s7,q0,q1,q6,qd⟩:=cG hY (UY h6 si WI (fun x hx=>by
   have:=s.sQ (i:=i) (x:=x) (by rw[hyd];exact hx);exact⟨this.1,this.2.2.1⟩) (fun x hx=>by
   have:=s.sQ (i:=xn) (x:=x) (by rw[<- hgx];exact hx);exact⟨this.1,this.2.2.1⟩) (by have:=s.k y' hm;omega) uV gy6 p6 ly6 l6 w1 w5 (by simp[ay]) (by simp[ay]) (by simp[ay]) (by simp[ay]) (by simp[ay]) (by simp[ay]))
  clear hY;obtain⟨c3,j8⟩:∃c3:CS,c3=(if c2.fe=0 then(if kk c2.K y'.d.kids=g.d.kids.dropLast.map (fun x=>(ee e.l x).n)then c2 else c2.fault 11 y'.d.pos)else c2):=⟨_,rfl⟩
  rw[<- j8]at h7;have k3:c3.K=c2.K:=by
   rw[j8]
   repeat' split
   all_goals rfl
  have p7:=(s7.k _ l6 w5).trans p6;have l7:=cQ l6 s7.n;have hg7:=h7.g;have hb7:=h7.lt _ (.inl rfl);have gk7:=h7.gk;have lk7:=h7.lt _ (.inr (.inl rfl));have uW:i<c3.K.length:=by rw[h7.len.1];exact hi
  have Fc:i+1<=(is c3.K).length:=by rw[eM];exact uW
  have ag2:=fX (x:=g.d.n) uW;obtain⟨h8,s8⟩:=h7.o7 (i:=i) (x:=g.d.n);unfold lO CE.lv at hg7;unfold jt at p7;simp only[q0,q1,q6,qd,hg7,hb7,gk7,lk7,p7,l7,eC,Fc,ag2,Nat.mul_one,ao,simprocAttr]at hX;refine⟨_,_,hX.symm,h8.bump _,((((s05.trans s6).trans s7).trans s8).trans bO.bump),?_,?_⟩
  ·have e1:({c3 with K:=c3.K.set i g.d.n}:CS).fe=c3.fe:=rfl;by_cases vo:kk c.K y'.d.kids=g.d.kids.dropLast.map (fun x=>(ee e.l x).n)
   ·have zk:=congrArg List.length vo;unfold kk at zk;rw[List.length_map,List.length_map,List.length_dropLast]at zk;have e2:c2=c1:=by rw[tL,CS.bU,if_neg];rintro⟨q,_⟩;omega
    have e3:c3=c1:=by rw[j8,e2,if_pos f1,if_pos (by rw[k1];exact vo)]
    rw[if_pos vo,e3,Ai];exact .refl
   ·rw[if_neg vo];have:c3.fe=11/\c3.fp=y'.d.pos:=by
     rw[j8];by_cases w:((g.d.kids.length- 1:Nat):Int)=(y'.d.kids.length:Int)
     ·have e2:c2=c1:=by rw[tL,CS.bU,if_neg];exact fun q=>q.1 w
      rw[e2,if_pos f1,if_neg (by rw[k1];exact vo)];exact⟨rfl,rfl⟩
     ·have e2:c2=c1.fault 11 y'.d.pos:=by rw[tL,CS.bU,if_pos ⟨w,f1⟩]
      rw[e2,if_neg (by show ¬(11:Int)=0;decide)];exact⟨rfl,rfl⟩
    exact⟨this.1,this.2,fun q=>absurd (this.1.symm.trans q) (by decide)⟩
  ·have e3:gI c1 c3:=by
    rw[j8];have e2:gI c1 c2:=by rw[tL];unfold CS.bU;split<;>exact⟨rfl,rfl,rfl,rfl,rfl,rfl,rfl,rfl,rfl⟩
    split
    ·split
     ·exact e2
     ·exact e2.trans ⟨rfl,rfl,rfl,rfl,rfl,rfl,rfl,rfl,rfl⟩
    ·exact e2
   have e0:gI c c1:=by rw[Ai];exact⟨rfl,rfl,by simp,rfl,rfl,rfl,rfl,rfl,rfl⟩
   exact(e0.trans e3).trans ⟨by simp,rfl,rfl,rfl,rfl,rfl,rfl,rfl,rfl⟩
end
end
section
theorem Xq{l:List Nd}:∀{f i:Nat} {c:CS},c.fe≠0->qi l f i c=c
 |0,_,_,_=>rfl
 |f+1,i,c,h=>by
  rw[qi];simp only[kZ h,if_neg h]
theorem jz.trans{a b c:CS}(h:jz a b)(h':jz b c):jz a c:=⟨h.1.trans h'.1,h.2.1.trans h'.2.1,fun q=>(h.2.2 q).trans (h'.2.2 (h.1.symm.trans q))⟩
theorem KW{g:Int->CS->CS}(hg:∀x c,c.fe≠0->g x c=c){xs:List Int}{x:Int}{c0 c c':CS}(h:jz c (aO g xs c0))(h':jz c' (g x c)):jz c' (aO g (xs++[x]) c0):=by
 rw[jF];by_cases hf:c.fe=0
 ·have:=h.2.2 hf;rw[<- this,if_pos hf];exact h'
 ·rw[if_neg (by rw[<- h.1];exact hf)];rw[hg _ _ hf]at h';exact h'.trans h
theorem Cp{k:List Int}(h:k.length=1):∃a,k=[a]:=by
 match k,h with|[a],_=>exact⟨a,rfl⟩
theorem CR{k:List Int}(h:k.length=2):∃a b,k=[a,b]:=by
 match k,h with|[a,b],_=>exact⟨a,b,rfl⟩
theorem CL{c:CS}{p:Prop}[Decidable p]{e q:Int}:gI c (c.bU p e q):=by
 unfold CS.bU;split
 ·exact⟨rfl,rfl,rfl,rfl,rfl,rfl,rfl,rfl,rfl⟩
 ·exact .refl
theorem pC{c:CS}{p:Prop}[Decidable p]{e q k:Int}{i:Nat}:gI c {c.bU p e q with K:=c.K.set i k}:=by
 unfold CS.bU;split<;>exact⟨by simp,rfl,rfl,rfl,rfl,rfl,rfl,rfl,rfl⟩
theorem wY{c:CS}{x p q q' pos:Int}{i:Nat}(hf:c.fe=0)(hq:q=q'):jz {c.bU (x≠p) 11 pos with K:=c.K.set i q} (if x=p then{c with K:=c.K.set i q'}else c.fault 11 pos):=by
 subst hq;unfold CS.bU;by_cases h:x=p
 ·rw[if_pos h,if_neg (fun w=>w.1 h)];exact .refl
 ·rw[if_neg h,if_pos ⟨h,hf⟩];exact⟨rfl,rfl,fun w=>absurd w (by simp[CS.fault])⟩
theorem Od{c:CS}{k pos:Int}{p:Prop}[Decidable p]{i:Nat}(hf:c.fe=0):jz (({c with K:=c.K.set i k}:CS).bU (¬p) 11 pos) (if p then{c with K:=c.K.set i k}else c.fault 11 pos):=by
 unfold CS.bU;by_cases h:p
 ·rw[if_pos h,if_neg (fun w=>w.1 h)];exact .refl
 ·rw[if_neg h,if_pos ⟨h,hf⟩];exact⟨rfl,rfl,fun w=>absurd w (by simp[CS.fault])⟩
theorem Oc{c:CS}{x y k pos:Int}{i:Nat}(hf:c.fe=0):jz (({c.bU (x≠3) 11 pos with K:=c.K.set i k}:CS).bU (¬y=1) 11 pos) (if x=3/\y=1 then{c with K:=c.K.set i k}else c.fault 11 pos):=by
 unfold jz CS.bU CS.fault;by_cases h:x=3<;>by_cases h2:y=1<;>simp[h,h2,hf]
def Yh(e:RE)(f:Nat):Prop:=∀{m:Mem} {fv vv sv sk:EV} {c:CS} {i:Nat} {X:Option Fin},Rk e m fv vv sv sk c->Fit e.toCE c->i<e.xs.length->i<f->lu (dZ e.l i).kind->run U AG [.ptr e.cb 0,.int .i64 (i:Int)] m=X->∃m' c',X=some (.ret (.tuple []) m')/\Rk e m' fv vv sv sk c'/\bO e.toCE m m'/\gI c c'/\jz c' (qi e.l f i c)
section
variable {e:RE} {m m' M0:Mem} {fv vv sv sk sv' sk' vv':EV} {c c' c0:CS}
theorem adi{f:Nat}(ih:Yh e f){y:Nv}(qg:y∈e.xs)(h0:Rk e M0 fv vv sv sk c0)(hF:Fit e.toCE c0)(hx:∀x∈y.d.kids,0<=x/\x.toNat<e.xs.length/\x.toNat<f/\lu (ee e.l x).kind)(hn:y.d.kids.length<1000000){v1:EV}
  {bx t1:Nat} (gb:M0.get bx=.cells (jt y) 5 t1 false) (lb:bx<M0.next) (wb:¬e.W bx) {fr:Fr} (f0:fr.get 0=.ptr e.cb 0) (f1:fr.get 1=v1) (f4:fr.get 4=.ptr bx 0) (f5:fr.get 5=.int .i64 0) (fd:fr.defers=[]) :
  ∃ou,exec U (.loop fP) fr M0=some ou/\∃fr' m' c',ou=.exit 0 fr' m'/\Rk e m' fv vv sv sk c'/\bO e.toCE M0 m'/\gI c0 c'/\jz c' (aO (fun x c=>qi e.l f x.toNat c) y.d.kids c0)/\fr'.get 0=.ptr e.cb 0/\fr'.get 1=v1/\fr'.get 4=.ptr bx 0/\fr'.defers=[]:=by
 refine dr (σ:=Nat) (fun j fr m=>j<=y.d.kids.length/\∃c,Rk e m fv vv sv sk c/\bO e.toCE M0 m/\gI c0 c/\jz c (aO (fun x c=>qi e.l f x.toNat c) (y.d.kids.take j) c0)/\fr.get 0=.ptr e.cb 0/\fr.get 1=v1/\fr.get 4=.ptr bx 0/\fr.get 5=.int .i64 (j:Int)/\fr.defers=[]) (fun j=>y.d.kids.length- j) _ ?_ 0 fr M0 ⟨nZ _,c0,h0,.refl,.refl,.refl,f0,f1,f4,f5,fd⟩
 rintro j fr m ⟨hj,c,h,st,se,eq,f0,f1,f4,f5,fd⟩;generalize hX:exec U fP fr m=X;have nG:=(st.k bx lb wb).trans gb;have Gd:=cQ lb st.n;unfold jt at nG;have lP:=h.DB qg;by_cases aH:j<y.d.kids.length
 ·have hc:(j:Int)<(y.d.kids.length:Int):=by omega
  have gP:=aZ (i:=j) (by omega);have e1:y.d.kids.take (j+1)=y.d.kids.take j++[y.d.kids[j]]:=List.take_succ_eq_append_getElem aH;have J6:y.d.kids[j]?=some y.d.kids[j]:=jE aH;have nV:=oX aH;generalize y.d.kids[j]=x at *;obtain⟨x0,x1,x2,x3⟩:=hx x nV;obtain⟨xn,rfl⟩:∃n:Nat,x=(n:Int):=⟨x.toNat,by omega⟩
  obtain⟨yb,yc,yt,yr,Qz,v2,v3,v4⟩:=h.row qg (by intro q;rw[q]at aH;simp at aH);have HE:=ap (n:=y.d.kids.length) (i:=j) (k:=.i64) aH;have LG:(is y.d.kids)[j]?=some (.int .i64 (xn:Int)):=by rw[gp,J6];rfl
  rw[Qz]at nG lP;simp only[fP,f0,f1,f4,f5,fd,nG,Gd,lP,hc,v2,v3,HE,LG,Nat.mul_one,ao,simprocAttr]at hX;generalize hC:run (UT B Ev.K) 70 _ _=C at hX;obtain⟨M2,c2,rfl,h2,s2,se2,BF⟩:=ih h (hF.same se) (by omega) (by omega) x3 hC;clear hC;simp only[f0,f1,f4,f5,fd,gP,ao,simprocAttr]at hX;subst hX;refine bB (j+1) (by omega) ⟨aH,c2,h2,st.trans s2,se.trans se2,?_,by simp[f0,f1,f4,fd,ay]⟩
  rw[e1];exact KW (fun x c=>Xq) eq BF
 ·have hc:¬((j:Int)<(y.d.kids.length:Int)):=by omega
  simp only[fP,f0,f1,f4,f5,fd,nG,Gd,lP,hc,ao,simprocAttr]at hX;subst hX;rw[uP (by omega)]at eq;exact bK ⟨_,_,c,rfl,h,st,se,eq,by simp[f0,f1,f4,fd,ay]⟩
theorem UO{f:Nat}(s:Shape e.toCE)(ih:Yh e f):Yh e (f+1):=by
 intro m fv vv sv sk c i X h hF hi Ty hk hX;rw[cf (by simp[fB])]at hX;obtain⟨y,hy,si,eC,a1,a2,a3,a4,a5,a6,hm⟩:=h.at hi;have hg:=h.g;have hb:=h.lt _ (.inl rfl);have gl:=h.nd.g;have ll:=h.nd.lt;unfold lO CE.lv at hg;simp only[fB,hg,hb,gl,ll,eC,a6,ao,simprocAttr]at hX;obtain⟨M1,qD,h1,s1,g1,l1,w1⟩:=Hf h y;rw[qD,show nb m.next 0=m.next from rfl]at hX;clear qD;obtain⟨ke,k2,k8⟩:=P0 hk (s.kids hi);rw[<- hy]at ke k2 k8 hk;generalize hY:exec _ (.loop fP) _ _=Y at hX;obtain⟨ou,rfl,fr',M2,c1,rfl,h2,s2,se,eq,q0,q1,q4,qd⟩:=cG hY (adi ih hm h1 hF (fun x hx=>by
  have:=s.sQ (i:=i) (x:=x) (by rw[<- hy];exact hx);exact⟨this.1,this.2.2.1,by omega,ke x hx⟩) (by omega) g1 l1 w1 (v1:=.int .i64 (i:Int)) (by simp[ay]) (by simp[ay]) (by simp[ay]) (by simp[ay]) (by simp[ay]))
 clear hY;have uk:=s1.trans s2;have g2:=(s2.k _ l1 w1).trans g1;have l2:=cQ l1 s2.n;have oS:qi e.l (f+1) i c=if (aO (fun x c=>qi e.l f x.toNat c) y.d.kids c).fe=0 then ju e.l i (aO (fun x c=>qi e.l f x.toNat c) y.d.kids c)else aO (fun x c=>qi e.l f x.toNat c) y.d.kids c:=by rw[qi,<- hy]
 have kI:=h2.g;have mC:=h2.lt _ (.inl rfl);unfold lO CE.lv at kI;unfold jt at g2;by_cases eH:c1.fe=0
 ·have Ai:=eq.2.2 eH;rw[<- Ai,if_pos eH]at oS;rw[oS];have II:=h2.gk;have lk2:=h2.lt _ (.inr (.inl rfl));have kh:i<c1.K.length:=by rw[h2.len.1];exact hi
  have kg:i+1<=(is c1.K).length:=by rw[eM];exact kh
  have fm:=fun x=>fX (x:=x) kh
  have hw:=D4 hk;have kk1:(y.d.kind=6\/y.d.kind=7\/y.d.kind=9\/y.d.kind=10)->y.d.kids.length=1:=by
   intro q;have:=s.kids hi;unfold cJ at this;rw[<- hy]at this;rw[if_neg (by omega),if_pos (by omega)]at this;exact this.1
  have kk2:y.d.kind=8->y.d.kids.length=2:=by
   intro q;have:=s.kids hi;unfold cJ at this;rw[<- hy]at this;rw[if_pos (by omega)]at this;exact this.1
  rcases hw with w|w|w|w|w|w|w|w|w|w|w
  ·simp only[q0,q1,q4,qd,kI,mC,g2,l2,eH,fh,fu,w,II,lk2,eC,kg,fm,Nat.mul_one,ao,simprocAttr]at hX;obtain⟨h5,s5⟩:=h2.o7 (i:=i) (x:=1);refine⟨_,_,hX.symm,h5,uk.trans s5,se.trans fq,?_⟩
   unfold ju EN EQ;simp only[<- hy,w,Int.reduceEq,if_false,if_true];exact .refl
  ·simp only[q0,q1,q4,qd,kI,mC,g2,l2,eH,fh,fu,w,II,lk2,eC,kg,fm,Nat.mul_one,ao,simprocAttr]at hX;obtain⟨h5,s5⟩:=h2.o7 (i:=i) (x:=2);refine⟨_,_,hX.symm,h5,uk.trans s5,se.trans fq,?_⟩
   unfold ju EN EQ;simp only[<- hy,w,Int.reduceEq,if_false,if_true];exact .refl
  ·simp only[q0,q1,q4,qd,kI,mC,g2,l2,eH,fh,fu,w,II,lk2,eC,kg,fm,Nat.mul_one,ao,simprocAttr]at hX;obtain⟨h5,s5⟩:=h2.o7 (i:=i) (x:=3);refine⟨_,_,hX.symm,h5,uk.trans s5,se.trans fq,?_⟩
   unfold ju EN EQ;simp only[<- hy,w,Int.reduceEq,if_false,if_true];exact .refl
  ·simp only[q0,q1,q4,qd,kI,mC,g2,l2,eH,fh,fu,w,II,lk2,eC,kg,fm,Nat.mul_one,ao,simprocAttr]at hX;generalize hC:run (UT B Ev.K) 72 _ _=C at hX;obtain⟨M3,k,c3,rfl,h3,s3,uY⟩:=Av (h2.bump 11) hi (by rw[se.X];exact hF.V) hC;clear hC;have jV:=h3.g;have pz:=h3.lt _ (.inl rfl);have tO:=h3.gk;have xP:=h3.lt _ (.inr (.inl rfl));have ahz:i<c3.K.length:=by rw[h3.len.1];exact hi
   have ahA:i+1<=(is c3.K).length:=by rw[eM];exact ahz
   have ag3:=fX (x:=k) ahz;obtain⟨h5,s5⟩:=h3.o7 (i:=i) (x:=k);unfold lO CE.lv at jV;simp only[qd,jV,pz,tO,xP,eC,ahA,ag3,Nat.mul_one,ao,simprocAttr]at hX;refine⟨_,_,hX.symm,h5,((uk.trans bO.bump).trans s3).trans s5,?_,?_⟩
   ·rcases uY with⟨q,_⟩|⟨_,_,q⟩|⟨_,v,_,q,_⟩
    ·exact absurd eH q
    ·rw[q];exact se.trans ⟨by simp[CS.fault],rfl,rfl,rfl,rfl,rfl,rfl,rfl,rfl⟩
    ·rw[q];exact se.trans ⟨by simp,by simp,rfl,rfl,rfl,rfl,rfl,rfl,rfl⟩
   ·unfold ju;simp only[<- hy,w,if_true];rw[<- hy]at uY;rcases uY with⟨q,_⟩|⟨_,q1,q⟩|⟨_,v,q1,q,q2⟩
    ·exact absurd eH q
    ·rw[q1,q];exact⟨rfl,rfl,fun w=>absurd w (by simp[CS.fault])⟩
    ·rw[q1,q,q2];exact .refl
  ·obtain⟨a,b,va⟩:=CR (k2 w);have ha:=s.sQ (i:=i) (x:=a) (by rw[<- hy,va];simp);have sN:=s.sQ (i:=i) (x:=b) (by rw[<- hy,va];simp);obtain⟨an,rfl⟩:∃n:Nat,a=(n:Int):=⟨a.toNat,by omega⟩
   obtain⟨bn,rfl⟩:∃n:Nat,b=(n:Int):=⟨b.toNat,by omega⟩
   simp only[q0,q1,q4,qd,kI,mC,g2,l2,eH,fh,fu,w,ao,simprocAttr]at hX;generalize hC:run (UT B Ev.K) 89 _ _=C at hX;obtain⟨M3,rfl,h3,s3⟩:=UF h2 si va (by omega) (by omega) hC;clear hC;simp only[qd,ao,simprocAttr]at hX;refine⟨_,_,hX.symm,h3,uk.trans s3,se.trans (fq.trans CL),?_⟩
   unfold ju EN EQ kk;simp only[<- hy,w,va,Int.reduceEq,if_false,if_true,List.map_cons,List.map_nil,Int.toNat_natCast];exact Od eH
  ·obtain⟨a,va⟩:=Cp (kk1 (by omega));have ha:=s.sQ (i:=i) (x:=a) (by rw[<- hy,va];simp);obtain⟨an,rfl⟩:∃n:Nat,a=(n:Int):=⟨a.toNat,by omega⟩
   simp only[q0,q1,q4,qd,kI,mC,g2,l2,eH,fh,fu,w,ao,simprocAttr]at hX;generalize hC:run (UT B Ev.K) 90 _ _=C at hX;obtain⟨M3,rfl,h3,s3⟩:=vE h2 si va (by omega) hC;clear hC;simp only[qd,ao,simprocAttr]at hX;refine⟨_,_,hX.symm,h3,uk.trans s3,se.trans pC,?_⟩
   unfold ju EN EQ kk;simp only[<- hy,w,va,Int.reduceEq,if_false,if_true,List.map_cons,List.map_nil,Int.toNat_natCast,List.cons.injEq,and_true];exact wY eH rfl
  ·obtain⟨a,va⟩:=Cp (kk1 (by omega));have ha:=s.sQ (i:=i) (x:=a) (by rw[<- hy,va];simp);obtain⟨an,rfl⟩:∃n:Nat,a=(n:Int):=⟨a.toNat,by omega⟩
   simp only[q0,q1,q4,qd,kI,mC,g2,l2,eH,fh,fu,w,ao,simprocAttr]at hX;generalize hC:run (UT B Ev.K) 90 _ _=C at hX;obtain⟨M3,rfl,h3,s3⟩:=vE h2 si va (by omega) hC;clear hC;simp only[qd,ao,simprocAttr]at hX;refine⟨_,_,hX.symm,h3,uk.trans s3,se.trans pC,?_⟩
   unfold ju EN EQ kk;simp only[<- hy,w,va,Int.reduceEq,if_false,if_true,List.map_cons,List.map_nil,Int.toNat_natCast,List.cons.injEq,and_true];exact wY eH rfl
  ·obtain⟨a,b,va⟩:=CR (kk2 (by omega));have ha:=s.sQ (i:=i) (x:=a) (by rw[<- hy,va];simp);have sN:=s.sQ (i:=i) (x:=b) (by rw[<- hy,va];simp);obtain⟨an,rfl⟩:∃n:Nat,a=(n:Int):=⟨a.toNat,by omega⟩
   obtain⟨bn,rfl⟩:∃n:Nat,b=(n:Int):=⟨b.toNat,by omega⟩
   simp only[q0,q1,q4,qd,kI,mC,g2,l2,eH,fh,fu,w,ao,simprocAttr]at hX;generalize hC:run (UT B Ev.K) 90 _ _=C at hX;obtain⟨M3,rfl,h3,s3⟩:=vE h2 si va (by omega) hC;clear hC;simp only[q0,q1,q4,qd,ao,simprocAttr]at hX;have g3:=(s3.k _ l2 w1).trans g2;have l3:=cQ l2 s3.n;obtain⟨yb,yc,yt,yr,Qz,v2,v3,v4⟩:=h3.row hm (by rw[va];simp);have vW:idx y.d.kids.length (.int .i64 1)=some 1:=ap (i:=1) (by rw[va];simp);have vY:(is y.d.kids)[0+1]?=some (.int .i64 (bn:Int)):=by rw[va];rfl
   have vX:(is y.d.kids)[1]?=some (.int .i64 (bn:Int)):=by rw[va];rfl
   rw[Qz]at g3;simp only[q0,q1,q4,qd,g3,l3,v2,v3,vW,vY,vX,Nat.mul_one,ao,simprocAttr]at hX;generalize hC:run (UT B Ev.K) 71 _ _=C at hX;obtain⟨kx,rfl⟩:=jc h3 (i:=bn) (by omega) hC;clear hC;have hKb:(c1.K.set i 1).getD bn 0=c1.K.getD bn 0:=by rw[List.getD_eq_getElem?_getD,List.getD_eq_getElem?_getD,List.getElem?_set_ne (by omega)]
   have aoa:({c1.bU (c1.K.getD an 0≠3) 11 y.d.pos with K:=c1.K.set i 1}:CS).K.getD bn 0=c1.K.getD bn 0:=hKb;simp only[qd,hKb,aoa,ao,simprocAttr]at hX;generalize hC:run (UT B Ev.K) 44 _ _=C at hX;obtain⟨M5,rfl,h5,s5⟩:=dE (h3.bump kx) hi hC;clear hC;simp only[qd,ao,simprocAttr]at hX;refine⟨_,_,hX.symm,h5,((uk.trans s3).trans bO.bump).trans s5,se.trans (pC.trans CL),?_⟩
   unfold ju EN EQ kk;simp only[<- hy,w,va,Int.reduceEq,if_false,if_true,List.map_cons,List.map_nil,Int.toNat_natCast,List.cons.injEq,and_true];exact Oc eH
  ·obtain⟨a,va⟩:=Cp (kk1 (by omega));have ha:=s.sQ (i:=i) (x:=a) (by rw[<- hy,va];simp);obtain⟨an,rfl⟩:∃n:Nat,a=(n:Int):=⟨a.toNat,by omega⟩
   simp only[q0,q1,q4,qd,kI,mC,g2,l2,eH,fh,fu,w,ao,simprocAttr]at hX;generalize hC:run (UT B Ev.K) 90 _ _=C at hX;obtain⟨M3,rfl,h3,s3⟩:=vE h2 si va (by omega) hC;clear hC;simp only[qd,ao,simprocAttr]at hX;refine⟨_,_,hX.symm,h3,uk.trans s3,se.trans pC,?_⟩
   unfold ju EN EQ kk;simp only[<- hy,w,va,Int.reduceEq,if_false,if_true,List.map_cons,List.map_nil,Int.toNat_natCast,List.cons.injEq,and_true];exact wY eH rfl
  ·obtain⟨a,va⟩:=Cp (kk1 (by omega));have ha:=s.sQ (i:=i) (x:=a) (by rw[<- hy,va];simp);obtain⟨an,rfl⟩:∃n:Nat,a=(n:Int):=⟨a.toNat,by omega⟩
   simp only[q0,q1,q4,qd,kI,mC,g2,l2,eH,fh,fu,w,ao,simprocAttr]at hX;generalize hC:run (UT B Ev.K) 90 _ _=C at hX;obtain⟨M3,rfl,h3,s3⟩:=vE h2 si va (by omega) hC;clear hC;simp only[qd,ao,simprocAttr]at hX;refine⟨_,_,hX.symm,h3,uk.trans s3,se.trans pC,?_⟩
   unfold ju EN EQ kk;simp only[<- hy,w,va,Int.reduceEq,if_false,if_true,List.map_cons,List.map_nil,Int.toNat_natCast,List.cons.injEq,and_true];exact wY eH rfl
  ·simp only[q0,q1,q4,qd,kI,mC,g2,l2,eH,fh,fu,w,ao,simprocAttr]at hX;generalize hC:run (UT B Ev.K) 91 _ _=C at hX;obtain⟨M3,c3,rfl,h3,s3,BZ,se3⟩:=Ri s h2 si w eH (fun x hx=>hF.F x (by rw[<- se.F];exact hx)) (by rw[se.F];exact hF.n) hC;clear hC;simp only[qd,ao,simprocAttr]at hX;exact⟨_,_,hX.symm,h3,uk.trans s3,se.trans se3,BZ⟩
 ·rw[if_neg (by rw[<- eq.1];exact eH)]at oS;rw[oS];simp only[q0,q1,q4,qd,kI,mC,eH,fu,ao,simprocAttr]at hX;exact⟨_,c1,hX.symm,h2,uk,se,eq⟩
theorem UP(s:Shape e.toCE):∀f,Yh e f
 |0=>by intro h hF hi h0;exact absurd h0 (Nat.not_lt_zero _)
 |f+1=>UO s (UP s f)
end
end
section
theorem A4{g:Int->CS->CS}{xs:List Int}{x:Int}{c0 c c':CS}(h:jz c (aO g xs c0))(h':jz c' (if c.fe=0 then g x c else c)):jz c' (aO g (xs++[x]) c0):=by
 rw[jF];by_cases hf:c.fe=0
 ·have:=h.2.2 hf;rw[if_pos hf]at h';rw[<- this,if_pos hf];exact h'
 ·rw[if_neg (by rw[<- h.1];exact hf)];rw[if_neg hf]at h';exact h'.trans h
def OO(e:RE)(nf:Nat)(ok:CS->Prop)(p:Int->Prop)(g:Nat->CS->CS)(w:Nat->Nat)(f q:Nat):Prop:=∀{m:Mem} {fv vv sv sk:EV} {c:CS} {i:Nat} {X:Option Fin},Rk e m fv vv sv sk c->ok c->qa e.toCE c (w i) q->i<e.xs.length->i<f->p (dZ e.l i).kind->run U nf [.ptr e.cb 0,.int .i64 (i:Int)] m=X->∃m' sv' sk' c',X=some (.ret (.tuple []) m')/\Rk e m' fv vv sv' sk' c'/\bO e.toCE m m'/\jz c' (if c.fe=0 then g i c else c)/\bY (w i) c c'
abbrev Yi(e:RE)(g:Nat->CS->CS)(w:Nat->Nat)(f q:Nat):Prop:=OO e tw (fun _=>True) nu g w f q
abbrev Tn(e:RE)(g:Nat->CS->CS)(w:Nat->Nat)(f q:Nat):Prop:=OO e rT (fun c=>c.fe=0) (· =23) g w f q
section
variable {e:RE} {m m' M0:Mem} {fv vv sv sk sv' sk' vv' LA LC:EV} {c c' c0:CS}
theorem adl{g:Nat->CS->CS}{w:Nat->Nat}{f q:Nat}(go:Yi e g w f q){i:Nat}{y:Nv}(si:e.xs[i]?=some y)(sR:∀x∈y.d.kids,0<=x/\x.toNat<e.xs.length/\x.toNat<f/\nu (ee e.l x).kind)(hl:y.d.kids.length<1000000)(hF:qa e.toCE c0 (dH (y.d.kids.map fun x=>w x.toNat)) q)(h0:Rk e M0 fv vv LA LC c0){fr:Fr}
  (f0:fr.get 0=.ptr e.cb 0) (f1:fr.get 1=.int .i64 (i:Int)) (f4:fr.get 4=.int .i64 0) (fd:fr.defers=[]) :
  ∃ou,exec U (.loop fD) fr M0=some ou/\∃fr' m' sv sk c',ou=.exit 0 fr' m'/\Rk e m' fv vv sv sk c'/\bO e.toCE M0 m'/\jz c' (aO (fun x c=>g x.toNat c) y.d.kids c0)/\bY (dH (y.d.kids.map fun x=>w x.toNat)) c0 c'/\fr'.get 0=.ptr e.cb 0/\fr'.defers=[]:=by
 have qg:y∈e.xs:=List.mem_of_getElem? si;have hi:=(mu.1 si).1;refine dr (σ:=Nat) (fun j fr m=>j<=y.d.kids.length/\∃sv sk c,Rk e m fv vv sv sk c/\bO e.toCE M0 m/\jz c (aO (fun x c=>g x.toNat c) (y.d.kids.take j) c0)/\bY (dH ((y.d.kids.take j).map fun x=>w x.toNat)) c0 c/\fr.get 0=.ptr e.cb 0/\fr.get 1=.int .i64 (i:Int)/\fr.get 4=.int .i64 (j:Int)/\fr.defers=[]) (fun j=>y.d.kids.length- j) _ ?_ 0 fr M0 ⟨nZ _,LA,LC,c0,h0,.refl,.refl,.refl,f0,f1,f4,fd⟩
 rintro j fr m ⟨hj,sv,sk,c,h,st,eq,sm,f0,f1,f4,fd⟩;generalize hX:exec U fD fr m=X;obtain⟨y',hy,vV,eC,a1,a2,a3,a4,a5,a6,hm⟩:=h.at hi;obtain rfl:y'=y:=by rw[si]at vV;cases vV;rfl
 have hg:=h.g;have hb:=h.lt _ (.inl rfl);have gl:=h.nd.g;have ll:=h.nd.lt;unfold lO CE.lv at hg;have lP:=h.DB qg;by_cases aH:j<y'.d.kids.length
 ·have hc:(j:Int)<(y'.d.kids.length:Int):=by omega
  have gP:=aZ (i:=j) (by omega);have e1:y'.d.kids.take (j+1)=y'.d.kids.take j++[y'.d.kids[j]]:=List.take_succ_eq_append_getElem aH;have J6:y'.d.kids[j]?=some y'.d.kids[j]:=jE aH;have nV:=oX aH;have NG:=yG (w:=fun x=>w x.toNat) J6;generalize y'.d.kids[j]=x at *;obtain⟨x0,x1,x2,x3⟩:=sR x nV;obtain⟨xn,rfl⟩:∃n:Nat,x=(n:Int):=⟨x.toNat,by omega⟩
  obtain⟨yb,yc,yt,yr,Qz,v2,v3,v4⟩:=h.row qg (by intro q;rw[q]at aH;simp at aH);have HE:=ap (n:=y'.d.kids.length) (i:=j) (k:=.i64) aH;have LG:(is y'.d.kids)[j]?=some (.int .i64 (xn:Int)):=by rw[gp,J6];rfl
  rw[Qz]at a2 lP;simp only[fD,f0,f1,f4,fd,hg,hb,gl,ll,eC,a2,lP,hc,v2,v3,HE,LG,Nat.mul_one,ao,simprocAttr]at hX;generalize hC:run (UT B Ev.K) 47 _ _=C at hX;obtain⟨M2,Yv,Uy,c2,rfl,h2,s2,BF,Cl⟩:=go h trivial (hF.step sm NG (cR _)) (by omega) (by omega) x3 hC;clear hC;simp only[f0,f1,f4,fd,gP,ao,simprocAttr]at hX;subst hX;refine bB (j+1) (by omega) ⟨aH,Yv,Uy,c2,h2,st.trans s2,?_,by rw[e1,tc];exact sm.trans Cl,by simp[f0,f1,fd,ay]⟩
  rw[e1];exact A4 eq BF
 ·have hc:¬((j:Int)<(y'.d.kids.length:Int)):=by omega
  simp only[fD,f0,f1,f4,fd,hg,hb,gl,ll,eC,a2,lP,hc,ao,simprocAttr]at hX;subst hX;rw[uP (by omega)]at eq sm;exact bK ⟨_,_,sv,sk,c,rfl,h,st,eq,sm,by simp[f0,fd,ay]⟩
theorem U0(s:Shape e.toCE){f q:Nat}(go:Yi e (nv e.l f) (dM e.l f) f q):Tn e (nv e.l (f+1)) (dM e.l (f+1)) (f+1) (q+1):=by
 intro m fv vv sv sk c i X h hf hF hi Ty hk hX;rw[cf (by simp[eY])]at hX;have hf:c.fe=0:=hf;rw[if_pos hf];obtain⟨y,hy,si,eC,a1,a2,a3,a4,a5,a6,hm⟩:=h.at hi;have hld:e.l[i]?=some y.d:=by unfold CE.l;rw[List.getElem?_map,si];rfl
 have tI:=s.kids hi;have DL:y.d.kind=23:=by rw[hy];exact hk
 unfold cJ at tI;rw[<- hy,DL]at tI;simp only[Int.reduceEq,or_self,if_false,if_true]at tI;have hw:dM e.l (f+1) i=ow y.d+dH (y.d.kids.map fun x=>dM e.l f x.toNat):=vw hld;have LH:100<=ow y.d:=by unfold ow;omega
 have hg:=h.g;have hb:=h.lt _ (.inl rfl);have Ff:IntKind.i64.wrap (c.X.D+1)=c.X.D+1:=wrap_i64 (by have:=hF.D;omega) (by have:=hF.d;have:=hF.l;omega);obtain⟨h1,s1⟩:=h.rG (vv':=vv) (c':={c with X:=c.X.open_}) rfl rfl rfl rfl rfl rfl;have hl1:=s1.n;unfold lO CE.lv at hg;simp only[eY,hg,hb,Ff,ao,simprocAttr]at hX;have rh:qa e.toCE {c with X:=c.X.open_} (dH (y.d.kids.map fun x=>dM e.l f x.toNat)) q:=⟨by have:=hF.D;simp only[Mo.open_];omega,by have:=hF.d;simp only[Mo.open_];omega,hF.ok.open_,hF.vk,by have:=hF.kn;simp only[Mo.open_];omega,hF.F,hF.n,hF.l⟩;generalize hY:exec _ (.loop fD) _ _=Y at hX;obtain⟨ou,rfl,fr',M2,Yv,Uy,c2,rfl,h2,Un,BF,Cl,f0,fd⟩:=cG hY (adl go si (fun x hx=>by
  have Cy:x∈(dZ e.l i).kids:=by rw[<- hy];exact hx
  obtain⟨b1,b2,b3,_⟩:=s.sQ Cy;exact⟨b1,b3,by omega,by rw[<- iR];exact tI x hx⟩) (s.k y hm) rh h1 (by simp[ay]) (by simp[ay]) (by simp[ay]) (by simp[ay]))
 clear hY;have kI:=h2.g;have mC:=h2.lt _ (.inl rfl);have wW:=b9 h2.sV;have HN:=b9 h2.sK;have jr:=rh.step (w':=0) (q':=q) Cl (by omega) (cR _);unfold lO CE.lv at kI;simp only[f0,fd,kI,mC,wW,HN,ao,simprocAttr]at hX;generalize hC:run (UT B Ev.K) 48 _ _=C at hX;obtain⟨v',M3,hq,sg,n3,k3⟩:=yQ (m:=M2) (x:=c2.X) (by have:=jr.vk;have:=jr.kn;omega) ⟨by have:=jr.D;omega,by have:=jr.d;have:=jr.l;omega⟩ h2.sV h2.sK;obtain rfl:=hC.symm.trans hq;clear hC hq;have h3:=h2.same n3 k3;have jV:=h3.g;have pz:=h3.lt _ (.inl rfl);have Sq:=b9 sg;obtain⟨h4,s4⟩:=h3.ac4 (vv':=vv) (sv':=v') (sk':=Uy) (c':={c2 with X:=c2.X.close}) rfl rfl rfl rfl sg.lo0 h3.sK (fun b hb q=>by have:=h2.lt _ q;have:=(sg.lT hb).1;omega) h3.kf;unfold lO CE.lv at jV;simp only[fd,jV,pz,Sq,HN,ao,simprocAttr]at hX;refine⟨_,_,_,_,hX.symm,h4,((s1.trans Un).trans (.bJ n3 k3)).trans s4,?_,?_⟩
 ·rw[FJ hk,<- hy];exact Gz BF
 ·rw[hw];exact(nz Cl hF.D).iY (by omega)
end
end
section
def yI:ar->ar| .seq a _=>a|_=>.skip
def qx:ar->ar| .seq _ b=>b|_=>.skip
def sA:ar:=yI aE.body
def sL:ar:=yI (qx aE.body)
def sC:ar:=yI (qx (qx aE.body))
def sW:ar:=yI (qx (qx (qx aE.body)))
def sT:ar:=qx (qx (qx (qx aE.body)))
theorem Za:aE.body=.seq sA (.seq sL (.seq sC (.seq sW sT))):=rfl
section
variable {e:RE} {m m' M0:Mem} {fv vv sv sk sv' sk' vv' LA LC:EV} {c c' c0:CS}
theorem adf{f:Nat}(ih:Yh e f){y:Nv}(qg:y∈e.xs)(h0:Rk e M0 fv vv sv sk c0)(hF:Fit e.toCE c0)(hx:∀x∈y.d.kids,0<=x/\x.toNat<e.xs.length/\x.toNat<f)(ke:∀x∈cu y.d,lu (ee e.l x).kind)(kb:∀x∈cd y.d,(ee e.l x).kind=23)(hn:y.d.kids.length<1000000){v1:EV}
  {bx t1:Nat} (gb:M0.get bx=.cells (jt y) 5 t1 false) (lb:bx<M0.next) (wb:¬e.W bx) {fr:Fr} (f0:fr.get 0=.ptr e.cb 0) (f1:fr.get 1=v1) (f4:fr.get 4=.ptr bx 0) (f5:fr.get 5=.int .i64 0) (fd:fr.defers=[]) :
  ∃ou,exec U (.loop eS) fr M0=some ou/\∃fr' m' c',ou=.exit 0 fr' m'/\Rk e m' fv vv sv sk c'/\bO e.toCE M0 m'/\gI c0 c'/\jz c' (aO (fun x c=>qi e.l f x.toNat c) (cu y.d) c0)/\fr'.get 0=.ptr e.cb 0/\fr'.get 1=v1/\fr'.get 4=.ptr bx 0/\fr'.defers=[]:=by
 have xg:(cu y.d).length=y.d.kids.length- vH y.d:=by unfold cu;rw[List.length_take];omega
 have hek:∀j:Nat,j<(cu y.d).length->(cu y.d)[j]?=y.d.kids[j]?:=fun j hj=>by
  unfold cu at hj⊢;rw[List.length_take]at hj;rw[List.getElem?_take,if_pos (by omega)]
 refine dr (σ:=Nat) (fun j fr m=>j<=(cu y.d).length/\∃c,Rk e m fv vv sv sk c/\bO e.toCE M0 m/\gI c0 c/\jz c (aO (fun x c=>qi e.l f x.toNat c) ((cu y.d).take j) c0)/\fr.get 0=.ptr e.cb 0/\fr.get 1=v1/\fr.get 4=.ptr bx 0/\fr.get 5=.int .i64 (j:Int)/\fr.defers=[]) (fun j=>(cu y.d).length- j) _ ?_ 0 fr M0 ⟨nZ _,c0,h0,.refl,.refl,.refl,f0,f1,f4,f5,fd⟩
 rintro j fr m ⟨hj,c,h,st,se,eq,f0,f1,f4,f5,fd⟩;generalize hX:exec U eS fr m=X;have nG:=(st.k bx lb wb).trans gb;have Gd:=cQ lb st.n;unfold jt at nG;have lP:=h.DB qg;have hg:=h.g;have hb:=h.lt _ (.inl rfl);have gl:=h.nd.g;have ll:=h.nd.lt;unfold lO CE.lv at hg;by_cases aH:j<(cu y.d).length
 ·have zj:j<y.d.kids.length:=by omega
  have hc:(j:Int)<(y.d.kids.length:Int):=by omega
  have gP:=aZ (i:=j) (by omega);have e1:(cu y.d).take (j+1)=(cu y.d).take j++[(cu y.d)[j]]:=List.take_succ_eq_append_getElem aH;have Z2:(cu y.d)[j]?=some (cu y.d)[j]:=jE aH;have J6:y.d.kids[j]?=some (cu y.d)[j]:=(hek j aH).symm.trans Z2;have Sf:=oX aH;generalize (cu y.d)[j]=x at *;have nV:x∈y.d.kids:=List.mem_of_getElem? J6;obtain⟨x0,x1,x2⟩:=hx x nV;have x3:=ke x Sf;obtain⟨xn,rfl⟩:∃n:Nat,x=(n:Int):=⟨x.toNat,by omega⟩
  obtain⟨yb,yc,yt,yr,Qz,v2,v3,v4⟩:=h.row qg (by intro q;rw[q]at zj;simp at zj);have HE:=ap (n:=y.d.kids.length) (i:=j) (k:=.i64) zj;have LG:(is y.d.kids)[j]?=some (.int .i64 (xn:Int)):=by rw[gp,J6];rfl
  obtain⟨u,hu,hui,BR,b1,b2,b3,b4,b5,b6,hum⟩:=h.at (i:=xn) (by omega);have huk:¬u.d.kind=23:=by
   have:(ee e.l (xn:Int)).kind=u.d.kind:=by rw[hu];rfl
   rw[this]at x3;intro q;rw[q]at x3;exact absurd x3.2 (by decide)
  rw[Qz]at nG lP;simp only[eS,f0,f1,f4,f5,fd,hg,hb,gl,ll,nG,Gd,lP,hc,v2,v3,HE,LG,BR,b1,huk,Nat.mul_one,ao,simprocAttr]at hX;generalize hC:run (UT B Ev.K) 70 _ _=C at hX;obtain⟨M2,c2,rfl,h2,s2,se2,BF⟩:=ih (i:=xn) (h.bump 20) (hF.same se) (by omega) (by omega) x3 hC;clear hC;simp only[f0,f1,f4,f5,fd,gP,ao,simprocAttr]at hX;subst hX;refine bB (j+1) (by omega) ⟨aH,c2,h2,(st.trans bO.bump).trans s2,se.trans se2,?_,by simp[f0,f1,f4,fd,ay]⟩
  rw[e1];exact KW (fun x c=>Xq) eq BF
 ·obtain rfl:j=(cu y.d).length:=by omega
  rw[List.take_length]at eq;by_cases zj:(cu y.d).length<y.d.kids.length
  ·have hc:((cu y.d).length:Int)<(y.d.kids.length:Int):=by omega
   have J6:y.d.kids[(cu y.d).length]?=some y.d.kids[(cu y.d).length]:=jE zj;have hxb:y.d.kids[(cu y.d).length]∈cd y.d:=by
    unfold cd;rw[<- xg];exact List.mem_of_getElem? (i:=0) (by rw[List.getElem?_drop,Nat.add_zero];exact J6)
   have nV:=oX zj;generalize y.d.kids[(cu y.d).length]=x at *;obtain⟨x0,x1,x2⟩:=hx x nV;have x3:=kb x hxb;obtain⟨xn,rfl⟩:∃n:Nat,x=(n:Int):=⟨x.toNat,by omega⟩
   obtain⟨yb,yc,yt,yr,Qz,v2,v3,v4⟩:=h.row qg (by intro q;rw[q]at zj;simp at zj);have HE:=ap (n:=y.d.kids.length) (i:=(cu y.d).length) (k:=.i64) zj;have LG:(is y.d.kids)[(cu y.d).length]?=some (.int .i64 (xn:Int)):=by rw[gp,J6];rfl
   obtain⟨u,hu,hui,BR,b1,b2,b3,b4,b5,b6,hum⟩:=h.at (i:=xn) (by omega);have huk:u.d.kind=23:=by
    have:(ee e.l (xn:Int)).kind=u.d.kind:=by rw[hu];rfl
    rw[this]at x3;exact x3
   rw[Qz]at nG lP;simp only[eS,f0,f1,f4,f5,fd,hg,hb,gl,ll,nG,Gd,lP,hc,v2,v3,HE,LG,BR,b1,huk,Nat.mul_one,ao,simprocAttr]at hX;subst hX;refine bK ⟨_,_,c,rfl,?_,?_,se,eq,by simp[f0,f1,f4,fd,ay]⟩
   ·exact h.bump _
   ·exact st.trans bO.bump
  ·have hc:¬(((cu y.d).length:Int)<(y.d.kids.length:Int)):=by omega
   simp only[eS,f0,f1,f4,f5,fd,nG,Gd,lP,hc,ao,simprocAttr]at hX;subst hX;refine bK ⟨_,_,c,rfl,?_,?_,se,eq,by simp[f0,f1,f4,fd,ay]⟩
   ·exact h.bump _
   ·exact st.trans bO.bump
end
end
section
theorem Dh{g:Int->CS->CS}:∀(a b:List Int) (c:CS),aO g (a++b) c=aO g b (aO g a c)
 |[],b,c=>rfl
 |x::a,b,c=>by rw[List.cons_append,ny,ny];exact Dh a b _
section
variable {e:RE} {m m' M0:Mem} {fv vv sv sk sv' sk' vv' LA LC:EV} {c c' c0:CS}
theorem MK{g:Nat->CS->CS}{w:Nat->Nat}{f q:Nat}(bl:Tn e g w f q){y:Nv}(qg:y∈e.xs)(hx:∀x∈y.d.kids,0<=x/\x.toNat<e.xs.length/\x.toNat<f)(ke:∀x∈cu y.d,lu (ee e.l x).kind)(kb:∀x∈cd y.d,(ee e.l x).kind=23)(hn:y.d.kids.length<1000000)(hF:qa e.toCE c0 (dH ((cd y.d).map fun x=>w x.toNat)) q)(h0:Rk e M0 fv vv LA LC c0){v1:EV}
  {bx t1:Nat} (gb:M0.get bx=.cells (jt y) 5 t1 false) (lb:bx<M0.next) (wb:¬e.W bx) {fr:Fr} (f0:fr.get 0=.ptr e.cb 0) (f1:fr.get 1=v1) (f4:fr.get 4=.ptr bx 0) (f8:fr.get 8=.int .i64 0) (fd:fr.defers=[]) :
  ∃ou,exec U (.loop cO) fr M0=some ou/\∃fr' m' sv sk c',ou=.exit 3 fr' m'/\Rk e m' fv vv sv sk c'/\bO e.toCE M0 m'/\jz c' (aO (fun x c=>g x.toNat c) (cd y.d) c0)/\bY (dH ((cd y.d).map fun x=>w x.toNat)) c0 c'/\fr'.get 0=.ptr e.cb 0/\fr'.get 1=v1/\fr'.get 4=.ptr bx 0/\fr'.defers=[]:=by
 obtain⟨n,hnn⟩:∃n,n=y.d.kids.length- vH y.d:=⟨_,rfl⟩
 have xT:cd y.d=y.d.kids.drop n:=by rw[hnn];rfl
 have hex:cu y.d=y.d.kids.take n:=by rw[hnn];rfl
 refine dr (σ:=Nat) (fun j fr m=>j<=y.d.kids.length/\∃sv sk c,Rk e m fv vv sv sk c/\bO e.toCE M0 m/\jz c (aO (fun x c=>g x.toNat c) ((cd y.d).take (j- n)) c0)/\bY (dH (((cd y.d).take (j- n)).map fun x=>w x.toNat)) c0 c/\fr.get 0=.ptr e.cb 0/\fr.get 1=v1/\fr.get 4=.ptr bx 0/\fr.get 8=.int .i64 (j:Int)/\fr.defers=[]) (fun j=>y.d.kids.length- j) _ ?_ 0 fr M0 ⟨nZ _,LA,LC,c0,h0,.refl,by rw[Nat.zero_sub];exact .refl,by rw[Nat.zero_sub];exact .refl,f0,f1,f4,f8,fd⟩
 rintro j fr m ⟨hj,sv,sk,c,h,st,eq,sm,f0,f1,f4,f8,fd⟩;generalize hX:exec U cO fr m=X;have nG:=(st.k bx lb wb).trans gb;have Gd:=cQ lb st.n;unfold jt at nG;have lP:=h.DB qg;have hg:=h.g;have hb:=h.lt _ (.inl rfl);have gl:=h.nd.g;have ll:=h.nd.lt;unfold lO CE.lv at hg;have adZ:∀k,dH (((cd y.d).take k).map fun x=>w x.toNat)<=dH ((cd y.d).map fun x=>w x.toNat):=fun k=>by
  have e1:(cd y.d)=(cd y.d).take k++(cd y.d).drop k:=(List.take_append_drop k _).symm
  conv=>rhs;rw[e1]
  rw[List.map_append,qT];omega
 by_cases aH:j<y.d.kids.length
 ·have hc:(j:Int)<(y.d.kids.length:Int):=by omega
  have gP:=aZ (i:=j) (by omega);by_cases hf:c.fe=0
  ·have J6:y.d.kids[j]?=some y.d.kids[j]:=jE aH;have nV:=oX aH;generalize y.d.kids[j]=x at *;obtain⟨x0,x1,x2⟩:=hx x nV;obtain⟨xn,rfl⟩:∃n:Nat,x=(n:Int):=⟨x.toNat,by omega⟩
   obtain⟨yb,yc,yt,yr,Qz,v2,v3,v4⟩:=h.row qg (by intro q;rw[q]at aH;simp at aH);have HE:=ap (n:=y.d.kids.length) (i:=j) (k:=.i64) aH;have LG:(is y.d.kids)[j]?=some (.int .i64 (xn:Int)):=by rw[gp,J6];rfl
   obtain⟨u,hu,hui,BR,b1,b2,b3,b4,b5,b6,hum⟩:=h.at (i:=xn) (by omega);have agX:(ee e.l (xn:Int)).kind=u.d.kind:=by rw[hu];rfl
   rw[Qz]at nG lP;by_cases hjn:j<n
   ·have Sf:(xn:Int)∈cu y.d:=by
     rw[hex];exact List.mem_of_getElem? (i:=j) (by rw[List.getElem?_take,if_pos hjn];exact J6)
    have x3:=ke _ Sf;rw[agX]at x3;have huk:¬u.d.kind=23:=fun q=>by rw[q]at x3;exact absurd x3.2 (by decide)
    simp only[cO,f0,f1,f4,f8,fd,hg,hb,gl,ll,nG,Gd,lP,hc,hf,fu,v2,v3,HE,LG,BR,b1,huk,gP,Nat.mul_one,ao,simprocAttr]at hX;subst hX;refine bB (j+1) (by omega) ⟨aH,sv,sk,c,?_,?_,by rw[show j+1- n=j- n by omega];exact eq,by rw[show j+1- n=j- n by omega];exact sm,by simp[f0,f1,f4,fd,ay]⟩
    ·exact h.bump _
    ·exact st.trans bO.bump
   ·have adW:(cd y.d)[j- n]?=some (xn:Int):=by rw[xT,List.getElem?_drop,show n+(j- n)=j by omega];exact J6
    have x3:=kb _ (List.mem_of_getElem? adW);have huk:u.d.kind=23:=agX▸x3;have NG:=yG (w:=fun x=>w x.toNat) adW;have e1:(cd y.d).take (j+1- n)=(cd y.d).take (j- n)++[(xn:Int)]:=by
     rw[show j+1- n=(j- n)+1 by omega,List.take_add_one,adW];rfl
    simp only[cO,f0,f1,f4,f8,fd,hg,hb,gl,ll,nG,Gd,lP,hc,hf,fu,v2,v3,HE,LG,BR,b1,huk,gP,Nat.mul_one,ao,simprocAttr]at hX;generalize hC:run (UT B Ev.K) 29 _ _=C at hX;obtain⟨M2,Yv,Uy,c2,rfl,h2,s2,BF,Cl⟩:=bl (i:=xn) (h.bump 13) hf (hF.step sm NG (cR _)) (by omega) (by omega) x3 hC;clear hC;simp only[f0,f1,f4,f8,fd,gP,ao,simprocAttr]at hX;subst hX;refine bB (j+1) (by omega) ⟨aH,Yv,Uy,c2,h2,(st.trans bO.bump).trans s2,?_,by rw[e1,tc];exact sm.trans Cl,by simp[f0,f1,f4,fd,ay]⟩
    rw[e1];exact A4 eq BF
  ·simp only[cO,f0,f1,f4,f8,fd,hg,hb,nG,Gd,lP,hc,hf,fh,ao,simprocAttr]at hX;subst hX;refine bK ⟨_,_,sv,sk,c,rfl,?_,?_,?_,sm.iY (adZ _),by simp[f0,f1,f4,fd,ay]⟩
   ·first|exact h|exact h.bump _
   ·first|exact st|exact st.trans bO.bump
   ·have e1:(cd y.d)=(cd y.d).take (j- n)++(cd y.d).drop (j- n):=(List.take_append_drop _ _).symm;rw[e1,Dh,kZ (by rw[<- eq.1];exact hf)];exact eq
 ·have hc:¬((j:Int)<(y.d.kids.length:Int)):=by omega
  simp only[cO,f0,f1,f4,f8,fd,nG,Gd,lP,hc,ao,simprocAttr]at hX;subst hX;have ht:(cd y.d).take (j- n)=cd y.d:=uP (by rw[xT,OZ];omega);rw[ht]at eq sm;refine bK ⟨_,_,sv,sk,c,rfl,?_,?_,eq,sm,by simp[f0,f1,f4,fd,ay]⟩
  ·first|exact h|exact h.bump _
  ·first|exact st|exact st.trans bO.bump
end
end
section
def yE(l:List Nd)(f i:Nat)(c:CS):CS:=
 let d:=dZ l i
 let g:=fun(x:Int) c=>nv l f x.toNat c
 if d.kind=17 then
  let c2:CS:={c with X:=c.X.open_}
  let c3:=if c2.fe=0 then eK l i 1 c2 else c2
  let c4:=aO g (cd d) {c3 with L:=c3.L+1}
  {c4 with L:=c4.L- 1,X:=c4.X.close}
 else if d.kind=16 then
  let c4:=aO g (cd d) {c with L:=c.L+1}
  {c4 with L:=c4.L- 1}
 else aO g (cd d) c
theorem aiy{c d:CS}(h:jz c d):jz {c with L:=c.L- 1} {d with L:=d.L- 1}:=⟨h.1,h.2.1,fun q=>by rw[h.2.2 q]⟩
theorem aeH{c d:CS}(h:jz c d):jz {c with L:=c.L- 1,X:=c.X.close} {d with L:=d.L- 1,X:=d.X.close}:=⟨h.1,h.2.1,fun q=>by rw[h.2.2 q]⟩
section
variable {e:RE} {m m' M0:Mem} {fv vv sv sk sv' sk' vv' LA LC:EV} {c c' c0:CS}
theorem MP{q w:Nat}(h:Rk e m fv vv sv sk c)(hF:qa e.toCE c w q){C:Option Fin}(hC:run U vL [.agg [sv,sk,.int .i64 c.X.D]] m=C) :
  ∃v' M3,C=some (.ret (.agg [v',sk,.int .i64 (c.X.D- 1)]) M3)/\Rk e M3 fv vv sv sk c/\bO e.toCE m M3/\v'.cells=some [v']/\sk.cells=some [sk]/\Rk e (M3.set e.cb (.cells (lO e fv vv v' sk {c with X:=c.X.close}) 14 ax false)) fv vv v' sk {c with X:=c.X.close}/\bO e.toCE m (M3.set e.cb (.cells (lO e fv vv v' sk {c with X:=c.X.close}) 14 ax false)):=by
 obtain⟨v',M3,hq,sg,n3,k3⟩:=yQ (m:=m) (x:=c.X) (by have:=hF.vk;have:=hF.kn;omega) ⟨by have:=hF.D;omega,by have:=hF.d;have:=hF.l;omega⟩ h.sV h.sK;obtain rfl:=hC.symm.trans hq;have h3:=h.same n3 k3;obtain⟨h4,s4⟩:=h3.ac4 (vv':=vv) (sv':=v') (sk':=sk) (c':={c with X:=c.X.close}) rfl rfl rfl rfl sg.lo0 h3.sK (fun b hb q=>by have:=h.lt _ q;have:=(sg.lT hb).1;omega) h3.kf;exact⟨v',M3,rfl,h3,.bJ n3 k3,b9 sg,b9 h.sK,h4,(bO.bJ n3 k3).trans s4⟩
theorem UG(s:Shape e.toCE){f q:Nat}(bl:Tn e (nv e.l f) (dM e.l f) f q){i:Nat}{y:Nv}(si:e.xs[i]?=some y)(hx:∀x∈y.d.kids,0<=x/\x.toNat<e.xs.length/\x.toNat<f)(ke:∀x∈cu y.d,lu (ee e.l x).kind)(kb:∀x∈cd y.d,(ee e.l x).kind=23)(h:Rk e m fv vv sv sk c)(hF:qa e.toCE c (1+dH ((cd y.d).map fun x=>dM e.l f x.toNat)) (q+2))
  {bx t1:Nat} (gb:m.get bx=.cells (jt y) 5 t1 false) (lb:bx<m.next) (wb:¬e.W bx) {fr:Fr} (f0:fr.get 0=.ptr e.cb 0) (f1:fr.get 1=.int .i64 (i:Int)) (f4:fr.get 4=.ptr bx 0) (fd:fr.defers=[]) {X:Option Out} (hX:exec U sT fr m=X) :
  ∃fr' m' sv' sk' c',X=some (.norm fr' m')/\Rk e m' fv vv sv' sk' c'/\bO e.toCE m m'/\jz c' (yE e.l f i c)/\bY (1+dH ((cd y.d).map fun x=>dM e.l f x.toNat)) c c'/\fr'.defers=[]:=by
 have hi:=(mu.1 si).1;obtain⟨y',hy,vV,eC,a1,a2,a3,a4,a5,a6,hm⟩:=h.at hi;obtain rfl:y'=y:=by rw[si]at vV;cases vV;rfl
 have uW:=s.k y' hm;have hg:=h.g;have hb:=h.lt _ (.inl rfl);have nG:=gb;unfold lO CE.lv at hg;unfold jt at nG;have Ff:IntKind.i64.wrap (c.X.D+1)=c.X.D+1:=wrap_i64 (by have:=hF.D;omega) (by have:=hF.d;have:=hF.l;omega);have hL1:IntKind.i64.wrap (c.L+1)=c.L+1:=wrap_i64 (by have:=hF.l;omega) (by have:=hF.d;have:=hF.D;omega);have LN:bx≠e.cb:=fun q=>wb (.inl q)
 by_cases LF:y'.d.kind=17
 ·obtain⟨h1,s1⟩:=h.rG (vv':=vv) (c':={c with X:=c.X.open_}) rfl rfl rfl rfl rfl rfl;have gb1:=(s1.k bx lb wb).trans gb;have lb1:=cQ lb s1.n;simp only[sT,qx,aE,f0,f1,f4,fd,hg,hb,nG,lb,LF,Ff,ao,simprocAttr]at hX;generalize hC:run (UT B Ev.K) 28 _ _=C at hX;obtain⟨M2,Yv,Uy,rfl,h2,s2⟩:=Ax h1 hi (by have:=hF.vk;have:=hF.kn;simp only[Mo.open_];omega) (by have:=hF.kn;simp only[Mo.open_];omega) hC;clear hC;obtain⟨c3,j8⟩:∃c3:CS,c3=(if ({c with X:=c.X.open_}:CS).fe=0 then eK e.l i 1 {c with X:=c.X.open_}else{c with X:=c.X.open_}):=⟨_,rfl⟩
  have My:bY 1 {c with X:=c.X.open_} c3:=by
   rw[j8];split
   ·exact pk
   ·exact bY.refl.iY (by omega)
  rw[<- j8]at h2;have DS:=(s2.k bx lb1 wb).trans gb1;have lb2:=cQ lb1 s2.n;have kI:=h2.g;have mC:=h2.lt _ (.inl rfl);have hL3:c3.L=c.L:=My.L;have an9:IntKind.i64.wrap (c3.L+1)=c3.L+1:=by rw[hL3];exact hL1
  obtain⟨h3,s3⟩:=h2.rG (vv':=vv) (c':={c3 with L:=c3.L+1}) rfl rfl rfl rfl rfl rfl;have TJ:=(s3.k bx lb2 wb).trans DS;have lb3:=cQ lb2 s3.n;have NS:qa e.toCE {c with X:=c.X.open_} (1+dH ((cd y'.d).map fun x=>dM e.l f x.toNat)) (q+1):=⟨by have:=hF.D;simp only[Mo.open_];omega,by have:=hF.d;simp only[Mo.open_];omega,hF.ok.open_,hF.vk,hF.kn,hF.F,hF.n,hF.l⟩;have DP:=NS.step (w':=dH ((cd y'.d).map fun x=>dM e.l f x.toNat)) (q':=q+1) My (cR _) (cR _);have TI:qa e.toCE {c3 with L:=c3.L+1} (dH ((cd y'.d).map fun x=>dM e.l f x.toNat)) q:=⟨DP.D,by have:=DP.d;simp only;omega,DP.ok,DP.vk,DP.kn,DP.F,DP.n,by have:=DP.l;simp only;omega⟩;have aav:=DS;unfold lO CE.lv at kI;unfold jt at aav;simp only[f0,f1,f4,fd,kI,mC,aav,lb2,LF,an9,ao,simprocAttr]at hX;generalize hY:exec _ (.loop cO) _ _=Y at hX;obtain⟨ou,rfl,HV,M4,sv4,sk4,c4,rfl,h4,s4,KX,Uw,q0,q1,q4,qd⟩:=cG hY (MK bl hm hx ke kb uW TI h3 TJ lb3 wb (v1:=.int .i64 (i:Int)) (by simp[f0,ay]) (by simp[f1,ay]) (by simp[f4,ay]) (by simp[ay]) (by simp[fd,ay]));clear hY;have W9:=(s4.k bx lb3 wb).trans TJ;have lb4:=cQ lb3 s4.n;have nW:=h4.g;have uZ:=h4.lt _ (.inl rfl);have hL5:IntKind.i64.wrap (c4.L- 1)=c4.L- 1:=by
   have:c4.L=c3.L+1:=Uw.L;rw[wrap_i64 (by have:=hF.l;omega) (by have:=hF.d;have:=hF.D;have:=hF.l;omega)]
  obtain⟨h5,s5⟩:=h4.rG (vv':=vv) (c':={c4 with L:=c4.L- 1}) rfl rfl rfl rfl rfl rfl;have gb5:=fun x=>(af (m:=M4) (x:=x) LN).trans W9
  have lb5:=cQ lb4 s5.n;have wW:=b9 h5.sV;have HN:=b9 h5.sK;unfold lO CE.lv at nW;unfold jt at W9 gb5;simp only[q0,q1,q4,qd,nW,uZ,W9,gb5,lb4,LF,hL5,wW,HN,ao,simprocAttr]at hX;generalize hC:run (UT B Ev.K) 48 _ _=C at hX;have hF5:qa e.toCE {c4 with L:=c4.L- 1} 0 0:=(DP.step (w':=0) (q':=0) Uw.loop (by omega) (by omega));obtain⟨v',M6,rfl,h6,s6,Sq,aai,h7,s7⟩:=MP h5 hF5 hC;clear hC;have YK:=h6.g;have TE:=h6.lt _ (.inl rfl);unfold lO CE.lv at YK;simp only[qd,YK,TE,Sq,aai,ao,simprocAttr]at hX;refine⟨_,_,_,_,_,hX.symm,h7,((((s1.trans s2).trans s3).trans s4).trans s5).trans s7,?_,?_,by simp[qd,ay]⟩
  ·unfold yE;simp only[<- hy,LF,if_true];rw[<- j8];exact aeH KX
  ·exact nz (My.trans Uw.loop) hF.D
 by_cases Hn:y'.d.kind=16
 ·obtain⟨h1,s1⟩:=h.rG (vv':=vv) (c':={c with L:=c.L+1}) rfl rfl rfl rfl rfl rfl;have gb1:=(s1.k bx lb wb).trans gb;have lb1:=cQ lb s1.n;have rh:qa e.toCE {c with L:=c.L+1} (dH ((cd y'.d).map fun x=>dM e.l f x.toNat)) q:=⟨hF.D,by have:=hF.d;simp only;omega,hF.ok,hF.vk,by have:=hF.kn;simp only;omega,hF.F,hF.n,by have:=hF.l;simp only;omega⟩;simp only[sT,qx,aE,f0,f1,f4,fd,hg,hb,nG,lb,Hn,hL1,ao,simprocAttr]at hX;generalize hY:exec _ (.loop cO) _ _=Y at hX;obtain⟨ou,rfl,HV,M2,Yv,Uy,c2,rfl,h2,s2,BF,Cl,q0,q1,q4,qd⟩:=cG hY (MK bl hm hx ke kb uW rh h1 gb1 lb1 wb (v1:=.int .i64 (i:Int)) (by simp[f0,ay]) (by simp[f1,ay]) (by simp[f4,ay]) (by simp[ay]) (by simp[fd,ay]));clear hY;have DS:=(s2.k bx lb1 wb).trans gb1;have lb2:=cQ lb1 s2.n;have kI:=h2.g;have mC:=h2.lt _ (.inl rfl);have hL2:IntKind.i64.wrap (c2.L- 1)=c2.L- 1:=by
   have:c2.L=c.L+1:=Cl.L;rw[wrap_i64 (by have:=hF.l;omega) (by have:=hF.d;have:=hF.D;have:=hF.l;omega)]
  obtain⟨h3,s3⟩:=h2.rG (vv':=vv) (c':={c2 with L:=c2.L- 1}) rfl rfl rfl rfl rfl rfl;unfold lO CE.lv at kI;unfold jt at DS;have TJ:=fun x=>(af (m:=M2) (x:=x) LN).trans DS
  simp only[q0,q1,q4,qd,kI,mC,DS,TJ,lb2,Hn,hL2,ao,simprocAttr]at hX;refine⟨_,_,_,_,_,hX.symm,h3,(s1.trans s2).trans s3,?_,?_,by simp[qd,ay]⟩
  ·unfold yE;simp only[<- hy,Hn,Int.reduceEq,if_false,if_true];exact aiy BF
  ·exact Cl.loop.iY (by omega)
 ·simp only[sT,qx,aE,f0,f1,f4,fd,hg,hb,nG,lb,Hn,LF,ao,simprocAttr]at hX;generalize hY:exec _ (.loop cO) _ _=Y at hX;obtain⟨ou,rfl,HV,M2,Yv,Uy,c2,rfl,h2,s2,BF,Cl,q0,q1,q4,qd⟩:=cG hY (MK bl hm hx ke kb uW (hF.step bY.refl (by omega) (by omega)) h gb lb wb (v1:=.int .i64 (i:Int)) (by simp[f0,ay]) (by simp[f1,ay]) (by simp[f4,ay]) (by simp[ay]) (by simp[fd,ay]));clear hY;have DS:=(s2.k bx lb wb).trans gb;have lb2:=cQ lb s2.n;have kI:=h2.g;have mC:=h2.lt _ (.inl rfl);unfold lO CE.lv at kI;unfold jt at DS;simp only[q0,q1,q4,qd,kI,mC,DS,lb2,Hn,LF,ao,simprocAttr]at hX;refine⟨_,_,_,_,_,hX.symm,h2,s2,?_,Cl.iY (by omega),by simp[qd,ay]⟩
  unfold yE;simp only[<- hy,if_neg Hn,if_neg LF];exact BF
end
end
section
theorem rr{c:CS}{p p':Prop}[Decidable p][Decidable p']{e q:Int}(hf:c.fe=0)(hp:p↔¬p'):jz (c.bU p e q) (c.ph p' e q):=by
 unfold CS.bU CS.ph;by_cases h:p'
 ·rw[if_pos h,if_neg (fun w=>hp.1 w.1 h)];exact .refl
 ·rw[if_neg h,if_pos ⟨hp.2 h,hf⟩];exact .refl
theorem mA{c:CS}{p:Prop}[Decidable p]{e q:Int}:bY 1 c (c.bU p e q):=by
 unfold CS.bU;split
 ·exact⟨rfl,rfl,rfl,rfl,rfl,rfl,rfl,rfl,rfl,id,id,Nat.le_succ _,cR _⟩
 ·exact bY.refl.iY (by omega)
theorem aa6{d:Nd}{l:List Nd}(hk:cJ l d)(h:d.kind=12\/d.kind=13\/d.kind=15\/d.kind=16\/d.kind=20\/d.kind=21):∃a ks,d.kids=a::ks/\cu d=[a]:=by
 have hl:1<=d.kids.length/\d.kids.length- vH d=1:=by
  unfold cJ at hk;unfold vH;rcases h with e|e|e|e|e|e
  all_goals
   rw[e]at hk⊢;simp only[Int.reduceEq,or_self,or_true,true_or,if_false,if_true,false_or,or_false]at hk⊢;omega
 match hd:d.kids,hl.1 with
 |a::ks,_=>exact⟨a,ks,rfl,by unfold cu;rw[hl.2,hd];rfl⟩
theorem aa5{d:Nd}{l:List Nd}(hk:cJ l d)(h:d.kind=14\/d.kind=17):∃a b ks,d.kids=a::b::ks/\cu d=[a,b]:=by
 have hl:2<=d.kids.length/\d.kids.length- vH d=2:=by
  unfold cJ at hk;unfold vH;rcases h with e|e
  all_goals
   rw[e]at hk⊢;simp only[Int.reduceEq,or_self,or_true,true_or,if_false,if_true,false_or,or_false]at hk⊢;omega
 match hd:d.kids,hl.1 with
 |a::b::ks,_=>exact⟨a,b,ks,rfl,by unfold cu;rw[hl.2,hd];rfl⟩
theorem Gs{c c2:CS}{s:cH}{k:Int}{i:Nat}{pos:Int}(h:(c.fe≠0/\c2=c)\/(c.fe=0/\pP c s=none/\c2=c.fault 9 pos)\/(c.fe=0/\∃v,pP c s=some v/\c2={c with S:=c.S.set i v.slot}/\k=v.kind)):bY 0 c c2:=by
 rcases h with⟨_,q⟩|⟨_,_,q⟩|⟨_,v,_,q,_⟩
 ·rw[q];exact .refl
 ·rw[q];exact⟨rfl,rfl,rfl,rfl,rfl,rfl,rfl,rfl,rfl,id,id,cR _,cR _⟩
 ·rw[q];exact⟨rfl,by simp,rfl,rfl,rfl,rfl,rfl,rfl,rfl,id,id,cR _,cR _⟩
section
variable {e:RE} {m m' M0:Mem} {fv vv sv sk sv' sk' vv' LA LC:EV} {c c' c0:CS}
theorem ade(s:Shape e.toCE){i q w:Nat}{y:Nv}(si:e.xs[i]?=some y)(hk:nu y.d.kind)(h:Rk e m fv vv sv sk c)(hf:c.fe=0)(hF:qa e.toCE c (1+w) q)
  {bx t1:Nat} (gb:m.get bx=.cells (jt y) 5 t1 false) (lb:bx<m.next) (wb:¬e.W bx) {fr:Fr} (f0:fr.get 0=.ptr e.cb 0) (f1:fr.get 1=.int .i64 (i:Int)) (f4:fr.get 4=.ptr bx 0) (fd:fr.defers=[]) {X:Option Out} (hX:exec U sW fr m=X) :
  ∃fr' m' sv' sk' c',X=some (.norm fr' m')/\Rk e m' fv vv sv' sk' c'/\bO e.toCE m m'/\jz c' (fH e.l i c)/\bY 1 c c'/\fr'.get 0=.ptr e.cb 0/\fr'.get 1=.int .i64 (i:Int)/\fr'.get 4=.ptr bx 0/\fr'.defers=[]:=by
 have hi:=(mu.1 si).1;obtain⟨y',hy,vV,eC,a1,a2,a3,a4,a5,a6,hm⟩:=h.at hi;obtain rfl:y'=y:=by rw[si]at vV;cases vV;rfl
 have tI:=s.kids hi;rw[<- hy]at tI;have hg:=h.g;have hb:=h.lt _ (.inl rfl);have nG:=gb;unfold lO CE.lv at hg;unfold jt at nG;have lP:=h.DB hm;have one:(y'.d.kind=12\/y'.d.kind=13\/y'.d.kind=15\/y'.d.kind=16\/y'.d.kind=20\/y'.d.kind=21)->∃(a:Nat) (ks:List Int) (yb:Nat) (yc:Option Nat) (yt:Nat) (yr:Bool),a<e.xs.length/\y'.d.kids=(a:Int)::ks/\cu y'.d=[(a:Int)]/\y'.kv=.slice yb 0 y'.d.kids.length yc/\m.get yb=.cells (is y'.d.kids) 1 yt yr/\yb<m.next/\¬e.W yb/\idx y'.d.kids.length (.int .i64 0)=some 0/\(is y'.d.kids)[0]?=some (.int .i64 (a:Int)):=by
  intro hq;obtain⟨a,ks,h1,h2⟩:=aa6 tI hq;have ha:=s.sQ (i:=i) (x:=a) (by rw[<- hy,h1];simp);obtain⟨an,rfl⟩:∃n:Nat,a=(n:Int):=⟨a.toNat,by omega⟩
  obtain⟨yb,yc,yt,yr,v1,v2,v3,v4⟩:=h.row hm (by rw[h1];simp);exact⟨an,ks,yb,yc,yt,yr,by omega,h1,h2,v1,v2,v3,v4,ap (i:=0) (by rw[h1];simp),by rw[h1];rfl⟩
 have two:(y'.d.kind=14\/y'.d.kind=17)->∃(a b:Nat) (ks:List Int) (yb:Nat) (yc:Option Nat) (yt:Nat) (yr:Bool),a<e.xs.length/\b<e.xs.length/\y'.d.kids=(a:Int)::(b:Int)::ks/\cu y'.d=[(a:Int),(b:Int)]/\y'.kv=.slice yb 0 y'.d.kids.length yc/\m.get yb=.cells (is y'.d.kids) 1 yt yr/\yb<m.next/\¬e.W yb/\idx y'.d.kids.length (.int .i64 0)=some 0/\idx y'.d.kids.length (.int .i64 1)=some 1/\(is y'.d.kids)[0]?=some (.int .i64 (a:Int))/\(is y'.d.kids)[0+1]?=some (.int .i64 (b:Int))/\(is y'.d.kids)[1]?=some (.int .i64 (b:Int)):=by
  intro hq;obtain⟨a,b,ks,h1,h2⟩:=aa5 tI hq;have ha:=s.sQ (i:=i) (x:=a) (by rw[<- hy,h1];simp);have sN:=s.sQ (i:=i) (x:=b) (by rw[<- hy,h1];simp);obtain⟨an,rfl⟩:∃n:Nat,a=(n:Int):=⟨a.toNat,by omega⟩
  obtain⟨bn,rfl⟩:∃n:Nat,b=(n:Int):=⟨b.toNat,by omega⟩
  obtain⟨yb,yc,yt,yr,v1,v2,v3,v4⟩:=h.row hm (by rw[h1];simp);exact⟨an,bn,ks,yb,yc,yt,yr,by omega,by omega,h1,h2,v1,v2,v3,v4,ap (i:=0) (by rw[h1];simp),ap (i:=1) (by rw[h1];simp),by rw[h1];rfl,by rw[h1];rfl,by rw[h1];rfl⟩
 have hwk:=I0 hk;rcases hwk with w|w|w|w|w|w|w|w|w|w|w
 ·obtain⟨a,ks,yb,yc,yt,yr,ha,va,hex,v1,v2,v3,v4,kL,sS⟩:=one (by omega);rw[v1]at nG;simp only[sW,yI,qx,aE,f0,f1,f4,fd,hg,hb,nG,lb,w,v2,v3,kL,sS,Nat.mul_one,ao,simprocAttr]at hX;generalize hC:run (UT B Ev.K) 71 _ _=C at hX;obtain⟨k1,rfl⟩:=jc h ha hC;clear hC;simp only[ao,simprocAttr]at hX;generalize hC:run (UT B Ev.K) 28 _ _=C at hX;obtain⟨M2,Yv,Uy,rfl,h2,s2⟩:=Ax (h.bump k1) hi (by have:=hF.vk;have:=hF.kn;omega) (by have:=hF.kn;omega) hC;clear hC;rw[if_pos hf]at h2;simp only[ao,simprocAttr]at hX;refine⟨_,_,_,_,_,hX.symm,h2,bO.bump.trans s2,?_,pk,by simp[f0,f1,f4,fd,ay]⟩
  unfold fH kk;simp only[<- hy,w,hex,Int.reduceEq,if_false,if_true,List.map_cons,List.map_nil,Int.toNat_natCast,List.headD_cons];exact .refl
 ·obtain⟨a,ks,yb,yc,yt,yr,ha,va,hex,v1,v2,v3,v4,kL,sS⟩:=one (by omega);rw[v1]at nG;simp only[sW,yI,qx,aE,f0,f1,f4,fd,hg,hb,nG,lb,w,ao,simprocAttr]at hX;generalize hC:run (UT B Ev.K) 72 _ _=C at hX;obtain⟨M2,k,c2,rfl,h2,s2,uY⟩:=Av h hi (by have:=hF.vk;have:=hF.kn;omega) hC;clear hC;rw[<- hy]at uY;have g2:=(s2.k _ lb wb).trans nG;have l2:=cQ lb s2.n;have u2:=(s2.k _ v3 v4).trans v2;have u3:=cQ v3 s2.n;simp only[f0,f1,f4,fd,g2,l2,u2,u3,kL,sS,Nat.mul_one,ao,simprocAttr]at hX;generalize hC:run (UT B Ev.K) 71 _ _=C at hX;obtain⟨k1,rfl⟩:=jc h2 ha hC;clear hC;simp only[ao,simprocAttr]at hX;generalize hC:run (UT B Ev.K) 44 _ _=C at hX;obtain⟨M3,rfl,h3,s3⟩:=dE (h2.bump k1) hi hC;clear hC;simp only[ao,simprocAttr]at hX;rw[<- hy]at h3;refine⟨_,_,_,_,_,hX.symm,h3,(s2.trans bO.bump).trans s3,?_,?_,by simp[f0,f1,f4,fd,ay]⟩
  ·unfold fH kk;simp only[<- hy,w,hex,Int.reduceEq,if_false,if_true,List.map_cons,List.map_nil,Int.toNat_natCast,List.cons.injEq,and_true];rcases uY with⟨q,_⟩|⟨_,q1,q⟩|⟨_,v,q1,q,q2⟩
   ·exact absurd hf q
   ·rw[q1,q,CS.bU,if_neg (fun w=>absurd w.2 (by simp[CS.fault]))];exact .refl
   ·rw[q1,q2];have e0:c2.K=c.K:=by rw[q]
    have e1:c2.fe=0:=by rw[q];exact hf
    rw[e0,CS.bU];by_cases hh:c.K.getD a 0=v.kind
    ·simp only[if_pos hh];rw[if_neg (fun w=>w.1 hh.symm),q];exact .refl
    ·simp only[if_neg hh];rw[if_pos ⟨fun w=>hh w.symm,e1⟩];exact⟨rfl,rfl,fun w=>absurd w (by simp[CS.fault])⟩
  ·exact((Gs uY).trans mA).iY (by omega)
 ·obtain⟨a,b,ks,yb,yc,yt,yr,ha,sN,va,hex,v1,v2,v3,v4,kL,vW,sS,vY,vX⟩:=two (by omega);rw[v1]at nG;simp only[sW,yI,qx,aE,f0,f1,f4,fd,hg,hb,nG,lb,w,ao,simprocAttr]at hX;generalize hC:run (UT B Ev.K) 72 _ _=C at hX;obtain⟨M2,k,c2,rfl,h2,s2,uY⟩:=Av h hi (by have:=hF.vk;have:=hF.kn;omega) hC;clear hC;rw[<- hy]at uY;have g2:=(s2.k _ lb wb).trans nG;have l2:=cQ lb s2.n;have u2:=(s2.k _ v3 v4).trans v2;have u3:=cQ v3 s2.n;have e0:c2.K=c.K:=by rcases uY with⟨_,q⟩|⟨_,_,q⟩|⟨_,v,_,q,_⟩<;>rw[q]<;>rfl
  have fin:∀(p:Prop) [Decidable p] (M3:Mem),(p↔¬(k=3/\c.K.getD a 0=1/\c.K.getD b 0=1))->Rk e M3 fv vv sv sk (c2.bU p 11 y'.d.pos)->bO e.toCE m M3->∀fr',X=some (.norm fr' M3)->fr'.get 0=.ptr e.cb 0->fr'.get 1=.int .i64 (i:Int)->fr'.get 4=.ptr bx 0->fr'.defers=[]->∃fr' m' sv' sk' c',X=some (.norm fr' m')/\Rk e m' fv vv sv' sk' c'/\bO e.toCE m m'/\jz c' (fH e.l i c)/\bY 1 c c'/\fr'.get 0=.ptr e.cb 0/\fr'.get 1=.int .i64 (i:Int)/\fr'.get 4=.ptr bx 0/\fr'.defers=[]:=by
   intro p _ M3 hp h3 s3 fr' hq g0 g1 g4 gd;refine⟨fr',M3,_,_,_,hq,h3,s3,?_,((Gs uY).trans mA).iY (by omega),g0,g1,g4,gd⟩
   unfold fH kk;simp only[<- hy,w,hex,Int.reduceEq,if_false,if_true,List.map_cons,List.map_nil,Int.toNat_natCast,List.cons.injEq,and_true];rcases uY with⟨q,_⟩|⟨_,q1,q⟩|⟨_,v,q1,q,q2⟩
   ·exact absurd hf q
   ·rw[q1,q,CS.bU,if_neg (fun w=>absurd w.2 (by simp[CS.fault]))];exact .refl
   ·rw[q2]at hp;have e1:c2.fe=0:=by rw[q];exact hf
    rw[q1,CS.bU];by_cases hh:v.kind=3/\c.K.getD a 0=1/\c.K.getD b 0=1
    ·simp only[if_pos hh];rw[if_neg (fun w=>hp.1 w.1 hh),q];exact .refl
    ·simp only[if_neg hh];rw[if_pos ⟨hp.2 hh,e1⟩];exact⟨rfl,rfl,fun w=>absurd w (by simp[CS.fault])⟩
  by_cases k3:k=3
  ·simp only[f0,f1,f4,fd,g2,l2,u2,u3,kL,sS,vW,vY,vX,k3,dS,cT,Nat.mul_one,ao,simprocAttr]at hX;generalize hC:run (UT B Ev.K) 71 _ _=C at hX;obtain⟨k1,rfl⟩:=jc h2 ha hC;clear hC;rw[e0]at hX;by_cases k4:c.K.getD a 0=1
   ·simp only[f0,f1,f4,fd,g2,l2,u2,u3,kL,sS,vW,vY,vX,k3,k4,dS,cT,Nat.mul_one,ao,simprocAttr]at hX;generalize hC:run (UT B Ev.K) 71 _ _=C at hX;obtain⟨k2,rfl⟩:=jc (h2.bump k1) sN hC;clear hC;rw[e0]at hX;simp only[dS,cT,ao,simprocAttr]at hX;generalize hC:run (UT B Ev.K) 44 _ _=C at hX;obtain⟨M3,rfl,h3,s3⟩:=dE ((h2.bump k1).bump k2) hi hC;clear hC;simp only[ao,simprocAttr]at hX;rw[<- hy]at h3;exact fin _ M3 (by omega) h3 (((s2.trans bO.bump).trans bO.bump).trans s3) _ hX.symm (by simp[f0,ay]) (by simp[f1,ay]) (by simp[f4,ay]) (by simp[fd,ay])
   ·simp only[f0,f1,f4,fd,g2,l2,u2,u3,kL,sS,vW,vY,vX,k3,k4,dS,cT,Nat.mul_one,ao,simprocAttr]at hX;generalize hC:run (UT B Ev.K) 44 _ _=C at hX;obtain⟨M3,rfl,h3,s3⟩:=dE (p:=True) (X:=C) (h2.bump k1) hi (by rw[gQ trivial];exact hC);clear hC;simp only[ao,simprocAttr]at hX;rw[<- hy]at h3;exact fin _ M3 ⟨fun _ q=>k4 q.2.1,fun _=>trivial⟩ h3 ((s2.trans bO.bump).trans s3) _ hX.symm (by simp[f0,ay]) (by simp[f1,ay]) (by simp[f4,ay]) (by simp[fd,ay])
  ·simp only[f0,f1,f4,fd,g2,l2,u2,u3,kL,sS,vW,vY,vX,k3,dS,cT,Nat.mul_one,ao,simprocAttr]at hX;generalize hC:run (UT B Ev.K) 44 _ _=C at hX;obtain⟨M3,rfl,h3,s3⟩:=dE (p:=True) (X:=C) h2 hi (by rw[gQ trivial];exact hC);clear hC;simp only[ao,simprocAttr]at hX;rw[<- hy]at h3;exact fin _ M3 (by simp[k3]) h3 (s2.trans s3) _ hX.symm (by simp[f0,ay]) (by simp[f1,ay]) (by simp[f4,ay]) (by simp[fd,ay])
 ·obtain⟨a,ks,yb,yc,yt,yr,ha,va,hex,v1,v2,v3,v4,kL,sS⟩:=one (by omega);rw[v1]at nG;simp only[sW,yI,qx,aE,f0,f1,f4,fd,hg,hb,nG,lb,w,v2,v3,kL,sS,Nat.mul_one,ao,simprocAttr]at hX;generalize hC:run (UT B Ev.K) 71 _ _=C at hX;obtain⟨k1,rfl⟩:=jc h ha hC;clear hC;simp only[ao,simprocAttr]at hX;generalize hC:run (UT B Ev.K) 44 _ _=C at hX;obtain⟨M3,rfl,h3,s3⟩:=dE (h.bump k1) hi hC;clear hC;simp only[ao,simprocAttr]at hX;rw[<- hy]at h3;refine⟨_,_,_,_,_,hX.symm,h3,bO.bump.trans s3,?_,mA,by simp[f0,f1,f4,fd,ay]⟩
  unfold fH kk;simp only[<- hy,w,hex,Int.reduceEq,or_self,or_true,true_or,false_or,or_false,if_false,if_true,List.map_cons,List.map_nil,Int.toNat_natCast];exact rr hf (by simp)
 ·obtain⟨a,ks,yb,yc,yt,yr,ha,va,hex,v1,v2,v3,v4,kL,sS⟩:=one (by omega);rw[v1]at nG;simp only[sW,yI,qx,aE,f0,f1,f4,fd,hg,hb,nG,lb,w,v2,v3,kL,sS,Nat.mul_one,ao,simprocAttr]at hX;generalize hC:run (UT B Ev.K) 71 _ _=C at hX;obtain⟨k1,rfl⟩:=jc h ha hC;clear hC;simp only[ao,simprocAttr]at hX;generalize hC:run (UT B Ev.K) 44 _ _=C at hX;obtain⟨M3,rfl,h3,s3⟩:=dE (h.bump k1) hi hC;clear hC;simp only[ao,simprocAttr]at hX;rw[<- hy]at h3;refine⟨_,_,_,_,_,hX.symm,h3,bO.bump.trans s3,?_,mA,by simp[f0,f1,f4,fd,ay]⟩
  unfold fH kk;simp only[<- hy,w,hex,Int.reduceEq,or_self,or_true,true_or,false_or,or_false,if_false,if_true,List.map_cons,List.map_nil,Int.toNat_natCast];exact rr hf (by simp)
 ·obtain⟨a,b,ks,yb,yc,yt,yr,ha,sN,va,hex,v1,v2,v3,v4,kL,vW,sS,vY,vX⟩:=two (by omega);rw[v1]at nG;have fin:∀(p:Prop) [Decidable p] (M3:Mem),(p↔¬(c.K.getD a 0=1/\c.K.getD b 0=1))->Rk e M3 fv vv sv sk (c.bU p 11 y'.d.pos)->bO e.toCE m M3->∀fr',X=some (.norm fr' M3)->fr'.get 0=.ptr e.cb 0->fr'.get 1=.int .i64 (i:Int)->fr'.get 4=.ptr bx 0->fr'.defers=[]->∃fr' m' sv' sk' c',X=some (.norm fr' m')/\Rk e m' fv vv sv' sk' c'/\bO e.toCE m m'/\jz c' (fH e.l i c)/\bY 1 c c'/\fr'.get 0=.ptr e.cb 0/\fr'.get 1=.int .i64 (i:Int)/\fr'.get 4=.ptr bx 0/\fr'.defers=[]:=by
   intro p _ M3 hp h3 s3 fr' hq g0 g1 g4 gd;refine⟨fr',M3,_,_,_,hq,h3,s3,?_,mA,g0,g1,g4,gd⟩
   unfold fH kk;simp only[<- hy,w,hex,Int.reduceEq,or_self,or_true,true_or,false_or,or_false,if_false,if_true,List.map_cons,List.map_nil,Int.toNat_natCast];exact rr hf (by rw[hp];simp)
  simp only[sW,yI,qx,aE,f0,f1,f4,fd,hg,hb,nG,lb,w,v2,v3,kL,sS,vW,vY,vX,Nat.mul_one,ao,simprocAttr]at hX;generalize hC:run (UT B Ev.K) 71 _ _=C at hX;obtain⟨k1,rfl⟩:=jc h ha hC;clear hC;by_cases k4:c.K.getD a 0=1
  ·simp only[f0,f1,f4,fd,nG,lb,v2,v3,kL,sS,vW,vY,vX,k4,dS,cT,Nat.mul_one,ao,simprocAttr]at hX;generalize hC:run (UT B Ev.K) 71 _ _=C at hX;obtain⟨k2,rfl⟩:=jc (h.bump k1) sN hC;clear hC;simp only[dS,cT,ao,simprocAttr]at hX;generalize hC:run (UT B Ev.K) 44 _ _=C at hX;obtain⟨M3,rfl,h3,s3⟩:=dE ((h.bump k1).bump k2) hi hC;clear hC;simp only[ao,simprocAttr]at hX;rw[<- hy]at h3;exact fin _ M3 (by omega) h3 ((bO.bump.trans bO.bump).trans s3) _ hX.symm (by simp[f0,ay]) (by simp[f1,ay]) (by simp[f4,ay]) (by simp[fd,ay])
  ·simp only[f0,f1,f4,fd,nG,lb,v2,v3,kL,sS,vW,vY,vX,k4,dS,cT,Nat.mul_one,ao,simprocAttr]at hX;generalize hC:run (UT B Ev.K) 44 _ _=C at hX;obtain⟨M3,rfl,h3,s3⟩:=dE (p:=True) (X:=C) (h.bump k1) hi (by rw[gQ trivial];exact hC);clear hC;simp only[ao,simprocAttr]at hX;rw[<- hy]at h3;exact fin _ M3 ⟨fun _ q=>k4 q.1,fun _=>trivial⟩ h3 (bO.bump.trans s3) _ hX.symm (by simp[f0,ay]) (by simp[f1,ay]) (by simp[f4,ay]) (by simp[fd,ay])
 ·simp only[sW,yI,qx,aE,f0,f1,f4,fd,hg,hb,nG,lb,w,ao,simprocAttr]at hX;generalize hC:run (UT B Ev.K) 44 _ _=C at hX;obtain⟨M3,rfl,h3,s3⟩:=dE h hi hC;clear hC;simp only[ao,simprocAttr]at hX;rw[<- hy]at h3;refine⟨_,_,_,_,_,hX.symm,h3,s3,?_,mA,by simp[f0,f1,f4,fd,ay]⟩
  unfold fH;simp only[<- hy,w,Int.reduceEq,or_self,or_true,true_or,false_or,or_false,if_false,if_true];exact rr hf (by have:=hF.l;omega)
 ·simp only[sW,yI,qx,aE,f0,f1,f4,fd,hg,hb,nG,lb,w,ao,simprocAttr]at hX;generalize hC:run (UT B Ev.K) 44 _ _=C at hX;obtain⟨M3,rfl,h3,s3⟩:=dE h hi hC;clear hC;simp only[ao,simprocAttr]at hX;rw[<- hy]at h3;refine⟨_,_,_,_,_,hX.symm,h3,s3,?_,mA,by simp[f0,f1,f4,fd,ay]⟩
  unfold fH;simp only[<- hy,w,Int.reduceEq,or_self,or_true,true_or,false_or,or_false,if_false,if_true];exact rr hf (by have:=hF.l;omega)
 ·obtain⟨a,ks,yb,yc,yt,yr,ha,va,hex,v1,v2,v3,v4,kL,sS⟩:=one (by omega);rw[v1]at nG;simp only[sW,yI,qx,aE,f0,f1,f4,fd,hg,hb,nG,lb,w,v2,v3,kL,sS,Nat.mul_one,ao,simprocAttr]at hX;generalize hC:run (UT B Ev.K) 71 _ _=C at hX;obtain⟨k1,rfl⟩:=jc (h.bump _) ha hC;clear hC;simp only[hg,hb,nG,lb,v2,v3,kL,sS,Nat.mul_one,ao,simprocAttr]at hX;generalize hC:run (UT B Ev.K) 44 _ _=C at hX;obtain⟨M3,rfl,h3,s3⟩:=dE ((h.bump _).bump k1) hi hC;clear hC;simp only[ao,simprocAttr]at hX;rw[<- hy]at h3;refine⟨_,_,_,_,_,hX.symm,h3,(bO.bump.trans bO.bump).trans s3,?_,mA,by simp[f0,f1,f4,fd,ay]⟩
  unfold fH kk;simp only[<- hy,w,hex,Int.reduceEq,or_self,or_true,true_or,false_or,or_false,if_false,if_true,List.map_cons,List.map_nil,Int.toNat_natCast];exact rr hf (by simp)
 ·obtain⟨a,ks,yb,yc,yt,yr,ha,va,hex,v1,v2,v3,v4,kL,sS⟩:=one (by omega);rw[v1]at nG;simp only[sW,yI,qx,aE,f0,f1,f4,fd,hg,hb,nG,lb,w,v2,v3,kL,sS,Nat.mul_one,ao,simprocAttr]at hX;generalize hC:run (UT B Ev.K) 71 _ _=C at hX;obtain⟨k1,rfl⟩:=jc h ha hC;clear hC;simp only[ao,simprocAttr]at hX;generalize hC:run (UT B Ev.K) 44 _ _=C at hX;obtain⟨M3,rfl,h3,s3⟩:=dE (h.bump k1) hi hC;clear hC;simp only[ao,simprocAttr]at hX;rw[<- hy]at h3;refine⟨_,_,_,_,_,hX.symm,h3,bO.bump.trans s3,?_,mA,by simp[f0,f1,f4,fd,ay]⟩
  unfold fH kk;simp only[<- hy,w,hex,Int.reduceEq,or_self,or_true,true_or,false_or,or_false,if_false,if_true,List.map_cons,List.map_nil,Int.toNat_natCast];exact rr hf (by simp)
 ·simp only[sW,yI,qx,aE,f0,f1,f4,fd,hg,hb,nG,lb,w,ao,simprocAttr]at hX;refine⟨_,_,_,_,_,hX.symm,h,.refl,?_,bY.refl.iY (by omega),by simp[f0,f1,f4,fd,ay]⟩
  unfold fH;simp only[<- hy,w,Int.reduceEq,or_self,or_true,true_or,false_or,or_false,if_false,if_true];exact .refl
end
end
section
theorem OO.mono{e:RE}{nf:Nat}{ok:CS->Prop}{p:Int->Prop}{g:Nat->CS->CS}{w:Nat->Nat}{f q q':Nat}(h:OO e nf ok p g w f q)(hq:q<=q'):OO e nf ok p g w f q':=by
 intro m fv vv sv sk c i X h1 h2 h3 h4 h5 h6 h7;exact h h1 h2 (h3.step bY.refl (by omega) hq) h4 h5 h6 h7
theorem YW{l:List Nd}{f i:Nat}{c:CS}(h:c.fe≠0):(yE l f i c).fe=c.fe/\(yE l f i c).fp=c.fp:=by
 have key:∀(g:Int->CS->CS) (xs:List Int) (d:CS),d.fe=c.fe->d.fp=c.fp->(aO g xs d).fe=c.fe/\(aO g xs d).fp=c.fp:=fun g xs d h1 h2=>by
  rw[kZ (by rw[h1];exact h)];exact⟨h1,h2⟩
 unfold yE;simp only[if_neg h]
 split
 ·exact key _ _ _ rfl rfl
 ·split
  ·exact key _ _ _ rfl rfl
  ·exact key _ _ _ rfl rfl
theorem Y8{l:List Nd}{f i:Nat}{c c1 c2 c':CS}(h1:jz c1 (aO (fun x c=>qi l f x.toNat c) (cu (dZ l i)) c))(hf:c1.fe=0)(IG:(dZ l i).kind≠23)(h2:jz c2 (fH l i c1))(h':jz c' (yE l f i c2)):jz c' (nv l (f+1) i c):=by
 have Ai:=h1.2.2 hf;rw[nv];simp only[if_neg IG,<- Ai,if_pos hf];by_cases hq:c2.fe=0
 ·have tL:=h2.2.2 hq;rw[<- tL,if_pos hq];unfold yE at h';simp only[if_pos hq]at h';exact h'
 ·rw[if_neg (by rw[<- h2.1];exact hq)];obtain⟨a,b⟩:=YW (l:=l) (f:=f) (i:=i) hq;exact⟨(h'.1.trans a).trans h2.1,(h'.2.1.trans b).trans h2.2.1,fun w=>absurd ((h'.1.trans a).symm.trans w) hq⟩
section
variable {e:RE} {m m' M0:Mem} {fv vv sv sk sv' sk' vv' LA LC:EV} {c c' c0:CS}
theorem UH(s:Shape e.toCE){f q:Nat}(bl:Tn e (nv e.l f) (dM e.l f) f q):Yi e (nv e.l (f+1)) (dM e.l (f+1)) (f+1) (q+2):=by
 intro m fv vv sv sk c i X h _ hF hi Ty hk hX;rw[cf (by simp[aE])]at hX;rw[Za]at hX;obtain⟨y,hy,si,eC,a1,a2,a3,a4,a5,a6,hm⟩:=h.at hi;have hld:e.l[i]?=some y.d:=by unfold CE.l;rw[List.getElem?_map,si];rfl
 have hw:dM e.l (f+1) i=ow y.d+dH (y.d.kids.map fun x=>dM e.l f x.toNat):=vw hld;have LH:100<=ow y.d:=by unfold ow;omega
 have hsd:dH ((cd y.d).map fun x=>dM e.l f x.toNat)<=dH (y.d.kids.map fun x=>dM e.l f x.toNat):=CX _ _;obtain⟨ke,kb,k2,YA,knb,k1⟩:=Ul hk (s.kids hi);have IG:(dZ e.l i).kind≠23:=fun w=>by rw[w]at hk;exact absurd hk.2 (by decide)
 rw[<- hy]at ke kb k2 YA knb k1 hk;have vo:∀x∈y.d.kids,0<=x/\x.toNat<e.xs.length/\x.toNat<f:=fun x hx=>by
  have:=s.sQ (i:=i) (x:=x) (by rw[<- hy];exact hx);exact⟨this.1,this.2.2.1,by omega⟩
 have hg:=h.g;have hb:=h.lt _ (.inl rfl);have gl:=h.nd.g;have ll:=h.nd.lt;unfold lO CE.lv at hg;simp only[sA,sL,yI,qx,aE,hg,hb,gl,ll,eC,a6,ao,simprocAttr]at hX;obtain⟨M1,qD,h1,s1,g1,l1,w1⟩:=Hf h y;rw[qD,show nb m.next 0=m.next from rfl]at hX;clear qD;generalize hY:exec _ (.loop eS) _ _=Y at hX;obtain⟨ou,rfl,fr',M2,c1,rfl,h2,s2,se,eq,q0,q1,q4,qd⟩:=cG hY (adf (UP s f) hm h1 hF.fit vo ke kb (s.k y hm) g1 l1 w1 (v1:=.int .i64 (i:Int)) (by simp[ay]) (by simp[ay]) (by simp[ay]) (by simp[ay]) (by simp[ay]));clear hY;have uk:=s1.trans s2;have g2:=(s2.k _ l1 w1).trans g1;have l2:=cQ l1 s2.n;have kI:=h2.g;have mC:=h2.lt _ (.inl rfl);unfold lO CE.lv at kI;rw[hy]at eq;by_cases eH:c1.fe=0
 ·have hcf:c.fe=0:=by
   refine vt fun q=> ?_
   rw[kZ q]at eq;exact q (eq.1.symm.trans eH)
  rw[if_pos hcf];simp only[sC,yI,qx,aE,q0,q1,q4,qd,kI,mC,eH,fh,ao,simprocAttr]at hX;generalize hZ:exec (UT B Ev.K) sW _ M2=Z at hX;obtain⟨fr3,M3,sv3,sk3,c3,rfl,h3,s3,BZ,My,r0,r1,r4,rd⟩:=ade s si hk h2 eH (hF.step (w':=1+dH ((cd y.d).map fun x=>dM e.l f x.toNat)) (q':=q+2) se.s (by omega) (cR _)) g2 l2 w1 (by simp[q0,ay]) (by simp[q1,ay]) (by simp[q4,ay]) (by simp[qd,ay]) hZ;clear hZ;have g3:=(s3.k _ l2 w1).trans g2;have l3:=cQ l2 s3.n;have yJ:=se.s.trans My;simp only[ao,simprocAttr]at hX;generalize hZ:exec (UT B Ev.K) sT _ M3=Z at hX;obtain⟨fr4,M4,sv4,sk4,c4,rfl,h4,s4,KX,Uw,rd4⟩:=UG s bl si vo ke kb h3 (hF.step (w':=1+dH ((cd y.d).map fun x=>dM e.l f x.toNat)) (q':=q+2) yJ (by omega) (cR _)) g3 l3 w1 r0 r1 r4 rd hZ;clear hZ;simp only[rd4,ao,simprocAttr]at hX;exact⟨M4,sv4,sk4,c4,hX.symm,h4,(uk.trans s3).trans s4,Y8 eq eH IG BZ KX,(yJ.trans Uw).iY (by omega)⟩
 ·simp only[sC,yI,qx,aE,q0,q1,q4,qd,kI,mC,eH,fu,ao,simprocAttr]at hX;refine⟨M2,sv,sk,c1,hX.symm,h2,uk,?_,se.s.iY (by omega)⟩
  by_cases hcf:c.fe=0
  ·rw[if_pos hcf];exact qV eq eH IG
  ·rw[if_neg hcf];rw[kZ hcf]at eq;exact eq
theorem UN(s:Shape e.toCE):∀f,Yi e (nv e.l f) (dM e.l f) f (3*f)/\Tn e (nv e.l f) (dM e.l f) f (3*f)
 |0=>⟨by intro m fv vv sv sk c i X h1 h2 h3 h4 h5;exact absurd h5 (Nat.not_lt_zero _),by intro m fv vv sv sk c i X h1 h2 h3 h4 h5;exact absurd h5 (Nat.not_lt_zero _)⟩
 |f+1=>by
  obtain⟨a,b⟩:=UN s f;have h1:Yi e (nv e.l (f+1)) (dM e.l (f+1)) (f+1) (3*f+2):=UH s b;have h2:Tn e (nv e.l (f+1)) (dM e.l (f+1)) (f+1) (3*f+1):=U0 s a;exact⟨@OO.mono e tw (fun _=>True) nu (nv e.l (f+1)) (dM e.l (f+1)) (f+1) (3*f+2) (3*(f+1)) h1 (by omega), @OO.mono e rT (fun c=>c.fe=0) (· =23) (nv e.l (f+1)) (dM e.l (f+1)) (f+1) (3*f+1) (3*(f+1)) h2 (by omega)⟩
end
end
section
theorem Kx{l:List Nd}{F:List Int}{s:cH}:0<=IJ l F s↔(uI l F s).isSome:=by
 unfold IJ;cases uI l F s with
 |none=>simp
 |some f=>simp
section
variable {e:RE} {m m' M0:Mem} {fv By vv sv sk sv' sk' vv' LA LC:EV} {c c' c0:CS} {base:Nat}
theorem Rk.VA(h:Rk e m fv vv .aa .aa c)(lw:Lx e.toCE base)(hn:base<=m'.next)(hk:∀b,b<base->¬e.W b->m'.get b=m.get b)(g:m'.get e.cb=.cells (lO e By vv' .aa .aa c') 14 ax false)(gk:m'.get e.kb=.cells (is c'.K) 1 3 false)(gz:m'.get e.zb=.cells (is c'.S) 1 3 false)(ga:m'.get e.ab=.cells (is c'.C) 1 3 false)(hl:c'.K.length=e.xs.length/\c'.S.length=e.xs.length/\c'.C.length=e.xs.length)(ho:eI m' By (is c'.F) c'.F.length 1 base)(hX:c'.X=c.X):Rk e m' By vv' .aa .aa c' where
 g:=g
 gk:=gk
 gz:=gz
 ga:=ga
 lt:=fun b hb=>cQ (lw.w b hb) hn
 ne:=h.ne
 len:=hl
 nd:=by
  refine⟨(hk _ lw.lb h.nd.w).trans h.nd.g,cQ lw.lb hn,h.nd.w,rfl,fun x hx=> ?_,h.nd.kf⟩
  rcases(h.nd.k x hx).is with q|⟨b,c,t,ro,q1,q2,q3,q4,q5⟩
  ·exact⟨.inl q⟩
  ·have MR:=q1;obtain⟨n,AR⟩:∃n,x.d.kids.length=n+1:=⟨x.d.kids.length- 1,by have:=List.length_pos_iff.2 q5;omega⟩
   rw[AR]at MR;have aH:=lw.k x hx b n c MR;exact⟨.inr ⟨b,c,t,ro,q1,(hk b aH (h.nd.kf x hx b n c MR).1).trans q2,cQ aH hn,q4,q5⟩⟩
 fn:=ho.lo0
 ff:=fun b hb w=>by
  have:=(ho.lT hb).1;have:=lw.w b w;omega
 sV:=by
  rw[hX];rcases h.sV.is with⟨q1,q2,q3⟩|⟨b,cap,t,q,_⟩
  ·exact⟨.inl ⟨q1,q2,q3⟩,h.sV.len⟩
  ·cases q
 sK:=by
  rw[hX];rcases h.sK.is with⟨q1,q2,q3⟩|⟨b,cap,t,q,_⟩
  ·exact⟨.inl ⟨q1,q2,q3⟩,h.sK.len⟩
  ·cases q
 vf:=fun b hb=>absurd iw.nil hb
 kf:=fun b hb=>absurd iw.nil hb
theorem Rg(lw:Lx e.toCE base)(LO:base<=M0.next){xs:List Int}(sR:∀x∈xs,0<=x/\x.toNat<e.xs.length)(hl:xs.length<100000)(h0:Rk e M0 fv vv .aa .aa c0)(ho0:eI M0 fv (is c0.F) c0.F.length 1 base)(NS:c0.F=[]){v2:EV}(hv:uM e.toCE M0 v2 xs)(hvb:∀b n c,v2=.slice b 0 (n+1) c->b<base){fr:Fr}
  (f0:fr.get 0=.ptr e.cb 0) (f2:fr.get 2=v2) (f3:fr.get 3=.int .i64 0) (fd:fr.defers=[]) :
  ∃ou,exec U (.loop fx) fr M0=some ou/\∃fr' m' By,ou=.exit 0 fr' m'/\Rk e m' By vv .aa .aa (xs.foldl (cP e.l) c0)/\eI m' By (is (xs.foldl (cP e.l) c0).F) (xs.foldl (cP e.l) c0).F.length 1 base/\base<=m'.next/\(∀b,b<base->¬e.W b->m'.get b=M0.get b)/\fr'.get 0=.ptr e.cb 0/\fr'.defers=[]:=by
 refine dr (σ:=Nat) (fun j fr m=>j<=xs.length/\∃fv c,c=(xs.take j).foldl (cP e.l) c0/\c.F=xs.take j/\Rk e m fv vv .aa .aa c/\eI m fv (is c.F) c.F.length 1 base/\base<=m.next/\(∀b,b<base->¬e.W b->m.get b=M0.get b)/\fr.get 0=.ptr e.cb 0/\fr.get 2=v2/\fr.get 3=.int .i64 (j:Int)/\fr.defers=[]) (fun j=>xs.length- j) _ ?_ 0 fr M0 ⟨nZ _,fv,c0,rfl,by rw[NS];rfl,h0,ho0,LO,fun _ _ _=>rfl,f0,f2,f3,fd⟩
 rintro j fr m ⟨hj,fv,c,WQ,hcF,h,ho,hbm,hk,f0,f2,f3,fd⟩;generalize hX:exec U fx fr m=X;have hlen:=hv.kA;by_cases aH:j<xs.length
 ·have hc:(j:Int)<(xs.length:Int):=by omega
  have gP:=aZ (i:=j) (by omega);have hg:xs[j]?=some xs[j]:=jE aH;have e1:xs.take (j+1)=xs.take j++[xs[j]]:=List.take_succ_eq_append_getElem aH;have nV:xs[j]∈xs:=oX aH;generalize xs[j]=x at *;rcases hv with⟨q,_⟩|⟨b,cp,t,ro,rest,rfl,gb,bl,bw⟩
  ·rw[q]at aH;cases aH
  have bb:b<base:=by
   obtain⟨n,AR⟩:∃n,xs.length=n+1:=⟨xs.length- 1,by omega⟩
   exact hvb b n cp (by rw[AR])
  have DS:=(hk b bb bw).trans gb;have bl2:b<m.next:=by omega
  obtain⟨x0,x1⟩:=sR x nV;obtain⟨xn,rfl⟩:∃n:Nat,x=(n:Int):=⟨x.toNat,by omega⟩
  have tM:(is (xs++rest))[j]?=some (.int .i64 (xn:Int)):=by rw[gp,rB aH,hg];rfl
  have eC:=ap (n:=xs.length) (i:=j) (k:=.i64) aH;have HK:=h.g;have hb:=h.lt _ (.inl rfl);have gl:=h.nd.g;have ll:=h.nd.lt;unfold lO CE.lv at HK;obtain⟨z,hz,hzi,J5,a1,a2,a3,a4,a5,a6,a7⟩:=h.at (i:=xn) (by omega);have sJ:c.F.length=j:=by rw[hcF,List.length_take];omega
  simp only[fx,f0,f2,f3,fd,hlen,hc,DS,bl2,eC,tM,HK,hb,gl,ll,J5,a4,Nat.mul_one,ao,simprocAttr]at hX;generalize hC:run (UT B Ev.K) 45 _ _=C at hX;obtain⟨M2,rfl,n2,k2⟩:=Ha (h.bump 20) (fun w hw=>sR w (List.mem_of_mem_take (hcF▸hw))) (by omega) hC;clear hC;have h2:=(h.bump 20).same n2 fun b _=>k2 b
  have aav:M2.get b=.cells (is (xs++rest)) 1 t ro:=(k2 b).trans DS;have n2':m.next<=M2.next:=ji (by show m.next<=(bump m 20).next;rw[au];exact aq) n2;have ai3:b<M2.next:=cQ bl2 n2';have ahG:=h2.g;have mC:=h2.lt _ (.inl rfl);have gl2:=h2.nd.g;have ll2:=h2.nd.lt;unfold lO CE.lv at ahG;simp only[f0,f2,f3,fd,aav,ai3,eC,tM,ahG,mC,gl2,ll2,J5,a4,Nat.mul_one,ao,simprocAttr]at hX;generalize hC:run (UT B Ev.K) 44 _ _=C at hX;obtain⟨M3,rfl,h3,s3⟩:=dE h2 (i:=xn) (by omega) hC;clear hC;rw[<- hz]at h3;obtain⟨c2,tL⟩:∃c2,c2=c.bU (0<=IJ e.l c.F z.d.s) 10 z.d.pos:=⟨_,rfl⟩
  rw[<- tL]at h3;have AU:c2.F=c.F:=by rw[tL];unfold CS.bU;split<;>rfl
  have Ww:∀b,b<base->¬e.W b->M3.get b=m.get b:=fun b hb hw=>(s3.k b (by omega) hw).trans (k2 b)
  have LI:eI M3 fv (is c2.F) c2.F.length 1 base:=by
   rw[AU];exact ho.eB (ji n2' s3.n) fun b hb im _=>(s3.k b (by omega) fun w=>by have:=lw.w b w;omega).trans (k2 b)
  have pz:=h3.lt _ (.inl rfl);have jV:=h3.g;have TJ:=(Ww b bb bw).trans DS;have bl3:b<M3.next:=cQ ai3 s3.n;have am5:=og LI;unfold lO CE.lv at jV;simp only[f0,f2,f3,fd,TJ,bl3,eC,tM,jV,pz,am5,Nat.mul_one,ao,simprocAttr]at hX;obtain⟨D,hD⟩:∃D,ve M3 16 10 (.cells [EV.int .i64 (xn:Int)] 1 3 false)=D:=⟨_,rfl⟩
  have dn:D.next=M3.next+16:=by rw[<- hD,jL];rfl
  have fc:∀b,b<M3.next->D.get b=M3.get b:=fun b hb=>by rw[<- hD];exact lI hb
  have mR:D.get (nb (M3.next+10) 0)=.cells [EV.int .i64 (xn:Int)] 1 3 false:=by rw[<- hD];exact lJ
  unfold ve at hD;rw[hD]at hX;have b3:base<=M3.next:=by have:=s3.n;omega
  have hoD:eI D fv (is c2.F) c2.F.length 1 base:=LI.eB (by omega) fun b hb _ _=>fc b hb
  have auO:c2.F.length=j:=by rw[AU];exact sJ
  obtain⟨ha,yw⟩:=iM (e:=3) (x:=.slice (nb (M3.next+10) 0) 0 1 (some 1)) hoD (by omega) (lB mR rfl) rfl (by decide) (by unfold room;omega);have HJ:D.next<=(grow D fv 3 1 (is c2.F++[.int .i64 (xn:Int)])).next:=by rw[gq];unfold nb;omega
  have sU:∀b,b<base->(grow D fv 3 1 (is c2.F++[.int .i64 (xn:Int)])).get b=M3.get b:=fun b hb=>by rw[oK (by omega) (hoD.lt (.inr hb)),fc b (by omega)]
  generalize hG:grow _ fv 3 1 _=M4 at ha yw HJ sU;clear hG;have nW:=(sU _ (lw.w _ (.inl rfl))).trans h3.g;have uZ:e.cb<M4.next:=by have:=lw.w _ (.inl rfl);omega
  unfold lO CE.lv at nW;simp only[f0,f2,f3,fd,ha,nW,uZ,gP,ao,simprocAttr]at hX;subst hX;rw[<- sd]at yw;have Wz:c2.F.length+1=(c2.F++[(xn:Int)]).length:=by simp
  have xy:(xs.take (j+1)).foldl (cP e.l) c0={c2 with F:=c2.F++[(xn:Int)]}:=by
   rw[e1,List.foldl_append,<- WQ,List.foldl_cons,List.foldl_nil,cP];have hzz:ee e.l (xn:Int)=z.d:=by rw[hz];rfl
   simp only[hzz];have:c2=if c.fe=0/\(uI e.l c.F z.d.s).isSome then c.fault 10 z.d.pos else c:=by
    rw[tL];unfold CS.bU;by_cases w:(uI e.l c.F z.d.s).isSome
    ·by_cases w2:c.fe=0
     ·rw[if_pos ⟨Kx.2 w,w2⟩,if_pos ⟨w2,w⟩]
     ·rw[if_neg (fun q=>w2 q.2),if_neg (fun q=>w2 q.1)]
    ·rw[if_neg (fun q=>w (Kx.1 q.1)),if_neg (fun q=>w q.2)]
   rw[<- this,AU]
  obtain⟨n1,n2x,n3',n4,n5,n6⟩:=h3.ne;have LH:eI (M4.set e.cb (.cells (lO e (.slice (nb D.next 0) 0 (c2.F.length+1) none) vv .aa .aa {c2 with F:=c2.F++[(xn:Int)]}) 14 ax false)) (.slice (nb D.next 0) 0 (c2.F.length+1) none) (is (c2.F++[(xn:Int)])) (c2.F.length+1) 1 base:=yw.eB (by rw[aj];exact cR _) fun b hb im _=>af fun q=>by have:=lw.w _ (.inl q);omega
  have h5:=h3.VA (vv':=vv) (m':=M4.set e.cb (.cells (lO e (.slice (nb D.next 0) 0 (c2.F.length+1) none) vv .aa .aa {c2 with F:=c2.F++[(xn:Int)]}) 14 ax false)) (c':={c2 with F:=c2.F++[(xn:Int)]}) lw (by rw[aj];omega) (fun b hb oP=>by rw[af (fun q=>oP (.inl q))];exact sU b hb) aN (by rw[af n1.symm];exact(sU _ (lw.w _ (.inr (.inl rfl)))).trans h3.gk) (by rw[af n2x.symm];exact(sU _ (lw.w _ (.inr (.inr (.inl rfl))))).trans h3.gz) (by rw[af n3'.symm];exact(sU _ (lw.w _ (.inr (.inr (.inr rfl))))).trans h3.ga) h3.len (by show eI _ _ (is (c2.F++[(xn:Int)])) (c2.F++[(xn:Int)]).length 1 base;rw[<- Wz];exact LH) rfl;refine bB (j+1) (by omega) ⟨aH,_,{c2 with F:=c2.F++[(xn:Int)]},by rw[xy],by show c2.F++[(xn:Int)]=_;rw[AU,hcF,e1],h5,(by show eI _ _ (is (c2.F++[(xn:Int)])) (c2.F++[(xn:Int)]).length 1 base;rw[<- Wz];exact LH),by rw[aj];omega,fun b hb oP=>by rw[af (fun q=>oP (.inl q)),sU b hb];exact(Ww b hb oP).trans (hk b hb oP),by simp[f0,f2,fd,ay]⟩
 ·have hc:¬((j:Int)<(xs.length:Int)):=by omega
  obtain rfl:j=xs.length:=by omega
  simp only[fx,f0,f2,f3,fd,hlen,hc,ao,simprocAttr]at hX;subst hX;rw[List.take_length]at WQ;subst WQ;exact bK ⟨_,_,fv,rfl,h,ho,hbm,hk,by simp[f0,fd,ay]⟩
end
end
section
theorem JC{l:List Nd}:∀(xs:List Int) (c:CS),(xs.foldl (cP l) c).F=c.F++xs/\(xs.foldl (cP l) c).V=c.V/\(xs.foldl (cP l) c).L=c.L/\(xs.foldl (cP l) c).X=c.X
 |[],c=>⟨by simp,rfl,rfl,rfl⟩
 |x::xs,c=>by
  rw[List.foldl_cons];obtain⟨a,b,d,f⟩:=JC xs (cP l c x);have e:(cP l c x).F=c.F++[x]/\(cP l c x).V=c.V/\(cP l c x).L=c.L/\(cP l c x).X=c.X:=by unfold cP;simp only;split<;>exact⟨rfl,rfl,rfl,rfl⟩
  exact⟨by rw[a,e.1,List.append_assoc];rfl,b.trans e.2.1,d.trans e.2.2.1,f.trans e.2.2.2⟩
section
variable {e:RE} {m m' M0:Mem} {fv By vv sv sk sv' sk' vv' LA LC:EV} {c c' c0:CS} {base:Nat}
theorem MN(s:Shape e.toCE)(lw:Lx e.toCE base)(LO:base<=m.next)(h:Rk e m .aa vv .aa .aa c)(hF:c.F=[])(hf:c.fe=0){X:Option Fin}(hX:run U yY [.ptr e.cb 0] m=X) :
  ∃m' By c',X=some (.ret (.tuple []) m')/\Rk e m' By vv .aa .aa c'/\eI m' By (is c'.F) c'.F.length 1 base/\base<=m'.next/\(∀b,b<base->¬e.W b->m'.get b=m.get b)/\c'.F=(dZ e.l (e.l.length- 1)).kids/\jz c' (eP e.l c)/\c'.V=c.V/\c'.L=c.L/\c'.X=c.X:=by
 rw[cf (by simp[eW])]at hX;have hlp:0<e.xs.length:=by have:=s.r.2.1;rw[CE.Fa]at this;exact this
 have hi:e.xs.length- 1<e.xs.length:=by omega
 obtain⟨y,hy,si,eC,a1,a2,a3,a4,a5,a6,hm⟩:=h.at hi;have hd:dZ e.l (e.l.length- 1)=y.d:=by rw[CE.Fa];exact hy.symm
 have tG:IntKind.i64.wrap ((e.xs.length:Int)- 1)=((e.xs.length- 1:Nat):Int):=by have:=s.n;rw[wrap_i64 (by omega) (by omega)];omega
 have hg:=h.g;have hb:=h.lt _ (.inl rfl);have gl:=h.nd.g;have ll:=h.nd.lt;unfold lO CE.lv at hg;simp only[eW,hg,hb,gl,ll,tG,eC,a2,ao,simprocAttr]at hX;have Sl:uM e.toCE m y.kv y.d.kids:=by
  rcases(h.nd.k y hm).is with⟨z1,z2|⟨b,o,z2⟩⟩|⟨b,c,t,ro,z1,z2,z3,_,z5⟩
  ·exact .inl ⟨z1,.inl z2⟩
  ·exact .inl ⟨z1,.inr (.inr ⟨b,z2⟩)⟩
  ·obtain⟨n,AR⟩:∃n,y.d.kids.length=n+1:=⟨y.d.kids.length- 1,by have:=List.length_pos_iff.2 z5;omega⟩
   exact .inr ⟨b,c,t,ro,[],z1,by rw[List.append_nil];exact z2,z3,(h.nd.kf y hm b n c (by rw[z1,AR])).1⟩
 have anD:y.d.kids.length<100000:=by
  have hk:=s.kids hi;unfold cJ at hk;rw[<- hy]at hk;have hw:=s.w;rw[hd]at hw;rw[hw]at hk;simp only[Int.reduceEq,or_self,if_false,if_true]at hk;have:=hk.2;omega
 have acu:∀w∈y.d.kids,0<=w/\w.toNat<e.xs.length:=fun w hw=>by
  rw[<- hd]at hw;obtain⟨a,_,b,_⟩:=s.sQ hw;exact⟨a,b⟩
 generalize hY:exec _ (.loop fx) _ _=Y at hX;obtain⟨ou,rfl,fr',M2,Kt,rfl,h2,Wt,mC,Bx,q0,qd⟩:=cG hY (Rg lw (by rw[au];exact ji LO aq) (xs:=y.d.kids) acu anD (h.bump _) (by show eI _ _ (is c.F) c.F.length 1 base;rw[hF];exact⟨.inl ⟨rfl,rfl,rfl⟩,rfl⟩) hF (Sl.cU bO.bump) (fun b n c he=>lw.k y hm b n c he) (by simp[ay]) (by simp[ay]) (by simp[ay]) (by simp[ay]));clear hY;obtain⟨ah1,hV2,hL2,hX2⟩:=JC (l:=e.l) y.d.kids c;obtain⟨c1,Ai⟩:∃c1,c1=y.d.kids.foldl (cP e.l) c:=⟨_,rfl⟩
 rw[<- Ai]at h2 Wt ah1 hV2 hL2 hX2;have jr:c1.F=y.d.kids:=by rw[ah1,hF];rfl
 have BT:eP e.l c=(if c1.fe=0 then match uI e.l y.d.kids oj with
   |none=>c1.fault 13 0
   |some f=>if (ee e.l (y.d.kids.getD f 0)).n=1/\(ee e.l (y.d.kids.getD f 0)).kids.length=2/\(ee e.l ((ee e.l (y.d.kids.getD f 0)).kids.headD 0)).n=3 then{c1 with M:=f}else c1.fault 13 (ee e.l (y.d.kids.getD f 0)).pos
  else c1):=by
  unfold eP;simp only[hd,<- Ai,jr]
  rfl
 rw[BT,hd];simp only[q0,qd,ao,simprocAttr]at hX;generalize hC:run (UT B Ev.K) 45 _ _=C at hX;obtain⟨M3,rfl,n3,k3⟩:=Ha h2 (s:=oj) (X:=C) (fun w hw=>acu w (jr▸hw)) (by rw[jr];omega) hC;clear hC;rw[jr]at hX;have h3:=h2.same n3 fun b _=>k3 b
 have LI:eI M3 Kt (is c1.F) c1.F.length 1 base:=Wt.eB n3 fun b _ _ _=>k3 b
 have jV:=h3.g;have pz:=h3.lt _ (.inl rfl);obtain⟨h4,s4⟩:=h3.rG (vv':=vv) (c':={c1 with M:=IJ e.l y.d.kids oj}) rfl rfl rfl rfl rfl rfl;have YH:=fun x=>(LI.eB (m':=M3.set e.cb x) (by rw[aj];exact cR _) fun b hb im _=>af fun q=>by have:=lw.w _ (.inl q);omega)
 have DD:∀b,b<base->¬e.W b->M3.get b=m.get b:=fun b hb hw=>(k3 b).trans (Bx b hb hw)
 have JY:∀x b,b<base->¬e.W b->(M3.set e.cb x).get b=m.get b:=fun x b hb hw=>(af (fun q=>hw (.inl q))).trans (DD b hb hw)
 have b3:base<=M3.next:=ji mC n3;unfold lO CE.lv at jV;cases hfn:uI e.l y.d.kids oj with
 |none=>
  have hz:IJ e.l y.d.kids oj= -1:=by unfold IJ;rw[hfn]
  rw[hz]at hX h4 s4;by_cases eH:c1.fe=0
  ·rw[if_pos eH];simp only[q0,qd,jV,pz,eH,fu,ao,simprocAttr]at hX;obtain⟨h5,s5⟩:=h4.rG (vv':=vv) (c':=({c1 with M:= -1}:CS).fault 13 0) rfl rfl rfl rfl rfl rfl;have ho5:=fun x y=>((YH x).eB (m':=(M3.set e.cb x).set e.cb y) (by rw[aj];exact cR _) fun b hb im _=>af fun q=>by have:=lw.w _ (.inl q);omega)
   unfold lO CE.lv CS.fault at h5;simp only[eH]at h5;refine⟨_,Kt,_,hX.symm,h5,ho5 _ _,by simp only[aj];exact b3,fun b hb hw=>by rw[af (fun q=>hw (.inl q))];exact JY _ b hb hw,jr,?_,hV2,hL2,hX2⟩
   exact⟨rfl,rfl,fun w=>absurd w (show ¬(13:Int)=0 by decide)⟩
  ·rw[if_neg eH];simp only[q0,qd,jV,pz,eH,fh,ao,simprocAttr]at hX;unfold lO CE.lv at h4;exact⟨_,Kt,_,hX.symm,h4,YH _,by simp only[aj];exact b3,fun b hb hw=>JY _ b hb hw,jr,⟨rfl,rfl,fun w=>absurd w eH⟩,hV2,hL2,hX2⟩
 |some f=>
  have hz:IJ e.l y.d.kids oj=(f:Int):=by unfold IJ;rw[hfn]
  rw[hz]at hX h4 s4;have TA:¬(f:Int)<0:=by omega
  simp only[q0,qd,jV,pz,TA,ao,simprocAttr]at hX;generalize zw:M3.set e.cb _=M4 at hX;replace h4:Rk e M4 Kt vv .aa .aa {c1 with M:=(f:Int)}:=by rw[<- zw];exact h4
  replace YH:eI M4 Kt (is c1.F) c1.F.length 1 base:=by rw[<- zw];exact YH _
  replace JY:∀b,b<base->¬e.W b->M4.get b=m.get b:=fun b hb hw=>by rw[<- zw];exact JY _ b hb hw
  have b4:base<=M4.next:=by rw[<- zw,aj];exact b3
  clear zw s4;obtain⟨rE,_⟩:f<y.d.kids.length/\True:=by
   unfold uI at hfn;rw[List.findIdx?_eq_some_iff_getElem]at hfn;exact⟨hfn.1,trivial⟩
  have WJ:y.d.kids[f]?=some y.d.kids[f]:=jE rE;have oQ:y.d.kids.getD f 0=y.d.kids[f]:=by rw[List.getD_eq_getElem?_getD,WJ];rfl
  have adV:y.d.kids[f]∈y.d.kids:=oX rE;simp only[oQ];generalize y.d.kids[f]=x at *;have hxr:x∈(dZ e.l (e.l.length- 1)).kids:=by rw[hd];exact adV
  obtain⟨x0,_,xl,_⟩:=s.sQ hxr;obtain⟨xn,rfl⟩:∃n:Nat,x=(n:Int):=⟨x.toNat,by omega⟩
  have xl:xn<e.xs.length:=by omega
  obtain⟨z,hz,hzi,J5,d1,d2,d3,d4,d5,d6,Z1⟩:=h4.at xl;have hzz:ee e.l (xn:Int)=z.d:=by rw[hz];rfl
  have nW:=h4.g;have uZ:=h4.lt _ (.inl rfl);have PP:=h4.nd.g;have Tt:=h4.nd.lt;rcases yM h4 with⟨q,_⟩|⟨rb,cp,t,ro,rest,BX,gb,bl,bw⟩
  ·have q:c1.F=[]:=q;rw[jr]at q;rw[q]at rE;cases rE
  have hFl:c1.F.length=y.d.kids.length:=by rw[jr]
  have BX:Kt=.slice rb 0 c1.F.length cp:=BX;have gb:M4.get rb=.cells (is (c1.F++rest)) 1 t ro:=gb;have tM:(is (c1.F++rest))[f]?=some (.int .i64 (xn:Int)):=by rw[gp,jr,rB rE,WJ];rfl
  have hfx:=ap (n:=c1.F.length) (i:=f) (k:=.i64) (by rw[jr];exact rE);obtain⟨hfk,rD,HH,Kb,Z9⟩:=s.fn hxr;rw[hzz]at rD HH Z9⊢;have aef:z.d.kids≠[]:=fun q=>by rw[q]at rD;simp at rD
  obtain⟨bz,cz,tz,rz,Gh,gz,lz,wz⟩:=h4.row Z1 aef;have lP:=h4.DB Z1;unfold lO CE.lv at nW;rw[BX]at hX nW;have fin:∀(p:Prop) [Decidable p] (M5:Mem) (C:Option Fin),(p↔¬(z.d.n=1/\z.d.kids.length=2/\(ee e.l (z.d.kids.headD 0)).n=3))->Rk e M5 Kt vv .aa .aa {c1 with M:=(f:Int)}->bO e.toCE M4 M5->run U rS [.ptr e.cb 0,bo p,.int .i64 13,.int .i64 (xn:Int)] M5=C->∃M6 c',C=some (.ret (.tuple []) M6)/\Rk e M6 Kt vv .aa .aa c'/\eI M6 Kt (is c'.F) c'.F.length 1 base/\base<=M6.next/\(∀b,b<base->¬e.W b->M6.get b=m.get b)/\c'.F=y.d.kids/\jz c' (if c1.fe=0 then(if z.d.n=1/\z.d.kids.length=2/\(ee e.l (z.d.kids.headD 0)).n=3 then{c1 with M:=(f:Int)}else c1.fault 13 z.d.pos)else c1)/\c'.V=c.V/\c'.L=c.L/\c'.X=c.X:=by
   intro p _ M5 C hp h5 s5 hC;obtain⟨M6,rfl,h6,s6⟩:=dE h5 xl hC;rw[<- hz]at h6;have fR:∀b,base<=b->¬e.W b:=fun b hb hw=>by have:=lw.w _ hw;omega
   refine⟨M6,_,rfl,h6,?_,ji b4 (s5.trans s6).n,fun b hb hw=>((s5.trans s6).k b (by omega) hw).trans (JY b hb hw),?_,?_,?_,?_,?_⟩
   ·have e1:(CS.bU {c1 with M:=(f:Int)} p 13 z.d.pos).F=c1.F:=by unfold CS.bU;split<;>rfl
    rw[e1];exact YH.eB (s5.trans s6).n fun b hb im _=>(s5.trans s6).k b hb (fR b im)
   ·rw[<- jr];unfold CS.bU;split<;>rfl
   ·unfold CS.bU;by_cases eH:c1.fe=0
    ·rw[if_pos eH];by_cases hh:z.d.n=1/\z.d.kids.length=2/\(ee e.l (z.d.kids.headD 0)).n=3
     ·rw[if_pos hh,if_neg (fun w=>hp.1 w.1 hh)];exact .refl
     ·rw[if_neg hh,if_pos ⟨hp.2 hh,eH⟩];exact⟨rfl,rfl,fun w=>absurd w (by simp[CS.fault])⟩
    ·rw[if_neg eH,if_neg (fun w=>eH w.2)];exact⟨rfl,rfl,fun w=>absurd w eH⟩
   ·rw[<- hV2];unfold CS.bU;split<;>rfl
   ·rw[<- hL2];unfold CS.bU;split<;>rfl
   ·rw[<- hX2];unfold CS.bU;split<;>rfl
  by_cases X4:z.d.n=1
  ·by_cases YM:(z.d.kids.length:Int)=2
   ·obtain⟨k0,k1,LK⟩:∃k0 k1,z.d.kids=[k0,k1]:=CR (by omega)
    have aeg:k0∈(dZ e.l xn).kids:=by rw[<- hz,LK];simp
    obtain⟨k00,_,k0l,_⟩:=s.sQ aeg;obtain⟨kn,rfl⟩:∃n:Nat,k0=(n:Int):=⟨k0.toNat,by omega⟩
    obtain⟨w,hw,hwi,am2,b1,b2,b3',b4',b5,b6,b7⟩:=h4.at (i:=kn) (by omega);have sS:(is z.d.kids)[0]?=some (.int .i64 (kn:Int)):=by rw[LK];rfl
    have kL:idx z.d.kids.length (.int .i64 0)=some 0:=ap (i:=0) (by omega);have hhd:(ee e.l (z.d.kids.headD 0)).n=w.d.n:=by rw[LK,hw];rfl
    rw[Gh]at d2 lP;simp only[q0,qd,nW,uZ,PP,Tt,gb,bl,tM,hfx,J5,d2,d3,X4,YM,lP,gz,lz,kL,sS,am2,b3',dS,cT,Nat.mul_one,ao,simprocAttr]at hX;generalize hC:run (UT B Ev.K) 44 _ _=C at hX;obtain⟨M6,c6,rfl,r1,r2,r3,r4,r5,r6,r7⟩:=fin _ _ C (by rw[hhd];omega) ((h4.bump _).bump _) (bO.bump.trans bO.bump) hC;clear hC;simp only[qd,ao,simprocAttr]at hX;exact⟨M6,Kt,c6,hX.symm,r1,r2,r3,r4,r5,r6,r7⟩
   ·rw[Gh]at d2 lP;simp only[q0,qd,nW,uZ,PP,Tt,gb,bl,tM,hfx,J5,d2,d3,X4,YM,lP,gz,lz,dS,cT,Nat.mul_one,ao,simprocAttr]at hX;generalize hC:run (UT B Ev.K) 44 _ _=C at hX;obtain⟨M6,c6,rfl,r1,r2,r3,r4,r5,r6,r7⟩:=fin True _ C ⟨fun _ q=>YM (by omega),fun _=>trivial⟩ ((h4.bump _).bump _) (bO.bump.trans bO.bump) (by rw[gQ trivial];exact hC);clear hC;simp only[qd,ao,simprocAttr]at hX;exact⟨M6,Kt,c6,hX.symm,r1,r2,r3,r4,r5,r6,r7⟩
  ·simp only[q0,qd,nW,uZ,PP,Tt,gb,bl,tM,hfx,J5,d2,d3,X4,dS,cT,Nat.mul_one,ao,simprocAttr]at hX;generalize hC:run (UT B Ev.K) 44 _ _=C at hX;obtain⟨M6,c6,rfl,r1,r2,r3,r4,r5,r6,r7⟩:=fin True _ C ⟨fun _ q=>X4 q.1,fun _=>trivial⟩ ((h4.bump _).bump _) (bO.bump.trans bO.bump) (by rw[gQ trivial];exact hC);clear hC;simp only[qd,ao,simprocAttr]at hX;exact⟨M6,Kt,c6,hX.symm,r1,r2,r3,r4,r5,r6,r7⟩
end
end
section
structure Rb(e:RE)(m:Mem)(fv vv sv sk:EV)(c:CS):Prop where
 g:m.get e.cb=.cells (lO e fv vv sv sk c) 14 ax false
 gk:m.get e.kb=.cells (is c.K) 1 3 false
 gz:m.get e.zb=.cells (is c.S) 1 3 false
 ga:m.get e.ab=.cells (is c.C) 1 3 false
 lt:∀b,e.W b->b<m.next
 ne:e.cb≠e.kb/\e.cb≠e.zb/\e.cb≠e.ab/\e.kb≠e.zb/\e.kb≠e.ab/\e.zb≠e.ab
 len:c.K.length=e.xs.length/\c.S.length=e.xs.length/\c.C.length=e.xs.length
 nd:uO e.toCE oth m
 fn:eI m fv (is c.F) c.F.length 1 0
 ff:∀b,¬iw fv b->¬e.W b
section
variable {e:RE} {m m' M0:Mem} {fv By vv sv sk sv' sk' vv' LA LC:EV} {c c' c0:CS} {base:Nat}
theorem Rk.rb(h:Rk e m fv vv sv sk c):Rb e m fv vv sv sk c:=⟨h.g,h.gk,h.gz,h.ga,h.lt,h.ne,h.len,h.nd,h.fn,h.ff⟩
theorem Rb.rk(h:Rb e m fv vv sv sk c)(hV:vg m sv c.X.V 0)(hK:Bc m sk c.X.K 0)(vf:∀b,¬iw sv b->¬e.W b)(kf:∀b,¬iw sk b->¬e.W b):Rk e m fv vv sv sk c:=⟨h.g,h.gk,h.gz,h.ga,h.lt,h.ne,h.len,h.nd,h.fn,h.ff,hV,hK,vf,kf⟩
theorem Rb.same(h:Rb e m fv vv sv sk c)(hn:m.next<=m'.next)(hk:∀b,b<m.next->m'.get b=m.get b):Rb e m' fv vv sv sk c where
 g:=(hk _ (h.lt _ (.inl rfl))).trans h.g
 gk:=(hk _ (h.lt _ (.inr (.inl rfl)))).trans h.gk
 gz:=(hk _ (h.lt _ (.inr (.inr (.inl rfl))))).trans h.gz
 ga:=(hk _ (h.lt _ (.inr (.inr (.inr rfl))))).trans h.ga
 lt:=fun b hb=>cQ (h.lt b hb) hn
 ne:=h.ne
 len:=h.len
 nd:=h.nd.cU hn (fun b hb _ _=>hk b hb) fun _ _=>rfl
 fn:=h.fn.eB hn fun b hb _ _=>hk b hb
 ff:=h.ff
theorem Rb.bump(h:Rb e m fv vv sv sk c)(k:Nat):Rb e (Ev.bump m k) fv vv sv sk c:=h.same aq fun _ _=>rfl
theorem Rb.at(h:Rb e m fv vv sv sk c){i:Nat}(hx:i<e.xs.length):∃y:Nv,y.d=dZ e.l i/\e.xs[i]?=some y/\idx e.xs.length (.int .i64 (i:Int))=some i/\(mO e.xs)[i*5]?=some (.int .i64 y.d.kind)/\(mO e.xs)[i*5+1]?=some y.kv/\(mO e.xs)[i*5+2]?=some (.int .i64 y.d.n)/\(mO e.xs)[i*5+3]?=some (.str y.d.s)/\(mO e.xs)[i*5+4]?=some (.int .i64 y.d.pos)/\partOf (some 5) (mO e.xs) (i*5)=some (.agg [.int .i64 y.d.kind,y.kv,.int .i64 y.d.n,.str y.d.s,.int .i64 y.d.pos])/\y∈e.xs:=by
 have hg:e.xs[i]?=some e.xs[i]:=jE hx;obtain⟨a1,a2,a3,a4,a5,a6⟩:=tj hg;exact⟨_,(nc (by unfold CE.l;rw[List.getElem?_map,hg];rfl)).symm,hg,ap hx,a1,a2,a3,a4,a5,a6,oX hx⟩
theorem FV(h:Rb e m fv vv sv sk c):uM e.toCE m fv c.F:=by
 rcases h.fn.is with⟨e1,e2,_⟩|⟨b,cap,t,rfl,h1,h2,h3,h4⟩
 ·exact .inl ⟨List.eq_nil_of_length_eq_zero e2,.inl e1⟩
 ·exact .inr ⟨b,cap,t,false,[],rfl,by rw[List.append_nil];exact h3,h2,h.ff b fun q=>q b 0 _ cap rfl rfl⟩
theorem Rb.pG(h:Rb e m fv vv sv sk c)(h1:c'.K=c.K)(h2:c'.S=c.S)(h3:c'.C=c.C)(hF:c'.F=c.F)(hX:c'.X=Mo.new):Rk e (m.set e.cb (.cells (lO e fv vv .aa .aa c') 14 ax false)) fv vv .aa .aa c'/\bO e.toCE m (m.set e.cb (.cells (lO e fv vv .aa .aa c') 14 ax false)):=by
 have st:bO e.toCE m (m.set e.cb (.cells (lO e fv vv .aa .aa c') 14 ax false)):=⟨by rw[aj];exact cR _,fun b _ hw=>af fun q=>hw (.inl q)⟩;obtain⟨n1,n2,n3,n4,n5,n6⟩:=h.ne;refine⟨⟨aN,by rw[af n1.symm,h1];exact h.gk,by rw[af n2.symm,h2];exact h.gz,by rw[af n3.symm,h3];exact h.ga,fun b hb=>by rw[aj];exact h.lt b hb,h.ne,by rw[h1,h2,h3];exact h.len,h.nd.cU st.n (fun b hb hw _=>st.k b hb hw) fun _ _=>rfl,by rw[hF];exact h.fn.eB st.n fun b hb _ iv=>st.k b hb (h.ff b iv),h.ff,by rw[hX];exact⟨.inl ⟨rfl,rfl,rfl⟩,rfl⟩,by rw[hX];exact⟨.inl ⟨rfl,rfl,rfl⟩,rfl⟩,fun b hb=>absurd iw.nil hb,fun b hb=>absurd iw.nil hb⟩,st⟩
theorem Zk(s:Shape e.toCE){y:Nv}(qg:y∈e.xs)(hyk:∀x∈y.d.kids,0<=x/\x.toNat<e.xs.length)(hl:y.d.kids.length<1000000)(hl1:1<=y.d.kids.length){r q:Nat}(hF:qa e.toCE c0 (y.d.kids.dropLast.length+r) q)(h0:Rk e M0 fv vv LA LC c0)
  {bx t1:Nat} (gb:M0.get bx=.cells (jt y) 5 t1 false) (lb:bx<M0.next) (wb:¬e.W bx) {v2 v3 v6:EV} {fr:Fr} (f0:fr.get 0=e.lv) (f2:fr.get 2=v2) (f3:fr.get 3=v3) (f4:fr.get 4=.ptr e.cb 0) (f6:fr.get 6=v6) (f7:fr.get 7=.ptr bx 0) (f8:fr.get 8=.int .i64 0) (fd:fr.defers=[]) :
  ∃ou,exec U (.loop kG) fr M0=some ou/\∃fr' m' sv sk c',ou=.exit 4 fr' m'/\Rk e m' fv vv sv sk c'/\bO e.toCE M0 m'/\jz c' (aO (fun x c=>eK e.l x.toNat (ee e.l x).n c) y.d.kids.dropLast c0)/\bY y.d.kids.dropLast.length c0 c'/\fr'.get 0=e.lv/\fr'.get 2=v2/\fr'.get 3=v3/\fr'.get 4=.ptr e.cb 0/\fr'.get 6=v6/\fr'.get 7=.ptr bx 0/\fr'.defers=[]:=by
 have hdl:y.d.kids.dropLast.length=y.d.kids.length- 1:=List.length_dropLast;refine dr (σ:=Nat) (fun j fr m=>j<=y.d.kids.dropLast.length/\∃sv sk c,Rk e m fv vv sv sk c/\bO e.toCE M0 m/\jz c (aO (fun x c=>eK e.l x.toNat (ee e.l x).n c) (y.d.kids.dropLast.take j) c0)/\bY j c0 c/\fr.get 0=e.lv/\fr.get 2=v2/\fr.get 3=v3/\fr.get 4=.ptr e.cb 0/\fr.get 6=v6/\fr.get 7=.ptr bx 0/\fr.get 8=.int .i64 (j:Int)/\fr.defers=[]) (fun j=>y.d.kids.dropLast.length- j) _ ?_ 0 fr M0 ⟨nZ _,LA,LC,c0,h0,.refl,.refl,.refl,f0,f2,f3,f4,f6,f7,f8,fd⟩
 rintro j fr m ⟨hj,sv,sk,c,h,st,eq,sm,f0,f2,f3,f4,f6,f7,f8,fd⟩;generalize hX:exec U kG fr m=X;have nG:=(st.k bx lb wb).trans gb;have Gd:=cQ lb st.n;unfold jt at nG;have lP:=h.DB qg;have gl:=h.nd.g;have ll:=h.nd.lt;have tG:IntKind.i64.wrap ((y.d.kids.length:Int)- 1)=(y.d.kids.dropLast.length:Int):=by rw[wrap_i64 (by omega) (by omega)];omega
 obtain⟨yb,yc,yt,yr,Qz,v2',v3',v4'⟩:=h.row qg (by intro q;rw[q]at hl1;simp at hl1);rw[Qz]at nG lP;unfold CE.lv at f0;by_cases aH:j<y.d.kids.dropLast.length
 ·have hc:(j:Int)<(y.d.kids.dropLast.length:Int):=by omega
  have gP:=aZ (i:=j) (by omega);have e1:y.d.kids.dropLast.take (j+1)=y.d.kids.dropLast.take j++[y.d.kids.dropLast[j]]:=List.take_succ_eq_append_getElem aH;have Z2:y.d.kids.dropLast[j]?=some y.d.kids.dropLast[j]:=jE aH;have J6:y.d.kids[j]?=some y.d.kids.dropLast[j]:=by rw[List.getElem?_dropLast,if_pos (by omega)]at Z2;exact Z2
  generalize y.d.kids.dropLast[j]=x at *;obtain⟨x0,x1⟩:=hyk x (List.mem_of_getElem? J6);obtain⟨xn,rfl⟩:∃n:Nat,x=(n:Int):=⟨x.toNat,by omega⟩
  obtain⟨u,hu,hui,BR,b1,b2,b3,b4,b5,b6,hum⟩:=h.at (i:=xn) (by omega);have HE:=ap (n:=y.d.kids.length) (i:=j) (k:=.i64) (by omega);have LG:(is y.d.kids)[j]?=some (.int .i64 (xn:Int)):=by rw[gp,J6];rfl
  simp only[kG,f0,f2,f3,f4,f6,f7,f8,fd,nG,Gd,lP,tG,hc,gl,ll,v2',v3',HE,LG,BR,b3,Nat.mul_one,ao,simprocAttr]at hX;generalize hC:run (UT B Ev.K) 28 _ _=C at hX;have hFj:=hF.step (w':=0) (q':=q) (sm.iY hj) (by omega) (cR _);obtain⟨M2,Yv,Uy,rfl,h2,s2⟩:=Ax (h.bump _) (i:=xn) (by omega) hFj.fit.V (by have:=hFj.kn;omega) hC;clear hC;obtain⟨c2,tL⟩:∃c2,c2=if c.fe=0 then eK e.l xn u.d.n c else c:=⟨_,rfl⟩
  rw[<- tL]at h2;have Cl:bY 1 c c2:=by
   rw[tL];split
   ·exact pk
   ·exact bY.refl.iY (by omega)
  simp only[f0,f2,f3,f4,f6,f7,f8,fd,nG,Gd,gl,ll,v2',v3',HE,LG,BR,b3,gP,Nat.mul_one,ao,simprocAttr]at hX;subst hX;refine bB (j+1) (by omega) ⟨aH,Yv,Uy,c2,?_,?_,?_,sm.trans Cl,by simp only[f0,ay,Nat.reduceBEq];rfl,by simp[f2,f3,f4,f6,f7,fd,ay]⟩
  ·first|exact h2|exact h2.bump _
  ·first|exact(st.trans bO.bump).trans s2|exact((st.trans bO.bump).trans s2).trans bO.bump
  ·rw[e1];refine A4 eq ?_
   have hun:u.d.n=(ee e.l (xn:Int)).n:=by rw[hu];rfl
   rw[Int.toNat_natCast,<- hun,tL];exact .refl
 ·have hc:¬((j:Int)<(y.d.kids.dropLast.length:Int)):=by omega
  simp only[kG,f0,f2,f3,f4,f6,f7,f8,fd,nG,Gd,lP,tG,hc,ao,simprocAttr]at hX;subst hX;rw[uP (by omega)]at eq;exact bK ⟨_,_,sv,sk,c,rfl,h,st,eq,sm.iY (by omega),by simp only[f0,ay,Nat.reduceBEq];rfl,by simp[f2,f3,f4,f6,f7,fd,ay]⟩
end
end
section
def dW:ar->ar| .block _ b=>b|_=>.skip
def uB:ar:=dW (yI (qx dX))
def uD:ar:=qx (qx (qx (qx (qx uB))))
theorem agG:dX=.seq (yI dX) (.seq (.block 3 (.seq (yI uB) (.seq (yI (qx uB)) (.seq (yI (qx (qx uB))) (.seq (yI (qx (qx (qx uB)))) (.seq (yI (qx (qx (qx (qx uB))))) uD)))))) (qx (qx dX))):=rfl
theorem aji{m:Mem}{b0 e esz lo n:Nat}{x:EV}{xs:List EV}{t:Nat}(hb:m.get b0=.cells [] esz t false)(aH:b0<m.next)(im:lo<=b0)(hx:m.source esz x=some (n,xs))(hl:xs.length=n*esz)(hr:n<1000000) :
  ∃v' m',cM m e esz (.slice b0 0 0 (some 0)) x=some (v',m')/\eI m' v' xs n esz lo/\(∀c,c<m.next->c≠b0->m'.get c=m.get c)/\m.next<=m'.next/\∀c,¬iw v' c->c=b0\/m.next<=c:=by
 have own:eI m (.slice b0 0 0 (some 0)) [] 0 esz lo:=⟨.inr ⟨b0,some 0,t,rfl,im,aH,hb,.inr rfl⟩,by simp⟩;by_cases h0:n=0
 ·subst h0;refine⟨.slice b0 0 0 (some 0),m,by unfold cM;rw[hx];rfl,?_,fun _ _ _=>rfl,cR _,fun c hc=> ?_⟩
  ·have sR:xs=[]:=List.eq_nil_of_length_eq_zero (by rw[hl];simp);subst sR;exact own
  ·exact .inl (vt fun q=>hc (iw.of q))
 ·obtain⟨v',m',ha,qW,hk,hn,_,rfl⟩:=nq (e:=e) own (by omega) hx hl h0 (by unfold room;omega);refine⟨_,m',ha,by simpa using qW,fun c hc fR=>hk c hc (iw.of fR),by omega,fun c hc=>.inr ?_⟩
  have:c=m.next:=vt fun q=>hc (iw.of q)
  omega
section
variable {e:RE} {m m' M0:Mem} {fv By vv sv sk sv' sk' vv' LA LC:EV} {c c' c0:CS} {base:Nat}
theorem Rd(lw:Low e.toCE base fv)(hbm:base<=m.next)(h:Rk e m fv vv sv sk c)(hK:c.X.K.length<1000000)(hVl:c.V.length<100000)(hv:rv e.toCE base m vv c.V){fr:Fr}(f4:fr.get 4=.ptr e.cb 0)(fd:fr.defers=[]){X:Option Out}(hX:exec U uD fr m=X) :
  ∃fr' m' vv',X=some (.norm fr' m')/\Rb e m' fv vv' sv sk {c with V:=c.V++[c.X.K]}/\rv e.toCE base m' vv' (c.V++[c.X.K])/\m.next<=m'.next/\(∀b,b<base->¬e.W b->m'.get b=m.get b)/\fr'.get 0=fr.get 0/\fr'.get 2=fr.get 2/\fr'.get 3=fr.get 3/\fr'.get 4=.ptr e.cb 0/\fr'.get 6=fr.get 6/\fr'.defers=[]:=by
 have hg:=h.g;have hb:=h.lt _ (.inl rfl);obtain⟨vs,hvl,PD,hvr⟩:=id hv.is;have hsv:=og PD;have hsk:=og h.sK;unfold lO CE.lv at hg;simp only[uD,uB,yI,qx,dW,dX,f4,fd,hg,hb,hsv,hsk,ao,simprocAttr]at hX;obtain⟨D,hD⟩:∃D,ve m 19 6 (.cells [] 1 3 false)=D:=⟨_,rfl⟩
 have dn:D.next=m.next+19:=by rw[<- hD,jL];rfl
 have fc:∀b,b<m.next->D.get b=m.get b:=fun b hb=>by rw[<- hD];exact lI hb
 have mR:D.get (nb (m.next+6) 0)=.cells [] 1 3 false:=by rw[<- hD];exact lJ
 unfold ve at hD;have q6:nb (m.next+6) 0=m.next+6:=rfl;rw[hD]at hX;rw[q6]at hX mR;have hKD:Bc D sk c.X.K 0:=h.sK.eB (by omega) fun b hb _ _=>fc b hb
 obtain⟨uS,m7,ha7,Jq,Tu,nx7,bk7⟩:=aji (e:=3) (lo:=m.next+6) mR (by omega) (cR _) hKD.source (by rw[mX (wT _),uz]) hK;have hgD:=(fc _ hb).trans hg;have gc7:=(Tu e.cb (by omega) (by omega)).trans hgD;have sJ:uS.cells=some [uS]:=by rcases Jq.is with⟨rfl,_⟩|⟨_,_,_,rfl,_⟩<;>rfl
 have ads:∀b,b<m.next->m7.get b=m.get b:=fun b hb=>(Tu b (by omega) (by omega)).trans (fc b hb)
 have Wl:eI (Ec m7 (m.next+13) (.cells [uS] 1 30 false)) vv vs c.V.length 1 base:=PD.mono (by rw[jK];omega) fun b hb=>by rw[ko,if_neg (by omega)];exact ads b hb
 have hs8:(Ec m7 (m.next+13) (.cells [uS] 1 30 false)).source 1 (.slice (m.next+13) 0 1 (some 1))=some (1,[uS]):=lB (e:=30) (ro:=false) (vs:=[uS]) (esz:=1) (by rw[ko,if_pos rfl]) rfl;obtain⟨ha,ho⟩:=iM (e:=30) (x:=.slice (m.next+13) 0 1 (some 1)) (xs:=[uS]) (k:=1) Wl (by rw[jK];omega) hs8 rfl (by decide) (by unfold room;omega);have o9:∀b,b<m7.next->b≠m.next+13->iw vv b->(grow (Ec m7 (m.next+13) (.cells [uS] 1 30 false)) vv 30 1 (vs++[uS])).get b=m7.get b:=fun b h1 h2 h3=>by rw[oK (by rw[jK];exact h1) h3,ko,if_neg h2]
 have n9:(grow (Ec m7 (m.next+13) (.cells [uS] 1 30 false)) vv 30 1 (vs++[uS])).next=m7.next+1:=by rw[gq,jK];rfl
 generalize hG:grow _ vv 30 1 _=M9 at ha ho o9 n9;clear hG;unfold Ec at ha ho;have ER:∀b,b<base->M9.get b=m.get b:=fun b hb=>(o9 b (by omega) (by omega) (PD.lt (.inr hb))).trans (ads b (by omega))
 have hg9:=(ER _ (lw.w _ (.inl rfl))).trans hg;have hb9:e.cb<M9.next:=by omega
 simp only[f4,fd,hgD,ha7,gc7,hsv,sJ,ha,hg9,hb9,show nb (m.next+13) 0=m.next+13 from rfl,ao,simprocAttr]at hX;have wcb:∀b,base<=b->¬e.W b:=fun b hb hw=>by have:=lw.w _ hw;omega
 obtain⟨n1,n2,n3,n4,n5,n6⟩:=h.ne;refine⟨_,_,.slice (nb m7.next 0) 0 (c.V.length+1) none,hX.symm,?_,⟨vs++[uS],?_,?_,fun j v k hj hk=> ?_⟩,?_,fun b hb oP=> ?_,by simp[f4,fd,ay]⟩
 ·refine⟨aN,?_,?_,?_,fun b hb=> ?_,h.ne,h.len,?_,?_,h.ff⟩
  ·rw[af n1.symm,ER _ (lw.w _ (.inr (.inl rfl)))];exact h.gk
  ·rw[af n2.symm,ER _ (lw.w _ (.inr (.inr (.inl rfl))))];exact h.gz
  ·rw[af n3.symm,ER _ (lw.w _ (.inr (.inr (.inr rfl))))];exact h.ga
  ·rw[aj];have:=lw.w b hb;omega
  ·refine⟨?_,by rw[aj];have:=lw.lb;omega,h.nd.w,rfl,fun x hx=> ?_,h.nd.kf⟩
   ·rw[af (fun q=>h.nd.w (.inl q)),ER _ lw.lb];exact h.nd.g
   ·rcases(h.nd.k x hx).is with q|⟨b,c,t,ro,q1,q2,q3,q4,q5⟩
    ·exact⟨.inl q⟩
    ·have MR:=q1;obtain⟨n,AR⟩:∃n,x.d.kids.length=n+1:=⟨x.d.kids.length- 1,by have:=List.length_pos_iff.2 q5;omega⟩
     rw[AR]at MR;have aH:=lw.k x hx b n c MR;exact⟨.inr ⟨b,c,t,ro,q1,by rw[af (fun q=>(h.nd.kf x hx b n c MR).1 (.inl q)),ER b aH];exact q2,by rw[aj];omega,q4,q5⟩⟩
  ·exact h.fn.eB (by rw[aj];omega) fun b hb _ iv=>by
    rw[af (fun q=>h.ff b iv (.inl q))];exact ER b (lw.f b iv)
 ·simp only[w6,hvl,List.length_cons,List.length_nil]
 ·rw[w6];exact ho.eB (by rw[aj];exact cR _) fun b hb im _=>af fun q=>by have:=lw.w _ (.inl q);omega
 ·by_cases hj1:j<vs.length
  ·rw[rB hj1]at hj;rw[rB (by omega)]at hk;obtain⟨r1,r2⟩:=hvr j v k hj hk;have aH:∀b,¬iw v b->b<m.next:=fun b hb=>by
    rcases r1 with⟨_,rfl⟩|⟨b2,c2,t2,rfl,_,q3,_⟩
    ·exact absurd iw.nil hb
    ·by_cases qb:b=b2
     ·rw[qb];exact q3
     ·exact absurd (iw.of qb) hb
   refine⟨r1.cU (by rw[aj,n9];omega) fun b hb oP iv=> ?_,fun b iv=>iw.of (by have:=aH b iv;show b≠m7.next+0;omega)⟩
   rw[af (fun q=>oP (.inl q)),o9 b (by omega) (by omega) (r2 b iv)];exact ads b hb
  ·obtain⟨WD,_⟩:=mu.1 hj;rw[w6,List.length_cons,List.length_nil]at WD;obtain rfl:j=vs.length:=by omega
   rw[yy (cR _),Nat.sub_self]at hj;rw[hvl,yy (cR _),Nat.sub_self]at hk;cases hj;cases hk;rcases Jq.is with⟨z1,z2,z3⟩|⟨b,cap,t,z1,z2,z3,z4,z5⟩
   ·refine⟨.inl ⟨List.eq_nil_of_length_eq_zero z2,z1⟩,fun b iv=> ?_⟩
    rw[z1]at iv;exact absurd iw.nil iv
   ·have oP:¬e.W b:=wcb b (by omega);have hbk:=bk7 b (by rw[z1];exact fun q=>q b 0 _ cap rfl rfl);rw[V9]at z4;refine⟨.inr ⟨b,cap,t,z1,?_,by rw[aj,n9];omega,oP,z5⟩,fun b' iv=> ?_⟩
    ·rw[af (fun q=>oP (.inl q)),o9 b z3 (by omega) (PD.lt (.inl (by omega)))];exact z4
    ·rw[z1]at iv;by_cases qb:b'=b
     ·rw[qb];exact iw.of (by show b≠m7.next+0;omega)
     ·exact absurd (iw.of qb) iv
 ·rw[aj,n9];omega
 ·rw[af (fun q=>oP (.inl q)),ER b hb]
end
end
end Go.Proofs.YtfbnghpabppljaaGreatDoor.Ev
