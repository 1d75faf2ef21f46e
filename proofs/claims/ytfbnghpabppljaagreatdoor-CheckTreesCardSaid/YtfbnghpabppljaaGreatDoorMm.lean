/- WRk17, WRk19, PCk5, WRk20, EvNd, EvLive, WLm1, WLm2, WLw1, PCk6, WLt1, EvCard, WLt2. -/
import Derived.LaidMore
import Derived.Lib.LaidTab
import Derived.Test.YtfbnghpabppljaaGreatDoorMl
set_option linter.unusedSimpArgs false
set_option linter.unusedVariables false
set_option linter.unusedSectionVars false
set_option linter.defProp false
set_option maxRecDepth 20000
set_option maxHeartbeats 8000000
namespace Go.Proofs.YtfbnghpabppljaaGreatDoor.Ev
open Go
section
section
variable {e:RE} {m m' M0:Mem} {fv By vv sv sk sv' sk' vv' LA LC:EV} {c c' c0:CS} {base:Nat}
theorem Zn(s:Shape e.toCE)(lw:Low e.toCE base fv)(LO:base<=M0.next)(hw:∀i,dM e.l (i+1) i<500000)(h0:Rb e M0 fv vv sv sk c0)(hv0:rv e.toCE base M0 vv c0.V)(hF:∀x∈c0.F,x∈(dZ e.l (e.l.length- 1)).kids)(hl:c0.F.length<100000)(hL:c0.L=0)(hV:c0.V=[]){v2 v3:EV}{fr:Fr}
  (f0:fr.get 0=e.lv) (f2:fr.get 2=v2) (f3:fr.get 3=v3) (f4:fr.get 4=.ptr e.cb 0) (f6:fr.get 6=.int .i64 0) (fd:fr.defers=[]) :
  ∃ou,exec U (.loop dX) fr M0=some ou/\∃fr' m' vv' sv' sk' c',ou=.exit 2 fr' m'/\Rb e m' fv vv' sv' sk' c'/\rv e.toCE base m' vv' c'.V/\base<=m'.next/\(∀b,b<base->¬e.W b->m'.get b=M0.get b)/\jz c' (aO (nY e.l) c0.F c0)/\c'.F=c0.F/\fr'.get 2=v2/\fr'.get 3=v3/\fr'.get 4=.ptr e.cb 0/\fr'.defers=[]:=by
 refine dr (σ:=Nat) (fun j fr m=>j<=c0.F.length/\∃vv sv sk c,Rb e m fv vv sv sk c/\rv e.toCE base m vv c.V/\base<=m.next/\(∀b,b<base->¬e.W b->m.get b=M0.get b)/\jz c (aO (nY e.l) (c0.F.take j) c0)/\c.F=c0.F/\c.L=0/\c.V.length<=j/\fr.get 0=e.lv/\fr.get 2=v2/\fr.get 3=v3/\fr.get 4=.ptr e.cb 0/\fr.get 6=.int .i64 (j:Int)/\fr.defers=[]) (fun j=>c0.F.length- j) _ ?_ 0 fr M0 ⟨nZ _,vv,sv,sk,c0,h0,hv0,LO,fun _ _ _=>rfl,.refl,rfl,hL,by rw[hV];exact cR _,f0,f2,f3,f4,f6,fd⟩
 rintro j fr m ⟨hj,vv,sv,sk,c,h,hv,hb,hk,eq,cF,cL,cV,f0,f2,f3,f4,f6,fd⟩;generalize hX:exec U dX fr m=X;rw[agG]at hX;have hg:=h.g;have sj:=h.lt _ (.inl rfl);have gl:=h.nd.g;have ll:=h.nd.lt;have hlen:=(FV h).kA;rw[cF]at hlen;have f0':=f0;unfold lO CE.lv at hg;unfold CE.lv at f0';by_cases aH:j<c0.F.length
 ·have hc:(j:Int)<(c0.F.length:Int):=by omega
  have gP:=aZ (i:=j) (by omega);have hgj:c0.F[j]?=some c0.F[j]:=jE aH;have e1:c0.F.take (j+1)=c0.F.take j++[c0.F[j]]:=List.take_succ_eq_append_getElem aH;have nV:c0.F[j]∈c0.F:=oX aH;generalize c0.F[j]=x at *;by_cases hf:c.fe=0
  ·have hxr:=hF x nV;obtain⟨x0,_,xl,_⟩:=s.sQ hxr;obtain⟨xn,rfl⟩:∃n:Nat,x=(n:Int):=⟨x.toNat,by omega⟩
   obtain⟨z,hz,hzi,J5,d1,d2,d3,d4,d5,d6,Z1⟩:=h.at (i:=xn) (by omega);have hzz:ee e.l (xn:Int)=z.d:=by rw[hz];rfl
   have hr:=FV h;rw[cF]at hr;rcases hr with⟨q,_⟩|⟨b,cp,t,ro,rest,BX,gb,bl,bw⟩
   ·rw[q]at aH;cases aH
   have tM:(is (c0.F++rest))[j]?=some (.int .i64 (xn:Int)):=by rw[gp,rB aH,hgj];rfl
   have eC:=ap (n:=c0.F.length) (i:=j) (k:=.i64) aH;rw[BX]at hg hlen;simp only[uB,yI,qx,dW,dX,f0',f2,f3,f4,f6,fd,hg,sj,gl,ll,hlen,hc,hf,fu,gb,bl,tM,eC,J5,d6,Nat.mul_one,ao,simprocAttr]at hX;have n0:nb m.next 0=m.next:=rfl;have p1:(ext m [.cells [.int .i64 z.d.kind,z.kv,.int .i64 z.d.n,.str z.d.s,.int .i64 z.d.pos] 5 59 false]).get m.next=.cells (jt z) 5 59 false:=by rw[<- n0,aw rfl (by simp)];rfl
   have o1:∀b,b<m.next->(ext m [.cells [.int .i64 z.d.kind,z.kv,.int .i64 z.d.n,.str z.d.s,.int .i64 z.d.pos] 5 59 false]).get b=m.get b:=fun b hb=>ai hb
   have l1:m.next<(ext m [.cells [.int .i64 z.d.kind,z.kv,.int .i64 z.d.n,.str z.d.s,.int .i64 z.d.pos] 5 59 false]).next:=by rw[ak];unfold nb;simp
   generalize ext m [.cells [.int .i64 z.d.kind,z.kv,.int .i64 z.d.n,.str z.d.s,.int .i64 z.d.pos] 5 59 false]=M1 at *;rw[n0]at hX;have h1:=h.same (Nat.le_of_lt l1) o1;have wN:¬e.W m.next:=fun w=>by have:=h.lt _ w;omega
   generalize hC:run U 27 _ _=C at hX;obtain⟨M2,hq,n2,k2⟩:=MO (m:=M1);obtain rfl:=hC.symm.trans hq;clear hC hq;have h2:=h1.same n2 k2;have p2:=(k2 _ l1).trans p1;have l2:=cQ l1 n2;have kI:=h2.g;have mC:=h2.lt _ (.inl rfl);obtain⟨h3,s3⟩:=h2.pG (c':={c with X:=Mo.new}) rfl rfl rfl rfl rfl;unfold lO CE.lv at kI;simp only[f0',f2,f3,f4,f6,fd,kI,mC,ao,simprocAttr]at hX;generalize TH:M2.set e.cb _=M3 at hX;replace h3:Rk e M3 fv vv .aa .aa {c with X:=Mo.new}:=by rw[<- TH];exact h3
   replace s3:bO e.toCE M2 M3:=by rw[<- TH];exact s3
   clear TH;have p3:=(s3.k _ l2 wN).trans p2;have l3:=cQ l2 s3.n;have jV:=h3.g;have pz:=h3.lt _ (.inl rfl);have p3':=p3;obtain⟨h4,s4⟩:=h3.rG (vv':=vv) (c':={c with X:=Mo.new,R:=z.d.n}) rfl rfl rfl rfl rfl rfl;unfold lO CE.lv at jV;unfold jt at p3';simp only[f0',f2,f3,f4,f6,fd,jV,pz,p3',l3,ao,simprocAttr]at hX;generalize zw:M3.set e.cb _=M4 at hX;replace h4:Rk e M4 fv vv .aa .aa {c with X:=Mo.new,R:=z.d.n}:=by rw[<- zw];exact h4
   replace s4:bO e.toCE M3 M4:=by rw[<- zw];exact s4
   clear zw;have p4:=(s4.k _ l3 wN).trans p3;have l4:=cQ l3 s4.n;obtain⟨hfk,rD,HH,Kb,Z9⟩:=s.fn hxr;rw[hzz]at hfk rD HH Kb Z9;have auz:e.l[xn]?=some z.d:=by unfold CE.l;rw[List.getElem?_map,hzi];rfl
   have Gh:∀w∈z.d.kids,0<=w/\w.toNat<e.xs.length/\w.toNat<xn:=fun w hw=>by
    have:=s.sQ (i:=xn) (x:=w) (by rw[<- hz];exact hw);exact⟨this.1,this.2.2.1,this.2.1⟩
   have hL4:({c with X:=Mo.new,R:=z.d.n}:CS).L=0:=cL;have hdl:z.d.kids.dropLast.length=z.d.kids.length- 1:=List.length_dropLast;have TI:qa e.toCE {c with X:=Mo.new,R:=z.d.n} (z.d.kids.dropLast.length+500000) 400000:=⟨by simp only[Mo.new];omega,by simp only[Mo.new,cL];omega,Mo.Ok.new,by simp[Mo.new],by simp only[Mo.new,List.length_nil];omega,fun w hw=>hF w (cF▸hw),by rw[show ({c with X:=Mo.new,R:=z.d.n}:CS).F=c0.F from cF];omega,by simp only[cL];omega⟩;generalize hY:exec U kG.loop _ _=Y at hX;obtain⟨ou,rfl,fr5,M5,sv5,sk5,c5,rfl,h5,s5,CF,As,g0,g2,g3,g4,g6,g7,gd⟩:=cG hY (Zk s Z1 (fun w hw=>⟨(Gh w hw).1,(Gh w hw).2.1⟩) (by omega) rD (r:=500000) (q:=400000) TI h4 p4 l4 wN (v2:=v2) (v3:=v3) (v6:=.int .i64 (j:Int)) (by simp[f0,ay]) (by simp[f2,ay]) (by simp[f3,ay]) (by simp[f4,ay]) (by simp[f6,ay]) (by simp[ay]) (by simp[ay]) (by simp[fd,ay]));clear hY;have p5:=(s5.k _ l4 wN).trans p4;have l5:=cQ l4 s5.n;have Tz:=h5.g;have Kl:=h5.lt _ (.inl rfl);have DK:z.d.kids≠[]:=fun q=>by rw[q]at rD;simp at rD
   have xT:(z.d.kids.getLastD 0)=z.d.kids.getLast DK:=by rw[List.getLastD_eq_getLast?,List.getLast?_eq_some_getLast DK];rfl
   have hlm:z.d.kids.getLast DK∈z.d.kids:=List.getLast_mem DK;have lP:(ee e.l (z.d.kids.getLast DK)).kind=23:=Kb _ (by rw[List.getLast?_eq_some_getLast DK];rfl);have hlg:z.d.kids[z.d.kids.length- 1]?=some (z.d.kids.getLast DK):=by rw[<- List.getLast?_eq_getElem?,List.getLast?_eq_some_getLast DK]
   generalize z.d.kids.getLast DK=bi at *;obtain⟨b0,b1,_⟩:=Gh bi hlm;obtain⟨bn,rfl⟩:∃n:Nat,bi=(n:Int):=⟨bi.toNat,by omega⟩
   have b1:bn<e.xs.length:=by omega
   -- the model
   have oS:∀(c6:CS),jz c6 (if c5.fe=0 then nv e.l (bn+1) bn c5 else c5)->jz {c6 with V:=c6.V++[c6.X.K]} (aO (nY e.l) (c0.F.take (j+1)) c0):=by
    intro c6 h6;rw[e1,jF];have uF:=eq.2.2 hf;rw[<- uF,if_pos hf,HT (hd:=hzz),xT];refine XD ?_
    rw[Int.toNat_natCast];by_cases hq:c5.fe=0
    ·have q5:=CF.2.2 hq;rw[<- q5,if_pos hq];rw[if_pos hq]at h6;exact h6
    ·rw[if_neg (by rw[<- CF.1];exact hq)];rw[if_neg hq]at h6;exact h6.trans CF
   have s15:bO e.toCE M1 M5:=(((bO.bJ n2 k2).trans s3).trans s4).trans s5;have fin:∀(M6:Mem) (sv6 sk6:EV) (c6:CS) (fr6:Fr),Rk e M6 fv vv sv6 sk6 c6->bO e.toCE M5 M6->bY (dM e.l (bn+1) bn) c5 c6->jz c6 (if c5.fe=0 then nv e.l (bn+1) bn c5 else c5)->fr6.get 0=e.lv->fr6.get 2=v2->fr6.get 3=v3->fr6.get 4=.ptr e.cb 0->fr6.get 6=.int .i64 (j:Int)->fr6.defers=[]->∀Z,exec U uD fr6 M6=Z->∃fr' m' vv' c',Z=some (.norm fr' m')/\Rb e m' fv vv' sv6 sk6 c'/\rv e.toCE base m' vv' c'.V/\base<=m'.next/\(∀b,b<base->¬e.W b->m'.get b=M0.get b)/\jz c' (aO (nY e.l) (c0.F.take (j+1)) c0)/\c'.F=c0.F/\c'.L=0/\c'.V.length<=j+1/\fr'.get 0=e.lv/\fr'.get 2=v2/\fr'.get 3=v3/\fr'.get 4=.ptr e.cb 0/\fr'.get 6=.int .i64 (j:Int)/\fr'.defers=[]:=by
    intro M6 sv6 sk6 c6 fr6 h6 s6 LB XG r0 r2 r3 r4 r6 rd Z hZ;have s16:=s15.trans s6;have Su:c6.V=c.V:=LB.V.trans As.V;have Hn:m.next<=M6.next:=ji (Nat.le_of_lt l1) s16.n;have k16:∀b,b<m.next->¬e.W b->M6.get b=m.get b:=fun b hb hw=>(s16.k b (by omega) hw).trans (o1 b hb)
    have hv6:rv e.toCE base M6 vv c6.V:=by rw[Su];exact hv.cU lw.w Hn k16
    have hw6:=hw bn;obtain⟨fr7,m7,vv7,rfl,h7,v7,n7,k7,t0,t2,t3,t4,t6,td⟩:=Rd lw (ji hb Hn) h6 (by have a6:=LB.kn;have a5:c5.X.K.length<=0+z.d.kids.dropLast.length:=As.kn;omega) (by rw[Su];omega) hv6 r4 rd hZ;exact⟨fr7,m7,vv7,_,rfl,h7,v7,ji (ji hb Hn) n7,fun b sN hw=>(k7 b sN hw).trans ((k16 b (by omega) hw).trans (hk b sN hw)),oS c6 XG,(LB.F.trans As.F).trans cF,(LB.L.trans As.L).trans cL,by simp only[w6,Su,List.length_cons,List.length_nil];omega,t0.trans r0,t2.trans r2,t3.trans r3,t4,t6.trans r6,td⟩
   unfold lO CE.lv at Tz;have p5':=p5;unfold jt at p5';by_cases WN:c5.fe=0
   ·obtain⟨kb,kc,kt,kro,w1,w2,w3,w4⟩:=h5.row Z1 DK;have ahp:=h5.DB Z1;have kL:=ap (n:=z.d.kids.length) (i:=z.d.kids.length- 1) (k:=.i64) (by omega);have sS:(is z.d.kids)[z.d.kids.length- 1]?=some (.int .i64 (bn:Int)):=by rw[gp,hlg];rfl
    have tG:IntKind.i64.wrap ((z.d.kids.length:Int)- 1)=((z.d.kids.length- 1:Nat):Int):=by rw[wrap_i64 (by omega) (by omega)];omega
    rw[w1]at p5' ahp;simp only[g2,g3,g4,g6,g7,gd,Tz,Kl,WN,fu,p5',l5,ahp,tG,w2,w3,kL,sS,Nat.mul_one,ao,simprocAttr]at hX;generalize hC:run (UT B Ev.K) 29 _ _=C at hX;obtain⟨M6,sv6,sk6,c6,rfl,h6,s6,XG,LB⟩:=(UN s (bn+1)).2 h5 WN (TI.step As (by have:=hw bn;omega) (by have:=s.n4;omega)) b1 (Nat.lt_succ_self _) lP hC;clear hC;simp only[ao,simprocAttr]at hX;generalize hZ:exec (UT B Ev.K) uD _ M6=Z at hX;obtain⟨fr7,m7,vv7,c7,rfl,r1,r2,r3,r4,r5,r6,r7,r8,t0,t2,t3,t4,t6,td⟩:=fin M6 sv6 sk6 c6 _ h6 s6 LB XG (by simp[g0,ay]) (by simp[g2,ay]) (by simp[g3,ay]) (by simp[g4,ay]) (by simp[g6,ay]) (by simp[gd,ay]) Z hZ;clear hZ;simp only[t0,t2,t3,t4,t6,td,gP,ao,simprocAttr]at hX;subst hX;exact bB (j+1) (by omega) ⟨aH,vv7,sv6,sk6,c7,r1,r2,r3,r4,r5,r6,r7,r8,by simp[t0,t2,t3,t4,td,ay]⟩
   ·simp only[g2,g3,g4,g6,g7,gd,Tz,Kl,WN,fh,ao,simprocAttr]at hX;generalize hZ:exec (UT B Ev.K) uD _ M5=Z at hX;obtain⟨fr7,m7,vv7,c7,rfl,r1,r2,r3,r4,r5,r6,r7,r8,t0,t2,t3,t4,t6,td⟩:=fin M5 sv5 sk5 c5 _ h5 .refl (bY.refl.iY (nZ _)) (by rw[if_neg WN];exact .refl) (by simp[g0,ay]) (by simp[g2,ay]) (by simp[g3,ay]) (by simp[g4,ay]) (by simp[g6,ay]) (by simp[gd,ay]) Z hZ;clear hZ;simp only[t0,t2,t3,t4,t6,td,gP,ao,simprocAttr]at hX;subst hX;exact bB (j+1) (by omega) ⟨aH,vv7,sv5,sk5,c7,r1,r2,r3,r4,r5,r6,r7,r8,by simp[t0,t2,t3,t4,td,ay]⟩
  ·simp only[uB,yI,qx,dW,dX,f0',f2,f3,f4,f6,fd,hg,sj,hlen,hc,hf,fh,ao,simprocAttr]at hX;subst hX;refine bK ⟨_,_,vv,sv,sk,c,rfl,h,hv,hb,hk,?_,cF,by simp[f2,f3,f4,fd,ay]⟩
   have e2:c0.F=c0.F.take j++c0.F.drop j:=(List.take_append_drop _ _).symm;rw[e2,Dh,kZ (by rw[<- eq.1];exact hf)];exact eq
 ·have hc:¬((j:Int)<(c0.F.length:Int)):=by omega
  obtain rfl:j=c0.F.length:=by omega
  simp only[uB,yI,qx,dW,dX,f0',f2,f3,f4,f6,fd,hg,sj,hlen,hc,ao,simprocAttr]at hX;subst hX;rw[List.take_length]at eq;exact bK ⟨_,_,vv,sv,sk,c,rfl,h,hv,hb,hk,eq,cF,by simp[f2,f3,f4,fd,ay]⟩
end
end
section
theorem FU{l:List Nd}{t:Nat}{nl:Bool}(hs:Small l):bA B K vM [row nl t 5 (lC l)]=some (bo (lH l)):=by
 have hlen:=hs.len;rw[dY (by simp[jQ])];have e:=fun t nl=>UM (t:=t) (nl:=nl) hs
 unfold lH;by_cases h:jW l
 ·have hw:IntKind.i64.wrap ((l.length:Int)- 1)=((l.length- 1:Nat):Int):=by have:=h.2.1;rw[wrap_i64 (by omega) (by omega)];omega
  obtain⟨d,hd,hk⟩:=PA h.2.1;have hi:idx l.length (.int .i64 ((l.length- 1:Nat):Int))=some (l.length- 1):=ap (by have:=h.2.1;omega);simp only[jQ,e,h,hw,hk,hi,hd,jG,eL,Nd.cells,fu,ao,simprocAttr]
 ·simp only[jQ,e,h,fh,ao,simprocAttr]
theorem W4{m:Mem}{v:EV}{cs xs:List EV}{n esz e lo:Nat}(h:eI m v cs n esz lo):(grow m v e esz xs).get m.next=.cells xs esz e false:=by
 unfold grow
 split
 ·rename_i b o k
  have:b<m.next:=(h.lT (c:=b) fun q=>q b o k none rfl rfl).2;rw[af (by omega),cN,if_pos rfl]
 ·rw[cN,if_pos rfl]
def T3(m:Mem)(v:EV)(l:List Int):Prop:=∀b o k c,v=.slice b o k c->m.get b=.cells (is l) 1 3 false
theorem aeR{m:Mem}{v:EV}{l:List Int}{n base:Nat}{x:Int}(h:eI m v (is l) n 1 base)(hb:base<=m.next)(hn:n<1000000):∃M v',cM (ext m [.cells [.int .i64 x] 1 3 false]) 3 1 v (.slice (nb m.next 0) 0 1 (some 1))=some (v',M)/\eI M v' (is (l++[x])) (n+1) 1 base/\m.next<=M.next/\(∀b,b<m.next->iw v b->M.get b=m.get b)/\v'.cells=some [v']/\(∀b,b<m.next->iw v' b)/\T3 M v' (l++[x]):=by
 have hg:=W4 (e:=3) (xs:=is l++[.int .i64 x]) (h.ext [.cells [.int .i64 x] 1 3 false]);obtain⟨ha,ho⟩:=iM (e:=3) (h.ext [.cells [.int .i64 x] 1 3 false]) (by rw[ak];unfold nb;omega) (kY rfl) rfl (by decide) (by unfold room;omega);refine⟨_,_,ha,by rw[sd];exact ho,by rw[gq,ak];unfold nb;simp;omega,fun b hb ad6=> ?_,rfl,fun b hb=>iw.of ?_,fun b o k c he=> ?_⟩
 ·rw[oK (by rw[ak];unfold nb;omega) ad6,ai hb]
 ·rw[ak];unfold nb;simp;omega
 ·cases he;rw[sd];exact hg
def apart(v w:EV):Prop:=∀b,¬iw v b->iw w b
theorem apart.symm{v w:EV}(h:apart v w):apart w v:=fun b hb=>vt fun q=>hb (h b q)
theorem apart.new{m:Mem}{v w:EV}{cs:List EV}{n esz lo:Nat}(h:eI m w cs n esz lo)(hv:∀b,b<m.next->iw v b):apart v w:=fun b hb=>vt fun q=>hb (hv b (h.lT q).2)
def uc(lv v1 v2 v3:EV):List EV:=[lv,v1,v2,v3,.aa,.aa,.int .i64 0,.aa,.aa,.int .i64 0,.int .i64 0,.int .i64 0,.int .i64 0,.int .i64 0]
theorem adk{lv:EV}{n cb base:Nat}(hn:n<100000)(vn:∀M:Mem,kA lv M=some (.val (.int .i64 (n:Int)) M)){M0:Mem}(hcb:cb<base)(LO:base<=M0.next)(hg0:M0.get cb=.cells (uc lv .aa .aa .aa) 14 ax false){v2' v3':EV}{fr:Fr}
  (f0:fr.get 0=lv) (f2:fr.get 2=v2') (f3:fr.get 3=v3') (f4:fr.get 4=.ptr cb 0) (f5:fr.get 5=.int .i64 0) (fd:fr.defers=[]) :
  ∃ou,exec U (.loop kH) fr M0=some ou/\∃fr' m' v1 v2 v3,ou=.exit 0 fr' m'/\m'.get cb=.cells (uc lv v1 v2 v3) 14 ax false/\eI m' v1 (is (List.replicate n 0)) n 1 base/\eI m' v2 (is (List.replicate n (-1))) n 1 base/\eI m' v3 (is (List.replicate n (-1))) n 1 base/\T3 m' v1 (List.replicate n 0)/\T3 m' v2 (List.replicate n (-1))/\T3 m' v3 (List.replicate n (-1))/\apart v1 v2/\apart v1 v3/\apart v2 v3/\base<=m'.next/\(∀b,b<base->b≠cb->m'.get b=M0.get b)/\fr'.get 0=lv/\fr'.get 2=v2'/\fr'.get 3=v3'/\fr'.get 4=.ptr cb 0/\fr'.defers=[]:=by
 have on:∀m x,eI m .aa (is (List.replicate 0 x)) 0 1 base:=fun m x=>⟨.inl ⟨rfl,rfl,rfl⟩,rfl⟩
 refine dr (σ:=Nat) (fun j fr m=>j<=n/\∃v1 v2 v3,m.get cb=.cells (uc lv v1 v2 v3) 14 ax false/\eI m v1 (is (List.replicate j 0)) j 1 base/\eI m v2 (is (List.replicate j (-1))) j 1 base/\eI m v3 (is (List.replicate j (-1))) j 1 base/\T3 m v1 (List.replicate j 0)/\T3 m v2 (List.replicate j (-1))/\T3 m v3 (List.replicate j (-1))/\apart v1 v2/\apart v1 v3/\apart v2 v3/\base<=m.next/\(∀b,b<base->b≠cb->m.get b=M0.get b)/\fr.get 0=lv/\fr.get 2=v2'/\fr.get 3=v3'/\fr.get 4=.ptr cb 0/\fr.get 5=.int .i64 (j:Int)/\fr.defers=[]) (fun j=>n- j) _ ?_ 0 fr M0 ⟨nZ _,.aa,.aa,.aa,hg0,on _ _,on _ _,on _ _,fun _ _ _ _ h=>(by cases h),fun _ _ _ _ h=>(by cases h),fun _ _ _ _ h=>(by cases h),fun b hb=>iw.nil,fun b hb=>iw.nil,fun b hb=>iw.nil,LO,fun _ _ _=>rfl,f0,f2,f3,f4,f5,fd⟩
 rintro j fr m ⟨hj,v1,v2,v3,hg,o1,o2,o3,T1,T2,T3',a12,a13,a23,hb,hk,f0,f2,f3,f4,f5,fd⟩;generalize hX:exec U kH fr m=X;by_cases aH:j<n
 ·have hc:(j:Int)<(n:Int):=by omega
  have gP:=aZ (i:=j) (by omega);have lc:cb<m.next:=by omega
  have hoc:∀{v:EV} {l:List EV} {k:Nat} {m:Mem},eI m v l k 1 base->iw v cb:=fun h=>vt fun q=>by have:=(h.lT q).1;omega
  obtain⟨A1,w1,b1,p1,q1,r1,s1,t1,u1⟩:=aeR (x:=0) o1 hb (by omega);have hgA:=(r1 cb lc (hoc o1)).trans hg;have uE:=hg;unfold uc at uE hgA;simp only[kH,f0,f2,f3,f4,f5,fd,vn,hc,uE,lc,b1,hgA,s1,cQ lc q1,ao,simprocAttr]at hX;have G6:∀{A:Mem} {x:bX} {v:EV} {l:List EV} {k:Nat},eI A v l k 1 base->eI (A.set cb x) v l k 1 base:=fun{A x v l k} h=>h.eB (by rw[aj];exact cR _) fun b _ im _=>af (by omega)
  have uT:∀{A A':Mem} {u v:EV} {l:List EV} {k:Nat},eI A v l k 1 base->A.next<=A'.next->(∀b,b<A.next->iw u b->A'.get b=A.get b)->apart v u->eI A' v l k 1 base:=fun h hn hk ha=>h.eB hn fun b hb _ iv=>hk b hb (ha b iv)
  have GY:∀{A:Mem} {x:bX} {v:EV} {l:List Int} {k:Nat},eI A v (is l) k 1 base->T3 A v l->T3 (A.set cb x) v l:=fun{A x v l k} h ht b o k' c he=>by
   have:=(h.lT (c:=b) fun q=>q b o k' c he rfl).1;rw[af (by omega)];exact ht b o k' c he
  have FB:∀{A A':Mem} {u v:EV} {l:List Int} {k:Nat},eI A v (is l) k 1 base->T3 A v l->(∀b,b<A.next->iw u b->A'.get b=A.get b)->apart v u->T3 A' v l:=fun{A A' u v l k} h ht hk ha b o k' c he=>by
   have iv:¬iw v b:=fun q=>q b o k' c he rfl
   rw[hk b (h.lT iv).2 (ha b iv)];exact ht b o k' c he
  have T1a:=GY (x:=.cells (uc lv w1 v2 v3) 14 ax false) p1 u1;have T2a:=GY (x:=.cells (uc lv w1 v2 v3) 14 ax false) (uT o2 q1 r1 a12.symm) (FB o2 T2 r1 a12.symm);have T3a:=GY (x:=.cells (uc lv w1 v2 v3) 14 ax false) (uT o3 q1 r1 a13.symm) (FB o3 T3' r1 a13.symm);have o2a:=G6 (x:=.cells (uc lv w1 v2 v3) 14 ax false) (uT o2 q1 r1 a12.symm);have o3a:=G6 (x:=.cells (uc lv w1 v2 v3) 14 ax false) (uT o3 q1 r1 a13.symm);have o1a:=G6 (x:=.cells (uc lv w1 v2 v3) 14 ax false) p1;have aeW:apart w1 v2:=.new o2 t1;have aeV:apart w1 v3:=.new o3 t1;have hga:(A1.set cb (.cells (uc lv w1 v2 v3) 14 ax false)).get cb=.cells (uc lv w1 v2 v3) 14 ax false:=aN;have ka:∀b,b<base->b≠cb->(A1.set cb (.cells (uc lv w1 v2 v3) 14 ax false)).get b=m.get b:=fun b sN fR=>(af fR).trans (r1 b (by omega) (vt fun q=>by have:=(o1.lT q).1;omega))
  have na:m.next<=(A1.set cb (.cells (uc lv w1 v2 v3) 14 ax false)).next:=by rw[aj];exact q1
  have sna:(A1.set cb (.cells (uc lv w1 v2 v3) 14 ax false)).next=A1.next:=aj;generalize hA:A1.set cb (.cells (uc lv w1 v2 v3) 14 ax false)=A at *;unfold uc at hA;rw[hA,<- sna]at hX;obtain⟨B1,w2,b2,p2,q2,r2,s2,t2,u2⟩:=aeR (x:= -1) o2a (by omega) (by omega);have lcA:cb<A.next:=by omega
  have hgB:=(r2 cb lcA (hoc o2a)).trans hga;have ahH:=hga;unfold uc at ahH hgB;simp only[f0,f2,f3,f4,f5,fd,ahH,lcA,b2,hgB,s2,cQ lcA q2,ao,simprocAttr]at hX;have T1b:=GY (x:=.cells (uc lv w1 w2 v3) 14 ax false) (uT o1a q2 r2 aeW) (FB o1a T1a r2 aeW);have T3b:=GY (x:=.cells (uc lv w1 w2 v3) 14 ax false) (uT o3a q2 r2 a23.symm) (FB o3a T3a r2 a23.symm);have T2b:=GY (x:=.cells (uc lv w1 w2 v3) 14 ax false) p2 u2;have o1b:=G6 (x:=.cells (uc lv w1 w2 v3) 14 ax false) (uT o1a q2 r2 aeW);have o3b:=G6 (x:=.cells (uc lv w1 w2 v3) 14 ax false) (uT o3a q2 r2 a23.symm);have o2b:=G6 (x:=.cells (uc lv w1 w2 v3) 14 ax false) p2;have aqg:apart w1 w2:=(apart.new o1a t2).symm;have aeU:apart w2 v3:=.new o3a t2;have Kf:(B1.set cb (.cells (uc lv w1 w2 v3) 14 ax false)).get cb=.cells (uc lv w1 w2 v3) 14 ax false:=aN;have kb:∀b,b<base->b≠cb->(B1.set cb (.cells (uc lv w1 w2 v3) 14 ax false)).get b=A.get b:=fun b sN fR=>(af fR).trans (r2 b (by omega) (vt fun q=>by have:=(o2a.lT q).1;omega))
  have nb':A.next<=(B1.set cb (.cells (uc lv w1 w2 v3) 14 ax false)).next:=by rw[aj];exact q2
  have snb:(B1.set cb (.cells (uc lv w1 w2 v3) 14 ax false)).next=B1.next:=aj;generalize hB:B1.set cb (.cells (uc lv w1 w2 v3) 14 ax false)=Bm at *;unfold uc at hB;rw[hB,<- snb]at hX;obtain⟨C1,w3,b3,p3,q3,r3,s3,t3,u3⟩:=aeR (x:= -1) o3b (by omega) (by omega);have lcB:cb<Bm.next:=by omega
  have hgC:=(r3 cb lcB (hoc o3b)).trans Kf;have WK:=Kf;unfold uc at WK hgC;simp only[f0,f2,f3,f4,f5,fd,WK,lcB,b3,hgC,s3,cQ lcB q3,gP,ao,simprocAttr]at hX;have T1c:=GY (x:=.cells (uc lv w1 w2 w3) 14 ax false) (uT o1b q3 r3 aeV) (FB o1b T1b r3 aeV);have T2c:=GY (x:=.cells (uc lv w1 w2 w3) 14 ax false) (uT o2b q3 r3 aeU) (FB o2b T2b r3 aeU);have T3c:=GY (x:=.cells (uc lv w1 w2 w3) 14 ax false) p3 u3;have o1c:=G6 (x:=.cells (uc lv w1 w2 w3) 14 ax false) (uT o1b q3 r3 aeV);have o2c:=G6 (x:=.cells (uc lv w1 w2 w3) 14 ax false) (uT o2b q3 r3 aeU);have o3c:=G6 (x:=.cells (uc lv w1 w2 w3) 14 ax false) p3;have aqf:apart w1 w3:=(apart.new o1b t3).symm;have aqe:apart w2 w3:=(apart.new o2b t3).symm;have kc:∀b,b<base->b≠cb->(C1.set cb (.cells (uc lv w1 w2 w3) 14 ax false)).get b=Bm.get b:=fun b sN fR=>(af fR).trans (r3 b (by omega) (vt fun q=>by have:=(o3b.lT q).1;omega))
  subst hX;have e0:∀x:Int,List.replicate j x++[x]=List.replicate (j+1) x:=fun x=>List.replicate_succ'.symm
  rw[e0]at o1c o2c o3c T1c T2c T3c;exact bB (j+1) (by omega) ⟨aH,w1,w2,w3,aN,o1c,o2c,o3c,T1c,T2c,T3c,aqg,aqf,aqe,by rw[aj];omega,fun b sN fR=>(kc b sN fR).trans ((kb b sN fR).trans ((ka b sN fR).trans (hk b sN fR))),by simp[f0,f2,f3,f4,fd,ay]⟩
 ·have hc:¬((j:Int)<(n:Int)):=by omega
  obtain rfl:j=n:=by omega
  simp only[kH,f0,f2,f3,f4,f5,fd,vn,hc,ao,simprocAttr]at hX;subst hX;exact bK ⟨_,_,v1,v2,v3,rfl,hg,o1,o2,o3,T1,T2,T3',a12,a13,a23,hb,hk,by simp[f0,f2,f3,f4,fd,ay]⟩
end
section
def Ad(c:CS):Prop:=c.fe=0->c.fp=0
theorem tl{c:CS}{e p:Int}(h:e≠0):Ad (c.fault e p):=fun q=>absurd q h
theorem Vs{l:List Nd}{i:Nat}{c:CS}(h:Ad c):Ad (ju l i c):=by
 unfold ju
 try simp only
 repeat' split
 all_goals first|exact tl (by decide)|exact h
theorem Vu{l:List Nd}:∀(f i:Nat) (c:CS),Ad c->Ad (qi l f i c)
 |0,i,c,h=>h
 |f+1,i,c,h=>by
  have h1:Ad (aO (fun x c=>qi l f x.toNat c) (dZ l i).kids c):=oh h fun x _ c hc=>Vu f x.toNat c hc
  rw[qi]
  try simp only
  split
  ·exact Vs h1
  ·exact h1
theorem Dp{l:List Nd}{i:Nat}{k:Int}{c:CS}(h:Ad c):Ad (eK l i k c):=by
 unfold eK
 split
 ·exact tl (by decide)
 ·exact h
theorem Vt{c:CS}{p:Prop}[Decidable p]{e q:Int}(he:e≠0)(h:Ad c):Ad (c.ph p e q):=by
 unfold CS.ph
 split
 ·exact h
 ·exact tl he
theorem ZI{l:List Nd}{i:Nat}{c:CS}(h:Ad c):Ad (fH l i c):=by
 unfold fH
 try simp only
 repeat' split
 all_goals first|exact Dp h|exact Vt (by decide) h|exact tl (by decide)|exact h
theorem Vr{l:List Nd}:∀(f i:Nat) (c:CS),Ad c->Ad (nv l f i c)
 |0,i,c,h=>h
 |f+1,i,c,h=>by
  have go:∀(xs:List Int) (c:CS),Ad c->Ad (aO (fun x c=>nv l f x.toNat c) xs c):=fun xs c h=>oh h fun x _ c hc=>Vr f x.toNat c hc
  have h1:∀xs,Ad (aO (fun x c=>qi l f x.toNat c) xs c):=fun xs=>oh h fun x _ c hc=>Vu f x.toNat c hc
  rw[nv]
  try simp only
  split
  ·have h2:=go (dZ l i).kids {c with X:=c.X.open_} h;exact h2
  ·have h2:=h1 (cu (dZ l i));generalize aO (fun x c=>qi l f x.toNat c) (cu (dZ l i)) c=c1 at *
   split
   ·have h3:=ZI (l:=l) (i:=i) h2;generalize fH l i c1=c2 at *
    split
    ·split
     ·have h4:Ad (eK l i 1 {c2 with X:=c2.X.open_}):=Dp h3;generalize eK l i 1 {c2 with X:=c2.X.open_}=c3 at *;exact go (cd (dZ l i)) {c3 with L:=c3.L+1} h4
     ·split
      ·exact go (cd (dZ l i)) {c2 with L:=c2.L+1} h3
      ·exact go (cd (dZ l i)) c2 h3
    ·exact h3
   ·exact h2
theorem ZH{l:List Nd}{x:Int}{c:CS}(h:Ad c):Ad (nY l x c):=by
 have h1:Ad (aO (fun x c=>eK l x.toNat (ee l x).n c) (ee l x).kids.dropLast {c with X:=Mo.new,R:=(ee l x).n}):=oh (show Ad {c with X:=Mo.new,R:=(ee l x).n}from h) fun y _ c hc=>Dp hc
 unfold nY
 try simp only
 generalize aO (fun x c=>eK l x.toNat (ee l x).n c) (ee l x).kids.dropLast {c with X:=Mo.new,R:=(ee l x).n}=c1 at *;have h2:Ad (if c1.fe=0 then nv l (((ee l x).kids.getLastD 0).toNat+1) ((ee l x).kids.getLastD 0).toNat c1 else c1):=by
  split
  ·exact Vr _ _ _ h1
  ·exact h1
 exact h2
theorem Dn{l:List Nd}:∀(xs:List Int) (c:CS),Ad c->Ad (xs.foldl (cP l) c)
 |[],c,h=>h
 |x::xs,c,h=>by
  rw[List.foldl_cons];refine Dn xs _ ?_
  unfold cP
  try simp only
  split
  ·exact fun q=>absurd (show (10:Int)=0 from q) (by decide)
  ·exact h
theorem RD{l:List Nd}{c:CS}(h:Ad c):Ad (eP l c):=by
 have h1:=Dn (l:=l) (dZ l (l.length- 1)).kids c h;unfold eP
 try simp only
 repeat' split
 all_goals first|exact tl (by decide)|exact h1
theorem RF{l:List Nd}:Ad (e8 l):=by
 unfold e8
 try simp only
 have h0:Ad (CS.zero l):=fun _=>rfl
 exact oh (RD h0) fun x _ c hc=>ZH hc
end
section
def Yg(a b:CS):Prop:=a.fe=b.fe/\a.fp=b.fp/\a.K=b.K/\a.S=b.S/\a.C=b.C/\a.F=b.F/\a.V=b.V/\a.M=b.M
theorem Dg{l:List Nd}:∀(F:List Int) (c:CS) (x:Mo),Yg (aO (nY l) F {c with X:=x}) (aO (nY l) F c)
 |[],c,x=>⟨rfl,rfl,rfl,rfl,rfl,rfl,rfl,rfl⟩
 |y::F,c,x=>by
  rw[ny,ny];by_cases hf:c.fe=0
  ·rw[if_pos hf,if_pos (show ({c with X:=x}:CS).fe=0 from hf)];exact⟨rfl,rfl,rfl,rfl,rfl,rfl,rfl,rfl⟩
  ·rw[if_neg hf,if_neg (show ¬({c with X:=x}:CS).fe=0 from hf)];exact Dg F c x
theorem F7{l:List Nd}{a:Int}{x:Mo}:∀(xs:List Int) (c:CS),xs.foldl (cP l) {c with M:=a,X:=x}={xs.foldl (cP l) c with M:=a,X:=x}
 |[],c=>rfl
 |y::xs,c=>by
  rw[List.foldl_cons,List.foldl_cons,<- F7 xs]
  congr 1
  unfold cP;simp only
  split<;>rfl
theorem VE{l:List Nd}{a:Int}{x:Mo}{c:CS}:(eP l {c with M:=a,X:=x}).fe=(eP l c).fe/\(eP l {c with M:=a,X:=x}).fp=(eP l c).fp/\((eP l c).fe=0->eP l {c with M:=a,X:=x}={eP l c with X:=x}):=by
 unfold eP;simp only[F7];generalize List.foldl (cP l) c (dZ l (l.length- 1)).kids=d;by_cases hf:d.fe=0
 ·simp only[hf,if_true];cases uI l d.F oj with
  |none=>exact⟨rfl,rfl,fun w=>absurd w (by simp[CS.fault])⟩
  |some f=>
   simp only
   split
   ·exact⟨rfl,rfl,fun _=>rfl⟩
   ·exact⟨rfl,rfl,fun w=>absurd w (by simp[CS.fault])⟩
 ·simp only[if_neg hf];exact⟨trivial,trivial,fun w=>absurd w hf⟩
theorem MH{l:List Nd}{a:Int}{x:Mo}{c3 c4:CS}(h3:jz c3 (eP l {CS.zero l with M:=a,X:=x}))(h4:jz c4 (aO (nY l) c3.F c3)):c4.fe=(e8 l).fe/\c4.fp=(e8 l).fp/\(c4.fe=0->Yg c4 (e8 l)):=by
 obtain⟨n1,n2,n3⟩:=VE (l:=l) (a:=a) (x:=x) (c:=CS.zero l);have e0:e8 l=aO (nY l) (eP l (CS.zero l)).F (eP l (CS.zero l)):=rfl;by_cases hf:c3.fe=0
 ·have hz:(eP l (CS.zero l)).fe=0:=by rw[<- n1,<- h3.1];exact hf
  have e3:c3={eP l (CS.zero l)with X:=x}:=(h3.2.2 hf).trans (n3 hz);have hs:Yg (aO (nY l) c3.F c3) (e8 l):=by rw[e3,e0];exact Dg _ _ _
  exact⟨h4.1.trans hs.1,h4.2.1.trans hs.2.1,fun q=>by rw[h4.2.2 q];exact hs⟩
 ·have hz:(eP l (CS.zero l)).fe≠0:=by rw[<- n1,<- h3.1];exact hf
  rw[kZ hf]at h4;rw[e0,kZ hz];exact⟨h4.1.trans (h3.1.trans n1),h4.2.1.trans (h3.2.1.trans n2),fun q=>absurd (h4.1.symm.trans q) hf⟩
theorem MQ{lb t:Nat}{lc:Option Nat}{ro:Bool}{xs:List Nv}{m:Mem}(h:YO lb lc t ro xs m)(hs:Small (xs.map Nv.d))(hl:xs.length<100000)(hk:jW (xs.map Nv.d)->∀x∈xs,x.d.kids.length<1000000)(hw:jW (xs.map Nv.d)->∀i,dM (xs.map Nv.d) (i+1) i<500000){X:Option Fin}(hX:run U rU [.slice lb 0 xs.length lc] m=X) :
  ∃m' a fe fp,X=some (.ret (.tuple [.agg a,.agg [.int .i64 fe,.int .i64 fp]]) m')/\m.next<=m'.next/\(∀b,b<m.next->m'.get b=m.get b)/\
   ((¬lH (xs.map Nv.d)/\a=pe/\fe=5/\fp=0)\/(lH (xs.map Nv.d)/\fe=(e8 (xs.map Nv.d)).fe/\(fe≠0->a=pe/\fp=(e8 (xs.map Nv.d)).fp)/\(fe=0->fp=(e8 (xs.map Nv.d)).fp/\Yl m' a (e8 (xs.map Nv.d))))):=by
 rw[cf (by simp[gU])]at hX;have hz:∀Bs,fY (ext m Bs) (.slice lb 0 xs.length lc)=some (.fz 0 5 (lC (xs.map Nv.d))):=fun Bs=>(h.cU (by rw[ak];exact aq) fun b hb=>ai hb).nJ
 have hwh:∀t,bA B Ev.K vM [.fz t 5 (lC (xs.map Nv.d))]=some (bo (lH (xs.map Nv.d))):=fun t=>FU (t:=t) (nl:=false) hs
 have nb0:nb m.next 0=m.next:=rfl;have nb1:nb m.next 1=m.next+1:=rfl;have nb2:nb m.next 2=m.next+2:=rfl;by_cases hp:lH (xs.map Nv.d)
 ·simp only[gU,hz,hwh,hp,ao,simprocAttr]at hX;generalize hY:exec _ (.loop kH) _ _=Y at hX;have Tx:0<xs.length:=by have:=hp.1.2.1;rw[List.length_map]at this;exact this
  have en:(ext m [bX.cells [EV.aa,EV.aa,EV.aa,EV.aa,EV.aa,EV.int IntKind.i64 0] 6 36 false,bX.cells [EV.int IntKind.i64 0,EV.int IntKind.i64 0] 2 26 false,bX.cells [EV.slice lb 0 xs.length lc,EV.aa,EV.aa,EV.aa,EV.aa,EV.aa,EV.int IntKind.i64 0,EV.aa,EV.aa,EV.int IntKind.i64 0,EV.int IntKind.i64 0,EV.int IntKind.i64 0,EV.int IntKind.i64 0,EV.int IntKind.i64 0] 14 70 false]).next=m.next+3:=by rw[ak];rfl
  have eo:∀b,b<m.next->(ext m [bX.cells [EV.aa,EV.aa,EV.aa,EV.aa,EV.aa,EV.int IntKind.i64 0] 6 36 false,bX.cells [EV.int IntKind.i64 0,EV.int IntKind.i64 0] 2 26 false,bX.cells [EV.slice lb 0 xs.length lc,EV.aa,EV.aa,EV.aa,EV.aa,EV.aa,EV.int IntKind.i64 0,EV.aa,EV.aa,EV.int IntKind.i64 0,EV.int IntKind.i64 0,EV.int IntKind.i64 0,EV.int IntKind.i64 0,EV.int IntKind.i64 0] 14 70 false]).get b=m.get b:=fun b hb=>ai hb
  have x0:(ext m [bX.cells [EV.aa,EV.aa,EV.aa,EV.aa,EV.aa,EV.int IntKind.i64 0] 6 36 false,bX.cells [EV.int IntKind.i64 0,EV.int IntKind.i64 0] 2 26 false,bX.cells [EV.slice lb 0 xs.length lc,EV.aa,EV.aa,EV.aa,EV.aa,EV.aa,EV.int IntKind.i64 0,EV.aa,EV.aa,EV.int IntKind.i64 0,EV.int IntKind.i64 0,EV.int IntKind.i64 0,EV.int IntKind.i64 0,EV.int IntKind.i64 0] 14 70 false]).get (nb m.next 0)=bX.cells [EV.aa,EV.aa,EV.aa,EV.aa,EV.aa,EV.int IntKind.i64 0] 6 36 false:=by rw[aw rfl (by simp)];rfl
  have x1:(ext m [bX.cells [EV.aa,EV.aa,EV.aa,EV.aa,EV.aa,EV.int IntKind.i64 0] 6 36 false,bX.cells [EV.int IntKind.i64 0,EV.int IntKind.i64 0] 2 26 false,bX.cells [EV.slice lb 0 xs.length lc,EV.aa,EV.aa,EV.aa,EV.aa,EV.aa,EV.int IntKind.i64 0,EV.aa,EV.aa,EV.int IntKind.i64 0,EV.int IntKind.i64 0,EV.int IntKind.i64 0,EV.int IntKind.i64 0,EV.int IntKind.i64 0] 14 70 false]).get (nb m.next 1)=bX.cells [EV.int IntKind.i64 0,EV.int IntKind.i64 0] 2 26 false:=by rw[aw rfl (by simp)];rfl
  have x2:(ext m [bX.cells [EV.aa,EV.aa,EV.aa,EV.aa,EV.aa,EV.int IntKind.i64 0] 6 36 false,bX.cells [EV.int IntKind.i64 0,EV.int IntKind.i64 0] 2 26 false,bX.cells [EV.slice lb 0 xs.length lc,EV.aa,EV.aa,EV.aa,EV.aa,EV.aa,EV.int IntKind.i64 0,EV.aa,EV.aa,EV.int IntKind.i64 0,EV.int IntKind.i64 0,EV.int IntKind.i64 0,EV.int IntKind.i64 0,EV.int IntKind.i64 0] 14 70 false]).get (nb m.next 2)=.cells (uc (.slice lb 0 xs.length lc) .aa .aa .aa) 14 ax false:=by rw[aw rfl (by simp)];rfl
  generalize ext m [bX.cells [EV.aa,EV.aa,EV.aa,EV.aa,EV.aa,EV.int IntKind.i64 0] 6 36 false,bX.cells [EV.int IntKind.i64 0,EV.int IntKind.i64 0] 2 26 false,bX.cells [EV.slice lb 0 xs.length lc,EV.aa,EV.aa,EV.aa,EV.aa,EV.aa,EV.int IntKind.i64 0,EV.aa,EV.aa,EV.int IntKind.i64 0,EV.int IntKind.i64 0,EV.int IntKind.i64 0,EV.int IntKind.i64 0,EV.int IntKind.i64 0] 14 70 false]=M0 at *;obtain⟨ou,rfl,iq,M1,v1,v2,v3,rfl,g1,o1,o2,o3,T1,T2,T3',a12,a13,a23,b1,k1,f0,f2,f3,f4,fd⟩:=cG hY (adk (n:=xs.length) (cb:=nb m.next 2) (base:=m.next+3) hl (fun M=>rfl) (by omega) (by omega) x2 (v2':=.ptr (nb m.next 0) 0) (v3':=.ptr (nb m.next 1) 0) (by simp[ay]) (by simp[ay]) (by simp[ay]) (by simp[ay]) (by simp[ay]) (by simp[ay]));clear hY;rcases o1.is with⟨_,q,_⟩|⟨c1b,c1c,c1t,rfl,c1l,c1h,c1g,c1q⟩
  ·omega
  rcases o2.is with⟨_,q,_⟩|⟨c2b,c2c,c2t,rfl,c2l,c2h,c2g,c2q⟩
  ·omega
  rcases o3.is with⟨_,q,_⟩|⟨c3b,c3c,c3t,rfl,c3l,c3h,c3g,c3q⟩
  ·omega
  have G1:=T1 _ _ _ _ rfl;have G2:=T2 _ _ _ _ rfl;have G3:=T3' _ _ _ _ rfl;have amA:c1b≠c2b:=fun q=>by have:=a12 c1b (fun z=>z _ _ _ _ rfl rfl) _ _ _ _ rfl;exact this q
  have amz:c1b≠c3b:=fun q=>by have:=a13 c1b (fun z=>z _ _ _ _ rfl rfl) _ _ _ _ rfl;exact this q
  have amy:c2b≠c3b:=fun q=>by have:=a23 c2b (fun z=>z _ _ _ _ rfl rfl) _ _ _ _ rfl;exact this q
  obtain⟨e,z1,z2,z3,z4,z5,z6,z7,z8,z9,z10,z11,z12⟩:∃e:RE,e.cb=nb m.next 2/\e.kb=c1b/\e.zb=c2b/\e.ab=c3b/\e.lb=lb/\e.lc=lc/\e.lt=t/\e.lr=ro/\e.xs=xs/\e.ck=c1c/\e.cz=c2c/\e.ca=c3c:=⟨⟨⟨nb m.next 2,c1b,c2b,c3b,lb,lc,t,ro,xs⟩,c1c,c2c,c3c⟩,rfl,rfl,rfl,rfl,rfl,rfl,rfl,rfl,rfl,rfl,rfl,rfl⟩
  subst z2 z3 z4 z5 z6 z7 z8 z9 z10 z11 z12;have xg:e.xs.map Nv.d=e.l:=rfl;rw[xg]at hs hw hk hp hz hwh⊢;rw[<- z1]at g1 f4;have zk:e.l.length=e.xs.length:=CE.Fa;have hW:∀b,e.W b->m.next+2<=b/\b<M1.next:=fun b hb=>by rcases hb with q|q|q|q<;>omega
  have hW0:¬e.W (nb m.next 0):=fun q=>by have:=hW _ q;omega
  have hW1:¬e.W (nb m.next 1):=fun q=>by have:=hW _ q;omega
  have adt:∀b,b<m.next->M1.get b=m.get b:=fun b hb=>(k1 b (by omega) (by omega)).trans (eo b hb)
  have aH:=h.lt;have hnd:uO e.toCE oth M1:=by
   refine⟨(adt _ h.lt).trans h.g,by omega,fun q=>by have:=hW _ q;omega,rfl,fun x hx=>(h.k x hx).cU (by omega) fun b n c hb _=>adt b hb,fun x hx b n c he=>⟨fun q=> ?_,rfl⟩⟩
   have oP:=hW _ q;rcases(h.k x hx).is with⟨_,q2|⟨b2,o2,q2⟩⟩|⟨b2,c2,t2,ro2,q2,g2,l2',_⟩
   ·rw[q2]at he;cases he
   ·rw[q2]at he;cases he
   ·rw[q2]at he;injection he with h1;omega
  obtain⟨c0,uF⟩:∃c0:CS,c0={CS.zero e.l with M:=0,X:=⟨[],[],0⟩}:=⟨_,rfl⟩
  have hR:Rk e M1 .aa .aa .aa .aa c0:=by
   refine⟨?_,?_,?_,?_,fun b hb=>(hW b hb).2,⟨by omega,by omega,by omega,amA,amz,amy⟩,?_,hnd,?_,fun b hb=>absurd iw.nil hb,?_,?_,fun b hb=>absurd iw.nil hb,fun b hb=>absurd iw.nil hb⟩
   ·rw[g1,uF];rfl
   ·rw[G1,uF];unfold CS.zero;rw[zk]
   ·rw[G2,uF];unfold CS.zero;rw[zk]
   ·rw[G3,uF];unfold CS.zero;rw[zk]
   ·rw[uF];unfold CS.zero;simp[zk]
   ·rw[uF];exact⟨.inl ⟨rfl,rfl,rfl⟩,rfl⟩
   ·rw[uF];exact⟨.inl ⟨rfl,rfl,rfl⟩,rfl⟩
   ·rw[uF];exact⟨.inl ⟨rfl,rfl,rfl⟩,rfl⟩
  have m0:M1.get (nb m.next 0)=bX.cells [EV.aa,EV.aa,EV.aa,EV.aa,EV.aa,EV.int IntKind.i64 0] 6 36 false:=(k1 _ (by omega) (by omega)).trans x0;have m1:M1.get (nb m.next 1)=bX.cells [EV.int IntKind.i64 0,EV.int IntKind.i64 0] 2 26 false:=(k1 _ (by omega) (by omega)).trans x1;have qC:(dZ e.l (e.l.length- 1)).kind=26:=by
   have:=hp.2;rw[iR]at this;unfold ee at this;rw[Int.toNat_natCast]at this;exact this
  have s:Shape e.toCE:=⟨hp.1,qC,by omega,hk hp.1,hl⟩;have lw0:Lx e.toCE M1.next:=by
   refine⟨by omega,fun b hb=>(hW b hb).2,fun x hx b n c he=> ?_⟩
   rcases(h.k x hx).is with⟨_,q2|⟨b2,o2,q2⟩⟩|⟨b2,c2,t2,ro2,q2,g2,l2',_⟩
   ·rw[q2]at he;cases he
   ·rw[q2]at he;cases he
   ·rw[q2]at he;injection he with h1;omega
  simp only[f0,f2,f3,f4,fd,ao,simprocAttr]at hX;generalize hC:run (UT B Ev.K) 26 _ _=C at hX;obtain⟨M3,fv,c3,rfl,h3,o3',b3,k3,F3,BZ,V3,L3,X3⟩:=MN s lw0 (cR _) hR (by rw[uF];rfl) (by rw[uF];rfl) hC;clear hC;have V3':c3.V=[]:=V3.trans (by rw[uF];rfl);have L3':c3.L=0:=L3.trans (by rw[uF];rfl);simp only[f0,f2,f3,f4,fd,ao,simprocAttr]at hX;generalize hY:exec _ (.loop dX) _ _=Y at hX;have hi:e.xs.length- 1<e.xs.length:=by omega
  have Sl:(dZ e.l (e.l.length- 1)).kids.length<100000:=by
   have hk:=s.kids hi;unfold cJ at hk;rw[<- zk]at hk;rw[qC]at hk;simp only[Int.reduceEq,or_self,if_false,if_true]at hk;have:=hk.2;omega
  have lw3:Low e.toCE M3.next fv:=⟨by omega,fun b hb=>cQ (lw0.w b hb) b3,fun x hx b n c he=>cQ (lw0.k x hx b n c he) b3,fun b hb=>(o3'.lT hb).2⟩;obtain⟨ou,rfl,fr4,M4,TM,sv4,sk4,c4,rfl,h4,v4,b4,k4,KX,F4,q2,q3,q4,qd⟩:=cG hY (Zn (c0:=c3) s lw3 (cR _) (hw hp.1) h3.rb (by rw[V3'];exact⟨[],rfl,⟨.inl ⟨rfl,rfl,rfl⟩,rfl⟩,fun j v k a=>by cases a⟩) (fun x hx=>by rw[F3]at hx;exact hx) (by rw[F3];exact Sl) L3' V3' (v2:=.ptr (nb m.next 0) 0) (v3:=.ptr (nb m.next 1) 0) (by simp only[f0,ay,Nat.reduceBEq];rfl) (by simp[f2,ay]) (by simp[f3,ay]) (by simp[f4,ay]) (by simp[ay]) (by simp[fd,ay]));clear hY;obtain⟨y1,y2,y3⟩:=MH (l:=e.l) (a:=0) (x:=⟨[],[],0⟩) (by rw[<- uF];exact BZ) KX;have m04:M4.get (nb m.next 0)=bX.cells [EV.aa,EV.aa,EV.aa,EV.aa,EV.aa,EV.int IntKind.i64 0] 6 36 false:=(k4 _ (by omega) hW0).trans ((k3 _ (by omega) hW0).trans m0);have m14:M4.get (nb m.next 1)=bX.cells [EV.int IntKind.i64 0,EV.int IntKind.i64 0] 2 26 false:=(k4 _ (by omega) hW1).trans ((k3 _ (by omega) hW1).trans m1);have Vm:∀b,b<m.next->M4.get b=m.get b:=fun b hb=>by
   have Tv:¬e.W b:=fun q=>by have:=hW _ q;omega
   exact(k4 _ (by omega) Tv).trans ((k3 _ (by omega) Tv).trans (adt b hb))
  have nW:=h4.g;have uZ:=h4.lt _ (.inl rfl);have l04:nb m.next 0<M4.next:=by omega
  have VZ:nb m.next 1<M4.next:=by omega
  have hcn:e.cb≠nb m.next 0:=by omega
  have auN:e.cb≠nb m.next 1:=by omega
  have Tz:=fun x=>(af (m:=M4) (x:=x) hcn).trans nW
  unfold lO CE.lv at nW Tz;by_cases hf:c4.fe=0
  ·simp only[q2,q3,q4,qd,nW,Tz,uZ,m04,m14,l04,VZ,hf,fh,ao,simprocAttr]at hX;obtain⟨_,_,i1,i2,i3,i4,i5,i6⟩:=y3 hf;refine⟨_,_,_,_,hX.symm,?_,?_,.inr ⟨hp,?_,?_,?_⟩⟩
   ·simp only[au,aj];exact ji (by omega) aq
   ·intro b hb;rw[fK,af (by omega),af (by omega)];exact Vm b hb
   ·rw[<- y1];exact hf.symm
   ·intro q;exact absurd rfl q
   ·intro _;refine⟨y2,⟨?_⟩⟩
    have key:∀b,b≠nb m.next 0->b≠nb m.next 1->(bump ((M4.set (nb m.next 0) (bX.cells [EV.slice e.kb 0 e.xs.length e.ck,EV.slice e.zb 0 e.xs.length e.cz,EV.slice e.ab 0 e.xs.length e.ca,fv,TM,EV.int IntKind.i64 c4.M] 6 36 false)).set (nb m.next 1) (bX.cells [EV.int IntKind.i64 0,EV.int IntKind.i64 c4.fp] 2 26 false)) 10).get b=M4.get b:=fun b q1 q2=>by rw[fK,af q2,af q1]
    have kn:M4.next<=(bump ((M4.set (nb m.next 0) (bX.cells [EV.slice e.kb 0 e.xs.length e.ck,EV.slice e.zb 0 e.xs.length e.cz,EV.slice e.ab 0 e.xs.length e.ca,fv,TM,EV.int IntKind.i64 c4.M] 6 36 false)).set (nb m.next 1) (bX.cells [EV.int IntKind.i64 0,EV.int IntKind.i64 c4.fp] 2 26 false)) 10).next:=by
     simp only[au,aj];exact aq
    generalize bump ((M4.set (nb m.next 0) (bX.cells [EV.slice e.kb 0 e.xs.length e.ck,EV.slice e.zb 0 e.xs.length e.cz,EV.slice e.ab 0 e.xs.length e.ca,fv,TM,EV.int IntKind.i64 c4.M] 6 36 false)).set (nb m.next 1) (bX.cells [EV.int IntKind.i64 0,EV.int IntKind.i64 c4.fp] 2 26 false)) 10=M5 at *;have lk4:=h4.lt _ (.inr (.inl rfl));have lz4:=h4.lt _ (.inr (.inr (.inl rfl)));have la4:=h4.lt _ (.inr (.inr (.inr rfl)));refine⟨.slice e.kb 0 e.xs.length e.ck,.slice e.zb 0 e.xs.length e.cz,.slice e.ab 0 e.xs.length e.ca,fv,TM,by rw[<- i6],fun Mx we TG=> ?_⟩
    have kn2:M4.next<=Mx.next:=ji kn we;have AM:∀b,b<M4.next->b≠nb m.next 0->b≠nb m.next 1->Mx.get b=M4.get b:=fun b q0 q1 q2=>(TG b (cQ q0 kn)).trans (key b q1 q2)
    have rk:EB Mx (.slice e.kb 0 e.xs.length e.ck) c4.K:=.inr ⟨e.kb,e.ck,3,by rw[h4.len.1],(AM _ (by omega) (by omega) (by omega)).trans h4.gk,by rw[h4.len.1];exact c1q⟩;have rz:EB Mx (.slice e.zb 0 e.xs.length e.cz) c4.S:=.inr ⟨e.zb,e.cz,3,by rw[h4.len.2.1],(AM _ (by omega) (by omega) (by omega)).trans h4.gz,by rw[h4.len.2.1];exact c2q⟩;have ra:EB Mx (.slice e.ab 0 e.xs.length e.ca) c4.C:=.inr ⟨e.ab,e.ca,3,by rw[h4.len.2.2],(AM _ (by omega) (by omega) (by omega)).trans h4.ga,by rw[h4.len.2.2];exact c3q⟩;have o5:eI Mx fv (is c4.F) c4.F.length 1 M1.next:=by
     have o4:eI M4 fv (is c3.F) c3.F.length 1 M1.next:=o3'.eB b4 fun b hb im iv=>k4 b hb fun q=>by have:=hW _ q;omega
     rw[F4];exact o4.eB kn2 fun b hb im iv=>AM b hb (by omega) (by omega)
    obtain⟨vs,v1,v2,v3⟩:=v4.is;have v5:eI Mx TM vs c4.V.length 1 M3.next:=v2.eB kn2 fun b hb im iv=>AM b hb (by omega) (by omega)
    obtain⟨n1,r1⟩:=nI rk;obtain⟨n2,r2⟩:=nI rz;obtain⟨n3,r3⟩:=nI ra;obtain⟨n4,r4⟩:=nI (Jp o5);obtain⟨n5,us,r5,r6,r7⟩:=Ku v1 v5 fun j v k a b=>by
     rcases(v3 j v k a b).1 with q|⟨b',c',t',q1,q2,q3,q4,q5⟩
     ·exact .inl q
     ·refine .inr ⟨b',c',t',q1,?_,q5⟩
      rw[AM b' q3 (fun w=> ?_) (fun w=> ?_)];exact q2
      ·rw[w,m04]at q2;injection q2 with w1 w2
       cases w2
      ·rw[w,m14]at q2;injection q2 with w1 w2
       cases w2
    rw[i1]at r1;rw[i2]at r2;rw[i3]at r3;rw[i4]at r4;rw[i5]at r6 r7;exact⟨n1,n2,n3,n4,n5,us,r1,r2,r3,r4,r5,r6,r7⟩
  ·simp only[q2,q3,q4,qd,nW,Tz,uZ,m04,m14,l04,VZ,hf,fu,ao,simprocAttr]at hX;refine⟨_,_,_,_,hX.symm,?_,?_,.inr ⟨hp,y1,fun _=>⟨rfl,y2⟩,fun q=>absurd q hf⟩⟩
   ·simp only[au,aj];exact ji (by omega) aq
   ·intro b hb;simp only[fK];rw[af (by omega),af (by omega)];exact Vm b hb
 ·simp only[gU,hz,hwh,hp,ao,simprocAttr]at hX;refine⟨_,_,_,_,hX.symm,?_,?_,.inl ⟨hp,rfl,rfl,rfl⟩⟩
  ·simp only[aj,au,ak];exact aq
  ·intro b hb;exact ai hb
end
section
structure abO(d:Nd):Prop where
 kids:d.kids.length<=9223372036854775807
 s:d.s.length<=9223372036854775807
 n: -9223372036854775808<=d.n/\d.n<=9223372036854775807
 pos: -9223372036854775808<=d.pos/\d.pos<=9223372036854775807
theorem af1{n:Int}(h:(Lit.int .i64 n).wf=true): -9223372036854775808<=n/\n<=9223372036854775807:=by
 have:=wf_i64 h;omega
def VB(e2:Nat):Sh:=.struct [.int .i64,.slice e2 1 (.int .i64),.int .i64,.str,.int .i64]
end
section
def yq(m:Mem):Prop:=∀b cs e t ro,m.get b=.cells cs e t ro->b<m.next
theorem in_live{n0:Nat}{bs:List u5}(hl:(∀p∈globs,p.1<n0)/\∀g l,tabl g=some l->g<n0):yq (jv n0 bs):=by
 intro b cs e t ro h;refine vt fun q=> ?_
 have:(jv n0 bs).next=n0+bs.length:=rfl;rw[DE hl (by omega)]at h;cases h
end
section
def ajn(m:Mem)(kids:List Int)(kv:EV):Prop:=(kids=[]/\kv=.aa)\/(kids=[]/\∃b off,kv=.slice b off 0 (some 0))\/∃b,kv=.slice b 0 kids.length none/\m.get b=.cells (is kids) 1 0 true
structure YN(m:Mem)(y:Nv):Prop where
 k:ajn m y.d.kids y.kv
 nl:(y.d.nl=true/\y.kv=.aa)\/(y.d.nl=false/\y.kv≠.aa)
 i:abO y.d
def isNil:EV->Bool| .aa=>true|_=>false
theorem Wc(v:EV):(isNil v=true/\v=.aa)\/(isNil v=false/\v≠.aa):=by
 cases v
 case aa=>exact .inl ⟨rfl,rfl⟩
 all_goals exact .inr ⟨rfl,fun h=>by cases h⟩
theorem Jg{m:Mem}:∀{n:Nat} {ess:List (List EV)} {ds:List Dt},It m (List.replicate n (.int .i64)) ess ds->∃ks:List Int,ess.flatten=is ks/\ks.length=n/\ds.length=n
 |0,ess,ds,h=>by rw[List.replicate_zero]at h;cases h;exact⟨[],rfl,rfl,rfl⟩
 |n+1,ess,ds,h=>by
  rw[List.replicate_succ]at h;cases h with
  |cons h hs=>
   obtain⟨ks,h1,h2,h3⟩:=Jg hs;cases h with
   | @int _ z hw=>exact⟨z::ks,by rw[List.flatten_cons,h1];rfl,by simp[h2],by simp[h3]⟩
theorem UX{m:Mem}{e2:Nat}{es:List EV}{d:Dt}(h:OQ m (VB e2) es d):∃y:Nv,es=y.cells/\YN m y:=by
 unfold VB at h;cases h with
 |struct h=>
  cases h with
  |cons h1 h=>
  cases h with
  |cons h2 h=>
  cases h with
  |cons h3 h=>
  cases h with
  |cons h4 h=>
  cases h with
  |cons h5 h=>
  cases h;cases h1 with
  | @int _ k w1=>
  cases h3 with
  | @int _ n w3=>
  cases h4 with
  | @str s w4=>
  cases h5 with
  | @int _ p w5=>
  have key:∀(kids:List Int) (kv:EV),ajn m kids kv->kids.length<=9223372036854775807->YN m ⟨⟨k,kids,isNil kv,n,s,p⟩,kv⟩:=fun kids kv hk hl=>⟨hk,Wc kv,⟨hl,w4,af1 w3,af1 w5⟩⟩
  cases h2 with
  |nil=>exact⟨_,rfl,key [] .aa (.inl ⟨rfl,rfl⟩) (by simp)⟩
  | @empty _ _ b off=>exact⟨_,rfl,key [] (.slice b off 0 (some 0)) (.inr (.inl ⟨rfl,b,off,rfl⟩)) (by simp)⟩
  | @slice _ _ b _ ess ds hl hm hs=>
   obtain⟨ks,q1,q2,q3⟩:=Jg hs;rw[q1]at hm;rw[<- q2];exact⟨_,rfl,key ks (.slice b 0 ks.length none) (.inr (.inr ⟨b,rfl,hm⟩)) (by rw[q2];exact hl)⟩
theorem FT{m:Mem}{e2:Nat}:∀{n:Nat} {ess:List (List EV)} {ds:List Dt},It m (List.replicate n (VB e2)) ess ds->∃ys:List Nv,ess.flatten=mO ys/\ys.length=n/\∀y∈ys,YN m y
 |0,ess,ds,h=>by rw[List.replicate_zero]at h;cases h;exact⟨[],rfl,rfl,fun y hy=>by cases hy⟩
 |n+1,ess,ds,h=>by
  rw[List.replicate_succ]at h;cases h with
  |cons h hs=>
   obtain⟨y,h1,h2⟩:=UX h;obtain⟨ys,h3,h4,h5⟩:=FT hs;refine⟨y::ys,by rw[List.flatten_cons,h1,h3];rfl,by simp[h4],fun z hz=> ?_⟩
   rcases qn.1 hz with rfl|hz
   ·exact h2
   ·exact h5 z hz
abbrev Trp:=Nat×Nat×Option Nat
def trp:EV->Option Trp
 | .slice b off 0 cap=>some (b,off,cap)
 |_=>none
def V1(L:List Trp)(kv:EV):EV:=match trp kv with
 |some t=>.fz (L.idxOf t+1) 1 []
 |none=>kv
def aeP:EV->List Nat
 | .slice b _ (_+1) _=>[b]
 |_=>[]
def qw(ys:List Nv):List Trp:=ys.filterMap fun y=>trp y.kv
def Es(ys:List Nv):List Nat:=(ys.map fun y=>aeP y.kv).flatten
def yR(ys:List Nv):List Nv:=ys.map fun y=>⟨y.d,V1 (qw ys) y.kv⟩
def E9(m:Mem):List Nat->Mem
 |[]=>⟨m.next,.leaf⟩
 |b::L=>(E9 m L).set b (m.get b)
def BQ(m:Mem)(lb:Nat)(ys:List Nv):Mem:=(E9 m (Es ys)).set lb (.cells (mO (yR ys)) 5 0 true)
theorem wP{m:Mem}:∀L,(E9 m L).next=m.next
 |[]=>rfl
 |b::L=>by unfold E9;rw[aj];exact wP L
theorem JO{m:Mem}{c:Nat}:∀L,(E9 m L).get c=if c∈L then m.get c else .dead
 |[]=>by
  unfold E9;rw[if_neg (by simp)];exact JP m.next c
 |b::L=>by
  unfold E9;by_cases h:c=b
  ·subst h;rw[aN,if_pos (by simp)]
  ·rw[af h,JO L];by_cases h2:c∈L
   ·rw[if_pos h2,if_pos (by simp[h2])]
   ·rw[if_neg h2,if_neg (by simp[h,h2])]
theorem vQ{m:Mem}{lb c:Nat}{ys:List Nv}:(BQ m lb ys).get c=if c=lb then .cells (mO (yR ys)) 5 0 true else if c∈Es ys then m.get c else .dead:=by
 unfold BQ;by_cases h:c=lb
 ·subst h;rw[aN,if_pos rfl]
 ·rw[af h,if_neg h,JO]
theorem wA{ys:List Nv}{b:Nat}(h:b∈Es ys){m:Mem}(hy:∀y∈ys,YN m y):∃y∈ys,y.kv=.slice b 0 y.d.kids.length none/\m.get b=.cells (is y.d.kids) 1 0 true/\y.d.kids≠[]:=by
 unfold Es at h;rw[List.mem_flatten]at h;obtain⟨L,hL,hb⟩:=h;obtain⟨y,qg,rfl⟩:=List.mem_map.1 hL;refine⟨y,qg,?_⟩
 rcases(hy y qg).k with⟨_,q⟩|⟨_,b',off,q⟩|⟨b',q,g⟩
 ·rw[q]at hb;cases hb
 ·rw[q]at hb;cases hb
 ·cases hk:y.d.kids with
  |nil=>rw[q,hk]at hb;cases hb
  |cons k ks=>
   rw[q,hk]at hb;have:b=b':=by simpa[aeP]using hb
   subst this;rw[<- hk];exact⟨q,g,by rw[hk];simp⟩
theorem JN{ys:List Nv}{y:Nv}(hy:y∈ys){b n:Nat}{off:Nat}{c:Option Nat}(h:y.kv=.slice b off (n+1) c):b∈Es ys:=by
 unfold Es;rw[List.mem_flatten];exact⟨_,List.mem_map.2 ⟨y,hy,rfl⟩,by rw[h];simp[aeP]⟩
end
section
theorem ab9{ys:List Nv}:(yR ys).map Nv.d=ys.map Nv.d:=by unfold yR;rw[List.map_map];rfl
theorem Pb{ys:List Nv}:(yR ys).length=ys.length:=by unfold yR;rw[List.length_map]
section
variable {m:Mem} {lb:Nat} {ys:List Nv}
def kept(lb:Nat)(ys:List Nv)(b:Nat):Prop:=b=lb\/b∈Es ys
instance{lb:Nat}{ys:List Nv}{b:Nat}:Decidable (kept lb ys b):=inferInstanceAs (Decidable (_\/_))
theorem Pm(hg:m.get lb=.cells (mO ys) 5 0 true){b:Nat}{cs:List EV}{ro:Bool}{k:Nat}(h:m.get b=.cells cs 1 k ro):b≠lb:=fun q=>by
 rw[q,hg]at h;injection h with _ h2;cases h2
theorem ZM(bT:yq m)(hg:m.get lb=.cells (mO ys) 5 0 true)(hy:∀y∈ys,YN m y):YO lb none 0 true (yR ys) (BQ m lb ys):=by
 have key:∀y∈ys,Iv (BQ m lb ys) y.d (V1 (qw ys) y.kv)/\((y.d.nl=true/\V1 (qw ys) y.kv=.aa)\/(y.d.nl=false/\V1 (qw ys) y.kv≠.aa)):=by
  intro y qg;have ez:=hy y qg;rcases ez.k with⟨q0,q⟩|⟨q0,b,off,q⟩|⟨b,q,g⟩
  ·have e:V1 (qw ys) y.kv=.aa:=by rw[q];rfl
   rw[e];exact⟨⟨.inl ⟨q0,.inl rfl⟩⟩,by rcases ez.nl with⟨a,_⟩|⟨_,a⟩;exact .inl ⟨a,rfl⟩;exact absurd q a⟩
  ·have e:V1 (qw ys) y.kv=.fz ((qw ys).idxOf (b,off,some 0)+1) 1 []:=by rw[q];rfl
   rw[e];exact⟨⟨.inl ⟨q0,.inr ⟨_,Nat.succ_ne_zero _,rfl⟩⟩⟩,by rcases ez.nl with⟨_,a⟩|⟨a,_⟩;(rw[q]at a;cases a);exact .inr ⟨a,fun z=>by cases z⟩⟩
  ·have hnl:y.d.nl=false:=by rcases ez.nl with⟨_,a⟩|⟨a,_⟩;(rw[q]at a;cases a);exact a
   cases hk:y.d.kids with
   |nil=>
    rw[hk]at q;have e:V1 (qw ys) y.kv=.fz ((qw ys).idxOf (b,0,none)+1) 1 []:=by rw[q];rfl
    rw[e];exact⟨⟨.inl ⟨hk,.inr ⟨_,Nat.succ_ne_zero _,rfl⟩⟩⟩,.inr ⟨hnl,fun z=>by cases z⟩⟩
   |cons k ks=>
    rw[hk]at q;have e:V1 (qw ys) y.kv=.slice b 0 (ks.length+1) none:=by rw[q];rfl
    rw[e];refine⟨⟨.inr ⟨b,none,0,true,by rw[hk];rfl,?_,?_,.inl rfl,by rw[hk];simp⟩⟩,.inr ⟨hnl,fun z=>by cases z⟩⟩
    ·rw[vQ,if_neg (Pm hg g),if_pos (JN qg q)];exact g
    ·show b<((E9 m (Es ys)).set lb _).next;rw[aj,wP];exact bT _ _ _ _ _ g
 refine⟨by rw[vQ,if_pos rfl],?_,.inl rfl,fun x hx=> ?_,fun x hx=> ?_⟩
 ·show lb<((E9 m (Es ys)).set lb _).next;rw[aj,wP];exact bT _ _ _ _ _ hg
 ·unfold yR at hx;obtain⟨y,qg,rfl⟩:=List.mem_map.1 hx;exact(key y qg).1
 ·unfold yR at hx;obtain⟨y,qg,rfl⟩:=List.mem_map.1 hx;exact(key y qg).2
def E0(m:Mem)(lb:Nat)(ys:List Nv):de:=⟨fun b=>if kept lb ys b then some b else none,fun t=>if t=0 then none else(qw ys)[t- 1]?,fun c=>if kept lb ys c then none else if c<m.next then some (m.get c)else none⟩
theorem agQ{θ:de}(l:List Int):et θ (is l) (is l):=by
 unfold is
 induction l with
 |nil=>exact .nil
 |cons x l ih=>exact .cons (.int _ _) ih
theorem T9{t:Trp}(h:t∈qw ys):(E0 m lb ys).tag ((qw ys).idxOf t+1)=some t:=by
 show (if (qw ys).idxOf t+1=0 then none else(qw ys)[(qw ys).idxOf t+1- 1]?)=some t;rw[if_neg (Nat.succ_ne_zero _),Nat.add_sub_cancel];have:=List.idxOf_lt_length_iff.2 h;rw[jE this,List.getElem_idxOf this]
theorem agJ(bT:yq m)(hg:m.get lb=.cells (mO ys) 5 0 true)(hy:∀y∈ys,YN m y){y:Nv}(qg:y∈ys):SV (E0 m lb ys) (V1 (qw ys) y.kv) y.kv:=by
 rcases(hy y qg).k with⟨q0,q⟩|⟨q0,b,off,q⟩|⟨b,q,g⟩
 ·rw[q];exact .aa
 ·have ht:(b,off,some 0)∈qw ys:=List.mem_filterMap.2 ⟨y,qg,by rw[q];rfl⟩;rw[q];show SV _ (.fz ((qw ys).idxOf (b,off,some 0)+1) 1 []) _;exact .AX (.inr (T9 ht))
 ·cases hk:y.d.kids with
  |nil=>
   rw[hk]at q g;have ht:(b,0,(none:Option Nat))∈qw ys:=List.mem_filterMap.2 ⟨y,qg,by rw[q];rfl⟩;rw[q];show SV _ (.fz ((qw ys).idxOf (b,0,none)+1) 1 []) (.slice b 0 0 none);have hnk:¬kept lb ys b:=by
    rintro(w|w)
    ·exact Pm hg g w
    ·obtain⟨z,_,_,h2,h3⟩:=wA w hy;rw[g]at h2;injection h2 with h4
     cases hz:z.d.kids with
     |nil=>exact h3 hz
     |cons a l=>rw[hz]at h4;cases h4
   have hs:(E0 m lb ys).jq b=some (.cells (is []) 1 0 true):=by
    show (if kept lb ys b then none else if b<m.next then some (m.get b)else none)=_;rw[if_neg hnk,if_pos (bT _ _ _ _ _ g),g]
   have:=SV.fz (θ:=E0 m lb ys) (t:=(qw ys).idxOf (b,0,none)+1) (esz:=1) (els:=[]) (b:=b) (off:=0) (cap:=none) (.mk hs (fun _ h=>by cases h) (by simp[is]) (by simp[is];exact .nil)) (.inr (T9 ht)) (fun c hc=>by cases hc);exact this
  |cons k ks=>
   rw[hk]at q;rw[q];show SV _ (.slice b 0 (ks.length+1) none) _;refine .slice ?_
   show (if kept lb ys b then some b else none)=some b;exact if_pos (.inr (JN qg q))
theorem adu(bT:yq m)(hg:m.get lb=.cells (mO ys) 5 0 true)(hy:∀y∈ys,YN m y):et (E0 m lb ys) (mO (yR ys)) (mO ys):=by
 have key:∀zs:List Nv,(∀z∈zs,z∈ys)->et (E0 m lb ys) (mO (zs.map fun y=>⟨y.d,V1 (qw ys) y.kv⟩)) (mO zs):=by
  intro zs
  induction zs with
  |nil=>intro _;exact .nil
  |cons z zs ih=>
   intro hz;have h1:=agJ bT hg hy (hz z (by simp));have h2:=ih fun w hw=>hz w (by simp[hw])
   exact et.append (x:=Nv.cells ⟨z.d,V1 (qw ys) z.kv⟩) (x':=Nv.cells z) (.cons (.int _ _) (.cons h1 (.cons (.int _ _) (.cons (.str _) (.cons (.int _ _) .nil))))) h2
 exact key ys fun _ h=>h
theorem FG:∀l:List (List UInt8),fL (lQ l).flatten=true
 |[]=>rfl
 |s::l=>by
  have:=FG l;unfold lQ at *;rw[List.map_cons,List.flatten_cons];show fL (EV.str s::_)=true;simp only[fL,Flat,this,Bool.and_self];exact this
theorem W6(Ke:mc (still m))(fR:∀g l,xW g=some l->l≠[])(htn:∀g,tabl g=none)(hg:m.get lb=.cells (mO ys) 5 0 true)(hy:∀y∈ys,YN m y):mc (E0 m lb ys):=by
 have Aq:∀{b:Nat} {B:bX},(still m).jq b=some B->b<m.next/\m.get b=B:=fun{b B} h=>by
  have h:(if b<m.next then some (m.get b)else none)=some B:=h;by_cases q:b<m.next
  ·rw[if_pos q]at h;cases h;exact⟨q,rfl⟩
  ·rw[if_neg q]at h;cases h
 have Uh:∀{b:Nat} {B:bX},(still m).jq b=some B->¬kept lb ys b->(E0 m lb ys).jq b=some B:=fun{b B} h hk=>by
  obtain⟨q1,q2⟩:=Aq h;show (if kept lb ys b then none else if b<m.next then some (m.get b)else none)=_;rw[if_neg hk,if_pos q1,q2]
 have Wb:∀{l:List Int} {i:Nat} {v:EV},(is l)[i]?=some v->∃x,v=.int .i64 x:=fun{l i v} h=>by
  unfold is at h;rw[List.getElem?_map]at h;obtain⟨x,_,rfl⟩:=mH.1 h;exact⟨x,rfl⟩
 refine⟨fun g l hgg=> ?_,fun g l h=>by rw[htn g]at h;cases h⟩
 have h:=Ke.1 g l hgg;have hl:=fR g l hgg;unfold glV at h⊢;cases h with
 |gu hr hi ho=>
  refine .gu ?_ hi ho
  cases hr with
  |mk hs hl1 hn hx=>
   rename_i k cs ro
   rename_i off
   obtain⟨_,hmg⟩:=Aq hs;have hlen:=hx.length;obtain⟨v,r,hv,h1,h2⟩:∃v r,(cs.drop off).take (1*1)=v::r/\SV (still m).low (.fz 0 1 (lQ l)) v/\r=[]:=by
    generalize (cs.drop off).take _=w at hx;cases hx with
    |cons a b=>cases b;exact⟨_,_,rfl,a,rfl⟩
   subst h2;have hv0:cs[off]?=some v:=by
    have:((cs.drop off).take (1*1))[0]?=some v:=by rw[hv];rfl
    rw[List.getElem?_take,if_pos (by omega),List.getElem?_drop]at this;exact this
   have hnk:¬kept lb ys g:=by
    rintro(w|w)
    ·exact Pm hg hmg w
    ·obtain⟨z,_,_,g2,_⟩:=wA w hy;rw[hmg]at g2;injection g2 with g3
     rw[g3]at hv0;obtain⟨x,rfl⟩:=Wb hv0;generalize lQ l=avg at h1;cases h1
   refine .mk (Uh hs hnk) hl1 hn ?_
   show et _ [.fz 0 1 (lQ l)] ((cs.drop off).take (1*1));rw[hv];refine .cons ?_ .nil
   clear hv hv0 hx hlen;generalize aah:lQ l=els at h1;cases h1 with
   |fz hr2 ht hc=>
    cases hr2 with
    |mk NH WA hn2 hx2=>
     rename_i b2 Dl avl k2 cs2 ro2
     obtain⟨_,ahm⟩:=Aq NH;have acC:fL els.flatten=true:=by rw[<- aah];exact FG l
     have uX:=hx2.flat acC;have ann:¬kept lb ys b2:=by
      rintro(w|w)
      ·exact Pm hg ahm w
      ·obtain⟨z,_,_,g2,_⟩:=wA w hy;rw[ahm]at g2;injection g2 with g3
       cases zk:l with
       |nil=>exact hl zk
       |cons s l'=>
        have e0:els.flatten[0]?=some (.str s):=by rw[<- aah,zk];rfl
        have e1:((cs2.drop Dl).take (els.length*1))[0]?=some (.str s):=by rw[uX];exact e0
        have xg:0<els.length:=by rw[<- aah,zk];simp[lQ]
        rw[List.getElem?_take,if_pos (by omega),List.getElem?_drop,g3]at e1;obtain⟨x,hx⟩:=Wb e1;cases hx
     exact .fz (.mk (Uh NH ann) WA hn2 (by rw[uX];exact .of_flat acC)) (.inl rfl) hc
   |AX ht=>exact absurd (List.map_eq_nil_iff.1 aah) hl
theorem W5(bT:yq m)(Ke:mc (still m))(fR:∀g l,xW g=some l->l≠[])(htn:∀g,tabl g=none)(hg:m.get lb=.cells (mO ys) 5 0 true)(hy:∀y∈ys,YN m y):je (E0 m lb ys) (BQ m lb ys) m:=by
 have un:(BQ m lb ys).next=m.next:=by show ((E9 m (Es ys)).set lb _).next=_;rw[aj,wP]
 have yP:∀{b c:Nat},(E0 m lb ys).jU b=some c->c=b/\kept lb ys b:=fun{b c} h=>by
  have h:(if kept lb ys b then some b else none)=some c:=h;by_cases q:kept lb ys b
  ·rw[if_pos q]at h;cases h;exact⟨rfl,q⟩
  ·rw[if_neg q]at h;cases h
 have ack:∀{b:Nat},kept lb ys b->b<m.next:=fun{b} h=>by
  rcases h with rfl|h
  ·exact bT _ _ _ _ _ hg
  ·obtain⟨_,_,_,g,_⟩:=wA h hy;exact bT _ _ _ _ _ g
 refine⟨⟨⟨fun b c h=> ?_,fun b h=> ?_⟩,fun b B h=> ?_⟩,⟨fun b c h=> ?_,fun a b c h1 h2=> ?_,fun b c h=> ?_,fun b B h=> ?_⟩,W6 Ke fR htn hg hy⟩
 ·obtain⟨rfl,hk⟩:=yP h;by_cases q:c=lb
  ·subst q;rw[vQ,if_pos rfl,hg];exact⟨_,rfl,adu bT hg hy⟩
  ·have hb:c∈Es ys:=hk.resolve_left q;rw[vQ,if_neg q,if_pos hb];obtain⟨z,_,_,g,_⟩:=wA hb hy;rw[g];exact⟨_,rfl,agQ _⟩
 ·have hk:¬kept lb ys b:=fun q=>by
   have h:(if kept lb ys b then some b else none)=none:=h;rw[if_pos q]at h;cases h
  rw[vQ,if_neg (fun q=>hk (.inl q)),if_neg (fun q=>hk (.inr q))]
 ·have h:(if kept lb ys b then none else if b<m.next then some (m.get b)else none)=some B:=h;by_cases q:kept lb ys b
  ·rw[if_pos q]at h;cases h
  ·rw[if_neg q]at h;by_cases q2:b<m.next
   ·rw[if_pos q2]at h;cases h;rfl
   ·rw[if_neg q2]at h;cases h
 ·obtain⟨rfl,hk⟩:=yP h;rw[un];exact⟨ack hk,ack hk⟩
 ·rw[<-(yP h1).1,<-(yP h2).1]
 ·obtain⟨rfl,hk⟩:=yP h;exact if_pos hk
 ·have h:(if kept lb ys b then none else if b<m.next then some (m.get b)else none)=some B:=h;by_cases q:kept lb ys b
  ·rw[if_pos q]at h;cases h
  ·rw[if_neg q]at h;by_cases q2:b<m.next
   ·exact q2
   ·rw[if_neg q2]at h;cases h
end
end
section
theorem QO{α:Type}{C D:List α}{i:Nat}{a:α}(h:C.take i=D.take i)(hA:C[i]?=some a)(hB:D[i]?=some a):C.take (i+1)=D.take (i+1):=by rw[List.take_add_one,List.take_add_one,h,hA,hB]
theorem QP{α:Type}{C D:List α}{i:Nat}{a b:α}(hA:C[i]?=some a)(hB:D[i]?=some b)(PN:a≠b):C≠D:=by
 rintro rfl;rw[hA]at hB;exact PN (zqm hB)
theorem E4{C D:List Int}{t t':Nat}{nl nl':Bool}(hl:C.length<=9223372036854775807)(hCD:D.length=C.length){m0:Mem}{fr:Fr}(h0:fr.get 0=row nl t 1 (ints C))(h1:fr.get 1=row nl' t' 1 (ints D))(h5:fr.get 5=.int .i64 0)(hd:fr.defers=[]) :
  ∃o,exec U (.loop eF) fr m0=some o/\((C=D/\∃fr' m',o=.exit 0 fr' m'/\fr'.defers=[])\/(C≠D/\∃fr' m',o=.ret fr' m'/\fr'.get 4=.bool false/\fr'.defers=[])):=by
 refine dr (σ:=Nat) (fun i fr m=>i<=C.length/\C.take i=D.take i/\fr.get 0=row nl t 1 (ints C)/\fr.get 1=row nl' t' 1 (ints D)/\fr.get 5=.int .i64 (i:Int)/\fr.defers=[]) (fun i=>C.length- i) _ ?_ 0 fr m0 ⟨nZ _,rfl,h0,h1,h5,hd⟩
 rintro i fr m ⟨hi,hs,h0,h1,h5,hd⟩;generalize hX:exec U eF fr m=X;by_cases aH:i<C.length
 ·have hc:(i:Int)<(C.length:Int):=by omega
  have hg:C[i]?=some C[i]:=jE aH;have kI:D[i]?=some D[i]:=jE (by omega);have gP:=aZ (i:=i) (by omega);have eC:idx C.length (.int .i64 (i:Int))=some i:=ap aH;have aac:idx D.length (.int .i64 (i:Int))=some i:=ap (by omega);generalize C[i]=x at *;generalize D[i]=y at *;by_cases e:x=y
  ·subst e;simp only[eF,h0,h1,h5,hd,hc,hg,kI,eC,aac,gP,gh,aF,ao,simprocAttr]at hX;subst hX;exact bB (i+1) (by omega) ⟨aH,QO hs hg kI,by simp[h0,h1,hd,ay]⟩
  ·simp only[eF,h0,h1,h5,hd,hc,hg,kI,eC,aac,gP,e,gh,aF,ao,simprocAttr]at hX;subst hX;exact iD (.inr ⟨QP hg kI e,_,_,rfl,by simp[hd,ay]⟩)
 ·have hc:¬((i:Int)<(C.length:Int)):=by omega
  rw[uP (by omega),uP (by omega)]at hs;simp only[eF,h0,h1,h5,hd,hc,aF,ao,simprocAttr]at hX;subst hX;exact bK (.inl ⟨hs,_,_,rfl,by simp[hd,ay]⟩)
theorem pH{C D:List Int}{t t':Nat}{nl nl':Bool}(hl:C.length<=9223372036854775807):bA B K BP [row nl t 1 (ints C),row nl' t' 1 (ints D)]=some (bo (C=D)):=by
 rw[dY (by simp[fg])];generalize hL:exec (UT B K) (ar.loop eF)=L;by_cases hCD:D.length=C.length
 ·have hc:(C.length:Int)=(D.length:Int):=by omega
  simp only[fg,aF,hc,ao,simprocAttr];subst hL;generalize hX:exec _ (.loop eF) _ _=X;obtain⟨o,rfl,⟨e,fr',m',rfl,gd⟩|⟨e,fr',m',rfl,g4,gd⟩⟩:=cG hX (E4 (C:=C) (D:=D) (nl:=nl) (t:=t) (nl':=nl') (t':=t') hl hCD (by simp[ay]) (by simp[ay]) (by simp[ay]) (by simp[ay]))
  ·simp only[gd,e,fu,ao,simprocAttr]
  ·simp only[gd,g4,e,fh,ao,simprocAttr]
 ·have hc:¬((C.length:Int)=(D.length:Int)):=by omega
  have e:¬(C=D):=by rintro rfl;exact hCD rfl
  simp only[fg,aF,hc,e,fh,ao,simprocAttr]
theorem Xo{l:List Nd}{nl:Bool}{t:Nat}(hl:l.length<=9223372036854775807){m0:Mem}{fr:Fr}(h0:fr.get 0=row nl t 5 (lC l))(h3:fr.get 3=.int .i64 0)(h4:fr.get 4=.int .i64 0)(hd:fr.defers=[]) :
  ∃o,exec U (.loop jT) fr m0=some o/\((∃fr',o=.ret fr' m0/\fr'.get 2=.bool false/\fr'.defers=[])\/((∀d∈l,d.s.length<=40)/\∃fr' n,o=.exit 0 fr' m0/\fr'.get 0=row nl t 5 (lC l)/\fr'.get 3=.int .i64 n/\fr'.defers=[])):=by
 refine dr (σ:=Nat) (fun i fr m=>m=m0/\i<=l.length/\(∀d∈l.take i,d.s.length<=40)/\fr.get 0=row nl t 5 (lC l)/\(∃n,fr.get 3=.int .i64 n)/\fr.get 4=.int .i64 (i:Int)/\fr.defers=[]) (fun i=>l.length- i) _ ?_ 0 fr m0 ⟨rfl,nZ _,by simp,h0,⟨_,h3⟩,h4,hd⟩
 rintro i fr m ⟨rfl,hi,hall,h0,⟨n,h3⟩,h4,hd⟩;generalize hX:exec U jT fr m=X;by_cases aH:i<l.length
 ·have hc:(i:Int)<(l.length:Int):=by omega
  have hd0:l[i]?=some l[i]:=jE aH;have IE:l.take (i+1)=l.take i++[l[i]]:=List.take_succ_eq_append_getElem aH;have gP:=aZ (i:=i) (by omega);have eC:idx l.length (.int .i64 (i:Int))=some i:=ap aH;generalize l[i]=d at *;by_cases h40:d.s.length<=40
  ·have hq:¬((40:Int)<(d.s.length:Int)):=by omega
   simp only[jT,h0,h3,h4,hd,hc,hd0,eC,gP,hq,jG,eL,Nd.cells,aF,ao,simprocAttr]at hX;subst hX;refine bB (i+1) (by omega) ⟨rfl,aH,?_,by simp[h0,ay],⟨_,by simp only[ay,Nat.reduceBEq];rfl⟩,by simp[hd,ay]⟩
   intro e he;rw[IE,Ag]at he;rcases he with he|he
   ·exact hall e he
   ·rw[IA.1 he];exact h40
  ·have hq:(40:Int)<(d.s.length:Int):=by omega
   simp only[jT,h0,h3,h4,hd,hc,hd0,eC,gP,hq,jG,eL,Nd.cells,aF,ao,simprocAttr]at hX;subst hX;exact iD (.inl ⟨_,rfl,by simp[hd,ay]⟩)
 ·have hc:¬((i:Int)<(l.length:Int)):=by omega
  rw[uP (by omega)]at hall;simp only[jT,h0,h3,h4,hd,hc,eL,ao,simprocAttr]at hX;subst hX;exact bK (.inr ⟨hall,_,n,rfl,by simp[h0,h3,hd,ay]⟩)
theorem Xp{l:List Nd}{nl:Bool}{t:Nat}(hl:l.length<=9223372036854775807):∃p:Prop,bA B K tx [row nl t 5 (lC l)]=some (bo p)/\(p->l.length<=400/\∀d∈l,d.s.length<=40):=by
 rw[dY (by simp[nU])];generalize hL:exec (UT B K) (ar.loop jT)=L;generalize hY:YL _=Y;simp only[nU,ao,simprocAttr]at hY;subst hL;generalize hX:exec _ (.loop jT) _ _=X at hY;obtain⟨o,rfl,h⟩:=cG hX (Xo (l:=l) (nl:=nl) (t:=t) hl (by simp[ay]) (by simp[ay]) (by simp[ay]) (by simp[ay]));rcases h with⟨fr',rfl,g2,gd⟩|⟨h,fr',n,rfl,g0,g3,gd⟩
 ·simp only[g2,gd,ao,simprocAttr]at hY;exact⟨False,by rw[<- hY,fh],fun q=>q.elim⟩
 ·have hc:((l.length:Int)<=400)=(l.length<=400):=propext (by omega);simp +contextual -implicitDefEqProofs (maxDischargeDepth:=8) only[g0,g3,gd,hc,eL,ao,simprocAttr]at hY;exact⟨_,hY.symm,fun q=>⟨q.1,h⟩⟩
def GS(us:List (List EV))(V:List (List Int)):Prop:=us.length=V.length/\∀(j:Nat) k,V[j]?=some k->∃nl,us[j]?=some [row nl 0 1 (ints k)]
theorem Da{us us':List (List EV)}{V:List (List Int)}{t t':Nat}{nl nl':Bool}(hl:V.length<=9223372036854775807)(hk:∀k∈V,k.length<=9223372036854775807)(h1:GS us V)(h2:GS us' V){m0:Mem}{fr:Fr}(f0:fr.get 0=row nl t 1 us)(f1:fr.get 1=row nl' t' 1 us')(f5:fr.get 5=.int .i64 0)(fd:fr.defers=[]) :
  ∃o,exec U (.loop eU) fr m0=some o/\∃fr' m',o=.exit 0 fr' m'/\fr'.defers=[]:=by
 refine dr (σ:=Nat) (fun i fr m=>i<=V.length/\fr.get 0=row nl t 1 us/\fr.get 1=row nl' t' 1 us'/\fr.get 5=.int .i64 (i:Int)/\fr.defers=[]) (fun i=>V.length- i) _ ?_ 0 fr m0 ⟨nZ _,f0,f1,f5,fd⟩
 rintro i fr m ⟨hi,f0,f1,f5,fd⟩;generalize hX:exec U eU fr m=X;have e1:=h1.1;have e2:=h2.1;by_cases aH:i<V.length
 ·have hc:(i:Int)<(us.length:Int):=by omega
  have hg:V[i]?=some V[i]:=jE aH;have hkm:=hk _ (oX aH);have gP:=aZ (i:=i) (by omega);have eC:idx us.length (.int .i64 (i:Int))=some i:=ap (by omega);have aac:idx us'.length (.int .i64 (i:Int))=some i:=ap (by omega);obtain⟨n1,g1⟩:=h1.2 i _ hg;obtain⟨n2,g2⟩:=h2.2 i _ hg;generalize V[i]=k at *;have hs:=fun a b=>pH (C:=k) (D:=k) (nl:=n1) (nl':=n2) (t:=a) (t':=b) hkm
  simp only[eU,f0,f1,f5,fd,hc,eC,aac,g1,g2,hs,gP,fu,ao,simprocAttr]at hX;subst hX;exact bB (i+1) (by omega) ⟨aH,by simp[f0,f1,fd,ay]⟩
 ·have hc:¬((i:Int)<(us.length:Int)):=by omega
  simp only[eU,f0,f1,f5,fd,hc,ao,simprocAttr]at hX;subst hX;exact bK ⟨_,_,rfl,by simp[fd,ay]⟩
theorem G8{us us':List (List EV)}{V:List (List Int)}{t t':Nat}{nl nl':Bool}(hl:V.length<=9223372036854775807)(hk:∀k∈V,k.length<=9223372036854775807)(h1:GS us V)(h2:GS us' V):bA B K AI [row nl t 1 us,row nl' t' 1 us']=some (.bool true):=by
 rw[dY (by simp[fF])];generalize hL:exec (UT B K) (ar.loop eU)=L;have hc:(us.length:Int)=(us'.length:Int):=by have:=h1.1;have:=h2.1;omega
 simp only[fF,hc,ao,simprocAttr];subst hL;generalize hX:exec _ (.loop eU) _ _=X;obtain⟨o,rfl,fr',m',rfl,gd⟩:=cG hX (Da (nl:=nl) (nl':=nl') (t:=t) (t':=t') hl hk h1 h2 (by simp[ay]) (by simp[ay]) (by simp[ay]) (by simp[ay]));simp only[gd,ao,simprocAttr]
theorem Jf{n1 n2 n3 n4 n5 p1 p2 p3 p4 p5:Bool}{A D C F:List Int}{V:List (List Int)}{us us':List (List EV)}{x:Int}(hA:A.length<=9223372036854775807)(hD:D.length<=9223372036854775807)(hC:C.length<=9223372036854775807)(hF:F.length<=9223372036854775807)(hl:V.length<=9223372036854775807)(hk:∀k∈V,k.length<=9223372036854775807)(h1:GS us V)(h2:GS us' V) :
  bA B K qZ [.agg [row n1 0 1 (ints A),row n2 0 1 (ints D),row n3 0 1 (ints C),row n4 0 1 (ints F),row n5 0 1 us,.int .i64 x],.agg [row p1 0 1 (ints A),row p2 0 1 (ints D),row p3 0 1 (ints C),row p4 0 1 (ints F),row p5 0 1 us',.int .i64 x]]=some (.bool true):=by
 rw[dY (by simp[mr])];have s1:=fun a b=>pH (C:=A) (D:=A) (nl:=n1) (nl':=p1) (t:=a) (t':=b) hA
 have s2:=fun a b=>pH (C:=D) (D:=D) (nl:=n2) (nl':=p2) (t:=a) (t':=b) hD
 have s3:=fun a b=>pH (C:=C) (D:=C) (nl:=n3) (nl':=p3) (t:=a) (t':=b) hC
 have s4:=fun a b=>pH (C:=F) (D:=F) (nl:=n4) (nl':=p4) (t:=a) (t':=b) hF
 have s5:=fun a b=>G8 (nl:=n5) (nl':=p5) (t:=a) (t':=b) hl hk h1 h2
 simp only[mr,s1,s2,s3,s4,s5,fu,ao,simprocAttr]
end
section
theorem IX{α:Type}:∀xs:List α,dH (xs.map fun _=>1)=xs.length
 |[]=>rfl
 |x::xs=>by rw[List.map_cons,dH,IX xs,List.length_cons];omega
structure Fu(n:Nat)(c:CS):Prop where
 K:c.K.length=n
 S:c.S.length=n
 C:c.C.length=n
theorem aaY{l:List Nd}{x:Int}{c:CS}{n W k0:Nat}(h:Fu n c)(hw:∀i,dM l (i+1) i<=W)(hk:∀x,(ee l x).kids.length<=k0):Fu n (nY l x c)/\(nY l x c).F=c.F/\∃k,(nY l x c).V=c.V++[k]/\k.length<=k0+W:=by
 have h1:=yS (g:=fun x c=>eK l x.toNat (ee l x).n c) (w:=fun _=>1) (fun x c _=>pk) (ee l x).kids.dropLast {c with X:=Mo.new,R:=(ee l x).n} (by simp[Mo.new]);rw[IX,List.length_dropLast]at h1;have hx:=hk x;unfold nY
 try simp only
 generalize aO (fun x c=>eK l x.toNat (ee l x).n c) (ee l x).kids.dropLast {c with X:=Mo.new,R:=(ee l x).n}=c1 at *;have h2:bY W c1 (if c1.fe=0 then nv l (((ee l x).kids.getLastD 0).toNat+1) ((ee l x).kids.getLastD 0).toNat c1 else c1):=by
  split
  ·exact(O6 _ _ _ (by rw[h1.D];simp[Mo.new])).iY (hw _)
  ·exact bY.refl.iY (nZ _)
 generalize (if c1.fe=0 then nv l (((ee l x).kids.getLastD 0).toNat+1) ((ee l x).kids.getLastD 0).toNat c1 else c1)=c2 at *;have h3:=h1.trans h2;refine⟨⟨h3.K.trans h.K,h3.S.trans h.S,h3.C.trans h.C⟩,h3.F,c2.X.K,?_,?_⟩
 ·show c2.V++[c2.X.K]=_;rw[h3.V]
 ·have:c2.X.K.length<=0+((ee l x).kids.length- 1+W):=h3.kn;omega
theorem Az{l:List Nd}{n W k0:Nat}(hw:∀i,dM l (i+1) i<=W)(hk:∀x,(ee l x).kids.length<=k0):∀(F:List Int) (c:CS),Fu n c->(∀k∈c.V,k.length<=k0+W)->Fu n (aO (nY l) F c)/\(aO (nY l) F c).F=c.F/\(aO (nY l) F c).V.length<=c.V.length+F.length/\∀k∈(aO (nY l) F c).V,k.length<=k0+W
 |[],c,h,hv=>⟨h,rfl,cR _,hv⟩
 |x::F,c,h,hv=>by
  rw[ny];by_cases hf:c.fe=0
  ·rw[if_pos hf];obtain⟨h1,h2,k,h3,h4⟩:=aaY (x:=x) h hw hk;obtain⟨a,b,d,e⟩:=Az hw hk F (nY l x c) h1 fun k' DL=>by
    rw[h3]at DL;rcases Ag.1 DL with q|q
    ·exact hv k' q
    ·rw[IA.1 q];exact h4
   refine⟨a,b.trans h2,?_,e⟩
   rw[h3,w6]at d;simp only[List.length_cons,List.length_nil]at d⊢;omega
  ·rw[if_neg hf];obtain⟨a,b,d,e⟩:=Az hw hk F c h hv;exact⟨a,b,by simp only[List.length_cons];omega,e⟩
theorem F6{l:List Nd}{n:Nat}:∀(xs:List Int) (c:CS),Fu n c->Fu n (xs.foldl (cP l) c)/\(xs.foldl (cP l) c).F=c.F++xs/\(xs.foldl (cP l) c).V=c.V
 |[],c,h=>⟨h,by simp,rfl⟩
 |x::xs,c,h=>by
  rw[List.foldl_cons];have e:Fu n (cP l c x)/\(cP l c x).F=c.F++[x]/\(cP l c x).V=c.V:=by
   unfold cP;simp only
   split<;>exact⟨⟨h.K,h.S,h.C⟩,rfl,rfl⟩
  obtain⟨a,b,d⟩:=F6 xs (cP l c x) e.1;exact⟨a,by rw[b,e.2.1,List.append_assoc];rfl,d.trans e.2.2⟩
theorem S3{l:List Nd}{W k0:Nat}(hw:∀i,dM l (i+1) i<=W)(hk:∀x,(ee l x).kids.length<=k0):Fu l.length (e8 l)/\(e8 l).F=(dZ l (l.length- 1)).kids/\(e8 l).V.length<=(dZ l (l.length- 1)).kids.length/\∀k∈(e8 l).V,k.length<=k0+W:=by
 have h0:Fu l.length (CS.zero l):=⟨by simp[CS.zero],by simp[CS.zero],by simp[CS.zero]⟩;obtain⟨a,b,d⟩:=F6 (l:=l) (dZ l (l.length- 1)).kids (CS.zero l) h0;have e:Fu l.length (eP l (CS.zero l))/\(eP l (CS.zero l)).F=(dZ l (l.length- 1)).kids/\(eP l (CS.zero l)).V=[]:=by
  unfold eP;simp only;have b':(List.foldl (cP l) (CS.zero l) (dZ l (l.length- 1)).kids).F=(dZ l (l.length- 1)).kids:=b;have d':(List.foldl (cP l) (CS.zero l) (dZ l (l.length- 1)).kids).V=[]:=d
  repeat' split
  all_goals exact⟨⟨a.K,a.S,a.C⟩,b',d'⟩
 obtain⟨e1,e2,e3⟩:=e;obtain⟨f1,f2,f3,f4⟩:=Az hw hk (eP l (CS.zero l)).F (eP l (CS.zero l)) e1 (by rw[e3];intro k hk;cases hk);have f5:(e8 l).V.length<=(eP l (CS.zero l)).V.length+(eP l (CS.zero l)).F.length:=f3;rw[e2,e3]at f5;exact⟨f1,f2.trans e2,by simpa using f5,f4⟩
end
section
theorem SE{l:List Nd}(BW:∀d∈l,abO d)(h:l.length<=400/\∀d∈l,d.s.length<=40):Small l:=
 ⟨by omega,fun d hd=>(BW d hd).kids,fun d hd=>by have:=h.2 d hd;omega⟩
theorem HY{l:List Nd}(h:l.length<=400/\∀d∈l,d.s.length<=40)(hr:jW l)(i:Nat):dM l (i+1) i<500000:=by
 by_cases hi:i<l.length
 ·have:=acT hr.1.1 hr.1.2.1 (c:=40) h.2 hi;have h2:l.length*(100+40)<=400*140:=Nat.mul_le_mul_right _ h.1;have:dM l (i+1) i<=l.length*(100+40):=this;omega
 ·have:l[i]?=none:=List.getElem?_eq_none (by omega);rw[dM];simp only[this];omega
theorem GO{M:Mem}:run U qZ [.agg pe,.agg pe] M=some (.ret (.bool true) M):=by
 have Sj:=Jf (n1:=true) (n2:=true) (n3:=true) (n4:=true) (n5:=true) (p1:=true) (p2:=true) (p3:=true) (p4:=true) (p5:=true) (A:=[]) (D:=[]) (C:=[]) (F:=[]) (V:=[]) (us:=[]) (us':=[]) (x:=0) (by simp) (by simp) (by simp) (by simp) (by simp) (by simp) ⟨rfl,fun j k h=>by cases h⟩ ⟨rfl,fun j k h=>by cases h⟩;have Sj:bA B K qZ [.agg pe,.agg pe]=some (.bool true):=Sj;unfold pe at Sj⊢;simp only[Sj,ao,simprocAttr]
theorem X5{lb t:Nat}{lc:Option Nat}{ro:Bool}{xs:List Nv}{m:Mem}(h:YO lb lc t ro xs m)(BW:∀d∈xs.map Nv.d,abO d)(hf:(xs.map Nv.d).length<=400/\∀d∈xs.map Nv.d,d.s.length<=40) :
  ∃m1 a fe fp,run U mU [.slice lb 0 xs.length lc] m=some (.ret (.tuple [.agg a,.agg [.int .i64 fe,.int .i64 fp]]) m1)/\a.length=6/\m.next<=m1.next/\∀m2,m1.next<=m2.next->(∀b,b<m1.next->m2.get b=m1.get b)->∃m3 a2,run U rU [.slice lb 0 xs.length lc] m2=some (.ret (.tuple [.agg a2,.agg [.int .i64 fe,.int .i64 fp]]) m3)/\a2.length=6/\m2.next<=m3.next/\(∀b,b<m2.next->m3.get b=m2.get b)/\∀M,m3.next<=M.next->(∀b,b<m3.next->M.get b=m3.get b)->run U qZ [.agg a,.agg a2] M=some (.ret (.bool true) M):=by
 have hs:=SE BW hf;have zk:(xs.map Nv.d).length=xs.length:=List.length_map ..;have hk:jW (xs.map Nv.d)->∀x∈xs,x.d.kids.length<1000000:=fun hr x hx=>by
  have:=Hw hr.1.1 hr.1.2.1 (List.mem_map.2 ⟨x,hx,rfl⟩);omega
 obtain⟨m1,a,fe,fp,r1,n1,k1,o1⟩:=S1 h hs (fun d hd=>(BW d hd).n.2) (by omega) hk (HY hf) rfl;have J9:= @GO;refine⟨m1,a,fe,fp,r1,?_,n1,fun m2 hn2 Bx=> ?_⟩
 ·rcases o1 with⟨_,q,_⟩|⟨_,_,q1,q2⟩
  ·rw[q];rfl
  ·by_cases TA:fe=0
   ·obtain⟨k,z,s,f,v,q,_⟩:=(q2 TA).2.is;rw[q];rfl
   ·rw[(q1 TA).1];rfl
 have h2:=h.cU (m':=m2) (ji n1 hn2) fun b hb=>(Bx b (by omega)).trans (k1 b hb)
 obtain⟨m3,a2,fe2,fp2,r2,n3,k3,o2⟩:=MQ h2 hs (by omega) hk (HY hf) rfl;by_cases hp:lH (xs.map Nv.d)
 ·have o1:=(o1.resolve_left fun q=>q.1 hp).2;have o2:=(o2.resolve_left fun q=>q.1 hp).2;obtain⟨p1,p2,p3⟩:=o1;obtain⟨s1,s2,s3⟩:=o2;obtain rfl:fe2=fe:=s1.trans p1.symm;by_cases TA:fe2=0
  ·obtain⟨t1,t2⟩:=p3 TA;obtain⟨u1,u2⟩:=s3 TA;have hnp:(e8 (xs.map Nv.d)).fp=0:=RF (p1.symm.trans TA);obtain rfl:fp2=fp:=by rw[u1,t1,hnp]
   obtain⟨k,z,s,f,v,q,i1⟩:=t2.is;obtain⟨k',z',s',f',v',q',i2⟩:=u2.is;refine⟨m3,a2,r2,by rw[q'];rfl,n3,k3,fun M hM TG=> ?_⟩
   obtain⟨x1,x2,x3,x4,x5,us,y1,y2,y3,y4,y5,y6,y7⟩:=i1 M (by omega) fun b hb=>(TG b (by omega)).trans ((k3 b (by omega)).trans (Bx b hb))
   obtain⟨x1',x2',x3',x4',x5',us',y1',y2',y3',y4',y5',y6',y7'⟩:=i2 M hM TG;have qC:∀x,(ee (xs.map Nv.d) x).kids.length<=400:=fun x=>by
    unfold ee dZ;rw[List.getD_eq_getElem?_getD];cases hx:(xs.map Nv.d)[x.toNat]? with
    |none=>simp
    |some d=>
     have:=Hw hp.1.1.1 hp.1.1.2.1 (List.mem_of_getElem? hx);simp only[Option.getD_some];omega
   obtain⟨w1,w2,w3,w4⟩:=S3 (W:=500000) (k0:=400) (fun i=>Nat.le_of_lt (HY hf hp.1 i)) qC;have hrl:(dZ (xs.map Nv.d) ((xs.map Nv.d).length- 1)).kids.length<=400:=qC (((xs.map Nv.d).length- 1:Nat):Int);have Sj:=Jf (n1:=x1) (n2:=x2) (n3:=x3) (n4:=x4) (n5:=x5) (p1:=x1') (p2:=x2') (p3:=x3') (p4:=x4') (p5:=x5') (A:=(e8 (xs.map Nv.d)).K) (D:=(e8 (xs.map Nv.d)).S) (C:=(e8 (xs.map Nv.d)).C) (F:=(e8 (xs.map Nv.d)).F) (V:=(e8 (xs.map Nv.d)).V) (us:=us) (us':=us') (x:=(e8 (xs.map Nv.d)).M) (by rw[w1.K];omega) (by rw[w1.S];omega) (by rw[w1.C];omega) (by rw[w2];omega) (by omega) (fun k hk=>by have:=w4 k hk;omega) ⟨y6,y7⟩ ⟨y6',y7'⟩;rw[q,q'];simp only[y1,y2,y3,y4,y5,y1',y2',y3',y4',y5',Sj,ao,simprocAttr]
  ·obtain⟨t1,t2⟩:=p2 TA;obtain⟨u1,u2⟩:=s2 TA;obtain rfl:fp2=fp:=by rw[u2,t2]
   exact⟨m3,a2,r2,by rw[u1];rfl,n3,k3,fun M _ _=>by rw[t1,u1];exact J9⟩
 ·obtain⟨_,t1,t2,t3⟩:=o1.resolve_right fun q=>hp q.1
  obtain⟨_,u1,u2,u3⟩:=o2.resolve_right fun q=>hp q.1
  obtain rfl:fe2=fe:=by rw[u2,t2]
  obtain rfl:fp2=fp:=by rw[u3,t3]
  exact⟨m3,a2,r2,by rw[u1];rfl,n3,k3,fun M _ _=>by rw[t1,u1];exact J9⟩
end
section
open Go Go.Deep
def GFact(w:World)(g:Nat)(l:List (List UInt8)):Prop:=
 ∃(arr:Array Value) (e:TypeId) (fz:Nat×Nat) (dW off cap:Nat) (Ew:Array Value) (e2:TypeId) (fz2:Nat×Nat),
  w.heap[g]?=some (.cells arr e fz)/\arr.toList=[.slice (some ⟨dW,off,none⟩) l.length cap]/\l.length<=cap/\
  w.heap[dW]?=some (.cells Ew e2 fz2)/\off+l.length<=Ew.size/\∀(j:Nat) (s:List UInt8),l[j]?=some s->∃b,Ew[off+j]?=some (.string b)/\b.data.toList=s
theorem gfact_of{H:Type}{enc:TypeId×Value->H}{P:Program}{w:World}{base:Nat}{sp:Nat->Bool}{held:Bool}{g:Nat}{t e:TypeId}{name:String}{l:List (List UInt8)}{fuel:Nat}{p:List MemPlace}{cs:Array Value}{D:DataW H}(fR:l≠[])(hD:D=.slice (l.map fun s=>.lit (.string s)) [])
  (hg:P.globalNamed name=some g) (ht:P.underlying t=some (.slice e)) (hc:P.cellsOf e=1) (he:P.underlying e=some .string) (hv:w.var? P name=some cs)
  (hd:DataW.trod enc P w base sp held fuel t cs.toList=some (D,p)):GFact w g l:=by
 subst hD;obtain⟨a,cap,h1,h2,h3⟩:=open_row ht hc hd;rw[List.length_map]at h1 h2;have zu:∀i s,l[i]?=some s->∃b,w.cell? (a.add i)=some (.string b)/\b.data.toList=s:=by
  intro i s hs;obtain⟨v,n,q,hv1,hv2⟩:=h3 i (.lit (.string s)) (by rw[List.getElem?_map,hs];rfl);obtain⟨b,hb,hx,_⟩:=DataW.trod_string he hv2;simp only[List.cons.injEq,and_true]at hb;subst hb;refine⟨b,hv1,?_⟩
  simp only[sY,DataW.lit.injEq,Lit.string.injEq]at hx;exact hx.1.symm
 have HF:0<l.length:=List.length_pos_iff.2 fR;obtain⟨dW,off,Ew,e2,fz2,rfl,tN⟩:∃dW off arr ty fz,a=⟨dW,off,none⟩/\w.heap[dW]?=some (.cells arr ty fz):=by
  obtain⟨b,hv,_⟩:=zu 0 l[0] (jE HF);have hv:w.cell? a=some (.string b):=hv;obtain⟨dW,off,spot⟩:=a;unfold World.cell? at hv
  split at hv
  ·rename_i c t z hh
   cases spot with
   |none=>exact⟨dW,off,c,t,z,rfl,hh⟩
   |some x=>simp at hv
  ·cases hv
 have TF:∀n,w.cell? ⟨dW,off+n,none⟩=Ew[off+n]?:=fun n=>by unfold World.cell?;simp[tN]
 have oH:∀(j:Nat) (s:List UInt8),l[j]?=some s->∃b,Ew[off+j]?=some (.string b)/\b.data.toList=s:=by
  intro j s hs;obtain⟨b,hb,hbs⟩:=zu j s hs;rw[Cu,TF]at hb;exact⟨b,hb,hbs⟩
 have hle:off+l.length<=Ew.size:=by
  obtain⟨b,hb,_⟩:=oH (l.length- 1) _ (jE (by omega));have:=(Array.getElem?_eq_some_iff.1 hb).1;omega
 unfold World.var? at hv;rw[hg]at hv;simp only[Option.bind_some]at hv
 split at hv
 ·rename_i c t' z hh
  cases hv;exact⟨_,_,_,dW,off,cap,Ew,e2,fz2,hh,h1,h2,tN,hle,oH⟩
 ·cases hv
def aqn(w:World)(g:Nat)(l:List (List UInt8))(B:u5):Prop:=B.cs=l.map .str/\B.esz=1/\
 (∃(arr:Array Value) (e:TypeId) (fz:Nat×Nat) (cap:Nat),w.heap[g]?=some (.cells arr e fz)/\arr.toList=[.slice (some ⟨B.dW,B.off,none⟩) l.length cap]/\l.length<=cap)/\
 ∃(arr:Array Value) (e:TypeId) (fz:Nat×Nat),w.heap[B.dW]?=some (.cells arr e fz)/\arr.size=B.total/\B.off+l.length<=B.total/\∀(j:Nat) (s:List UInt8),l[j]?=some s->∃b,arr[B.off+j]?=some (.string b)/\b.data.toList=s
theorem acO{w:World}:∀gs:List (Nat×List (List UInt8)),(∀p∈gs,GFact w p.1 p.2)->∃bk:List u5,bk.length=gs.length/\∀(j g:Nat) (l:List (List UInt8)),gs[j]?=some (g,l)->∃B,bk[j]?=some B/\aqn w g l B
 |[],_=>⟨[],rfl,fun j g l h=>by simp at h⟩
 |(g,l)::gs,h=>by
  obtain⟨bk,h1,h2⟩:=acO gs fun p hp=>h p (by simp[hp])
  obtain⟨arr,e,fz,dW,off,cap,Ew,e2,fz2,a1,a2,a3,a4,a5,a6⟩:=h (g,l) (by simp);refine⟨⟨dW,off,Ew.size,1,l.map .str⟩::bk,by simp[h1],fun j g' l' hj=> ?_⟩
  cases j with
  |zero=>
   simp only[List.getElem?_cons_zero,bQ,sY]at hj;obtain⟨rfl,rfl⟩:=hj;exact⟨_,rfl,rfl,rfl,⟨arr,e,fz,cap,a1,a2,a3⟩,Ew,e2,fz2,a4,rfl,a5,a6⟩
  |succ j=>exact h2 j g' l' (by simpa using hj)
theorem args_card{w:World}{n0:Nat}{mL:List Sh}{vs:List Value}(hg:(∀p∈globs,GFact w p.1 p.2)/\∀g l,tabl g=some l->TFact w g l)(hl:(∀p∈globs,p.1<n0)/\∀g l,tabl g=some l->g<n0)(h:DecVs w n0 mL vs) :
  ∃(bs:List u5) (es:List EV) (ds:List Dt),aeZ w n0 bs/\Ix w n0 bs/\gi (mM n0 bs) es vs/\tX (jv n0 bs) mL es ds:=by
 obtain⟨bk,PM,mC⟩:=acO globs hg.1;obtain⟨k,ds,h⟩:=h;obtain⟨es,bs,h1,h2⟩:=h bk.length;obtain⟨c1,c2,c3⟩:=h2 (bk++bs) (fun i _=>by rw[yy (by omega)];congr 1;omega);refine⟨bk++bs,es,ds,fun i B hB=> ?_,⟨hl,hg.2,fun j g l hj=> ?_⟩,c1,c3⟩
 ·by_cases hi:i<bk.length
  ·rw[rB hi]at hB;obtain⟨⟨g,l⟩,Ke⟩:∃p,globs[i]?=some p:=⟨_,jE (by omega)⟩
   obtain⟨B',hB',q1,q2,q3,arr,e,fz,q4,q5,q6,q7⟩:=mC i g l Ke;rw[hB]at hB';cases hB';refine⟨arr,e,fz,q4,q5,by rw[q1,List.length_map];exact q6,fun j v hj=> ?_⟩
   rw[q1,List.getElem?_map]at hj;obtain⟨s,hs,rfl⟩:=mH.1 hj;obtain⟨b,hb,rfl⟩:=q7 j s hs;exact⟨_,hb,.str _,rfl⟩
  ·rw[yy (by omega)]at hB;exact c2 _ B hB
 ·obtain⟨B,hB,q1,q2,⟨arr,e,fz,cap,q3,q4,q5⟩,_⟩:=mC j g l hj;have aH:=(mu.1 hB).1;have hB':(bk++bs)[j]?=some B:=by rw[rB aH];exact hB
  have tF:arr.size=1:=by rw[<- Array.length_toList,q4];rfl
  exact⟨⟨arr,e,fz,_,q3,tF,by rw[<- Array.getElem?_toList,q4];rfl,J1 hB' rfl rfl q5 fun _=>rfl,rfl⟩,B,hB',q1,q2⟩
theorem Mg(l:List (List UInt8)):(lQ l).flatten=l.map .str:=by
 induction l with
 |nil=>rfl
 |cons s l ih=>show (([EV.str s]::lQ l).flatten)=_;rw[List.flatten_cons,ih];rfl
theorem glob_still{w:World}{n0:Nat}{bs:List u5}(h:Ix w n0 bs):mc (still (jv n0 bs)):=by
 refine⟨fun g l hg=> ?_,fun g l hg=> ?_⟩
 case refine_2=>
  have aH:=h.1.2 g l hg;have hn:(jv n0 bs).next=n0+bs.length:=rfl;show (if g<(jv n0 bs).next then some ((jv n0 bs).get g)else none)=_;rw[if_pos (by rw[hn];omega),AQ aH];have hf:=uH (b:=g) globs 0;have HJ:=(h.2.1 g l hg).1;unfold xW at HJ;rw[HJ]at hf;rw[Option.map_eq_none_iff.1 hf,hg]
  rfl
 have hf:=uH (b:=g) globs 0;unfold xW at hg;rw[hg]at hf;obtain⟨⟨p,l'⟩,hp,zm⟩:=mH.1 hf;simp only at zm;subst zm;have h2:=(zx _ _ hp).2;rw[Nat.sub_zero]at h2;have aH:=h.1.1 _ (List.mem_of_getElem? h2);obtain⟨_,B,hB,q1,q2⟩:=h.2.2 p g l' h2;have m1:(jv n0 bs).get g=.cells [.slice (n0+p) 0 l'.length none] 1 0 true:=by rw[AQ aH,hp];rfl
 have m2:(jv n0 bs).get (n0+p)=.cells (l'.map .str) 1 0 true:=by rw[DF hB,q1,q2]
 have hpl:=(mu.1 hB).1;have hn:(jv n0 bs).next=n0+bs.length:=rfl;have s1:(still (jv n0 bs)).jq g=some (.cells [.slice (n0+p) 0 l'.length none] 1 0 true):=by
  show (if g<(jv n0 bs).next then some ((jv n0 bs).get g)else none)=_;rw[if_pos (by rw[hn];omega),m1]
 have s2:(still (jv n0 bs)).jq (n0+p)=some (.cells (l'.map .str) 1 0 true):=by
  show (if n0+p<(jv n0 bs).next then some ((jv n0 bs).get (n0+p))else none)=_;rw[if_pos (by rw[hn];omega),m2]
 have self:∀(θ:de) (x:List (List UInt8)),et θ (x.map .str) (x.map .str):=fun θ x=>by
  induction x with
  |nil=>exact .nil
  |cons s x ih=>exact .cons (.str s) ih
 have hlen:(lQ l').length=l'.length:=by simp[lQ]
 refine .gu (.mk (off:=0) s1 (by simp) (by simp) (.cons ?_ .nil)) (by simp) (by simp)
 have:=SV.fz (θ:=(still (jv n0 bs)).low) (t:=0) (esz:=1) (els:=lQ l') (b:=n0+p) (off:=0) (cap:=none) (.mk s2 (by simp[lQ]) (by simp[hlen]) (by
  rw[Mg,List.drop_zero,hlen,Nat.mul_one,uP (by simp)];exact self _ l')) (.inl rfl) (fun c hc=>by cases hc)
 rw[hlen]at this;exact this
end
section
theorem VY{m:Mem}{lb:Nat}{ys:List Nv}(bT:yq m)(Ke:mc (still m))(fR:∀g l,xW g=some l->l≠[])(htn:∀g,tabl g=none)(hg:m.get lb=.cells (mO ys) 5 0 true)(hy:∀y∈ys,YN m y){f n:Nat}{F:aC}(hF:B f=some (.go F))(hn:1<=F.ntmps){M:Mem}(h:pI F.results (exec U F.body (kF [.slice lb 0 n none] 0 mP) (BQ m lb ys))=some (.ret (.bool true) M)):∃m',run T f [.slice lb 0 n none] m=some (.ret (.bool true) m'):=by
 obtain⟨F0,hE1,hE2,rfl⟩:=aeL f _ hF;unfold mP at h;rw[tW,<- Co]at h;have hb:∃k,dv (bc U k) k F0.sub [.slice lb 0 n none] (BQ m lb ys)=some (.ret (.bool true) M):=by
  cases hc:exec U F0.sub.body ⟨dh [.slice lb 0 n none] 0 .leaf,[]⟩ (BQ m lb ys)with
  |none=>rw[hc]at h;simp[ti]at h
  |some o=>
   obtain⟨k,hk⟩:=cw.1 hc;refine⟨k,?_⟩
   rw[hc]at h;have hl:([.slice lb 0 n none]:List EV).length.ble F0.sub.ntmps=true:=sx hn;simp only[dv,hl,cond_true,hk];cases o<;>exact h
 obtain⟨k,hk⟩:=hb;obtain⟨θ',HX,e,hs,_⟩:=Ab (zz (Yf aeL) k) k hE1 hE2 hk (W5 bT Ke fR htn hg hy) (.cons (.slice (by show (if kept lb ys lb then some lb else none)=some lb;exact if_pos (.inl rfl))) .nil);cases hs with
 |ret hv oQ=>
  have:=hv.flat rfl;subst this;exact⟨_,e⟩
def ae2(v:EV)(m:Mem):Prop:=∃m1 a fe fp,run U mU [v] m=some (.ret (.tuple [.agg a,.agg [.int .i64 fe,.int .i64 fp]]) m1)/\a.length=6/\m.next<=m1.next/\∀m2,m1.next<=m2.next->(∀b,b<m1.next->m2.get b=m1.get b)->∃m3 a2,run U rU [v] m2=some (.ret (.tuple [.agg a2,.agg [.int .i64 fe,.int .i64 fp]]) m3)/\a2.length=6/\m2.next<=m3.next/\(∀b,b<m2.next->m3.get b=m2.get b)/\∀M,m3.next<=M.next->(∀b,b<m3.next->M.get b=m3.get b)->run U qZ [.agg a,.agg a2] M=some (.ret (.bool true) M)
theorem six{a:List EV}(h:a.length=6):∃a0 a1 a2 a3 a4 a5,a=[a0,a1,a2,a3,a4,a5]:=by
 match a,h with|[a0,a1,a2,a3,a4,a5],_=>exact⟨a0,a1,a2,a3,a4,a5,rfl⟩
theorem CT{v:EV}{n:Nat}{m:Mem}{p:Prop}(hlen:∀M:Mem,kA v M=some (.val (.int .i64 (n:Int)) M))(HL:run U tx [v] m=some (.ret (bo p) m))(hb:p->ae2 v m):∃M,pI bF.results (exec U bF.body (kF [v] 0 mP) m)=some (.ret (.bool true) M):=by
 generalize hX:pI bF.results (exec U bF.body (kF [v] 0 mP) m)=X;by_cases hp:p
 ·rw[gQ hp]at HL;by_cases h80:(80:Int)<(n:Int)
  ·simp only[bF,HL,hlen,h80,xH,dS,cT,ao,simprocAttr]at hX;exact⟨_,hX.symm⟩
  ·obtain⟨m1,a,fe,fp,r1,la,n1,hb⟩:=hb hp;obtain⟨a0,a1,a2,a3,a4,a5,rfl⟩:=six la;simp only[bF,HL,hlen,h80,dS,cT,r1,ao,simprocAttr]at hX;have q0:nb m1.next 0=m1.next:=rfl;have q1:nb m1.next 1=m1.next+1:=rfl;have g0:(ext m1 [.cells [a0,a1,a2,a3,a4,a5] 6 33 false,.cells [.int .i64 fe,.int .i64 fp] 2 26 false]).get (nb m1.next 0)=.cells [a0,a1,a2,a3,a4,a5] 6 33 false:=(aw (i:=0) rfl (by simp)).trans rfl;have g1:(ext m1 [.cells [a0,a1,a2,a3,a4,a5] 6 33 false,.cells [.int .i64 fe,.int .i64 fp] 2 26 false]).get (nb m1.next 1)=.cells [.int .i64 fe,.int .i64 fp] 2 26 false:=(aw (i:=1) rfl (by simp)).trans rfl;have o2:∀b,b<m1.next->(ext m1 [.cells [a0,a1,a2,a3,a4,a5] 6 33 false,.cells [.int .i64 fe,.int .i64 fp] 2 26 false]).get b=m1.get b:=fun b hb=>ai hb
   have n2:(ext m1 [.cells [a0,a1,a2,a3,a4,a5] 6 33 false,.cells [.int .i64 fe,.int .i64 fp] 2 26 false]).next=m1.next+2:=by rw[ak];rfl
   generalize ext m1 [.cells [a0,a1,a2,a3,a4,a5] 6 33 false,.cells [.int .i64 fe,.int .i64 fp] 2 26 false]=m2 at *;obtain⟨m3,b,r2,lb,n3,k3,hs⟩:=hb m2 (by omega) o2;obtain⟨b0,b1,b2,b3,b4,b5,rfl⟩:=six lb;simp only[r2,ao,simprocAttr]at hX;have g0':=(k3 _ (by omega)).trans g0;have g1':=(k3 _ (by omega)).trans g1;have l0:nb m1.next 0<m3.next:=by omega
   have l1:nb m1.next 1<m3.next:=by omega
   have q2:nb m3.next 0=m3.next:=rfl;have q3:nb m3.next 1=m3.next+1:=rfl;have h0:(ext m3 [.cells [b0,b1,b2,b3,b4,b5] 6 36 false,.cells [.int .i64 fe,.int .i64 fp] 2 26 false]).get (nb m3.next 0)=.cells [b0,b1,b2,b3,b4,b5] 6 36 false:=(aw (i:=0) rfl (by simp)).trans rfl;have h1:(ext m3 [.cells [b0,b1,b2,b3,b4,b5] 6 36 false,.cells [.int .i64 fe,.int .i64 fp] 2 26 false]).get (nb m3.next 1)=.cells [.int .i64 fe,.int .i64 fp] 2 26 false:=(aw (i:=1) rfl (by simp)).trans rfl;have o4:∀b,b<m3.next->(ext m3 [.cells [b0,b1,b2,b3,b4,b5] 6 36 false,.cells [.int .i64 fe,.int .i64 fp] 2 26 false]).get b=m3.get b:=fun b hb=>ai hb
   have n4:(ext m3 [.cells [b0,b1,b2,b3,b4,b5] 6 36 false,.cells [.int .i64 fe,.int .i64 fp] 2 26 false]).next=m3.next+2:=by rw[ak];rfl
   generalize ext m3 [.cells [b0,b1,b2,b3,b4,b5] 6 36 false,.cells [.int .i64 fe,.int .i64 fp] 2 26 false]=m4 at *;have Sj:=hs m4 (by omega) o4;simp only[ao,simprocAttr]at Sj;have aow:=(o4 _ l0).trans g0';have aou:=(o4 _ l1).trans g1';have l0':nb m1.next 0<m4.next:=by omega
   have l1':nb m1.next 1<m4.next:=by omega
   have l2':nb m3.next 0<m4.next:=by omega
   have l3':nb m3.next 1<m4.next:=by omega
   simp only[aow,aou,h0,h1,l0',l1',l2',l3',Sj,xH,dS,cT,ao,simprocAttr]at hX;exact⟨_,hX.symm⟩
 ·rw[ij hp]at HL;simp only[bF,HL,xH,dS,cT,ao,simprocAttr]at hX;exact⟨_,hX.symm⟩
theorem S2{v:EV}(hc:∃nl t,v=row nl t 5 (lC [])){m:Mem}:ae2 v m:=by
 obtain⟨nl,t,rfl⟩:=hc;have BS:Small ([]:List Nd):=⟨by simp,by simp,by simp⟩;have hw:¬lH []:=fun q=>absurd q.1.2.1 (by simp)
 have h1:∀t,bA B Ev.K uq [row nl t 5 (lC [])]=some (bo (lH [])):=fun t=>CU (t:=t) (nl:=nl) BS (by simp)
 have h2:∀t,bA B Ev.K vM [row nl t 5 (lC [])]=some (bo (lH [])):=fun t=>FU (t:=t) (nl:=nl) BS
 simp only[ij hw]at h1 h2;obtain⟨X,hX⟩:∃X,run U mU [row nl t 5 (lC [])] m=X:=⟨_,rfl⟩
 have hX':=hX;rw[cf (by simp[e9])]at hX';simp only[e9,h1,ao,simprocAttr]at hX';rw[<- hX']at hX;refine⟨_,pe,5,0,hX,rfl,by simp only[aj,au,ak];exact aq,fun m2 _ _=> ?_⟩
 obtain⟨Y,hY⟩:∃Y,run U rU [row nl t 5 (lC [])] m2=Y:=⟨_,rfl⟩
 have hY':=hY;rw[cf (by simp[gU])]at hY';simp only[gU,h2,ao,simprocAttr]at hY';rw[<- hY']at hY;exact⟨_,pe,hY,rfl,by simp only[aj,au,ak];exact aq,fun b hb=>ai hb,fun M _ _=>GO⟩
theorem checkTrees_run{m:Mem}{e e2:Nat}{es:List EV}{ds:List Dt}(hm:yq m)(hg:mc (still m))(h:tX m [.slice e 5 (.struct [.int .i64,.slice e2 1 (.int .i64),.int .i64,.str,.int .i64])] es ds):∃m',run T mz es m=some (.ret (.bool true) m'):=by
 have fR:∀g l,xW g=some l->l≠[]:=fun g l h=>by
  unfold xW globs AW at h
  split at h
  ·cases h;decide
  ·exact absurd h (by simp[AW])
 have htn:∀g,tabl g=none:=fun g=>rfl
 have hfz:ds=[.list []]->∃m',run T mz es m=some (.ret (.bool true) m'):=by
  intro BY;obtain⟨us,hu,hl⟩:=VX aeL (f:=mz) (F:=bF) (bV.has (T:=B)) hm h rfl hg;obtain⟨u,d,us',vr,rfl,hd,h1,hu⟩:=hu.one;obtain rfl:=hu.none;rw[BY]at hd;cases hd;obtain⟨nl,lN⟩:∃nl,u=row nl 0 5 (lC []):=by
   have h1:Fz (.slice e 5 (.struct [.int .i64,.slice e2 1 (.int .i64),.int .i64,.str,.int .i64])) [u] (.list []):=h1;cases h1 with
   |nil=>exact⟨true,rfl⟩
   |slice hl hs=>
    cases hs;exact⟨false,rfl⟩
  subst lN;refine hl ?_
  simp only[yF,Bf,IU];have hlen:∀M:Mem,kA (row nl 1 5 (lC [])) M=some (.val (.int .i64 ((0:Nat):Int)) M):=fun M=>by cases nl<;>rfl
  obtain⟨p,hp,_⟩:=Xp (l:=[]) (nl:=nl) (t:=1) (by simp);have HL:run U tx [row nl 1 5 (lC [])] fT=some (.ret (bo p) fT):=by simp only[hp,ao,simprocAttr]
  obtain⟨M,hM⟩:=CT hlen HL fun _=>S2 ⟨nl,1,rfl⟩
  rw[dY (by simp[bF]),hM]
  rfl
 obtain⟨v,d,rfl,rfl,hr⟩:∃v d,es=[v]/\ds=[d]/\Tm m (.slice e 5 (VB e2)) v d:=by
  cases h with
  |cons a b=>cases b;exact⟨_,_,rfl,rfl,a⟩
 have hr:OQ m (.slice e 5 (VB e2)) [v] d:=hr;cases hr with
 |nil=>exact hfz rfl
 |empty=>exact hfz rfl
 | @slice _ _ b _ ess vr hl BU hs=>
  obtain⟨ys,q1,q2,q3⟩:=FT hs;rw[q1]at BU;rw[<- q2];have hnd:=ZM hm BU q3;have BW:∀d∈(yR ys).map Nv.d,abO d:=fun d hd=>by
   rw[ab9]at hd;obtain⟨y,hy,rfl⟩:=List.mem_map.1 hd;exact(q3 y hy).i
  have zk:((yR ys).map Nv.d).length=ys.length:=by rw[ab9,List.length_map]
  obtain⟨p,hp,hpt⟩:=Xp (l:=(yR ys).map Nv.d) (nl:=false) (t:=1) (by rw[zk,q2];exact hl);have hz:=hnd.nJ;rw[Pb]at hz;have hp:bA B Ev.K tx [.fz 1 5 (lC ((yR ys).map Nv.d))]=some (bo p):=hp;have HL:run U tx [.slice b 0 ys.length none] (BQ m b ys)=some (.ret (bo p) (BQ m b ys)):=by simp only[hz,hp,ao,simprocAttr]
  have hb:p->ae2 (.slice b 0 ys.length none) (BQ m b ys):=fun q=>by
   have:=X5 hnd BW (hpt q);rw[Pb]at this;exact this
  obtain⟨M,hM⟩:=CT (n:=ys.length) (fun M=>rfl) HL hb;exact VY hm hg fR htn BU q3 (f:=mz) (F:=bF) (bV.has (T:=B)) (by simp[bF]) hM
end
end Go.Proofs.YtfbnghpabppljaaGreatDoor.Ev
