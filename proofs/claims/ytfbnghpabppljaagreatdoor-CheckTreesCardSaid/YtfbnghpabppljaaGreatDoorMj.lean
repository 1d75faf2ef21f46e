/- WCk12, WCk13, WCk14, WCk15, WCk16, WCk17, WCk18, WCk19, WCk20, PCk4, WCk21, WCk22, WCk23, WIx0, WIxs, WTr1, WTr2. -/
import Derived.Test.YtfbnghpabppljaaGreatDoorMi
set_option linter.unusedSimpArgs false
set_option linter.unusedVariables false
set_option linter.unusedSectionVars false
set_option linter.defProp false
set_option maxRecDepth 20000
set_option maxHeartbeats 8000000
namespace Go.Proofs.YtfbnghpabppljaaGreatDoor.Ev
open Go
section
section
variable {e:CE} {o o' o0:Nat->Part} {m m' M0:Mem} {fv vv:EV} {sb mb:Nat} {c c' c0:CS} {L L':List (cH×EV)} {P P':cH->EV} {ov kv AA AL:EV}
theorem Gz{c d:CS}(h:jz c d):jz {c with X:=c.X.close} {d with X:=d.X.close}:=⟨h.1,h.2.1,fun q=>by rw[h.2.2 q]⟩
theorem FJ{l:List Nd}{f i:Nat}{c:CS}(h:(dZ l i).kind=23):nv l (f+1) i c={aO (fun x c=>nv l f x.toNat c) (dZ l i).kids {c with X:=c.X.open_}with X:=(aO (fun x c=>nv l f x.toNat c) (dZ l i).kids {c with X:=c.X.open_}).X.close}:=by
 rw[nv];simp only[if_pos h]
theorem abz(s:Shape e){f q:Nat}(go:vi e cj nu (nv e.l f) (dM e.l f) f q):vi e dw (· =23) (nv e.l (f+1)) (dM e.l (f+1)) (f+1) (q+1):=by
 intro o m fv vv sb mb c i X hX0 hf hF hi Ty hk hX;obtain⟨L,P,ov,kv,h⟩:=hX0;rw[cf (by simp[dC])]at hX;have hx:e.xs[i]?=some e.xs[i]:=jE hi;have hd:=h.d hx;have nV:e.xs[i]∈e.xs:=oX hi;have hld:e.l[i]?=some e.xs[i].d:=by unfold CE.l;rw[List.getElem?_map,hx];rfl
 generalize e.xs[i]=y at *;have tI:=s.kids hi;have DL:y.d.kind=23:=by rw[<- hd];exact hk
 unfold cJ at tI;rw[hd,DL]at tI;simp only[Int.reduceEq,or_self,if_false,if_true]at tI;have hw:dM e.l (f+1) i=ow y.d+dH (y.d.kids.map fun x=>dM e.l f x.toNat):=vw hld;have LH:100<=ow y.d:=by unfold ow;omega
 obtain⟨gl,ll,eC,q1,q2,q3,q4,q5⟩:=h.cells hx;have hg:=h.g;have hb:=h.lt _ (.inl rfl);unfold j0 CE.lv at hg;simp only[dC,hg,hb,ao,simprocAttr]at hX;generalize hC:run (UT B Ev.K) 61 _ _=C at hX;obtain⟨M1,rD,sc1,st1⟩:=Pe h.sc ⟨hF.D,by have:=hF.d;have:=hF.l;omega⟩;obtain rfl:=hC.symm.trans rD;clear hC rD;have h1:=h.scp sc1 st1;have nF:=h1.g;have PM:=h1.lt _ (.inl rfl);have gl1:=h1.nd.g;have ll1:=h1.nd.lt;have hlen:=(h1.V6 nV).kA;unfold j0 CE.lv at nF;simp only[nF,PM,gl1,ll1,eC,q2,hlen,ao,simprocAttr]at hX;have rh:qa e {c with X:=c.X.open_} (dH (y.d.kids.map fun x=>dM e.l f x.toNat)) q:=⟨by have:=hF.D;simp only[Mo.open_];omega,by have:=hF.d;simp only[Mo.open_];omega,hF.ok.open_,hF.vk,by have:=hF.kn;simp only[Mo.open_];omega,hF.F,hF.n,hF.l⟩;generalize hY:exec _ (.loop dl) _ _=Y at hX;obtain⟨ou,rfl,fr',M2,o2,c2,rfl,⟨L2,P2,ov2,kv2,h2⟩,Un,BF,Cl,f0,fd⟩:=cG hY (X7 go (xs:=y.d.kids) (fun x hx=>by
  have Cy:x∈(dZ e.l i).kids:=by rw[hd];exact hx
  obtain⟨a1,a2,a3,_⟩:=s.sQ Cy;exact⟨a1,a3,by omega,by rw[<- iR];exact tI x hx⟩) (s.k y nV) rh (h1.V6 nV) ⟨_,_,_,_,h1⟩ (by simp[ay]) (by simp[ay]) (by simp[ay]) (by simp[ay]) (by simp[ay]))
 clear hY;have kI:=h2.g;have mC:=h2.lt _ (.inl rfl);unfold j0 CE.lv at kI;have jr:=rh.step (w':=0) (q':=q) Cl (by omega) (cR _);simp only[f0,fd,kI,mC,ao,simprocAttr]at hX;generalize hC:run (UT B Ev.K) 63 _ _=C at hX;obtain⟨M3,L3,P3,ov3,kv3,sU,sc3,Ts⟩:=GJ h2.sc jr.ok (by rw[Cl.D];have:=hF.D;simp only[Mo.open_];omega) (by have:=jr.d;have:=jr.l;omega) (by have:=jr.vk;have:=jr.kn;omega);obtain rfl:=hC.symm.trans sU;clear hC sU;have h3:=h2.scp sc3 Ts;simp only[fd,ao,simprocAttr]at hX;refine⟨M3,o2,{c2 with X:=c2.X.close},hX.symm,⟨_,_,_,_,h3⟩,(st1.s.trans Un).trans Ts.s,?_,?_⟩
 ·rw[FJ hk,hd];exact Gz BF
 ·exact(nz Cl hF.D).iY (by omega)
end
end
section
def Gc(l:List Nd)(f i:Nat)(c:CS):CS:={nv l f i {c with L:=c.L+1}with L:=(nv l f i {c with L:=c.L+1}).L- 1}
theorem XB{c d:CS}(h:jz c d):jz {c with L:=c.L- 1} {d with L:=d.L- 1}:=⟨h.1,h.2.1,fun q=>by rw[h.2.2 q]⟩
def EA(e:CE)(o:Nat->Part)(m:Mem)(v:EV)(xs:List Int):Prop:=(xs=[]/\(v=.aa\/(∃b o c,v=.slice b o 0 c)\/∃t,v=.fz t 1 []))\/∃b c t ro pre rest,v=.slice b pre.length xs.length c/\m.get b=.cells (is (pre++(xs++rest))) 1 t ro/\b<m.next/\¬e.W b/\o b=.other
theorem EA.kA{e:CE}{o:Nat->Part}{m:Mem}{v:EV}{xs:List Int}(h:EA e o m v xs):∀M:Mem,Ev.kA v M=some (.val (.int .i64 (xs.length:Int)) M):=fun M=>by
 rcases h with⟨rfl,rfl|⟨b,o,c,rfl⟩|⟨t,rfl⟩⟩|⟨b,c,t,ro,pre,rest,rfl,_⟩<;>rfl
theorem EA.cU{e:CE}{o o':Nat->Part}{m m':Mem}{v:EV}{xs:List Int}(h:EA e o m v xs)(st:EW e o m o' m'):EA e o' m' v xs:=by
 rcases h with h|⟨b,c,t,ro,pre,rest,e1,g,l,w,p⟩
 ·exact .inl h
 ·exact .inr ⟨b,c,t,ro,pre,rest,e1,(st.k b l w p).trans g,cQ l st.n,w,(st.ow b l).trans p⟩
section
variable {e:CE} {o o' o0:Nat->Part} {m m' M0:Mem} {fv vv:EV} {sb mb:Nat} {c c' c0:CS} {L L':List (cH×EV)} {P P':cH->EV} {ov kv AA AL:EV}
theorem O7{nf:Nat}{p:Int->Prop}{g:Nat->CS->CS}{w:Nat->Nat}{f q:Nat}(go:vi e nf p g w f q){xs:List Int}(sR:∀x∈xs,0<=x/\x.toNat<e.xs.length/\x.toNat<f/\p (ee e.l x).kind)(hl:xs.length<1000000)(hF:qa e c0 (dH (xs.map fun x=>w x.toNat)) q){v:EV}(hv:EA e o0 M0 v xs)(h0:Lz e M0 fv vv sb mb o0 c0){fr:Fr}
  (f0:fr.get 0=.ptr e.cb 0) (f6:fr.get 6=.func nf [.ptr e.cb 0] []) (f69:fr.get 69=v) (f70:fr.get 70=.int .i64 (xs.length:Int)) (f71:fr.get 71=.int .i64 0) {ds:List (Nat×List EV)} (fd:fr.defers=ds) :
  ∃ou,exec U (.loop bj) fr M0=some ou/\∃fr' m' o' c',ou=.exit 1 fr' m'/\Lz e m' fv vv sb mb o' c'/\EW e o0 M0 o' m'/\jz c' (aO (fun x c=>g x.toNat c) xs c0)/\bY (dH (xs.map fun x=>w x.toNat)) c0 c'/\fr'.get 0=.ptr e.cb 0/\fr'.defers=ds:=by
 refine dr (σ:=Nat) (fun j fr m=>j<=xs.length/\∃o c,Lz e m fv vv sb mb o c/\EW e o0 M0 o m/\jz c (aO (fun x c=>g x.toNat c) (xs.take j) c0)/\bY (dH ((xs.take j).map fun x=>w x.toNat)) c0 c/\fr.get 0=.ptr e.cb 0/\fr.get 6=.func nf [.ptr e.cb 0] []/\fr.get 69=v/\fr.get 70=.int .i64 (xs.length:Int)/\fr.get 71=.int .i64 (j:Int)/\fr.defers=ds) (fun j=>xs.length- j) _ ?_ 0 fr M0 ⟨nZ _,o0,c0,h0,.refl,.refl,.refl,f0,f6,f69,f70,f71,fd⟩
 rintro j fr m ⟨hj,o,c,h,st,eq,sm,f0,f6,f69,f70,f71,fd⟩;generalize hX:exec U bj fr m=X;by_cases aH:j<xs.length
 ·have hc:(j:Int)<(xs.length:Int):=by omega
  have gP:=aZ (i:=j) (by omega);have hg:xs[j]?=some xs[j]:=jE aH;have e1:xs.take (j+1)=xs.take j++[xs[j]]:=List.take_succ_eq_append_getElem aH;have nV:xs[j]∈xs:=oX aH;generalize xs[j]=y at *;obtain⟨y0,yl,yf,yp⟩:=sR y nV;have hyc:((y.toNat:Nat):Int)=y:=Int.toNat_of_nonneg y0;have NG:=yG (w:=fun x=>w x.toNat) hg;rcases hv.cU st with⟨q,_⟩|⟨b,cp,t,ro,pre,rest,rfl,gb,bl,bw,bo_⟩
  ·rw[q]at aH;cases aH
  have tM:(is (pre++(xs++rest)))[pre.length+j]?=some (.int .i64 y):=by rw[gp,yy (Nat.le_add_right _ _),Nat.add_sub_cancel_left,rB aH,hg];rfl
  have eC:=ap (n:=xs.length) (i:=j) (k:=.i64) aH;obtain⟨L,P,ov,kv,TB⟩:=id h;have HQ:=mS TB;by_cases hf:c.fe=0
  ·rw[gQ hf]at HQ;simp only[bj,f0,f6,f69,f70,f71,fd,hc,gb,bl,eC,tM,HQ,wL,List.cons_append,List.nil_append,Nat.mul_one,ao,simprocAttr]at hX;generalize hC:run (UT B Ev.K) nf _ _=C at hX;rw[<- hyc]at hC;obtain⟨m2,o2,c2,rfl,h2,Un,BF,Cl⟩:=go (h.bump 0) hf (hF.step sm NG (cR _)) yl yf yp hC;clear hC;simp only[f0,f6,f69,f70,f71,fd,gP,ao,simprocAttr]at hX;subst hX;have uF:c=aO (fun x c=>g x.toNat c) (xs.take j) c0:=eq.2.2 hf;have oD:aO (fun x c=>g x.toNat c) (xs.take (j+1)) c0=g y.toNat c:=by rw[e1,jF,<- uF,if_pos hf]
   refine bB (j+1) (by omega) ⟨aH,o2,c2,h2,(st.trans (bO.bump).s).trans Un,by rw[oD];exact BF,by rw[e1,tc];exact sm.trans Cl,by simp[f0,f6,f69,f70,fd,ay]⟩
  ·rw[ij hf]at HQ;simp only[bj,f0,f6,f69,f70,f71,fd,hc,gb,bl,eC,tM,HQ,gP,Nat.mul_one,ao,simprocAttr]at hX;subst hX;have oD:aO (fun x c=>g x.toNat c) (xs.take (j+1)) c0=aO (fun x c=>g x.toNat c) (xs.take j) c0:=by rw[e1,jF,if_neg (by rw[<- eq.1];exact hf)]
   exact bB (j+1) (by omega) ⟨aH,o,c,h.bump 0,st.trans bO.bump.s,by rw[oD];exact eq,by rw[e1,tc];exact sm.iY (by omega),by simp[f0,f6,f69,f70,fd,ay]⟩
 ·have hc:¬((j:Int)<(xs.length:Int)):=by omega
  simp only[bj,f70,f71,fd,hc,ao,simprocAttr]at hX;subst hX;have ej:xs.take j=xs:=uP (by omega);rw[ej]at eq sm;exact bK ⟨_,_,o,c,rfl,h,st,eq,sm,by simp[f0,fd,ay]⟩
theorem ZT{f q:Nat}(go:vi e dw (· =23) (nv e.l f) (dM e.l f) f q):vi e jH (· =23) (Gc e.l f) (dM e.l f) f (q+1):=by
 intro o m fv vv sb mb c i X hX0 hf hF hi Ty hk hX;obtain⟨L,P,ov,kv,h⟩:=hX0;rw[cf (by simp[dO])]at hX;have hg:=h.g;have hb:=h.lt _ (.inl rfl);obtain⟨h1,s1⟩:=h.rG (c':={c with L:=c.L+1}) rfl rfl rfl rfl rfl;have gP:IntKind.i64.wrap (c.L+1)=c.L+1:=wrap_i64 (by have:=hF.l;omega) (by have:=hF.d;have:=hF.D;omega);unfold j0 at hg;simp only[dO,hg,hb,gP,ao,simprocAttr]at hX;generalize hC:run (UT B Ev.K) 41 _ _=C at hX;have rh:qa e {c with L:=c.L+1} (dM e.l f i) q:=⟨hF.D,by have:=hF.d;simp only;omega,hF.ok,hF.vk,hF.kn,hF.F,hF.n,by have:=hF.l;simp only;omega⟩;obtain⟨M2,o2,c2,rfl,⟨L2,P2,ov2,kv2,h2⟩,Un,BF,Cl⟩:=go ⟨_,_,_,_,h1⟩ hf rh hi Ty hk hC;clear hC;have kI:=h2.g;have mC:=h2.lt _ (.inl rfl);obtain⟨h3,s3⟩:=h2.rG (c':={c2 with L:=c2.L- 1}) rfl rfl rfl rfl rfl;have hL2:c2.L=c.L+1:=Cl.L;have YE:IntKind.i64.wrap (c2.L- 1)=c2.L- 1:=wrap_i64 (by have:=hF.l;omega) (by have:=hF.d;have:=hF.D;omega);unfold j0 at kI;simp only[kI,mC,YE,ao,simprocAttr]at hX;exact⟨_,o2,{c2 with L:=c2.L- 1},hX.symm,⟨_,_,_,_,h3⟩,(s1.s.trans Un).trans s3.s,XB BF,Cl.loop⟩
end
end
section
theorem I0{k:Int}(h:nu k):k=12\/k=13\/k=14\/k=15\/k=16\/k=17\/k=18\/k=19\/k=20\/k=21\/k=22:=by unfold nu at h;omega
theorem lY{l:List Nd}{k:List Int}{n:Nat}(h:mQ l k n):∀x∈k.take n,lu (ee l x).kind:=fun x hx=>by
 rw[<- iR];exact h.2 x hx
theorem Ul{l:List Nd}{d:Nd}(h:nu d.kind)(hk:cJ l d):(∀x∈cu d,lu (ee l x).kind)/\(∀x∈cd d,(ee l x).kind=23)/\(cu d).length<=2/\(d.kind=12->1<=(cu d).length)/\vH d<=d.kids.length/\((d.kind=16\/d.kind=17)->(cd d).length=1):=by
 unfold cJ at hk;unfold cu cd vH;rcases I0 h with e|e|e|e|e|e|e|e|e|e|e
 all_goals
  rw[e]at hk⊢;simp only[Int.reduceEq,or_self,or_true,true_or,if_false,if_true,false_or,or_false]at hk ⊢
 ·exact⟨by rw[Nat.sub_zero,hk.1];exact lY hk.2,by simp,by simp;omega,fun _=>by simp;omega,by omega,fun w=>by simp at w⟩
 ·exact⟨by rw[Nat.sub_zero,hk.1];exact lY hk.2,by simp,by simp;omega,fun w=>by simp at w,by omega,fun w=>by simp at w⟩
 ·exact⟨by rw[Nat.sub_zero,hk.1];exact lY hk.2,by simp,by simp;omega,fun w=>by simp at w,by omega,fun w=>by simp at w⟩
 ·have e1:d.kids.length-(d.kids.length- 1)=1:=by have:=hk.1.2;omega
  rw[e1];exact⟨lY hk.1.1,fun x hx=>by rw[<- iR];exact hk.2.1 x hx,by simp;omega,fun w=>by simp at w,by omega,fun w=>by simp at w⟩
 ·rw[hk.1.2];exact⟨lY hk.1.1,fun x hx=>by rw[<- iR];exact hk.2.1 x hx,by simp;omega,fun w=>by simp at w,by omega,fun _=>by simp[hk.1.2]⟩
 ·rw[hk.1.2];exact⟨lY hk.1.1,fun x hx=>by rw[<- iR];exact hk.2.1 x hx,by simp;omega,fun w=>by simp at w,by omega,fun _=>by simp[hk.1.2]⟩
 ·rw[List.eq_nil_of_length_eq_zero hk];exact⟨by simp,by simp,by simp,fun w=>by simp at w,by simp,fun w=>by simp at w⟩
 ·rw[List.eq_nil_of_length_eq_zero hk];exact⟨by simp,by simp,by simp,fun w=>by simp at w,by simp,fun w=>by simp at w⟩
 ·exact⟨by rw[Nat.sub_zero,hk.1];exact lY hk.2,by simp,by simp;omega,fun w=>by simp at w,by omega,fun w=>by simp at w⟩
 ·exact⟨by rw[Nat.sub_zero,hk.1];exact lY hk.2,by simp,by simp;omega,fun w=>by simp at w,by omega,fun w=>by simp at w⟩
 ·exact⟨fun x hx=>by
   have:=hk.2 x (List.mem_of_mem_take hx);rw[<- iR,this];exact⟨by decide,by decide⟩,by simp,by simp;omega,fun w=>by simp at w,by omega,fun w=>by simp at w⟩
section
variable {e:CE} {o o' o0:Nat->Part} {m m' M0:Mem} {fv vv:EV} {sb mb:Nat} {c c' c0:CS} {L L':List (cH×EV)} {P P':cH->EV} {ov kv AA AL:EV}
theorem Ck.first(h:Ck e o m fv vv sb mb c L P ov kv){x:Nv}(hx:x∈e.xs){n:Nat}(hn:n<=x.d.kids.length):∃v,oc 1 x.kv none (some (.int .i64 (n:Int))) none m=some (.val v m)/\uM e m v (x.d.kids.take n):=by
 rcases(h.nd.k x hx).is with⟨q1,q2|⟨b,o,q2⟩⟩|⟨b,c,t,ro,q1,q2,q3,q4,q5⟩
 ·rw[q1]at hn⊢;obtain rfl:n=0:=by simpa using hn
  rw[q2];exact⟨.aa,rfl,.inl ⟨rfl,.inl rfl⟩⟩
 ·rw[q1]at hn⊢;obtain rfl:n=0:=by simpa using hn
  rw[q2];exact⟨.fz 0 1 [],rfl,.inl ⟨rfl,.inr (.inr ⟨0,rfl⟩)⟩⟩
 ·rw[q1];refine⟨_,ME q2 q4 hn,?_⟩
  cases hl:x.d.kids with
  |nil=>exact absurd hl q5
  |cons y ys=>
   rw[hl]at q1 q2;have:=h.nd.kf x hx b ys.length c q1;rw[<- hl]at q2⊢;refine .inr ⟨b,c,t,ro,x.d.kids.drop n,by rw[List.length_take,Nat.min_eq_left hn],by rw[List.take_append_drop];exact q2,q3,this.1⟩
theorem Ck.rest(h:Ck e o m fv vv sb mb c L P ov kv){x:Nv}(hx:x∈e.xs){n:Nat}(hn:n<=x.d.kids.length):∃v,oc 1 x.kv (some (.int .i64 (n:Int))) none none m=some (.val v m)/\EA e o m v (x.d.kids.drop n):=by
 rcases(h.nd.k x hx).is with⟨q1,q2|⟨b,o,q2⟩⟩|⟨b,c,t,ro,q1,q2,q3,q4,q5⟩
 ·rw[q1]at hn⊢;obtain rfl:n=0:=by simpa using hn
  rw[q2];exact⟨.aa,rfl,.inl ⟨rfl,.inl rfl⟩⟩
 ·rw[q1]at hn⊢;obtain rfl:n=0:=by simpa using hn
  rw[q2];exact⟨.fz 0 1 [],rfl,.inl ⟨rfl,.inr (.inr ⟨0,rfl⟩)⟩⟩
 ·rw[q1];have hb:=lm (d:=0) (k:=.i64) hn;have key:∃c' off,oc 1 (.slice b 0 x.d.kids.length c) (some (.int .i64 (n:Int))) none none m=some (.val (.slice b off (x.d.kids.length- n) c') m)/\(n<x.d.kids.length->off=n):=by
   rcases q4 with rfl|rfl
   ·refine⟨none,0+n*1,?_,fun _=>by omega⟩
    simp only[oc,q2,Nat.beq_refl,cond_true,cW,ig,hb];rfl
   ·refine⟨some (x.d.kids.length- n),bif x.d.kids.length.beq n then 0 else 0+n*1,?_,fun aH=> ?_⟩
    ·simp only[oc,cW,ig,hb];rfl
    ·rw[show x.d.kids.length.beq n=false by
      cases hbq:x.d.kids.length.beq n with
      |false=>rfl
      |true=>have:=Nat.eq_of_beq_eq_true hbq;omega]
     simp
  obtain⟨c',off,key,ho⟩:=key;refine⟨_,key,?_⟩
  by_cases aH:n<x.d.kids.length
  ·rw[ho aH];cases hl:x.d.kids with
   |nil=>exact absurd hl q5
   |cons y ys=>
    rw[hl]at q1 q2;have:=h.nd.kf x hx b ys.length c q1;rw[<- hl]at q2⊢;refine .inr ⟨b,c',t,ro,x.d.kids.take n,[],by rw[List.length_take,Nat.min_eq_left hn,OZ],by rw[List.append_nil,List.take_append_drop];exact q2,q3,this.1,this.2⟩
  ·exact .inl ⟨List.drop_eq_nil_of_le (by omega),.inr (.inl ⟨b,off,c',by rw[show x.d.kids.length- n=0 by omega]⟩)⟩
end
end
section
theorem vi.mono{e:CE}{nf:Nat}{p:Int->Prop}{g:Nat->CS->CS}{w:Nat->Nat}{f q q':Nat}(h:vi e nf p g w f q)(hq:q<=q'):vi e nf p g w f q':=by
 intro o m fv vv sb mb c i X h1 h2 h3 h4 h5 h6 h7;exact h h1 h2 (h3.step bY.refl (by omega) hq) h4 h5 h6 h7
theorem zK{c c4 d:CS}{g:Int->CS->CS}{xs:List Int}(h:jz c d)(h4:jz c4 (aO g xs c)):jz c4 (aO g xs d):=by
 by_cases q:c.fe=0
 ·rw[<- h.2.2 q];exact h4
 ·rw[kZ q]at h4;rw[kZ (by rw[<- h.1];exact q)];exact⟨h4.1.trans h.1,h4.2.1.trans h.2.1,fun w=>absurd (h4.1.symm.trans w) q⟩
theorem Df{g:Int->CS->CS}{x:Int}{c:CS}:aO g [x] c=if c.fe=0 then g x c else c:=rfl
theorem Uk{l:List Nd}{f i:Nat}{c c1:CS}(h1:aO (fun x c=>qi l f x.toNat c) (cu (dZ l i)) c=c1)(hf:c1.fe=0)(IG:(dZ l i).kind≠23)(Kn:(dZ l i).kind≠16)(LP:(dZ l i).kind≠17):nv l (f+1) i c=aO (fun x c=>nv l f x.toNat c) (cd (dZ l i)) (fH l i c1):=by
 rw[nv];simp only[if_neg IG,if_neg Kn,if_neg LP,h1,if_pos hf];by_cases q:(fH l i c1).fe=0
 ·rw[if_pos q]
 ·rw[if_neg q,kZ q]
theorem Uj{l:List Nd}{f i:Nat}{c c1:CS}(h1:aO (fun x c=>qi l f x.toNat c) (cu (dZ l i)) c=c1)(hf:c1.fe=0)(Kn:(dZ l i).kind=16)(hb:(cd (dZ l i)).length=1):nv l (f+1) i c=aO (fun x c=>Gc l f x.toNat c) (cd (dZ l i)) (fH l i c1):=by
 obtain⟨x,hx⟩:=List.length_eq_one_iff.1 hb;rw[nv];simp only[Kn,Int.reduceEq,if_false,if_true,h1,if_pos hf,hx,Df];by_cases q:(fH l i c1).fe=0
 ·simp only[if_pos q];rfl
 ·simp only[if_neg q]
theorem Ui{l:List Nd}{f i:Nat}{c c1 c4:CS}(h1:aO (fun x c=>qi l f x.toNat c) (cu (dZ l i)) c=c1)(hf:c1.fe=0)(LP:(dZ l i).kind=17)(hb:(cd (dZ l i)).length=1)(hq:(fH l i c1).fe=0)(h4:jz c4 (aO (fun x c=>Gc l f x.toNat c) (cd (dZ l i)) (eK l i 1 {fH l i c1 with X:=(fH l i c1).X.open_}))):jz {c4 with X:=c4.X.close} (nv l (f+1) i c):=by
 obtain⟨x,hx⟩:=List.length_eq_one_iff.1 hb;rw[hx,Df]at h4;rw[nv];simp only[LP,Int.reduceEq,if_false,if_true,h1,if_pos hf,hx,Df,if_pos hq];by_cases q:(eK l i 1 {fH l i c1 with X:=(fH l i c1).X.open_}).fe=0
 ·rw[if_pos q]at h4;simp only[if_pos q];exact⟨h4.1,h4.2.1,fun w=>by rw[h4.2.2 w];rfl⟩
 ·rw[if_neg q]at h4;simp only[if_neg q];exact⟨h4.1,h4.2.1,fun w=>absurd (h4.1.symm.trans w) q⟩
theorem qV{l:List Nd}{f i:Nat}{c c1:CS}(h:jz c1 (aO (fun x c=>qi l f x.toNat c) (cu (dZ l i)) c))(hf:c1.fe≠0)(IG:(dZ l i).kind≠23):jz c1 (nv l (f+1) i c):=by
 rw[nv];have:=h.1;simp only[if_neg IG,if_neg (show ¬(aO (fun x c=>qi l f x.toNat c) (cu (dZ l i)) c).fe=0 by rw[<- this];exact hf)];exact h
theorem QX{l:List Nd}{f i:Nat}{c c1:CS}(h1:aO (fun x c=>qi l f x.toNat c) (cu (dZ l i)) c=c1)(hf:c1.fe=0)(IG:(dZ l i).kind≠23)(hq:(fH l i c1).fe≠0):nv l (f+1) i c=fH l i c1:=by
 rw[nv];simp only[if_neg IG,h1,if_pos hf,if_neg hq]
theorem af9{l:List Nd}{d:Nd}(hk:cJ l d)(e:d.kind=15):2<=d.kids.length:=by
 unfold cJ at hk;rw[e]at hk;simp only[Int.reduceEq,or_self,or_true,true_or,if_false,if_true,false_or,or_false]at hk;exact hk.1.2
section
variable {e:CE} {o o' o0:Nat->Part} {m m' M0:Mem} {fv vv:EV} {sb mb:Nat} {c c' c0:CS} {L L':List (cH×EV)} {P P':cH->EV} {ov kv AA AL:EV}
theorem GG(h:Ck e o m fv vv sb mb c L P ov kv)(hf:c.fe≠0){i k:Int}{X:Option Fin}(hX:run U nA [.ptr e.cb 0,.int .i64 i,.int .i64 k] m=X):X=some (.ret (.tuple []) (Ev.bump m 0)):=by
 rw[cf (by simp[bL])]at hX;have NS:=mS h;rw[ij hf]at NS;simp only[bL,NS,ao,simprocAttr]at hX;exact hX.symm
theorem Y9(s:Shape e){f q:Nat}(bl:vi e dw (· =23) (nv e.l f) (dM e.l f) f q):vi e cj nu (nv e.l (f+1)) (dM e.l (f+1)) (f+1) (q+4):=by
 intro o m fv vv sb mb c i X hX0 hf hF hi Ty hk hX;obtain⟨L,P,ov,kv,h⟩:=hX0;have lo:vi e jH (· =23) (Gc e.l f) (dM e.l f) f (q+1):=ZT bl;rw[ac0 (by simp[aR])]at hX;have hx:e.xs[i]?=some e.xs[i]:=jE hi;have hd:=h.d hx;have nV:e.xs[i]∈e.xs:=oX hi;have hld:e.l[i]?=some e.xs[i].d:=by unfold CE.l;rw[List.getElem?_map,hx];rfl
 generalize e.xs[i]=y at *;have hw:dM e.l (f+1) i=ow y.d+dH (y.d.kids.map fun x=>dM e.l f x.toNat):=vw hld;have LH:100<=ow y.d:=by unfold ow;omega
 have hsd:dH ((cd y.d).map fun x=>dM e.l f x.toNat)<=dH (y.d.kids.map fun x=>dM e.l f x.toNat):=CX _ _;obtain⟨ke,kb,k2,YA,knb,k1⟩:=Ul hk (s.kids hi);have IG:(dZ e.l i).kind≠23:=fun w=>by rw[w]at hk;exact absurd hk.2 (by decide)
 rw[hd]at ke kb k2 YA knb k1 hk;have uW:=s.k y nV;have heN:(cu y.d).length=y.d.kids.length- vH y.d:=by unfold cu;rw[List.length_take];omega
 obtain⟨gl,ll,eC,q1,q2,q3,q4,q5⟩:=h.cells hx;have hg:=h.g;have hb:=h.lt _ (.inl rfl);obtain⟨kd,qC⟩:∃kd,y.d.kind=kd:=⟨_,rfl⟩
 rw[qC]at q5;have e0:nb m.next 0=m.next:=rfl;have s1:bO e m (ext m [.cells [.int .i64 kd,y.kv,.int .i64 y.d.n,.str y.d.s,.int .i64 y.d.pos] 5 59 false]):=.bJ (by rw[ak];exact aq) fun b hb=>ai hb
 have h1:=h.same s1.n fun b hb=>ai (xs:=[bX.cells [.int .i64 kd,y.kv,.int .i64 y.d.n,.str y.d.s,.int .i64 y.d.pos] 5 59 false]) hb
 have p1:(ext m [.cells [.int .i64 kd,y.kv,.int .i64 y.d.n,.str y.d.s,.int .i64 y.d.pos] 5 59 false]).get m.next=.cells [.int .i64 kd,y.kv,.int .i64 y.d.n,.str y.d.s,.int .i64 y.d.pos] 5 59 false:=aw (m:=m) (i:=0) rfl (by simp);have l1:m.next<(ext m [.cells [.int .i64 kd,y.kv,.int .i64 y.d.n,.str y.d.s,.int .i64 y.d.pos] 5 59 false]).next:=by rw[ak];unfold nb;simp
 obtain⟨M,hM⟩:∃M,ext m [.cells [.int .i64 kd,y.kv,.int .i64 y.d.n,.str y.d.s,.int .i64 y.d.pos] 5 59 false]=M:=⟨_,rfl⟩
 rw[hM]at s1 h1 p1 l1;have bT:=fun k n p (s:cH)=>Cs (h.nd.k y nV) (k:=k) (n:=n) (p:=p) (s:=s)
 have hlen:=(h1.V6 nV).kA;have oN:o m.next=.other:=h.sc.new _ (cR _);have wN:¬e.W m.next:=fun w=>by have:=h.lt _ w;omega
 obtain⟨v,hv,lN⟩:=h1.first nV (n:=y.d.kids.length- vH y.d) (by omega);unfold j0 CE.lv at hg;by_cases n15:y.d.kind=15
 ·have Hn:¬y.d.kind=16:=by omega
  have LF:¬y.d.kind=17:=by omega
  have Wu:vH y.d=y.d.kids.length- 1:=by unfold vH;rw[if_pos n15]
  have gP:IntKind.i64.wrap ((y.d.kids.length:Int)- 1)=((y.d.kids.length- 1:Nat):Int):=by
   rw[wrap_i64 (by omega) (by omega)];have:1<=y.d.kids.length:=by have:=af9 (hd▸s.kids hi) n15;omega
   omega
  have YE:IntKind.i64.wrap ((y.d.kids.length:Int)-((y.d.kids.length- 1:Nat):Int))=((y.d.kids.length- vH y.d:Nat):Int):=by
   rw[wrap_i64 (by omega) (by omega)];omega
  obtain rfl:kd=15:=qC.symm.trans n15;simp only[aR,hg,hb,gl,ll,eC,q5,hlen,gP,YE,ao,simprocAttr]at hX;rw[hM,e0]at hX;simp only[p1,l1,bT,hlen,hv,ao,simprocAttr]at hX;generalize hC:run (UT B Ev.K) 81 _ _=C at hX;obtain⟨M2,c1,rb,ks,rfl,h2,s2,se,eq,gr,lr,EP,kl,py⟩:=tC (KF s f) s.r.1.1 s.r.1.2.1 (xs:=cu y.d) (i:=i) (n:=y.d.kids.length- vH y.d) (by unfold cu;rw[hd]) ke Ty s.n (by omega) h1 hF.fit lN hC;clear hC;have p2:=(s2.k m.next l1 wN).trans p1;have l2:m.next<M2.next:=cQ l1 s2.n;have jr:=mS h2;by_cases eH:c1.fe=0
  ·rw[gQ eH]at jr;have Ai:=eq.2.2 eH;have py:=py eH;simp only[p2,l2,jr,bT,e0,ao,simprocAttr]at hX;generalize hC:run (UT B Ev.K) 82 _ _=C at hX;have ha:=CG s (h2.bump 0) eH (by rw[se.X];exact hF.D) (by rw[se.X];exact hF.fit.V) (by rw[se.X];have:=hF.kn;omega) hx py gr (by rw[au];exact cQ EP aq) (fun w=>by have:=h.lt _ w;have:=s1.n;omega) (fun w=>by rw[kl];exact YA w) (by omega) (X:=C) (by rw[kl,qC];exact hC);clear hC;obtain⟨M3,o3,c3,L3,P3,ov3,kv3,rfl,h3,s3,BZ,My⟩:=ha;have p3:=(s3.k m.next (by rw[au];exact cQ l2 aq) wN oN).trans p2;have l3:m.next<M3.next:=cQ l2 (ji aq s3.n);have Ts:=((s1.trans s2).s (o:=o)).trans (bO.bump.s.trans s3);have yJ:=se.s.trans My;obtain⟨v3,Sg,oE⟩:=h3.rest nV (n:=y.d.kids.length- vH y.d) (by omega);replace oE:EA e o3 M3 v3 (cd y.d):=oE;have zl:=oE.kA;simp only[p3,l3,bT,e0,heN,Sg,zl,ao,simprocAttr]at hX;generalize hY:exec _ (.loop bj) _ _=Y at hX;obtain⟨ou,rfl,fr',M4,o4,c4,rfl,h4,s4,KX,Uw,f0,fd⟩:=cG hY (O7 (nf:=dw) (p:=(· =23)) (g:=nv e.l f) (w:=dM e.l f) (f:=f) (q:=q) bl (xs:=cd y.d) (fun x DH=>by
    have Cy:x∈(dZ e.l i).kids:=by rw[hd];exact List.mem_of_mem_drop DH
    obtain⟨a1,a2,a3,_⟩:=s.sQ Cy;exact⟨a1,a3,by omega,kb x DH⟩) (by unfold cd;rw[OZ];omega) (hF.step yJ (by omega) (by omega)) oE ⟨_,_,_,_,h3⟩ (ds:=[]) (by simp[ay]) (by simp[ay]) (by simp[ay]) (by simp[ay]) (by simp[ay]) (by simp[ay]))
   clear hY;simp only[f0,fd,wO,lf,ao,simprocAttr]at hX;refine⟨M4,o4,c4,hX.symm,h4,Ts.trans s4,?_,(yJ.trans Uw).iY (by omega)⟩
   rw[Uk (by rw[hd];exact Ai.symm) eH IG (by rw[hd];exact Hn) (by rw[hd];exact LF),hd];exact zK BZ KX
  ·rw[ij eH]at jr;simp only[p2,l2,jr,bT,e0,yO,lf,ao,simprocAttr]at hX;exact⟨_,o,c1,hX.symm,⟨_,_,_,_,h2.bump 0⟩,((s1.trans s2).trans bO.bump).s,qV (by rw[hd];exact eq) eH IG,se.s.iY (by omega)⟩
 by_cases Hn:y.d.kind=16
 ·have Wu:vH y.d=1:=by unfold vH;rw[Hn];rfl
  have gP:IntKind.i64.wrap ((y.d.kids.length:Int)- 1)=((y.d.kids.length- vH y.d:Nat):Int):=by
   rw[wrap_i64 (by omega) (by omega)];omega
  obtain rfl:kd=16:=qC.symm.trans Hn;simp only[aR,hg,hb,gl,ll,eC,q5,hlen,gP,ao,simprocAttr]at hX;rw[hM,e0]at hX;simp only[p1,l1,bT,hlen,gP,hv,ao,simprocAttr]at hX;generalize hC:run (UT B Ev.K) 81 _ _=C at hX;obtain⟨M2,c1,rb,ks,rfl,h2,s2,se,eq,gr,lr,EP,kl,py⟩:=tC (KF s f) s.r.1.1 s.r.1.2.1 (xs:=cu y.d) (i:=i) (n:=y.d.kids.length- vH y.d) (by unfold cu;rw[hd]) ke Ty s.n (by omega) h1 hF.fit lN hC;clear hC;have p2:=(s2.k m.next l1 wN).trans p1;have l2:m.next<M2.next:=cQ l1 s2.n;have jr:=mS h2;by_cases eH:c1.fe=0
  ·rw[gQ eH]at jr;have Ai:=eq.2.2 eH;have py:=py eH;simp only[p2,l2,jr,bT,e0,ao,simprocAttr]at hX;generalize hC:run (UT B Ev.K) 82 _ _=C at hX;have ha:=CG s (h2.bump 0) eH (by rw[se.X];exact hF.D) (by rw[se.X];exact hF.fit.V) (by rw[se.X];have:=hF.kn;omega) hx py gr (by rw[au];exact cQ EP aq) (fun w=>by have:=h.lt _ w;have:=s1.n;omega) (fun w=>by rw[kl];exact YA w) (by omega) (X:=C) (by rw[kl,qC];exact hC);clear hC;obtain⟨M3,o3,c3,L3,P3,ov3,kv3,rfl,h3,s3,BZ,My⟩:=ha;have p3:=(s3.k m.next (by rw[au];exact cQ l2 aq) wN oN).trans p2;have l3:m.next<M3.next:=cQ l2 (ji aq s3.n);have Ts:=((s1.trans s2).s (o:=o)).trans (bO.bump.s.trans s3);have yJ:=se.s.trans My;obtain⟨v3,Sg,oE⟩:=h3.rest nV (n:=y.d.kids.length- vH y.d) (by omega);replace oE:EA e o3 M3 v3 (cd y.d):=oE;have zl:=oE.kA;simp only[p3,l3,bT,e0,heN,Sg,zl,ao,simprocAttr]at hX;generalize hY:exec _ (.loop bj) _ _=Y at hX;obtain⟨ou,rfl,fr',M4,o4,c4,rfl,h4,s4,KX,Uw,f0,fd⟩:=cG hY (O7 (nf:=jH) (p:=(· =23)) (g:=Gc e.l f) (w:=dM e.l f) (f:=f) (q:=q+1) lo (xs:=cd y.d) (fun x DH=>by
    have Cy:x∈(dZ e.l i).kids:=by rw[hd];exact List.mem_of_mem_drop DH
    obtain⟨a1,a2,a3,_⟩:=s.sQ Cy;exact⟨a1,a3,by omega,kb x DH⟩) (by unfold cd;rw[OZ];omega) (hF.step yJ (by omega) (by omega)) oE ⟨_,_,_,_,h3⟩ (ds:=[]) (by simp[ay]) (by simp[ay]) (by simp[ay]) (by simp[ay]) (by simp[ay]) (by simp[ay]))
   clear hY;simp only[f0,fd,wO,lf,ao,simprocAttr]at hX;refine⟨M4,o4,c4,hX.symm,h4,Ts.trans s4,?_,(yJ.trans Uw).iY (by omega)⟩
   rw[Uj (by rw[hd];exact Ai.symm) eH (by rw[hd];exact Hn) (by rw[hd];exact k1 (.inl Hn)),hd];exact zK BZ KX
  ·rw[ij eH]at jr;simp only[p2,l2,jr,bT,e0,yO,lf,ao,simprocAttr]at hX;exact⟨_,o,c1,hX.symm,⟨_,_,_,_,h2.bump 0⟩,((s1.trans s2).trans bO.bump).s,qV (by rw[hd];exact eq) eH IG,se.s.iY (by omega)⟩
 by_cases LF:y.d.kind=17
 ·have Wu:vH y.d=1:=by unfold vH;rw[LF];rfl
  have gP:IntKind.i64.wrap ((y.d.kids.length:Int)- 1)=((y.d.kids.length- vH y.d:Nat):Int):=by
   rw[wrap_i64 (by omega) (by omega)];omega
  obtain rfl:kd=17:=qC.symm.trans LF;simp only[aR,hg,hb,gl,ll,eC,q5,hlen,gP,ao,simprocAttr]at hX;rw[hM,e0]at hX;simp only[p1,l1,bT,hlen,gP,hv,ao,simprocAttr]at hX;generalize hC:run (UT B Ev.K) 81 _ _=C at hX;obtain⟨M2,c1,rb,ks,rfl,h2,s2,se,eq,gr,lr,EP,kl,py⟩:=tC (KF s f) s.r.1.1 s.r.1.2.1 (xs:=cu y.d) (i:=i) (n:=y.d.kids.length- vH y.d) (by unfold cu;rw[hd]) ke Ty s.n (by omega) h1 hF.fit lN hC;clear hC;have p2:=(s2.k m.next l1 wN).trans p1;have l2:m.next<M2.next:=cQ l1 s2.n;have jr:=mS h2;by_cases eH:c1.fe=0
  ·rw[gQ eH]at jr;have Ai:=eq.2.2 eH;have py:=py eH;simp only[p2,l2,jr,bT,e0,ao,simprocAttr]at hX;generalize hC:run (UT B Ev.K) 82 _ _=C at hX;have ha:=CG s (h2.bump 0) eH (by rw[se.X];exact hF.D) (by rw[se.X];exact hF.fit.V) (by rw[se.X];have:=hF.kn;omega) hx py gr (by rw[au];exact cQ EP aq) (fun w=>by have:=h.lt _ w;have:=s1.n;omega) (fun w=>by rw[kl];exact YA w) (by omega) (X:=C) (by rw[kl,qC];exact hC);clear hC;obtain⟨M3,o3,c3,L3,P3,ov3,kv3,rfl,h3,s3,BZ,My⟩:=ha;have p3:=(s3.k m.next (by rw[au];exact cQ l2 aq) wN oN).trans p2;have l3:m.next<M3.next:=cQ l2 (ji aq s3.n);have Ts:=((s1.trans s2).s (o:=o)).trans (bO.bump.s.trans s3);have yJ:=se.s.trans My;have oN3:o3 m.next=.other:=(s3.ow _ (by rw[au];exact cQ l2 aq)).trans oN;have jV:=h3.g;have pz:=h3.lt _ (.inl rfl);unfold j0 CE.lv at jV;simp only[p3,l3,bT,jV,pz,ao,simprocAttr]at hX;generalize hC:run (UT B Ev.K) 61 _ _=C at hX;have DP:=hF.step (w':=dH (y.d.kids.map fun x=>dM e.l f x.toNat)+5) (q':=q+4) yJ (by omega) (cR _);obtain⟨M4,hk4,sc4,st4⟩:=Pe h3.sc ⟨DP.D,by have:=DP.d;have:=DP.l;omega⟩;obtain rfl:=hC.symm.trans hk4;clear hC hk4;have h4:=h3.scp sc4 st4;have TI:qa e {c3 with X:=c3.X.open_} (dH (y.d.kids.map fun x=>dM e.l f x.toNat)+5) (q+3):=⟨by have:=DP.D;simp only[Mo.open_];omega,by have:=DP.d;simp only[Mo.open_];omega,DP.ok.open_,DP.vk,DP.kn,DP.F,DP.n,DP.l⟩;have p4:=(st4.k m.next l3 oN3).trans p3;have l4:m.next<M4.next:=cQ l3 st4.n;have oN4:o3 m.next=.other:=oN3;have nW:=h4.g;have uZ:=h4.lt _ (.inl rfl);unfold j0 CE.lv at nW;simp only[p4,l4,bT,nW,uZ,Vj,su,sr,yd,ao,simprocAttr]at hX;generalize hC:run (UT B Ev.K) 40 _ _=C at hX;obtain⟨M5,o5,c5,L5,P5,Yw,Yz,rfl,h5,s5,CF,As⟩:∃M5 o5 c5 L5 P5 Yw Yz,C=some (.ret (.tuple []) M5)/\Ck e o5 M5 fv vv sb mb c5 L5 P5 Yw Yz/\EW e o3 M4 o5 M5/\jz c5 (if c3.fe=0 then eK e.l i 1 {c3 with X:=c3.X.open_}else{c3 with X:=c3.X.open_})/\bY 1 {c3 with X:=c3.X.open_} c5:=by
    by_cases CB:c3.fe=0
    ·rw[if_pos CB];obtain⟨M5,o5,c5,L5,P5,Yw,Yz,r5,h5,s5,CF,As⟩:=Ed h4 CB TI.D TI.fit.V (by have:=TI.kn;simp only at this⊢;omega) hi hC;exact⟨M5,o5,c5,L5,P5,Yw,Yz,r5,h5,s5,CF,As⟩
    ·rw[if_neg CB];exact⟨_,o3,_,_,_,_,_,GG h4 CB hC,h4.bump 0,bO.bump.s,.refl,bY.refl.iY (by omega)⟩
   clear hC;have p5:=(s5.k m.next l4 wN oN3).trans p4;have l5:m.next<M5.next:=cQ l4 s5.n;obtain⟨v3,Sg,oE⟩:=h5.rest nV (n:=y.d.kids.length- vH y.d) (by omega);replace oE:EA e o5 M5 v3 (cd y.d):=oE;have zl:=oE.kA;simp only[p5,l5,bT,e0,heN,Sg,zl,su,sr,yd,ao,simprocAttr]at hX;have hF5:=TI.step (w':=dH ((cd y.d).map fun x=>dM e.l f x.toNat)) (q':=q+1) As (by omega) (by omega);generalize hY:exec _ (.loop bj) _ _=Y at hX;obtain⟨ou,rfl,fr',M6,o6,c6,rfl,⟨L6,P6,ov6,kv6,h6⟩,s6,XG,LB,f0,fd⟩:=cG hY (O7 (nf:=jH) (p:=(· =23)) (g:=Gc e.l f) (w:=dM e.l f) (f:=f) (q:=q+1) lo (xs:=cd y.d) (fun x DH=>by
    have Cy:x∈(dZ e.l i).kids:=by rw[hd];exact List.mem_of_mem_drop DH
    obtain⟨a1,a2,a3,_⟩:=s.sQ Cy;exact⟨a1,a3,by omega,kb x DH⟩) (by unfold cd;rw[OZ];omega) hF5 oE ⟨_,_,_,_,h5⟩ (ds:=[(63,[.ptr sb 0])]) (by simp only[su,sr,ay,Nat.reduceBEq]) (by simp only[su,sr,ay,Nat.reduceBEq]) (by simp only[su,sr,ay,Nat.reduceBEq]) (by simp only[su,sr,ay,Nat.reduceBEq]) (by simp only[su,sr,ay,Nat.reduceBEq]) (by simp only[su,sr,yd,ay,Nat.reduceBEq]))
   clear hY;have hF6:=hF5.step (w':=0) (q':=q+1) LB (by omega) (cR _);obtain⟨M7,L7,P7,ov7,kv7,hk7,sc7,st7⟩:=GJ h6.sc hF6.ok (by rw[LB.D,As.D];have:=DP.D;simp only[Mo.open_];omega) (by have:=hF6.d;have:=hF6.l;omega) (by have:=hF6.vk;have:=hF6.kn;omega);have h7:=h6.scp sc7 st7;have hk7:Er U aV [.ptr sb 0] M6=some (.ret (.bool true) M7):=(X6 (by simp[aV])).trans hk7;simp only[f0,fd,wO,Bw (show m5 63 [(63,none,aV)]=some (none,aV)from rfl),hk7,NA,lf,zza,kF,implies_true,simprocAttr]at hX;refine⟨M7,o6,{c6 with X:=c6.X.close},hX.symm,⟨_,_,_,_,h7⟩,(((Ts.trans st4.s).trans s5).trans s6).trans st7.s,?_,?_⟩
   ·by_cases CB:c3.fe=0
    ·have ha:=BZ.2.2 CB;rw[if_pos CB,ha]at CF;exact Ui (by rw[hd];exact Ai.symm) eH (by rw[hd];exact LF) (by rw[hd];exact k1 (.inr LF)) (by rw[<- ha];exact CB) (by rw[hd];exact zK CF XG)
    ·rw[if_neg CB]at CF;have e5:c5.fe=c3.fe:=CF.1;have e5p:c5.fp=c3.fp:=CF.2.1;rw[kZ (by rw[e5];exact CB)]at XG;rw[QX (by rw[hd];exact Ai.symm) eH IG (by rw[<- BZ.1];exact CB)];exact⟨(XG.1.trans e5).trans BZ.1,(XG.2.1.trans e5p).trans BZ.2.1,fun w=>absurd (e5.symm.trans (XG.1.symm.trans w)) CB⟩
   ·exact(yJ.trans (nz (As.trans LB) DP.D)).iY (by omega)
  ·rw[ij eH]at jr;simp only[p2,l2,jr,bT,e0,yO,lf,ao,simprocAttr]at hX;exact⟨_,o,c1,hX.symm,⟨_,_,_,_,h2.bump 0⟩,((s1.trans s2).trans bO.bump).s,qV (by rw[hd];exact eq) eH IG,se.s.iY (by omega)⟩
 have Wu:vH y.d=0:=by unfold vH;rw[if_neg n15,if_neg (by omega)]
 have d15:¬kd=15:=by rw[<- qC];exact n15
 have d16:¬kd=16:=by rw[<- qC];exact Hn
 have d17:¬kd=17:=by rw[<- qC];exact LF
 have gP:IntKind.i64.wrap ((y.d.kids.length:Int)- 0)=((y.d.kids.length- vH y.d:Nat):Int):=by
  rw[wrap_i64 (by omega) (by omega)];omega
 have YE:IntKind.i64.wrap (y.d.kids.length:Int)=((y.d.kids.length- vH y.d:Nat):Int):=by
  rw[wrap_i64 (by omega) (by omega)];omega
 ·simp only[aR,hg,hb,gl,ll,eC,q5,hlen,d15,d16,d17,gP,YE,ao,simprocAttr]at hX;rw[hM,e0]at hX;simp only[p1,l1,bT,hlen,d15,d16,d17,gP,YE,hv,ao,simprocAttr]at hX;generalize hC:run (UT B Ev.K) 81 _ _=C at hX;obtain⟨M2,c1,rb,ks,rfl,h2,s2,se,eq,gr,lr,EP,kl,py⟩:=tC (KF s f) s.r.1.1 s.r.1.2.1 (xs:=cu y.d) (i:=i) (n:=y.d.kids.length- vH y.d) (by unfold cu;rw[hd]) ke Ty s.n (by omega) h1 hF.fit lN hC;clear hC;have p2:=(s2.k m.next l1 wN).trans p1;have l2:m.next<M2.next:=cQ l1 s2.n;have jr:=mS h2;by_cases eH:c1.fe=0
  ·rw[gQ eH]at jr;have Ai:=eq.2.2 eH;have py:=py eH;simp only[d15,d16,d17,p2,l2,jr,bT,e0,ao,simprocAttr]at hX;generalize hC:run (UT B Ev.K) 82 _ _=C at hX;have ha:=CG s (h2.bump 0) eH (by rw[se.X];exact hF.D) (by rw[se.X];exact hF.fit.V) (by rw[se.X];have:=hF.kn;omega) hx py gr (by rw[au];exact cQ EP aq) (fun w=>by have:=h.lt _ w;have:=s1.n;omega) (fun w=>by rw[kl];exact YA w) (by omega) (X:=C) (by rw[kl,qC];exact hC);clear hC;obtain⟨M3,o3,c3,L3,P3,ov3,kv3,rfl,h3,s3,BZ,My⟩:=ha;have p3:=(s3.k m.next (by rw[au];exact cQ l2 aq) wN oN).trans p2;have l3:m.next<M3.next:=cQ l2 (ji aq s3.n);have Ts:=((s1.trans s2).s (o:=o)).trans (bO.bump.s.trans s3);have yJ:=se.s.trans My;obtain⟨v3,Sg,oE⟩:=h3.rest nV (n:=y.d.kids.length- vH y.d) (by omega);replace oE:EA e o3 M3 v3 (cd y.d):=oE;have zl:=oE.kA;simp only[d15,d16,d17,p3,l3,bT,e0,heN,Sg,zl,ao,simprocAttr]at hX;generalize hY:exec _ (.loop bj) _ _=Y at hX;obtain⟨ou,rfl,fr',M4,o4,c4,rfl,h4,s4,KX,Uw,f0,fd⟩:=cG hY (O7 (nf:=dw) (p:=(· =23)) (g:=nv e.l f) (w:=dM e.l f) (f:=f) (q:=q) bl (xs:=cd y.d) (fun x DH=>by
    have Cy:x∈(dZ e.l i).kids:=by rw[hd];exact List.mem_of_mem_drop DH
    obtain⟨a1,a2,a3,_⟩:=s.sQ Cy;exact⟨a1,a3,by omega,kb x DH⟩) (by unfold cd;rw[OZ];omega) (hF.step yJ (by omega) (by omega)) oE ⟨_,_,_,_,h3⟩ (ds:=[]) (by simp[ay]) (by simp[ay]) (by simp[ay]) (by simp[ay]) (by simp[ay]) (by simp[ay]))
   clear hY;simp only[d15,d16,d17,f0,fd,wO,lf,ao,simprocAttr]at hX;refine⟨M4,o4,c4,hX.symm,h4,Ts.trans s4,?_,(yJ.trans Uw).iY (by omega)⟩
   rw[Uk (by rw[hd];exact Ai.symm) eH IG (by rw[hd];exact Hn) (by rw[hd];exact LF),hd];exact zK BZ KX
  ·rw[ij eH]at jr;simp only[d15,d16,d17,p2,l2,jr,bT,e0,yO,lf,ao,simprocAttr]at hX;exact⟨_,o,c1,hX.symm,⟨_,_,_,_,h2.bump 0⟩,((s1.trans s2).trans bO.bump).s,qV (by rw[hd];exact eq) eH IG,se.s.iY (by omega)⟩
end
end
section
theorem go_ok{e:CE}(s:Shape e):∀f,vi e cj nu (nv e.l f) (dM e.l f) f (4*f)/\vi e dw (· =23) (nv e.l f) (dM e.l f) f (4*f)
 |0=>⟨by intro o m fv vv sb mb c i X h1 h2 h3 h4 h5;exact absurd h5 (Nat.not_lt_zero _),by intro o m fv vv sb mb c i X h1 h2 h3 h4 h5;exact absurd h5 (Nat.not_lt_zero _)⟩
 |f+1=>by
  obtain⟨a,b⟩:=go_ok s f;have h1:vi e cj nu (nv e.l (f+1)) (dM e.l (f+1)) (f+1) (4*f+4):=Y9 s b;have h2:vi e dw (· =23) (nv e.l (f+1)) (dM e.l (f+1)) (f+1) (4*f+1):=abz s a;exact⟨@vi.mono e cj nu (nv e.l (f+1)) (dM e.l (f+1)) (f+1) (4*f+4) (4*(f+1)) h1 (by omega), @vi.mono e dw (· =23) (nv e.l (f+1)) (dM e.l (f+1)) (f+1) (4*f+1) (4*(f+1)) h2 (by omega)⟩
def oth:Nat->Part:=fun _=>.other
structure Cb(e:CE)(m:Mem)(fv vv sp:EV)(c:CS):Prop where
 g:m.get e.cb=.cells (j0 e fv vv sp c) 12 aX false
 gk:m.get e.kb=.cells (is c.K) 1 3 false
 gz:m.get e.zb=.cells (is c.S) 1 3 false
 ga:m.get e.ab=.cells (is c.C) 1 3 false
 lt:∀b,e.W b->b<m.next
 ne:e.cb≠e.kb/\e.cb≠e.zb/\e.cb≠e.ab/\e.kb≠e.zb/\e.kb≠e.ab/\e.zb≠e.ab
 len:c.K.length=e.xs.length/\c.S.length=e.xs.length/\c.C.length=e.xs.length
 nd:uO e oth m
 fn:eI m fv (is c.F) c.F.length 1 0
 ff:∀b,¬iw fv b->¬e.W b
section
variable {e:CE} {o o' o0:Nat->Part} {m m' M0:Mem} {fv vv sp:EV} {sb mb:Nat} {c c' c0:CS} {L L':List (cH×EV)} {P P':cH->EV} {ov kv AA AL:EV}
theorem Ck.cb(h:Ck e o m fv vv sb mb c L P ov kv):Cb e m fv vv (.ptr sb 0) c where
 g:=h.g
 gk:=h.gk
 gz:=h.gz
 ga:=h.ga
 lt:=h.lt
 ne:=h.ne
 len:=h.len
 nd:=⟨h.nd.g,h.nd.lt,h.nd.w,rfl,h.nd.k,fun x hx b n c he=>⟨(h.nd.kf x hx b n c he).1,rfl⟩⟩
 fn:=h.fn
 ff:=fun b hb=>(h.ff b hb).1
theorem Cb.scp{x:Mo}(h:Cb e m fv vv (.ptr sb 0) c)(hX:c.X=x)(sc:Sc o m sb mb x L P ov kv){M:Mem}(hM:∀b,b<M.next->o b=.other)(hw:∀b,e.W b->b<M.next)(hl:e.lb<M.next)(hk:∀x∈e.xs,∀b n c,x.kv=.slice b 0 (n+1) c->b<M.next)(hf:∀b,¬iw fv b->b<M.next):Ck e o m fv vv sb mb c L P ov kv where
 g:=h.g
 gk:=h.gk
 gz:=h.gz
 ga:=h.ga
 lt:=h.lt
 ne:=h.ne
 ot:=fun b hb=>hM b (hw b hb)
 len:=h.len
 sc:=by rw[hX];exact sc
 nd:=⟨h.nd.g,h.nd.lt,h.nd.w,hM _ hl,h.nd.k,fun x hx b n c he=>⟨(h.nd.kf x hx b n c he).1,hM _ (hk x hx b n c he)⟩⟩
 fn:=h.fn
 ff:=fun b hb=>⟨h.ff b hb,hM _ (hf b hb)⟩
theorem Cb.O1(h:Cb e m fv vv sp c){sp' vv':EV}(st:bO e m m')(g:m'.get e.cb=.cells (j0 e fv vv' sp' c') 12 aX false)(gk:m'.get e.kb=.cells (is c'.K) 1 3 false)(gz:m'.get e.zb=.cells (is c'.S) 1 3 false)(ga:m'.get e.ab=.cells (is c'.C) 1 3 false)(hl:c'.K.length=e.xs.length/\c'.S.length=e.xs.length/\c'.C.length=e.xs.length)(hF:c'.F=c.F):Cb e m' fv vv' sp' c' where
 g:=g
 gk:=gk
 gz:=gz
 ga:=ga
 lt:=fun b hb=>cQ (h.lt b hb) st.n
 ne:=h.ne
 len:=hl
 nd:=h.nd.cU st.n (fun b hb hw _=>st.k b hb hw) fun _ _=>rfl
 fn:=by rw[hF];exact h.fn.eB st.n fun b hb _ iv=>st.k b hb (h.ff b iv)
 ff:=h.ff
theorem Cb.same(h:Cb e m fv vv sp c)(hn:m.next<=m'.next)(hk:∀b,b<m.next->m'.get b=m.get b):Cb e m' fv vv sp c:=
 h.O1 (.bJ hn hk) ((hk _ (h.lt _ (.inl rfl))).trans h.g) ((hk _ (h.lt _ (.inr (.inl rfl)))).trans h.gk) ((hk _ (h.lt _ (.inr (.inr (.inl rfl))))).trans h.gz) ((hk _ (h.lt _ (.inr (.inr (.inr rfl))))).trans h.ga) h.len rfl
theorem Cb.rG(h:Cb e m fv vv sp c){sp' vv':EV}(h1:c'.K=c.K)(h2:c'.S=c.S)(h3:c'.C=c.C)(hF:c'.F=c.F):Cb e (m.set e.cb (.cells (j0 e fv vv' sp' c') 12 aX false)) fv vv' sp' c'/\bO e m (m.set e.cb (.cells (j0 e fv vv' sp' c') 12 aX false)):=by
 have st:bO e m (m.set e.cb (.cells (j0 e fv vv' sp' c') 12 aX false)):=⟨by rw[aj];exact cR _,fun b _ hw=>af fun q=>hw (.inl q)⟩;obtain⟨n1,n2,n3,n4,n5,n6⟩:=h.ne;exact⟨h.O1 st aN (by rw[af n1.symm,h1];exact h.gk) (by rw[af n2.symm,h2];exact h.gz) (by rw[af n3.symm,h3];exact h.ga) (by rw[h1,h2,h3];exact h.len) hF,st⟩
theorem yg(h:Cb e m fv vv sp c):run U pM [.ptr e.cb 0] m=some (.ret (bo (c.fe=0)) (Ev.bump m 0)):=by
 have hg:=h.g;have hb:=h.lt _ (.inl rfl);unfold j0 at hg;rw[nB];obtain⟨X,hE⟩:∃X,pI aY.results (exec B4 aY.body (kF [.ptr e.cb 0] 0 mP) m)=X:=⟨_,rfl⟩
 have hX:=hE;simp only[aY,hg,hb,ao,simprocAttr]at hX;subst hX;exact ux (by simp[aY]) hE rfl rfl jX
end
def abN(e:CE)(m:Mem)(v:EV)(k:List Int):Prop:=(k=[]/\v=.aa)\/∃b c t,v=.slice b 0 k.length c/\m.get b=.cells (is k) 1 t false/\b<m.next/\¬e.W b/\(c=none\/c=some k.length)
structure Low(e:CE)(base:Nat)(fv:EV):Prop where
 lb:e.lb<base
 w:∀b,e.W b->b<base
 k:∀x∈e.xs,∀b n c,x.kv=.slice b 0 (n+1) c->b<base
 f:∀b,¬iw fv b->b<base
structure rv(e:CE)(base:Nat)(m:Mem)(vv:EV)(V:List (List Int)):Prop where
 is:∃vs:List EV,vs.length=V.length/\eI m vv vs V.length 1 base/\∀(j:Nat) v k,vs[j]?=some v->V[j]?=some k->abN e m v k/\∀b,¬iw v b->iw vv b
theorem abN.cU{e:CE}{m m':Mem}{v:EV}{k:List Int}(h:abN e m v k)(hn:m.next<=m'.next)(hk:∀b,b<m.next->¬e.W b->¬iw v b->m'.get b=m.get b):abN e m' v k:=by
 rcases h with h|⟨b,c,t,e1,g,l,w,q⟩
 ·exact .inl h
 ·exact .inr ⟨b,c,t,e1,(hk b l w (by rw[e1];exact fun z=>z b 0 k.length c rfl rfl)).trans g,cQ l hn,w,q⟩
theorem rv.cU{e:CE}{base:Nat}{m m':Mem}{vv:EV}{V:List (List Int)}(hb:∀b,e.W b->b<base)(h:rv e base m vv V)(hn:m.next<=m'.next)(hk:∀b,b<m.next->¬e.W b->m'.get b=m.get b):rv e base m' vv V:=by
 obtain⟨vs,h1,h2,h4⟩:=h.is;exact⟨vs,h1,h2.eB hn fun b hl im iv=>hk b hl (fun w=>by have:=hb b w;omega),fun j v k a b=>⟨(h4 j v k a b).1.cU hn fun b h1 h2 _=>hk b h1 h2,(h4 j v k a b).2⟩⟩
theorem Cb.low{e:CE}{base:Nat}{m m':Mem}{fv vv sp vv' sp':EV}{c c':CS}(h:Cb e m fv vv sp c)(lw:Low e base fv)(hn:base<=m'.next)(hb:base<=m.next)(hk:∀b,b<base->¬e.W b->m'.get b=m.get b)(g:m'.get e.cb=.cells (j0 e fv vv' sp' c') 12 aX false)(gk:m'.get e.kb=.cells (is c'.K) 1 3 false)(gz:m'.get e.zb=.cells (is c'.S) 1 3 false)(ga:m'.get e.ab=.cells (is c'.C) 1 3 false)(hl:c'.K.length=e.xs.length/\c'.S.length=e.xs.length/\c'.C.length=e.xs.length)(hF:c'.F=c.F):Cb e m' fv vv' sp' c' where
 g:=g
 gk:=gk
 gz:=gz
 ga:=ga
 lt:=fun b hb=>cQ (lw.w b hb) hn
 ne:=h.ne
 len:=hl
 nd:=by
  refine⟨(hk _ lw.lb h.nd.w).trans h.nd.g,cQ lw.lb hn,h.nd.w,rfl,fun x hx=> ?_,h.nd.kf⟩
  rcases(h.nd.k x hx).is with q|⟨b,c,t,ro,q1,q2,q3,q4,q5⟩
  ·exact⟨.inl q⟩
  ·have MR:=q1;obtain⟨n,AR⟩:∃n,x.d.kids.length=n+1:=⟨x.d.kids.length- 1,by have:=List.length_pos_iff.2 q5;omega⟩
   rw[AR]at MR;have aH:=lw.k x hx b n c MR;exact⟨.inr ⟨b,c,t,ro,q1,(hk b aH (h.nd.kf x hx b n c MR).1).trans q2,cQ aH hn,q4,q5⟩⟩
 fn:=by
  rw[hF];rcases h.fn.is with⟨a,b,c⟩|⟨b,cap,t,e1,h1,h2,h3,h4⟩
  ·exact⟨.inl ⟨a,b,c⟩,h.fn.len⟩
  ·have iv:¬iw fv b:=fun z=>z b 0 _ cap e1 rfl
   exact⟨.inr ⟨b,cap,t,e1,h1,cQ (lw.f b iv) hn,(hk b (lw.f b iv) (h.ff b iv)).trans h3,h4⟩,h.fn.len⟩
 ff:=h.ff
end
section
def Ec(m:Mem)(k:Nat)(B:bX):Mem:=⟨m.next,(ext ⟨k,m.ja⟩ [B]).ja⟩
theorem jK{m:Mem}{k:Nat}{B:bX}:(Ec m k B).next=m.next:=rfl
theorem ko{m:Mem}{k b:Nat}{B:bX}:(Ec m k B).get b=if b=k then B else m.get b:=cN (m:=⟨k,m.ja⟩) (x:=B) (b:=b)
theorem og{m:Mem}{v:EV}{cs:List EV}{n esz lo:Nat}(h:eI m v cs n esz lo):Ar (some v) v=true:=rO (by rcases h.is with⟨rfl,_⟩|⟨_,_,_,rfl,_⟩<;>rfl)
theorem XD{c d:CS}(h:jz c d):jz {c with V:=c.V++[c.X.K]} {d with V:=d.V++[d.X.K]}:=⟨h.1,h.2.1,fun q=>by rw[h.2.2 q]⟩
theorem HT{l:List Nd}{x:Int}{c:CS}{d:Nd}(hd:ee l x=d):nY l x c={(if (aO (fun x c=>eK l x.toNat (ee l x).n c) d.kids.dropLast {c with X:=Mo.new,R:=d.n}).fe=0 then nv l ((d.kids.getLastD 0).toNat+1) (d.kids.getLastD 0).toNat (aO (fun x c=>eK l x.toNat (ee l x).n c) d.kids.dropLast {c with X:=Mo.new,R:=d.n})else aO (fun x c=>eK l x.toNat (ee l x).n c) d.kids.dropLast {c with X:=Mo.new,R:=d.n})with V:=(if (aO (fun x c=>eK l x.toNat (ee l x).n c) d.kids.dropLast {c with X:=Mo.new,R:=d.n}).fe=0 then nv l ((d.kids.getLastD 0).toNat+1) (d.kids.getLastD 0).toNat (aO (fun x c=>eK l x.toNat (ee l x).n c) d.kids.dropLast {c with X:=Mo.new,R:=d.n})else aO (fun x c=>eK l x.toNat (ee l x).n c) d.kids.dropLast {c with X:=Mo.new,R:=d.n}).V++[(if (aO (fun x c=>eK l x.toNat (ee l x).n c) d.kids.dropLast {c with X:=Mo.new,R:=d.n}).fe=0 then nv l ((d.kids.getLastD 0).toNat+1) (d.kids.getLastD 0).toNat (aO (fun x c=>eK l x.toNat (ee l x).n c) d.kids.dropLast {c with X:=Mo.new,R:=d.n})else aO (fun x c=>eK l x.toNat (ee l x).n c) d.kids.dropLast {c with X:=Mo.new,R:=d.n}).X.K]}:=by
 subst hd;rfl
section
variable {e:CE} {o o' o0:Nat->Part} {m m' M0:Mem} {fv vv sp:EV} {sb mb:Nat} {c c' c0:CS} {L L':List (cH×EV)} {P P':cH->EV} {ov kv AA AL:EV}
theorem aa0(s:Shape e){xs:List Int}(sR:∀x∈xs,0<=x/\x.toNat<e.xs.length)(hl:xs.length<1000000){r q:Nat}(hF:qa e c0 (xs.length+r) q){v v4 v5:EV}(hv:Ft e o0 M0 v xs)(h0:Lz e M0 fv vv sb mb o0 c0){fr:Fr}
  (f0:fr.get 0=.ptr e.cb 0) (f4:fr.get 4=v4) (f5:fr.get 5=v5) (f31:fr.get 31=v) (f32:fr.get 32=.int .i64 (xs.length:Int)) (f33:fr.get 33=.int .i64 0) (fd:fr.defers=[]) :
  ∃ou,exec U (.loop dm) fr M0=some ou/\∃fr' m' o' c',ou=.exit 0 fr' m'/\Lz e m' fv vv sb mb o' c'/\EW e o0 M0 o' m'/\jz c' (aO (fun x c=>eK e.l x.toNat (ee e.l x).n c) xs c0)/\bY xs.length c0 c'/\fr'.get 0=.ptr e.cb 0/\fr'.get 4=v4/\fr'.get 5=v5/\fr'.defers=[]:=by
 refine dr (σ:=Nat) (fun j fr m=>j<=xs.length/\∃o c,Lz e m fv vv sb mb o c/\EW e o0 M0 o m/\jz c (aO (fun x c=>eK e.l x.toNat (ee e.l x).n c) (xs.take j) c0)/\bY j c0 c/\fr.get 0=.ptr e.cb 0/\fr.get 4=v4/\fr.get 5=v5/\fr.get 31=v/\fr.get 32=.int .i64 (xs.length:Int)/\fr.get 33=.int .i64 (j:Int)/\fr.defers=[]) (fun j=>xs.length- j) _ ?_ 0 fr M0 ⟨nZ _,o0,c0,h0,.refl,.refl,.refl,f0,f4,f5,f31,f32,f33,fd⟩
 rintro j fr m ⟨hj,o,c,h,st,eq,sm,f0,f4,f5,f31,f32,f33,fd⟩;generalize hX:exec U dm fr m=X;by_cases aH:j<xs.length
 ·have hc:(j:Int)<(xs.length:Int):=by omega
  have gP:=aZ (i:=j) (by omega);have hg:xs[j]?=some xs[j]:=jE aH;have e1:xs.take (j+1)=xs.take j++[xs[j]]:=List.take_succ_eq_append_getElem aH;have nV:xs[j]∈xs:=oX aH;generalize xs[j]=y at *;obtain⟨y0,yl⟩:=sR y nV;have hyc:((y.toNat:Nat):Int)=y:=Int.toNat_of_nonneg y0;rcases hv.cU st with⟨q,_⟩|⟨b,cp,t,ro,rest,rfl,gb,bl,bw,bo_⟩
  ·rw[q]at aH;cases aH
  have tM:(is (xs++rest))[j]?=some (.int .i64 y):=by rw[gp,rB aH,hg];rfl
  have eC:=ap (n:=xs.length) (i:=j) (k:=.i64) aH;obtain⟨L,P,ov,kv,TB⟩:=id h;have HK:=TB.g;have hb:=TB.lt _ (.inl rfl);have gl:=TB.nd.g;have ll:=TB.nd.lt;unfold j0 CE.lv at HK;obtain⟨z,hz,a1,a2,a3,a4,a5,a6,a7⟩:=TB.at y0 yl;simp only[dm,f0,f4,f5,f31,f32,f33,fd,hc,gb,bl,eC,tM,HK,hb,gl,ll,a1,a4,Nat.mul_one,ao,simprocAttr]at hX;generalize hC:run (UT B Ev.K) 40 _ _=C at hX;obtain⟨M5,o5,c5,L5,P5,Yw,Yz,rfl,h5,s5,CF,As⟩:∃M5 o5 c5 L5 P5 Yw Yz,C=some (.ret (.tuple []) M5)/\Ck e o5 M5 fv vv sb mb c5 L5 P5 Yw Yz/\EW e o m o5 M5/\jz c5 (if c.fe=0 then eK e.l y.toNat (ee e.l y).n c else c)/\bY 1 c c5:=by
   by_cases CB:c.fe=0
   ·rw[if_pos CB];rw[<- hyc,hz]at hC;have hF':=hF.step (w':=0) (q':=q) (sm.iY hj) (by omega) (cR _);obtain⟨M5,o5,c5,L5,P5,Yw,Yz,r5,h5,s5,CF,As⟩:=Ed TB CB hF'.D hF'.fit.V (by have:=hF'.kn;omega) yl hC;exact⟨M5,o5,c5,L5,P5,Yw,Yz,r5,h5,s5,CF,As⟩
   ·rw[if_neg CB];exact⟨_,o,_,_,_,_,_,GG TB CB hC,TB.bump 0,bO.bump.s,.refl,bY.refl.iY (by omega)⟩
  clear hC;simp only[f0,f4,f5,f31,f32,f33,fd,gP,ao,simprocAttr]at hX;subst hX;have oD:jz c5 (aO (fun x c=>eK e.l x.toNat (ee e.l x).n c) (xs.take (j+1)) c0):=by
   rw[e1,jF];by_cases CB:c.fe=0
   ·rw[if_pos CB]at CF;have uF:=eq.2.2 CB;rw[<- uF,if_pos CB];exact CF
   ·rw[if_neg CB]at CF;rw[if_neg (by rw[<- eq.1];exact CB)];exact⟨CF.1.trans eq.1,CF.2.1.trans eq.2.1,fun w=>absurd (CF.1.symm.trans w) CB⟩
  exact bB (j+1) (by omega) ⟨aH,o5,c5,⟨_,_,_,_,h5⟩,st.trans s5,oD,sm.trans As,by simp[f0,f4,f5,f31,f32,fd,ay]⟩
 ·have hc:¬((j:Int)<(xs.length:Int)):=by omega
  obtain rfl:j=xs.length:=by omega
  simp only[dm,f32,f33,fd,hc,ao,simprocAttr]at hX;subst hX;rw[List.take_length]at eq;exact bK ⟨_,_,o,c,rfl,h,st,eq,sm,by simp[f0,f4,f5,fd,ay]⟩
theorem aaX(s:Shape e){base:Nat}(lw:Low e base fv)(LO:base<=m.next)(h:Cb e m fv vv sp c)(hf:c.fe=0)(hv:rv e base m vv c.V)(hFr:∀x∈c.F,x∈(dZ e.l (e.l.length- 1)).kids)(hFl:c.F.length<1000000)(hL:c.L=0)(hV:c.V.length<1000000){x:Int}(hx:x∈(dZ e.l (e.l.length- 1)).kids)(hw:∀i,dM e.l (i+1) i<500000){X:Option Fin}(hX:run U sF [.ptr e.cb 0,.int .i64 x] m=X) :
  ∃m' vv' sp' c',X=some (.ret (.tuple []) m')/\Cb e m' fv vv' sp' c'/\rv e base m' vv' c'.V/\base<=m'.next/\(∀b,b<base->¬e.W b->m'.get b=m.get b)/\jz c' (nY e.l x c)/\c'.F=c.F/\c'.L=c.L/\c'.V.length=c.V.length+1:=by
 rw[cf (by simp[cC])]at hX;obtain⟨x0,xi,xl,il⟩:=s.sQ hx;have hxc:((x.toNat:Nat):Int)=x:=Int.toNat_of_nonneg x0;have hy:e.xs[x.toNat]?=some e.xs[x.toNat]:=jE xl;have qg:e.xs[x.toNat]∈e.xs:=oX xl;generalize e.xs[x.toNat]=y at *;obtain⟨q1,q2,q3,q4,_,q5⟩:=tj hy;replace q5:partOf (some 5) (mO e.xs) (x.toNat*5)=some (.agg [.int .i64 y.d.kind,y.kv,.int .i64 y.d.n,.str y.d.s,.int .i64 y.d.pos]):=q5;have eC:idx e.xs.length (.int .i64 x)=some x.toNat:=by rw[<- hxc];simp only[Int.toNat_natCast];exact ap xl
 have hd:dZ e.l x.toNat=y.d:=nc (by unfold CE.l;rw[List.getElem?_map,hy];rfl);have gl:=h.nd.g;have ll:=h.nd.lt;have hg:=h.g;have hb:=h.lt _ (.inl rfl);unfold j0 CE.lv at hg;simp only[cC,hg,hb,gl,ll,eC,q5,ao,simprocAttr]at hX;have e0:nb m.next 0=m.next:=rfl;have s1:bO e m (ext m [.cells [.int .i64 y.d.kind,y.kv,.int .i64 y.d.n,.str y.d.s,.int .i64 y.d.pos] 5 59 false]):=.bJ (by rw[ak];exact aq) fun b hb=>ai hb
 have h1:=h.same s1.n fun b hb=>ai (xs:=[bX.cells [.int .i64 y.d.kind,y.kv,.int .i64 y.d.n,.str y.d.s,.int .i64 y.d.pos] 5 59 false]) hb
 have p1:(ext m [.cells [.int .i64 y.d.kind,y.kv,.int .i64 y.d.n,.str y.d.s,.int .i64 y.d.pos] 5 59 false]).get m.next=.cells [.int .i64 y.d.kind,y.kv,.int .i64 y.d.n,.str y.d.s,.int .i64 y.d.pos] 5 59 false:=aw (m:=m) (i:=0) rfl (by simp);have l1:m.next<(ext m [.cells [.int .i64 y.d.kind,y.kv,.int .i64 y.d.n,.str y.d.s,.int .i64 y.d.pos] 5 59 false]).next:=by rw[ak];unfold nb;simp
 obtain⟨M,hM⟩:∃M,ext m [.cells [.int .i64 y.d.kind,y.kv,.int .i64 y.d.n,.str y.d.s,.int .i64 y.d.pos] 5 59 false]=M:=⟨_,rfl⟩
 rw[hM]at s1 h1 p1 l1 hX;rw[e0]at hX;have wN:¬e.W m.next:=fun w=>by have:=h.lt _ w;omega
 generalize hC:run (UT B Ev.K) 39 _ _=C at hX;obtain⟨M1,o,sb,mb,L,P,ov,kv,rD,sc1,nx1,ke1⟩:=adz (Ev.bump M 11);obtain rfl:=hC.symm.trans rD;clear hC rD;have lM:∀b,b<M.next->b<(Ev.bump M 11).next:=fun b hb=>cQ hb aq
 have s2:bO e M M1:=.bJ (ji aq nx1) fun b hb=>(ke1 b (lM b hb)).1
 have h2:=h1.same s2.n fun b hb=>(ke1 b (lM b hb)).1
 have p2:=(ke1 m.next (lM _ l1)).1.trans p1;have l2:m.next<M1.next:=cQ l1 s2.n;obtain⟨h3,s3⟩:=h2.rG (sp':=.ptr sb 0) (vv':=vv) (c':=c) rfl rfl rfl rfl;have kI:=h2.g;have mC:=h2.lt _ (.inl rfl);have ag0:Ar (some (EV.int .i64 y.d.n)) (EV.int .i64 y.d.n)=true:=rO rfl;unfold j0 CE.lv at kI;simp only[p2,l2,kI,mC,ag0,ao,simprocAttr]at hX;generalize hA:M1.set e.cb _=MA at hX;replace h3:Cb e MA fv vv (.ptr sb 0) c:=by rw[<- hA];exact h3
 replace s3:bO e M1 MA:=by rw[<- hA];exact s3
 have p3:=(s3.k m.next l2 wN).trans p2;have l3:m.next<MA.next:=cQ l2 s3.n;obtain⟨h4,s4⟩:=h3.rG (sp':=.ptr sb 0) (vv':=vv) (c':={c with X:=Mo.new,R:=y.d.n}) rfl rfl rfl rfl;have jV:=h3.g;have pz:=h3.lt _ (.inl rfl);unfold j0 CE.lv at jV;simp only[p3,l3,jV,pz,ag0,ao,simprocAttr]at hX;generalize hB:MA.set e.cb _=MB at hX;replace h4:Cb e MB fv vv (.ptr sb 0) {c with X:=Mo.new,R:=y.d.n}:=by rw[<- hB];exact h4
 replace s4:bO e MA MB:=by rw[<- hB];exact s4
 have p4:=(s4.k m.next l3 wN).trans p3;have l4:m.next<MB.next:=cQ l3 s4.n;have s14:bO e m MB:=((s1.trans s2).trans s3).trans s4;have lMm:∀b,b<m.next->b<(Ev.bump M 11).next:=fun b hb=>lM b (cQ hb s1.n)
 have lwm:∀b,b<base->b<(Ev.bump M 11).next:=fun b hb=>lMm b (cQ hb LO)
 have sc4:Sc o MB sb mb Mo.new L P ov kv:=sc1.acm (by have:=s3.n;have:=s4.n;omega) fun b hb iv=>by
  have hw:¬e.W b:=fun w=>iv (ke1 b (lwm b (lw.w b w))).2
  exact(s4.k b (cQ hb s3.n) hw).trans (s3.k b hb hw)
 have k4:Ck e o MB fv vv sb mb {c with X:=Mo.new,R:=y.d.n} L P ov kv:=h4.scp rfl sc4 (M:=Ev.bump M 11) (fun b hb=>(ke1 b hb).2) (fun b w=>lwm b (lw.w b w)) (lwm _ lw.lb) (fun x hx b n c he=>lwm b (lw.k x hx b n c he)) (fun b hb=>lwm b (lw.f b hb));obtain⟨anE,rD,HH,Kb,Z9⟩:=s.fn hx;have hnd:ee e.l x=y.d:=hd;rw[hnd]at anE rD HH Kb Z9;have DK:y.d.kids≠[]:=fun q=>by rw[q]at rD;simp at rD
 have Sl:Ft e o MB y.kv y.d.kids:=k4.V6 qg;have hlen:=Sl.kA;have tG:IntKind.i64.wrap ((y.d.kids.length:Int)- 1)=((y.d.kids.length- 1:Nat):Int):=by rw[wrap_i64 (by omega) (by omega)];omega
 obtain⟨v,vj,lN⟩:=k4.first qg (n:=y.d.kids.length- 1) (by omega);have hdl:y.d.kids.take (y.d.kids.length- 1)=y.d.kids.dropLast:=List.dropLast_eq_take.symm;rw[hdl]at lN;have acs:Ft e o MB v y.d.kids.dropLast:=by
  rcases lN with q|⟨b,cc,t,ro,rest,q1,q2,q3,q4⟩
  ·exact .inl q
  ·refine .inr ⟨b,cc,t,ro,rest,q1,q2,q3,q4,?_⟩
   rcases Sl with⟨w,_⟩|⟨b',c',t',ro',aqP,w1,w2,w3,w4,w5⟩
   ·exact absurd w DK
   ·rw[w1]at vj;have:b=b':=by
     rcases(k4.nd.k y qg).is with⟨z,_⟩|⟨bz,cz,tz,rz,z1,z2,z3,z4,z5⟩
     ·exact absurd z DK
     ·rw[w1]at z1;cases z1;rw[ME z2 z4 (by omega)]at vj;rw[q1]at vj;simp only[bQ,R1.val.injEq,EV.slice.injEq]at vj;exact vj.1.1.symm
    rw[this];exact w5
 have uV:=acs.kA;have arM:y.d.kids.dropLast.length=y.d.kids.length- 1:=List.length_dropLast;simp only[p4,l4,hlen,tG,vj,uV,ao,simprocAttr]at hX;have TI:qa e {c with X:=Mo.new,R:=y.d.n} (y.d.kids.dropLast.length+500000) 400000:=⟨by simp only[Mo.new];omega,by simp only[Mo.new,hL];omega,Mo.Ok.new,by simp[Mo.new],by simp only[Mo.new,List.length_nil];omega,hFr,hFl,by simp only[hL];omega⟩;generalize hY:exec _ (.loop dm) _ _=Y at hX;obtain⟨ou,rfl,fr',M5,o5,c5,rfl,⟨L5,P5,Yw,Yz,h5⟩,s5,CF,As,f0,f4,f5,fd⟩:=cG hY (aa0 s (xs:=y.d.kids.dropLast) (r:=500000) (q:=400000) (fun w hw=>by
  have hw:=(List.dropLast_sublist _).subset hw;rw[<- hd]at hw;obtain⟨a,_,b,_⟩:=s.sQ hw;exact⟨a,b⟩) (by omega) TI acs ⟨_,_,_,_,k4⟩ (v4:=.ptr m.next 0) (v5:=.int .i64 ((y.d.kids.length- 1:Nat):Int)) (by simp[ay]) (by simp[ay]) (by simp[ay]) (by simp[ay]) (by simp[ay]) (by simp[ay]) (by simp[ay]))
 clear hY;have oN:o m.next=.other:=(ke1 m.next (lM _ l1)).2;have p5:=(s5.k m.next l4 wN oN).trans p4;have l5:m.next<M5.next:=cQ l4 s5.n;have hF5:=mS h5;have xT:(y.d.kids.getLastD 0)=y.d.kids.getLast DK:=by rw[List.getLastD_eq_getLast?,List.getLast?_eq_some_getLast DK];rfl
 have hlm:y.d.kids.getLast DK∈y.d.kids:=List.getLast_mem DK;have lP:(ee e.l (y.d.kids.getLast DK)).kind=23:=Kb _ (by rw[List.getLast?_eq_some_getLast DK];rfl);have hlg:y.d.kids[y.d.kids.length- 1]?=some (y.d.kids.getLast DK):=by rw[<- List.getLast?_eq_getElem?,List.getLast?_eq_some_getLast DK]
 generalize y.d.kids.getLast DK=bi at *;obtain⟨b0,bI,bl,_⟩:=s.sQ (show bi∈(dZ e.l x.toNat).kids by rw[hd];exact hlm);have LN:((bi.toNat:Nat):Int)=bi:=Int.toNat_of_nonneg b0;by_cases WN:c5.fe=0
 ·rw[gQ WN]at hF5;rcases h5.V6 qg with⟨q,_⟩|⟨kb,kc,kt,kro,agK,w1,w2,w3,w4,w5⟩
  ·exact absurd q DK
  have kL:=ap (n:=y.d.kids.length) (i:=y.d.kids.length- 1) (k:=.i64) (by omega);have sS:(is (y.d.kids++agK))[y.d.kids.length- 1]?=some (.int .i64 bi):=by rw[gp,rB (by omega),hlg];rfl
  rw[w1]at p5;simp only[f0,f4,f5,fd,p5,l5,hF5,w2,w3,kL,sS,Nat.mul_one,ao,simprocAttr]at hX;generalize hC:run (UT B Ev.K) 41 _ _=C at hX;rw[<- LN]at hC;obtain⟨M6,o6,c6,rfl,⟨L6,P6,ov6,kv6,h6⟩,s6,XG,LB⟩:=(go_ok s (bi.toNat+1)).2 ⟨_,_,_,_,h5.bump 0⟩ WN (TI.step As (by have:=hw bi.toNat;omega) (by have:=s.n4;omega)) bl (Nat.lt_succ_self _) lP hC;clear hC;have YK:=h6.g;have TE:=h6.lt _ (.inl rfl);unfold j0 CE.lv at YK;simp only[f0,f4,f5,fd,YK,TE,ao,simprocAttr]at hX;generalize hC:run (UT B Ev.K) 42 _ _=C at hX;have hD6:1<=c6.X.D/\c6.X.K.length<1000000:=by
   rw[LB.D,As.D];exact⟨by simp only[Mo.new];omega,by have a6:=LB.kn;have a5:c5.X.K.length<=0+y.d.kids.dropLast.length:=As.kn;have:=hw bi.toNat;omega⟩
  obtain⟨uS,m7,hk7,Jq,nx7,Tu⟩:=JW (h6.bump 17).sc hD6.1 hD6.2;obtain rfl:=hC.symm.trans hk7;clear hC hk7;have JX:∀b,b<m.next->¬e.W b->M6.get b=m.get b:=fun b hb oP=>((s5.trans (bO.bump.s.trans s6)).k b (cQ hb s14.n) oP (ke1 b (lMm b hb)).2).trans (s14.k b hb oP)
  have n6:m.next<=M6.next:=ji s14.n (s5.trans (bO.bump.s.trans s6)).n;obtain⟨vs,hvl,PD,hvr⟩:=(hv.cU lw.w n6 JX).is;have ans:(Ev.bump M6 17).next=M6.next+17:=rfl;have gc7:=(Tu e.cb (cQ TE aq)).trans YK;have hsv:=og PD;have sJ:uS.cells=some [uS]:=by rcases Jq.is with⟨rfl,_⟩|⟨_,_,_,rfl,_⟩<;>rfl
  have Wl:eI (Ec m7 (M6.next+11) (.cells [uS] 1 30 false)) vv vs c.V.length 1 base:=PD.mono (by rw[jK];omega) fun b hb=>by rw[ko,if_neg (by omega)];exact Tu b (cQ hb aq)
  have hs8:(Ec m7 (M6.next+11) (.cells [uS] 1 30 false)).source 1 (.slice (M6.next+11) 0 1 (some 1))=some (1,[uS]):=lB (e:=30) (ro:=false) (vs:=[uS]) (esz:=1) (by rw[ko,if_pos rfl]) rfl;obtain⟨ha,ho⟩:=iM (e:=30) (x:=.slice (M6.next+11) 0 1 (some 1)) (xs:=[uS]) (k:=1) Wl (by rw[jK];omega) hs8 rfl (by decide) (by unfold room;omega);have o9:∀b,b<m7.next->b≠M6.next+11->iw vv b->(grow (Ec m7 (M6.next+11) (.cells [uS] 1 30 false)) vv 30 1 (vs++[uS])).get b=m7.get b:=fun b h1 h2 h3=>by rw[oK (by rw[jK];exact h1) h3,ko,if_neg h2]
  have n9:(grow (Ec m7 (M6.next+11) (.cells [uS] 1 30 false)) vv 30 1 (vs++[uS])).next=m7.next+1:=by rw[gq,jK];rfl
  generalize hG:grow _ vv 30 1 _=M9 at ha ho o9 n9;clear hG;unfold Ec at ha ho;have ER:∀b,b<base->M9.get b=M6.get b:=fun b hb=>(o9 b (by omega) (by omega) (PD.lt (.inr hb))).trans (Tu b (by omega))
  have h9:Cb e M9 fv vv (.ptr sb 0) c6:=h6.cb.low lw (by omega) (by omega) (fun b hb _=>ER b hb) ((ER _ (lw.w _ (.inl rfl))).trans h6.g) ((ER _ (lw.w _ (.inr (.inl rfl)))).trans h6.gk) ((ER _ (lw.w _ (.inr (.inr (.inl rfl))))).trans h6.gz) ((ER _ (lw.w _ (.inr (.inr (.inr rfl))))).trans h6.ga) h6.len rfl;obtain⟨h10,s10⟩:=h9.rG (sp':=.ptr sb 0) (vv':=.slice (nb m7.next 0) 0 (c.V.length+1) none) (c':={c6 with V:=c6.V++[c6.X.K]}) rfl rfl rfl rfl;have hg9:=h9.g;have hb9:=h9.lt _ (.inl rfl);unfold j0 CE.lv at hg9;simp only[fd,gc7,hsv,sJ,ha,hg9,hb9,show nb (M6.next+11) 0=M6.next+11 from rfl,ao,simprocAttr]at hX;have Su:c6.V=c.V:=LB.V.trans As.V;have g10:∀b,b<m7.next->b≠M6.next+11->iw vv b->¬e.W b->(M9.set e.cb (.cells (j0 e fv (.slice (nb m7.next 0) 0 (c.V.length+1) none) (.ptr sb 0) {c6 with V:=c6.V++[c6.X.K]}) 12 aX false)).get b=m7.get b:=fun b h1 h2 h3 h4=>by rw[af (fun q=>h4 (.inl q))];exact o9 b h1 h2 h3
  refine⟨_,_,_,{c6 with V:=c6.V++[c6.X.K]},hX.symm,h10,⟨vs++[uS],?_,?_,fun j v k hj hk=> ?_⟩,?_,fun b hb oP=> ?_,?_,LB.F.trans As.F,LB.L.trans As.L,?_⟩
  ·simp only[w6,Su,hvl,List.length_cons,List.length_nil]
  ·rw[show ({c6 with V:=c6.V++[c6.X.K]}:CS).V.length=c.V.length+1 by simp[Su]];exact ho.eB (by rw[aj];exact cR _) fun b hb im _=>af fun q=>by have:=lw.w _ (.inl q);omega
  ·simp only[Su]at hk;by_cases hj1:j<vs.length
   ·rw[rB hj1]at hj;rw[rB (by omega)]at hk;obtain⟨r1,r2⟩:=hvr j v k hj hk;have aH:∀b,¬iw v b->b<M6.next:=fun b hb=>by
     rcases r1 with⟨_,rfl⟩|⟨b2,c2,t2,rfl,_,q3,_⟩
     ·exact absurd iw.nil hb
     ·by_cases qb:b=b2
      ·rw[qb];exact q3
      ·exact absurd (iw.of qb) hb
    refine⟨r1.cU (by rw[aj,n9];omega) fun b hb oP iv=> ?_,fun b iv=>iw.of (by have:=aH b iv;show b≠m7.next+0;omega)⟩
    exact(g10 b (by omega) (by omega) (r2 b iv) oP).trans (Tu b (by omega))
   ·obtain⟨WD,_⟩:=mu.1 hj;rw[w6,List.length_cons,List.length_nil]at WD;obtain rfl:j=vs.length:=by omega
    rw[yy (cR _),Nat.sub_self]at hj;rw[hvl,yy (cR _),Nat.sub_self]at hk;cases hj;cases hk;rcases Jq.is with⟨z1,z2,z3⟩|⟨b,cap,t,z1,z2,z3,z4,z5⟩
    ·refine⟨.inl ⟨List.eq_nil_of_length_eq_zero z2,z1⟩,fun b iv=> ?_⟩
     rw[z1]at iv;exact absurd iw.nil iv
    ·have oP:¬e.W b:=fun w=>by have:=lw.w b w;omega
     refine⟨.inr ⟨b,cap,t,z1,?_,by rw[aj,n9];omega,oP,z5⟩,fun b' iv=> ?_⟩
     ·exact(g10 b z3 (by omega) (PD.lt (.inl (by omega))) oP).trans z4
     ·rw[z1]at iv;by_cases qb:b'=b
      ·rw[qb];exact iw.of (by show b≠m7.next+0;omega)
      ·exact absurd (iw.of qb) iv
  ·rw[aj,n9];omega
  ·rw[af (fun q=>oP (.inl q)),ER b hb];exact JX b (by omega) oP
  ·rw[HT (hd:=hnd),xT];refine XD ?_;have q5:=CF.2.2 WN;rw[<- q5,if_pos WN];exact XG
  ·simp[Su]
 ·rw[ij WN]at hF5;have h6:=h5.bump 0;generalize WW:Ev.bump M5 0=M6 at *;have s6:EW e o5 M5 o5 M6:=by rw[<- WW];exact bO.bump.s
  have YK:=h6.g;have TE:=h6.lt _ (.inl rfl);unfold j0 CE.lv at YK;simp only[f0,f4,f5,fd,hF5,YK,TE,ao,simprocAttr]at hX;generalize hC:run (UT B Ev.K) 42 _ _=C at hX;have hD6:1<=c5.X.D/\c5.X.K.length<1000000:=by
   rw[As.D];exact⟨by simp only[Mo.new];omega,by have a5:c5.X.K.length<=0+y.d.kids.dropLast.length:=As.kn;have:=hw bi.toNat;omega⟩
  obtain⟨uS,m7,hk7,Jq,nx7,Tu⟩:=JW (h6.bump 17).sc hD6.1 hD6.2;obtain rfl:=hC.symm.trans hk7;clear hC hk7;have JX:∀b,b<m.next->¬e.W b->M6.get b=m.get b:=fun b hb oP=>((s5.trans s6).k b (cQ hb s14.n) oP (ke1 b (lMm b hb)).2).trans (s14.k b hb oP)
  have n6:m.next<=M6.next:=ji s14.n (s5.trans s6).n;obtain⟨vs,hvl,PD,hvr⟩:=(hv.cU lw.w n6 JX).is;have ans:(Ev.bump M6 17).next=M6.next+17:=rfl;have gc7:=(Tu e.cb (cQ TE aq)).trans YK;have hsv:=og PD;have sJ:uS.cells=some [uS]:=by rcases Jq.is with⟨rfl,_⟩|⟨_,_,_,rfl,_⟩<;>rfl
  have Wl:eI (Ec m7 (M6.next+11) (.cells [uS] 1 30 false)) vv vs c.V.length 1 base:=PD.mono (by rw[jK];omega) fun b hb=>by rw[ko,if_neg (by omega)];exact Tu b (cQ hb aq)
  have hs8:(Ec m7 (M6.next+11) (.cells [uS] 1 30 false)).source 1 (.slice (M6.next+11) 0 1 (some 1))=some (1,[uS]):=lB (e:=30) (ro:=false) (vs:=[uS]) (esz:=1) (by rw[ko,if_pos rfl]) rfl;obtain⟨ha,ho⟩:=iM (e:=30) (x:=.slice (M6.next+11) 0 1 (some 1)) (xs:=[uS]) (k:=1) Wl (by rw[jK];omega) hs8 rfl (by decide) (by unfold room;omega);have o9:∀b,b<m7.next->b≠M6.next+11->iw vv b->(grow (Ec m7 (M6.next+11) (.cells [uS] 1 30 false)) vv 30 1 (vs++[uS])).get b=m7.get b:=fun b h1 h2 h3=>by rw[oK (by rw[jK];exact h1) h3,ko,if_neg h2]
  have n9:(grow (Ec m7 (M6.next+11) (.cells [uS] 1 30 false)) vv 30 1 (vs++[uS])).next=m7.next+1:=by rw[gq,jK];rfl
  generalize hG:grow _ vv 30 1 _=M9 at ha ho o9 n9;clear hG;unfold Ec at ha ho;have ER:∀b,b<base->M9.get b=M6.get b:=fun b hb=>(o9 b (by omega) (by omega) (PD.lt (.inr hb))).trans (Tu b (by omega))
  have h9:Cb e M9 fv vv (.ptr sb 0) c5:=h6.cb.low lw (by omega) (by omega) (fun b hb _=>ER b hb) ((ER _ (lw.w _ (.inl rfl))).trans h6.g) ((ER _ (lw.w _ (.inr (.inl rfl)))).trans h6.gk) ((ER _ (lw.w _ (.inr (.inr (.inl rfl))))).trans h6.gz) ((ER _ (lw.w _ (.inr (.inr (.inr rfl))))).trans h6.ga) h6.len rfl;obtain⟨h10,s10⟩:=h9.rG (sp':=.ptr sb 0) (vv':=.slice (nb m7.next 0) 0 (c.V.length+1) none) (c':={c5 with V:=c5.V++[c5.X.K]}) rfl rfl rfl rfl;have hg9:=h9.g;have hb9:=h9.lt _ (.inl rfl);unfold j0 CE.lv at hg9;simp only[fd,gc7,hsv,sJ,ha,hg9,hb9,show nb (M6.next+11) 0=M6.next+11 from rfl,ao,simprocAttr]at hX;have Su:c5.V=c.V:=As.V;have g10:∀b,b<m7.next->b≠M6.next+11->iw vv b->¬e.W b->(M9.set e.cb (.cells (j0 e fv (.slice (nb m7.next 0) 0 (c.V.length+1) none) (.ptr sb 0) {c5 with V:=c5.V++[c5.X.K]}) 12 aX false)).get b=m7.get b:=fun b h1 h2 h3 h4=>by rw[af (fun q=>h4 (.inl q))];exact o9 b h1 h2 h3
  refine⟨_,_,_,{c5 with V:=c5.V++[c5.X.K]},hX.symm,h10,⟨vs++[uS],?_,?_,fun j v k hj hk=> ?_⟩,?_,fun b hb oP=> ?_,?_,As.F,As.L,?_⟩
  ·simp only[w6,Su,hvl,List.length_cons,List.length_nil]
  ·rw[show ({c5 with V:=c5.V++[c5.X.K]}:CS).V.length=c.V.length+1 by simp[Su]];exact ho.eB (by rw[aj];exact cR _) fun b hb im _=>af fun q=>by have:=lw.w _ (.inl q);omega
  ·simp only[Su]at hk;by_cases hj1:j<vs.length
   ·rw[rB hj1]at hj;rw[rB (by omega)]at hk;obtain⟨r1,r2⟩:=hvr j v k hj hk;have aH:∀b,¬iw v b->b<M6.next:=fun b hb=>by
     rcases r1 with⟨_,rfl⟩|⟨b2,c2,t2,rfl,_,q3,_⟩
     ·exact absurd iw.nil hb
     ·by_cases qb:b=b2
      ·rw[qb];exact q3
      ·exact absurd (iw.of qb) hb
    refine⟨r1.cU (by rw[aj,n9];omega) fun b hb oP iv=> ?_,fun b iv=>iw.of (by have:=aH b iv;show b≠m7.next+0;omega)⟩
    exact(g10 b (by omega) (by omega) (r2 b iv) oP).trans (Tu b (by omega))
   ·obtain⟨WD,_⟩:=mu.1 hj;rw[w6,List.length_cons,List.length_nil]at WD;obtain rfl:j=vs.length:=by omega
    rw[yy (cR _),Nat.sub_self]at hj;rw[hvl,yy (cR _),Nat.sub_self]at hk;cases hj;cases hk;rcases Jq.is with⟨z1,z2,z3⟩|⟨b,cap,t,z1,z2,z3,z4,z5⟩
    ·refine⟨.inl ⟨List.eq_nil_of_length_eq_zero z2,z1⟩,fun b iv=> ?_⟩
     rw[z1]at iv;exact absurd iw.nil iv
    ·have oP:¬e.W b:=fun w=>by have:=lw.w b w;omega
     refine⟨.inr ⟨b,cap,t,z1,?_,by rw[aj,n9];omega,oP,z5⟩,fun b' iv=> ?_⟩
     ·exact(g10 b z3 (by omega) (PD.lt (.inl (by omega))) oP).trans z4
     ·rw[z1]at iv;by_cases qb:b'=b
      ·rw[qb];exact iw.of (by show b≠m7.next+0;omega)
      ·exact absurd (iw.of qb) iv
  ·rw[aj,n9];omega
  ·rw[af (fun q=>oP (.inl q)),ER b hb];exact JX b (by omega) oP
  ·rw[HT (hd:=hnd),xT];refine XD ?_;rw[if_neg (by rw[<- CF.1];exact WN)];exact CF
  ·simp[Su]
end
end
section
section
variable {e:CE} {m m' M0:Mem} {fv vv sp:EV} {c c' c0:CS}
theorem Cb.bump(h:Cb e m fv vv sp c)(k:Nat):Cb e (Ev.bump m k) fv vv sp c:=h.same aq fun _ _=>rfl
theorem Ii(h:Cb e m fv vv sp c){er q:Int}{n1 n2 n3 n4:EV}{X:Option Fin}(hX:run U cA [.ptr e.cb 0,.bool true,.int .i64 er,.agg [n1,n2,n3,n4,.int .i64 q]] m=X) :
  ∃m',X=some (.ret (bo (c.fe=0)) m')/\m.next<=m'.next/\(∀b,b<m.next->m'.get b=m.get b):=by
 rw[cf (by simp[aT])]at hX;have hF:=yg (h.same (m':=ext m [.cells [n1,n2,n3,n4,.int .i64 q] 5 eO false]) (by rw[ak];exact aq) fun b hb=>ai hb);simp only[aT,hF,ao,simprocAttr]at hX;exact⟨_,hX.symm,by rw[au,ak];exact ji aq aq,fun b hb=>ai hb⟩
theorem Qd(h:Cb e m fv vv sp c)(hf:c.fe=0){er q:Int}(he:er≠0){n1 n2 n3 n4:EV}{X:Option Fin}(hX:run U cA [.ptr e.cb 0,.bool false,.int .i64 er,.agg [n1,n2,n3,n4,.int .i64 q]] m=X) :
  ∃m',X=some (.ret (.bool false) m')/\Cb e m' fv vv sp (c.fault er q)/\bO e m m':=by
 rw[cf (by simp[aT])]at hX;have h1:=h.same (m':=ext m [.cells [n1,n2,n3,n4,.int .i64 q] 5 eO false]) (by rw[ak];exact aq) fun b hb=>ai hb
 have s1:bO e m (ext m [.cells [n1,n2,n3,n4,.int .i64 q] 5 eO false]):=.bJ (by rw[ak];exact aq) fun b hb=>ai hb
 have hF:=yg h1;rw[hf]at hF;obtain⟨h2,s2⟩:=h1.rG (sp':=sp) (vv':=vv) (c':=c.fault er q) rfl rfl rfl rfl;have h3:=h2.bump 0;have jr:=yg h3;have he':((c.fault er q).fe=0)=False:=eq_false he;rw[he']at jr;have hg:=h1.g;have hb:=h1.lt _ (.inl rfl);unfold j0 at hg;unfold j0 at jr;simp only[CS.fault]at jr;simp only[aT,hF,jr,hg,hb,fu,fh,ao,simprocAttr]at hX;exact⟨_,hX.symm,h3.bump 0,s1.trans (s2.trans (.bJ (ji aq aq) fun _ _=>rfl))⟩
theorem Qc(h:Cb e m fv vv sp c)(hf:c.fe≠0){er q:Int}{b:Bool}{n1 n2 n3 n4:EV}{X:Option Fin}(hX:run U cA [.ptr e.cb 0,.bool b,.int .i64 er,.agg [n1,n2,n3,n4,.int .i64 q]] m=X) :
  ∃m',X=some (.ret (.bool false) m')/\m.next<=m'.next/\(∀b,b<m.next->m'.get b=m.get b):=by
 cases b with
 |true=>
  obtain⟨m',rfl,a,b⟩:=Ii h hX;exact⟨m',by rw[ij hf],a,b⟩
 |false=>
 rw[cf (by simp[aT])]at hX;have hF:=yg (h.same (m':=ext m [.cells [n1,n2,n3,n4,.int .i64 q] 5 eO false]) (by rw[ak];exact aq) fun b hb=>ai hb);have jr:=yg ((h.same (m':=ext m [.cells [n1,n2,n3,n4,.int .i64 q] 5 eO false]) (by rw[ak];exact aq) fun b hb=>ai hb).bump 0);rw[ij hf]at hF jr;simp only[aT,hF,jr,ao,simprocAttr]at hX;exact⟨_,hX.symm,by simp only[au,ak];exact ji (ji aq aq) aq,fun b hb=>ai hb⟩
theorem qM(h:Cb e m fv vv sp c){er q:Int}(he:er≠0){b:Bool}{n1 n2 n3 n4:EV}{X:Option Fin}(hX:run U cA [.ptr e.cb 0,.bool b,.int .i64 er,.agg [n1,n2,n3,n4,.int .i64 q]] m=X) :
  ∃m' r,X=some (.ret (.bool r) m')/\Cb e m' fv vv sp (c.bD b er q)/\bO e m m':=by
 by_cases hb:b=true
 ·subst hb;obtain⟨m',rfl,n,k⟩:=Ii h hX;refine⟨m',_,rfl,?_,.bJ n k⟩
  rw[CS.bD,if_pos (.inl rfl)];exact h.same n k
 ·by_cases hf:c.fe=0
  ·obtain rfl:b=false:=by cases b<;>simp at hb ⊢
   obtain⟨m',rfl,a,st⟩:=Qd h hf he hX;have:c.bD false er q=c.fault er q:=by rw[CS.bD,if_neg (by simp[hf])]
   rw[this];exact⟨m',_,rfl,a,st⟩
  ·obtain⟨m',rfl,n,k⟩:=Qc h hf hX;have:c.bD b er q=c:=by rw[CS.bD,if_pos (.inr hf)]
   rw[this];exact⟨m',_,rfl,h.same n k,.bJ n k⟩
end
end
section
section
variable {e:CE} {m m' M0:Mem} {fv vv sp:EV} {c c' c0:CS}
theorem Cb.at(h:Cb e m fv vv sp c){x:Int}(h0:0<=x)(hx:x.toNat<e.xs.length):∃y:Nv,y.d=ee e.l x/\idx e.xs.length (.int .i64 x)=some x.toNat/\(mO e.xs)[x.toNat*5]?=some (.int .i64 y.d.kind)/\(mO e.xs)[x.toNat*5+1]?=some y.kv/\(mO e.xs)[x.toNat*5+2]?=some (.int .i64 y.d.n)/\(mO e.xs)[x.toNat*5+3]?=some (.str y.d.s)/\partOf (some 5) (mO e.xs) (x.toNat*5)=some (.agg [.int .i64 y.d.kind,y.kv,.int .i64 y.d.n,.str y.d.s,.int .i64 y.d.pos])/\y∈e.xs:=by
 have hg:e.xs[x.toNat]?=some e.xs[x.toNat]:=jE hx;obtain⟨a1,a2,a3,a4,_,a5⟩:=tj hg;refine⟨_,?_,?_,a1,a2,a3,a4,a5,oX hx⟩
 ·unfold ee;exact(nc (by unfold CE.l;rw[List.getElem?_map,hg];rfl)).symm
 ·have:=ap (k:=.i64) hx;rw[<- this];congr 2;omega
theorem tU(h:Cb e m fv vv sp c):uM e m fv c.F:=by
 rcases h.fn.is with⟨e1,e2,_⟩|⟨b,cap,t,rfl,h1,h2,h3,h4⟩
 ·exact .inl ⟨List.eq_nil_of_length_eq_zero e2,.inl e1⟩
 ·exact .inr ⟨b,cap,t,false,[],rfl,by rw[List.append_nil];exact h3,h2,h.ff b fun q=>q b 0 _ cap rfl rfl⟩
theorem VD(h0:Cb e M0 fv vv sp c0)(hFx:∀x∈c0.F,0<=x/\x.toNat<e.xs.length)(hn:c0.F.length<1000000){y:Nv}(hy:y∈e.xs){nb t':Nat}(Wu:M0.get nb=.cells [.int .i64 y.d.kind,y.kv,.int .i64 y.d.n,.str y.d.s,.int .i64 y.d.pos] 5 t' false)(nl:nb<M0.next)(wnb:¬e.W nb){fr:Fr}{v3 v24 v25 v26:EV}
  (f0:fr.get 0=.ptr e.cb 0) (f3:fr.get 3=v3) (f4:fr.get 4=.ptr nb 0) (f24:fr.get 24=v24) (f25:fr.get 25=v25) (f26:fr.get 26=v26) (f41:fr.get 41=fv) (f42:fr.get 42=.int .i64 (c0.F.length:Int)) (f43:fr.get 43=.int .i64 0) (fd:fr.defers=[]) :
  ∃ou,exec U (.loop cg) fr M0=some ou/\∃fr' m',ou=.exit 2 fr' m'/\Cb e m' fv vv sp (if c0.fe=0/\(uI e.l c0.F y.d.s).isSome then c0.fault 10 y.d.pos else c0)/\bO e M0 m'/\fr'.get 0=.ptr e.cb 0/\fr'.get 3=v3/\fr'.get 4=.ptr nb 0/\fr'.get 24=v24/\fr'.get 25=v25/\fr'.get 26=v26/\fr'.defers=[]:=by
 refine dr (σ:=Nat) (fun j fr m=>j<=c0.F.length/\∃c',Cb e m fv vv sp c'/\bO e M0 m/\((c'=c0/\(c0.fe≠0\/∀i:Nat,i<j->∀x,c0.F[i]?=some x->(ee e.l x).s≠y.d.s))\/(c0.fe=0/\c'=c0.fault 10 y.d.pos/\∃x∈c0.F,(ee e.l x).s=y.d.s))/\fr.get 0=.ptr e.cb 0/\fr.get 3=v3/\fr.get 4=.ptr nb 0/\fr.get 24=v24/\fr.get 25=v25/\fr.get 26=v26/\fr.get 41=fv/\fr.get 42=.int .i64 (c0.F.length:Int)/\fr.get 43=.int .i64 (j:Int)/\fr.defers=[]) (fun j=>c0.F.length- j) _ ?_ 0 fr M0 ⟨nZ _,c0,h0,.refl,.inl ⟨rfl,.inr fun i hi=>absurd hi (Nat.not_lt_zero _)⟩,f0,f3,f4,f24,f25,f26,f41,f42,f43,fd⟩
 rintro j fr m ⟨hj,c',h,st,hh,f0,f3,f4,f24,f25,f26,f41,f42,f43,fd⟩;generalize hX:exec U cg fr m=X;have hF':c'.F=c0.F:=by rcases hh with⟨rfl,_⟩|⟨_,rfl,_⟩<;>rfl
 by_cases aH:j<c0.F.length
 ·have hc:(j:Int)<(c0.F.length:Int):=by omega
  have gP:=aZ (i:=j) (by omega);have hg:c0.F[j]?=some c0.F[j]:=jE aH;have nV:c0.F[j]∈c0.F:=oX aH;generalize c0.F[j]=x at *;have hr:=tU h;rw[hF']at hr;rcases hr with⟨q,_⟩|⟨b,cp,t,ro,rest,rfl,gb,bl,bw⟩
  ·rw[q]at aH;cases aH
  have tM:(is (c0.F++rest))[j]?=some (.int .i64 x):=by rw[gp,rB aH,hg];rfl
  have eC:=ap (n:=c0.F.length) (i:=j) (k:=.i64) aH;have HK:=h.g;have hb:=h.lt _ (.inl rfl);have gl:=h.nd.g;have ll:=h.nd.lt;have bT:=fun k n p (s:cH)=>Cs (h.nd.k y hy) (k:=k) (n:=n) (p:=p) (s:=s)
  unfold j0 CE.lv at HK;obtain⟨z,hz,a1,a2,a3,a4,a5,a6,a7⟩:=h.at (hFx x nV).1 (hFx x nV).2;have hp:=(st.k nb nl wnb).trans Wu;have pl:=cQ nl st.n;by_cases hs:z.d.s=y.d.s
  ·rw[hs]at a5;simp only[cg,f0,f3,f4,f24,f25,f26,f41,f42,f43,fd,hc,gb,bl,eC,tM,HK,hb,gl,ll,a1,a5,hp,pl,bT,Nat.mul_one,ao,simprocAttr]at hX;generalize hC:run (UT B Ev.K) 38 _ _=C at hX;obtain⟨m2,r,rfl,h2,s2⟩:=qM (b:=false) (h.bump 14) (by decide) hC;clear hC;simp only[f0,f3,f4,f24,f25,f26,f41,f42,f43,fd,bT,gP,ao,simprocAttr]at hX;subst hX;refine bB (j+1) (by omega) ⟨aH,_,h2,(st.trans bO.bump).trans s2,?_,by simp[f0,f3,f4,f24,f25,f26,f41,f42,fd,ay]⟩
   rcases hh with⟨rfl,q⟩|⟨q1,rfl,q3⟩
   ·by_cases hf:c'.fe=0
    ·exact .inr ⟨hf,by rw[CS.bD,if_neg (by simp[hf])],x,nV,by rw[<- hz];exact hs⟩
    ·exact .inl ⟨by rw[CS.bD,if_pos (.inr hf)],.inl hf⟩
   ·exact .inr ⟨q1,by rw[CS.bD,if_pos (.inr (by simp[CS.fault]))],q3⟩
  ·simp only[cg,f0,f3,f4,f24,f25,f26,f41,f42,f43,fd,hc,gb,bl,eC,tM,HK,hb,gl,ll,a1,a5,hs,hp,pl,bT,Nat.mul_one,ao,simprocAttr]at hX;generalize hC:run (UT B Ev.K) 38 _ _=C at hX;obtain⟨m2,r,rfl,h2,s2⟩:=qM (b:=true) (h.bump 14) (by decide) hC;clear hC;simp only[f0,f3,f4,f24,f25,f26,f41,f42,f43,fd,bT,gP,ao,simprocAttr]at hX;subst hX;refine bB (j+1) (by omega) ⟨aH,_,h2,(st.trans bO.bump).trans s2,?_,by simp[f0,f3,f4,f24,f25,f26,f41,f42,fd,ay]⟩
   rw[show c'.bD true 10 y.d.pos=c' by rw[CS.bD,if_pos (.inl rfl)]];rcases hh with⟨rfl,q⟩|q
   ·refine .inl ⟨rfl,q.imp id fun q i hi w hw=> ?_⟩
    by_cases PK:i<j
    ·exact q i PK w hw
    ·obtain rfl:i=j:=by omega
     rw[hg]at hw;cases hw;rw[<- hz];exact hs
   ·exact .inr q
 ·have hc:¬((j:Int)<(c0.F.length:Int)):=by omega
  obtain rfl:j=c0.F.length:=by omega
  simp only[cg,f42,f43,fd,hc,ao,simprocAttr]at hX;subst hX;refine bK ⟨_,_,rfl,?_,st,by simp[f0,f3,f4,f24,f25,f26,fd,ay]⟩
  rcases hh with⟨rfl,q⟩|⟨q1,rfl,x,q2,q3⟩
  ·rw[if_neg];· exact h
   rintro⟨w1,w2⟩;rcases q with q|q
   ·exact q w1
   ·rw[HW]at w2
    ·cases w2
    ·intro x hx;obtain⟨i,hi⟩:=List.getElem?_of_mem hx;exact q i (mu.1 hi).1 x hi
  ·rw[if_pos];· exact h
   refine⟨q1,?_⟩
   unfold uI;rw[List.findIdx?_isSome];exact List.any_eq_true.2 ⟨x,q2,by simpa using q3⟩
end
end
section
def kz(l:List Nd)(c:CS)(x:Int):CS:=
 let c1:=if c.fe=0/\(uI l c.F (ee l x).s).isSome then c.fault 10 (ee l x).pos else c
 {c1 with M:=if (ee l x).s=oj/\c.M<0 then(c.F.length:Int)else c.M,F:=c1.F++[x]}
structure Lx(e:CE)(base:Nat):Prop where
 lb:e.lb<base
 w:∀b,e.W b->b<base
 k:∀x∈e.xs,∀b n c,x.kv=.slice b 0 (n+1) c->b<base
section
variable {e:CE} {m m' M0:Mem} {fv By vv sp:EV} {c c' c0:CS} {base:Nat}
theorem Cb.VA(h:Cb e m fv vv sp c)(lw:Lx e base)(hn:base<=m'.next)(hk:∀b,b<base->¬e.W b->m'.get b=m.get b)(g:m'.get e.cb=.cells (j0 e By vv sp c') 12 aX false)(gk:m'.get e.kb=.cells (is c'.K) 1 3 false)(gz:m'.get e.zb=.cells (is c'.S) 1 3 false)(ga:m'.get e.ab=.cells (is c'.C) 1 3 false)(hl:c'.K.length=e.xs.length/\c'.S.length=e.xs.length/\c'.C.length=e.xs.length)(ho:eI m' By (is c'.F) c'.F.length 1 base):Cb e m' By vv sp c' where
 g:=g
 gk:=gk
 gz:=gz
 ga:=ga
 lt:=fun b hb=>cQ (lw.w b hb) hn
 ne:=h.ne
 len:=hl
 nd:=by
  refine⟨(hk _ lw.lb h.nd.w).trans h.nd.g,cQ lw.lb hn,h.nd.w,rfl,fun x hx=> ?_,h.nd.kf⟩
  rcases(h.nd.k x hx).is with q|⟨b,c,t,ro,q1,q2,q3,q4,q5⟩
  ·exact⟨.inl q⟩
  ·have MR:=q1;obtain⟨n,AR⟩:∃n,x.d.kids.length=n+1:=⟨x.d.kids.length- 1,by have:=List.length_pos_iff.2 q5;omega⟩
   rw[AR]at MR;have aH:=lw.k x hx b n c MR;exact⟨.inr ⟨b,c,t,ro,q1,(hk b aH (h.nd.kf x hx b n c MR).1).trans q2,cQ aH hn,q4,q5⟩⟩
 fn:=by
  rcases ho.is with⟨a,b,c⟩|⟨b,cap,t,e1,h1,h2,h3,h4⟩
  ·exact⟨.inl ⟨a,b,c⟩,ho.len⟩
  ·exact⟨.inr ⟨b,cap,t,e1,nZ _,h2,h3,h4⟩,ho.len⟩
 ff:=fun b hb w=>by
  have:=(ho.lT hb).1;have:=lw.w b w;omega
theorem VC(lw:Lx e base)(LO:base<=M0.next){xs:List Int}(sR:∀x∈xs,0<=x/\x.toNat<e.xs.length)(hl:xs.length<100000)(h0:Cb e M0 fv vv sp c0)(ho0:eI M0 fv (is c0.F) c0.F.length 1 base)(NS:c0.F=[]){v24:EV}(hv:uM e M0 v24 xs)(hvb:∀b n c,v24=.slice b 0 (n+1) c->b<base){fr:Fr}
  (f0:fr.get 0=.ptr e.cb 0) (f24:fr.get 24=v24) (f25:fr.get 25=.int .i64 (xs.length:Int)) (f26:fr.get 26=.int .i64 0) (fd:fr.defers=[]) :
  ∃ou,exec U (.loop cS) fr M0=some ou/\∃fr' m' By,ou=.exit 0 fr' m'/\Cb e m' By vv sp (xs.foldl (kz e.l) c0)/\eI m' By (is (xs.foldl (kz e.l) c0).F) (xs.foldl (kz e.l) c0).F.length 1 base/\base<=m'.next/\(∀b,b<base->¬e.W b->m'.get b=M0.get b)/\fr'.get 0=.ptr e.cb 0/\fr'.defers=[]:=by
 refine dr (σ:=Nat) (fun j fr m=>j<=xs.length/\∃fv c,c=(xs.take j).foldl (kz e.l) c0/\c.F=xs.take j/\Cb e m fv vv sp c/\eI m fv (is c.F) c.F.length 1 base/\base<=m.next/\(∀b,b<base->¬e.W b->m.get b=M0.get b)/\fr.get 0=.ptr e.cb 0/\fr.get 24=v24/\fr.get 25=.int .i64 (xs.length:Int)/\fr.get 26=.int .i64 (j:Int)/\fr.defers=[]) (fun j=>xs.length- j) _ ?_ 0 fr M0 ⟨nZ _,fv,c0,rfl,by rw[NS];rfl,h0,ho0,LO,fun _ _ _=>rfl,f0,f24,f25,f26,fd⟩
 rintro j fr m ⟨hj,fv,c,WQ,hcF,h,ho,hbm,hk,f0,f24,f25,f26,fd⟩;generalize hX:exec U cS fr m=X;by_cases aH:j<xs.length
 ·have hc:(j:Int)<(xs.length:Int):=by omega
  have gP:=aZ (i:=j) (by omega);have hg:xs[j]?=some xs[j]:=jE aH;have e1:xs.take (j+1)=xs.take j++[xs[j]]:=List.take_succ_eq_append_getElem aH;have nV:xs[j]∈xs:=oX aH;generalize xs[j]=x at *;rcases hv with⟨q,_⟩|⟨b,cp,t,ro,rest,rfl,gb,bl,bw⟩
  ·rw[q]at aH;cases aH
  have bb:b<base:=by
   obtain⟨n,AR⟩:∃n,xs.length=n+1:=⟨xs.length- 1,by omega⟩
   exact hvb b n cp (by rw[AR])
  have DS:=(hk b bb bw).trans gb;have bl2:b<m.next:=by omega
  have tM:(is (xs++rest))[j]?=some (.int .i64 x):=by rw[gp,rB aH,hg];rfl
  have eC:=ap (n:=xs.length) (i:=j) (k:=.i64) aH;have HK:=h.g;have hb:=h.lt _ (.inl rfl);have gl:=h.nd.g;have ll:=h.nd.lt;have hlen:=(tU h).kA;unfold j0 CE.lv at HK;obtain⟨z,hz,a1,a2,a3,a4,a5,a6,a7⟩:=h.at (sR x nV).1 (sR x nV).2;simp only[cS,f0,f24,f25,f26,fd,hc,DS,bl2,eC,tM,HK,hb,gl,ll,a1,a6,hlen,Nat.mul_one,ao,simprocAttr]at hX;have e0:nb m.next 0=m.next:=rfl;have s1:bO e m (ext m [.cells [.int .i64 z.d.kind,z.kv,.int .i64 z.d.n,.str z.d.s,.int .i64 z.d.pos] 5 59 false]):=.bJ (by rw[ak];exact aq) fun b hb=>ai hb
  have h1:=h.same s1.n fun b hb=>ai (xs:=[bX.cells [.int .i64 z.d.kind,z.kv,.int .i64 z.d.n,.str z.d.s,.int .i64 z.d.pos] 5 59 false]) hb
  have p1:(ext m [.cells [.int .i64 z.d.kind,z.kv,.int .i64 z.d.n,.str z.d.s,.int .i64 z.d.pos] 5 59 false]).get m.next=.cells [.int .i64 z.d.kind,z.kv,.int .i64 z.d.n,.str z.d.s,.int .i64 z.d.pos] 5 59 false:=aw (m:=m) (i:=0) rfl (by simp);have l1:m.next<(ext m [.cells [.int .i64 z.d.kind,z.kv,.int .i64 z.d.n,.str z.d.s,.int .i64 z.d.pos] 5 59 false]).next:=by rw[ak];unfold nb;simp
  obtain⟨M,hM⟩:∃M,ext m [.cells [.int .i64 z.d.kind,z.kv,.int .i64 z.d.n,.str z.d.s,.int .i64 z.d.pos] 5 59 false]=M:=⟨_,rfl⟩
  rw[hM]at s1 h1 p1 l1 hX;rw[e0]at hX;have wN:¬e.W m.next:=fun w=>by have:=h.lt _ w;omega
  have sJ:c.F.length=j:=by rw[hcF,List.length_take];omega
  generalize hY:exec _ (.loop cg) _ _=Y at hX;obtain⟨ou,rfl,fr',M2,rfl,h2,s2,q0,q3,q4,Zu,Zt,q26,qd⟩:=cG hY (VD h1 (fun w hw=>sR w (List.mem_of_mem_take (hcF▸hw))) (by omega) a7 p1 l1 wN (v3:=.int .i64 x) (v24:=.slice b 0 xs.length cp) (v25:=.int .i64 (xs.length:Int)) (v26:=.int .i64 (j:Int)) (by simp[f0,ay]) (by simp[ay]) (by simp[ay]) (by simp[f24,ay]) (by simp[f25,ay]) (by simp[f26,ay]) (by simp[ay]) (by simp[ay]) (by simp[ay]) (by simp[fd,ay]));clear hY;obtain⟨c2,tL⟩:∃c2,c2=if c.fe=0/\(uI e.l c.F z.d.s).isSome then c.fault 10 z.d.pos else c:=⟨_,rfl⟩
  rw[<- tL]at h2;have AU:c2.F=c.F:=by rw[tL];split<;>rfl
  have anV:c2.M=c.M:=by rw[tL];split<;>rfl
  have p2:=(s2.k m.next l1 wN).trans p1;have l2:m.next<M2.next:=cQ l1 s2.n;have uk:=s1.trans s2;have Wt:eI M2 fv (is c2.F) c2.F.length 1 base:=by
   rw[AU];exact ho.eB uk.n fun b hb im _=>uk.k b hb fun w=>by have:=lw.w b w;omega
  have kI:=h2.g;have mC:=h2.lt _ (.inl rfl);have uV:=(tU h2).kA;unfold j0 CE.lv at kI;have xy:(xs.take (j+1)).foldl (kz e.l) c0={c2 with M:=if z.d.s=oj/\c2.M<0 then(c2.F.length:Int)else c2.M,F:=c2.F++[x]}:=by
   rw[e1,List.foldl_append,<- WQ,List.foldl_cons,List.foldl_nil,kz];simp only[<- hz,<- tL,anV,AU]
  by_cases hs:z.d.s=oj
  ·have Cz:z.d.s=[109,97,105,110]:=hs;by_cases we:c2.M<0
   ·simp only[q0,q3,q4,Zu,Zt,q26,qd,p2,l2,kI,mC,Cz,we,uV,ao,simprocAttr]at hX;generalize TH:M2.set e.cb _=M3 at hX;obtain⟨h3',s3'⟩:=h2.rG (sp':=sp) (vv':=vv) (c':={c2 with M:=(c2.F.length:Int)}) rfl rfl rfl rfl;obtain⟨c3,j8⟩:∃c3,c3=({c2 with M:=(c2.F.length:Int)}:CS):=⟨_,rfl⟩
    have h3:Cb e M3 fv vv sp c3:=by rw[<- TH,j8];exact h3'
    have n3:M3.next=M2.next:=by rw[<- TH,aj]
    have LI:eI M3 fv (is c3.F) c3.F.length 1 base:=by
     rw[<- TH,j8];exact Wt.eB (by rw[aj];exact cR _) fun b hb im _=>af fun q=>by have:=lw.w _ (.inl q);omega
    have WO:c3.F.length=j:=by rw[j8];show c2.F.length=j;rw[AU];exact sJ
    have b3:base<=M3.next:=by have:=uk.n;omega
    obtain⟨ha,yw⟩:=iM (e:=3) (LI.ext [.cells [.int .i64 x] 1 3 false]) (by rw[ak];unfold nb;omega) (kY rfl) rfl (by decide) (by unfold room;rw[WO];omega);have HJ:M3.next<=(grow (ext M3 [.cells [.int .i64 x] 1 3 false]) fv 3 1 (is c3.F++[.int .i64 x])).next:=by rw[gq,ak];unfold nb;omega
    have sU:∀b,b<base->(grow (ext M3 [.cells [.int .i64 x] 1 3 false]) fv 3 1 (is c3.F++[.int .i64 x])).get b=M3.get b:=fun b hb=>by
     rw[oK (by rw[ak];unfold nb;omega) (LI.lt (.inr hb)),ai (by omega)]
    generalize hG:grow _ fv 3 1 _=M4 at ha yw HJ sU;clear hG;rw[ak,lV,n3]at ha yw;have nW:=(sU _ (lw.w _ (.inl rfl))).trans h3.g;have uZ:e.cb<M4.next:=by have:=lw.w _ (.inl rfl);omega
    unfold j0 CE.lv at nW;simp only[q0,q3,q4,Zu,Zt,q26,qd,ha,nW,uZ,gP,ao,simprocAttr]at hX;subst hX;rw[<- sd]at yw;have Wz:c3.F.length+1=(c3.F++[x]).length:=by simp
    have h5:Cb e (M4.set e.cb (.cells (j0 e (.slice (nb M2.next (1+0)) 0 (c3.F.length+1) none) vv sp {c3 with F:=c3.F++[x]}) 12 aX false)) (.slice (nb M2.next (1+0)) 0 (c3.F.length+1) none) vv sp {c3 with F:=c3.F++[x]}/\eI (M4.set e.cb (.cells (j0 e (.slice (nb M2.next (1+0)) 0 (c3.F.length+1) none) vv sp {c3 with F:=c3.F++[x]}) 12 aX false)) (.slice (nb M2.next (1+0)) 0 (c3.F.length+1) none) (is (c3.F++[x])) (c3.F.length+1) 1 base:=by
     obtain⟨n1,n2,n3',n4,n5,n6⟩:=h3.ne;have LH:eI (M4.set e.cb (.cells (j0 e (.slice (nb M2.next (1+0)) 0 (c3.F.length+1) none) vv sp {c3 with F:=c3.F++[x]}) 12 aX false)) (.slice (nb M2.next (1+0)) 0 (c3.F.length+1) none) (is (c3.F++[x])) (c3.F.length+1) 1 base:=yw.eB (by rw[aj];exact cR _) fun b hb im _=>af fun q=>by have:=lw.w _ (.inl q);omega
     refine⟨h3.VA lw (by rw[aj];omega) (fun b hb oP=> ?_) aN ?_ ?_ ?_ h3.len (by show eI _ _ (is (c3.F++[x])) (c3.F++[x]).length 1 base;rw[<- Wz];exact LH),LH⟩
     ·rw[af (fun q=>oP (.inl q))];exact sU b hb
     ·rw[af n1.symm];exact(sU _ (lw.w _ (.inr (.inl rfl)))).trans h3.gk
     ·rw[af n2.symm];exact(sU _ (lw.w _ (.inr (.inr (.inl rfl))))).trans h3.gz
     ·rw[af n3'.symm];exact(sU _ (lw.w _ (.inr (.inr (.inr rfl))))).trans h3.ga
    exact bB (j+1) (by omega) ⟨aH,_,{c3 with F:=c3.F++[x]},by rw[xy,j8,if_pos (show z.d.s=oj/\c2.M<0 from⟨hs,we⟩)],by show c3.F++[x]=_;rw[show c3.F=c2.F by rw[j8],AU,hcF,e1],h5.1,(by show eI _ _ (is (c3.F++[x])) (c3.F++[x]).length 1 base;rw[<- Wz];exact h5.2),by rw[aj];omega,fun b hb oP=>by rw[af (fun q=>oP (.inl q)),sU b hb];exact((show M3.get b=m.get b from by rw[<- TH,af (fun q=>oP (.inl q))];exact uk.k b (by omega) oP)).trans (hk b hb oP),by simp[q0,Zu,Zt,qd,ay]⟩
   ·simp only[q0,q3,q4,Zu,Zt,q26,qd,p2,l2,kI,mC,Cz,we,uV,ao,simprocAttr]at hX;obtain⟨c3,j8⟩:∃c3,c3=c2:=⟨_,rfl⟩
    have n3:M2.next=M2.next:=rfl;have h3:Cb e M2 fv vv sp c3:=by rw[j8];exact h2
    have LI:eI M2 fv (is c3.F) c3.F.length 1 base:=by rw[j8];exact Wt
    have WO:c3.F.length=j:=by rw[j8,AU];exact sJ
    have b3:base<=M2.next:=by have:=uk.n;omega
    obtain⟨ha,yw⟩:=iM (e:=3) (LI.ext [.cells [.int .i64 x] 1 3 false]) (by rw[ak];unfold nb;omega) (kY rfl) rfl (by decide) (by unfold room;rw[WO];omega);have HJ:M2.next<=(grow (ext M2 [.cells [.int .i64 x] 1 3 false]) fv 3 1 (is c3.F++[.int .i64 x])).next:=by rw[gq,ak];unfold nb;omega
    have sU:∀b,b<base->(grow (ext M2 [.cells [.int .i64 x] 1 3 false]) fv 3 1 (is c3.F++[.int .i64 x])).get b=M2.get b:=fun b hb=>by
     rw[oK (by rw[ak];unfold nb;omega) (LI.lt (.inr hb)),ai (by omega)]
    generalize hG:grow _ fv 3 1 _=M4 at ha yw HJ sU;clear hG;rw[ak,lV,n3]at ha yw;have nW:=(sU _ (lw.w _ (.inl rfl))).trans h3.g;have uZ:e.cb<M4.next:=by have:=lw.w _ (.inl rfl);omega
    unfold j0 CE.lv at nW;simp only[q0,q3,q4,Zu,Zt,q26,qd,ha,nW,uZ,gP,ao,simprocAttr]at hX;subst hX;rw[<- sd]at yw;have Wz:c3.F.length+1=(c3.F++[x]).length:=by simp
    have h5:Cb e (M4.set e.cb (.cells (j0 e (.slice (nb M2.next (1+0)) 0 (c3.F.length+1) none) vv sp {c3 with F:=c3.F++[x]}) 12 aX false)) (.slice (nb M2.next (1+0)) 0 (c3.F.length+1) none) vv sp {c3 with F:=c3.F++[x]}/\eI (M4.set e.cb (.cells (j0 e (.slice (nb M2.next (1+0)) 0 (c3.F.length+1) none) vv sp {c3 with F:=c3.F++[x]}) 12 aX false)) (.slice (nb M2.next (1+0)) 0 (c3.F.length+1) none) (is (c3.F++[x])) (c3.F.length+1) 1 base:=by
     obtain⟨n1,n2,n3',n4,n5,n6⟩:=h3.ne;have LH:eI (M4.set e.cb (.cells (j0 e (.slice (nb M2.next (1+0)) 0 (c3.F.length+1) none) vv sp {c3 with F:=c3.F++[x]}) 12 aX false)) (.slice (nb M2.next (1+0)) 0 (c3.F.length+1) none) (is (c3.F++[x])) (c3.F.length+1) 1 base:=yw.eB (by rw[aj];exact cR _) fun b hb im _=>af fun q=>by have:=lw.w _ (.inl q);omega
     refine⟨h3.VA lw (by rw[aj];omega) (fun b hb oP=> ?_) aN ?_ ?_ ?_ h3.len (by show eI _ _ (is (c3.F++[x])) (c3.F++[x]).length 1 base;rw[<- Wz];exact LH),LH⟩
     ·rw[af (fun q=>oP (.inl q))];exact sU b hb
     ·rw[af n1.symm];exact(sU _ (lw.w _ (.inr (.inl rfl)))).trans h3.gk
     ·rw[af n2.symm];exact(sU _ (lw.w _ (.inr (.inr (.inl rfl))))).trans h3.gz
     ·rw[af n3'.symm];exact(sU _ (lw.w _ (.inr (.inr (.inr rfl))))).trans h3.ga
    exact bB (j+1) (by omega) ⟨aH,_,{c3 with F:=c3.F++[x]},by rw[xy,j8,if_neg (show ¬(z.d.s=oj/\c2.M<0)from fun q=>we q.2)],by show c3.F++[x]=_;rw[show c3.F=c2.F by rw[j8],AU,hcF,e1],h5.1,(by show eI _ _ (is (c3.F++[x])) (c3.F++[x]).length 1 base;rw[<- Wz];exact h5.2),by rw[aj];omega,fun b hb oP=>by rw[af (fun q=>oP (.inl q)),sU b hb];exact((show M2.get b=m.get b from uk.k b (by omega) oP)).trans (hk b hb oP),by simp[q0,Zu,Zt,qd,ay]⟩
  ·have Cz:¬z.d.s=[109,97,105,110]:=hs;simp only[q0,q3,q4,Zu,Zt,q26,qd,p2,l2,kI,mC,Cz,uV,ao,simprocAttr]at hX;obtain⟨c3,j8⟩:∃c3,c3=c2:=⟨_,rfl⟩
   have n3:M2.next=M2.next:=rfl;have h3:Cb e M2 fv vv sp c3:=by rw[j8];exact h2
   have LI:eI M2 fv (is c3.F) c3.F.length 1 base:=by rw[j8];exact Wt
   have WO:c3.F.length=j:=by rw[j8,AU];exact sJ
   have b3:base<=M2.next:=by have:=uk.n;omega
   obtain⟨ha,yw⟩:=iM (e:=3) (LI.ext [.cells [.int .i64 x] 1 3 false]) (by rw[ak];unfold nb;omega) (kY rfl) rfl (by decide) (by unfold room;rw[WO];omega);have HJ:M2.next<=(grow (ext M2 [.cells [.int .i64 x] 1 3 false]) fv 3 1 (is c3.F++[.int .i64 x])).next:=by rw[gq,ak];unfold nb;omega
   have sU:∀b,b<base->(grow (ext M2 [.cells [.int .i64 x] 1 3 false]) fv 3 1 (is c3.F++[.int .i64 x])).get b=M2.get b:=fun b hb=>by
    rw[oK (by rw[ak];unfold nb;omega) (LI.lt (.inr hb)),ai (by omega)]
   generalize hG:grow _ fv 3 1 _=M4 at ha yw HJ sU;clear hG;rw[ak,lV,n3]at ha yw;have nW:=(sU _ (lw.w _ (.inl rfl))).trans h3.g;have uZ:e.cb<M4.next:=by have:=lw.w _ (.inl rfl);omega
   unfold j0 CE.lv at nW;simp only[q0,q3,q4,Zu,Zt,q26,qd,ha,nW,uZ,gP,ao,simprocAttr]at hX;subst hX;rw[<- sd]at yw;have Wz:c3.F.length+1=(c3.F++[x]).length:=by simp
   have h5:Cb e (M4.set e.cb (.cells (j0 e (.slice (nb M2.next (1+0)) 0 (c3.F.length+1) none) vv sp {c3 with F:=c3.F++[x]}) 12 aX false)) (.slice (nb M2.next (1+0)) 0 (c3.F.length+1) none) vv sp {c3 with F:=c3.F++[x]}/\eI (M4.set e.cb (.cells (j0 e (.slice (nb M2.next (1+0)) 0 (c3.F.length+1) none) vv sp {c3 with F:=c3.F++[x]}) 12 aX false)) (.slice (nb M2.next (1+0)) 0 (c3.F.length+1) none) (is (c3.F++[x])) (c3.F.length+1) 1 base:=by
    obtain⟨n1,n2,n3',n4,n5,n6⟩:=h3.ne;have LH:eI (M4.set e.cb (.cells (j0 e (.slice (nb M2.next (1+0)) 0 (c3.F.length+1) none) vv sp {c3 with F:=c3.F++[x]}) 12 aX false)) (.slice (nb M2.next (1+0)) 0 (c3.F.length+1) none) (is (c3.F++[x])) (c3.F.length+1) 1 base:=yw.eB (by rw[aj];exact cR _) fun b hb im _=>af fun q=>by have:=lw.w _ (.inl q);omega
    refine⟨h3.VA lw (by rw[aj];omega) (fun b hb oP=> ?_) aN ?_ ?_ ?_ h3.len (by show eI _ _ (is (c3.F++[x])) (c3.F++[x]).length 1 base;rw[<- Wz];exact LH),LH⟩
    ·rw[af (fun q=>oP (.inl q))];exact sU b hb
    ·rw[af n1.symm];exact(sU _ (lw.w _ (.inr (.inl rfl)))).trans h3.gk
    ·rw[af n2.symm];exact(sU _ (lw.w _ (.inr (.inr (.inl rfl))))).trans h3.gz
    ·rw[af n3'.symm];exact(sU _ (lw.w _ (.inr (.inr (.inr rfl))))).trans h3.ga
   exact bB (j+1) (by omega) ⟨aH,_,{c3 with F:=c3.F++[x]},by rw[xy,j8,if_neg (show ¬(z.d.s=oj/\c2.M<0)from fun q=>hs q.1)],by show c3.F++[x]=_;rw[show c3.F=c2.F by rw[j8],AU,hcF,e1],h5.1,(by show eI _ _ (is (c3.F++[x])) (c3.F++[x]).length 1 base;rw[<- Wz];exact h5.2),by rw[aj];omega,fun b hb oP=>by rw[af (fun q=>oP (.inl q)),sU b hb];exact((show M2.get b=m.get b from uk.k b (by omega) oP)).trans (hk b hb oP),by simp[q0,Zu,Zt,qd,ay]⟩
 ·have hc:¬((j:Int)<(xs.length:Int)):=by omega
  simp only[cS,f25,f26,fd,hc,ao,simprocAttr]at hX;subst hX;have ej:xs.take j=xs:=uP (by omega);rw[ej]at WQ;subst WQ;exact bK ⟨_,_,fv,rfl,h,ho,hbm,hk,by simp[f0,fd,ay]⟩
end
end
section
theorem Xl{l:List Nd}{F:List Int}{x:Int}{s:cH}:uI l (F++[x]) s=match uI l F s with|some f=>some f|none=>if (ee l x).s=s then some F.length else none:=by
 unfold uI;rw[List.findIdx?_append];cases h:List.findIdx? (fun x=>decide ((ee l x).s=s)) F with
 |some f=>rfl
 |none=>by_cases q:(ee l x).s=s<;>simp[q]
def rX(l:List Nd)(F:List Int):Int:=match uI l F oj with|some f=>(f:Int)|none=> -1
theorem Dr{l:List Nd}:∀(xs:List Int) (c:CS),c.M=rX l c.F->xs.foldl (kz l) c={xs.foldl (cP l) c with M:=rX l (c.F++xs)}/\(xs.foldl (cP l) c).F=c.F++xs
 |[],c,h=>by
  simp only[List.foldl_nil,List.append_nil];exact⟨by rw[<- h],trivial⟩
 |x::xs,c,h=>by
  have rh:(cP l c x).F=c.F++[x]:=by unfold cP;simp only;split<;>rfl
  have hM:(kz l c x).M=rX l (c.F++[x]):=by
   unfold kz rX;simp only;rw[Xl,h];unfold rX;cases hh:uI l c.F oj with
   |some f=>simp only;rw[if_neg];rintro⟨_,q⟩;omega
   |none=>
    simp only;by_cases q:(ee l x).s=oj
    ·rw[if_pos ⟨q,by decide⟩,if_pos q]
    ·rw[if_neg (fun w=>q w.1),if_neg q]
  have IH:kz l c x={cP l c x with M:=rX l (c.F++[x])}:=by
   rw[<- hM];unfold cP kz;rfl
  have jr:(kz l c x).F=c.F++[x]:=by rw[IH];exact rh
  obtain⟨a,b⟩:=Dr xs (kz l c x) (by rw[hM,jr]);have key:∀(ys:List Int) (d:CS) (k:Int),ys.foldl (cP l) {d with M:=k}={ys.foldl (cP l) d with M:=k}:=by
   intro ys
   induction ys with
   |nil=>intro d k;rfl
   |cons y ys ih=>
    intro d k;rw[List.foldl_cons,List.foldl_cons,<- ih]
    congr 1
    unfold cP;simp only
    split<;>rfl
  rw[List.foldl_cons,List.foldl_cons];refine⟨?_,?_⟩
  ·rw[a,jr,IH,key,List.append_assoc];rfl
  ·rw[jr,IH,key,List.append_assoc]at b;exact b
end
section
theorem JB{l:List Nd}:∀(xs:List Int) (c:CS),(xs.foldl (kz l) c).V=c.V/\(xs.foldl (kz l) c).L=c.L
 |[],c=>⟨rfl,rfl⟩
 |x::xs,c=>by
  rw[List.foldl_cons];obtain⟨a,b⟩:=JB xs (kz l c x);have e:(kz l c x).V=c.V/\(kz l c x).L=c.L:=by unfold kz;simp only;split<;>exact⟨rfl,rfl⟩
  exact⟨a.trans e.1,b.trans e.2⟩
section
variable {e:CE} {m m' M0:Mem} {fv By vv sp:EV} {c c' c0:CS} {base:Nat}
theorem aa1(s:Shape e)(lw:Lx e base)(LO:base<=m.next)(h:Cb e m .aa vv sp c)(hF:c.F=[])(hf:c.fe=0){X:Option Fin}(hX:run U rH [.ptr e.cb 0] m=X) :
  ∃m' By c',X=some (.ret (.tuple []) m')/\Cb e m' By vv sp c'/\eI m' By (is c'.F) c'.F.length 1 base/\base<=m'.next/\(∀b,b<base->¬e.W b->m'.get b=m.get b)/\c'.F=(dZ e.l (e.l.length- 1)).kids/\jz c' (eP e.l {c with M:= -1})/\c'.V=c.V/\c'.L=c.L:=by
 rw[cf (by simp[cq])]at hX;have hlp:0<e.xs.length:=by have:=s.r.2.1;rw[CE.Fa]at this;exact this
 have hi:e.xs.length- 1<e.xs.length:=by omega
 have hx:e.xs[e.xs.length- 1]?=some e.xs[e.xs.length- 1]:=jE hi;have nV:e.xs[e.xs.length- 1]∈e.xs:=oX hi;have hd:dZ e.l (e.l.length- 1)=e.xs[e.xs.length- 1].d:=by rw[CE.Fa];exact nc (by unfold CE.l;rw[List.getElem?_map,hx];rfl)
 generalize e.xs[e.xs.length- 1]=y at *;obtain⟨q1,q2,q3,q4,_,q5⟩:=tj hx;have eC:=ap (k:=.i64) hi;have tG:IntKind.i64.wrap ((e.xs.length:Int)- 1)=((e.xs.length- 1:Nat):Int):=by have:=s.n;rw[wrap_i64 (by omega) (by omega)];omega
 have hg:=h.g;have hb:=h.lt _ (.inl rfl);obtain⟨h1,s1⟩:=h.rG (sp':=sp) (vv':=vv) (c':={c with M:= -1}) rfl rfl rfl rfl;unfold j0 CE.lv at hg;simp only[cq,hg,hb,ao,simprocAttr]at hX;generalize qD:m.set e.cb _=M1 at hX;replace h1:Cb e M1 .aa vv sp {c with M:= -1}:=by rw[<- qD];exact h1
 replace s1:bO e m M1:=by rw[<- qD];exact s1
 have nF:=h1.g;have PM:=h1.lt _ (.inl rfl);have gl1:=h1.nd.g;have ll1:=h1.nd.lt;unfold j0 CE.lv at nF;have Sl:uM e M1 y.kv y.d.kids:=by
  rcases(h1.nd.k y nV).is with⟨z1,z2|⟨b,o,z2⟩⟩|⟨b,c,t,ro,z1,z2,z3,_,z5⟩
  ·exact .inl ⟨z1,.inl z2⟩
  ·exact .inl ⟨z1,.inr (.inr ⟨b,z2⟩)⟩
  ·obtain⟨n,AR⟩:∃n,y.d.kids.length=n+1:=⟨y.d.kids.length- 1,by have:=List.length_pos_iff.2 z5;omega⟩
   exact .inr ⟨b,c,t,ro,[],z1,by rw[List.append_nil];exact z2,z3,(h1.nd.kf y nV b n c (by rw[z1,AR])).1⟩
 have hlen:=Sl.kA;simp only[nF,PM,gl1,ll1,tG,eC,q2,hlen,ao,simprocAttr]at hX;generalize hY:exec _ (.loop cS) _ _=Y at hX;have uW:=s.k y nV;have ahu:y.d.kids.length<100000:=by
  have hk:=s.kids hi;unfold cJ at hk;rw[show dZ e.l (e.xs.length- 1)=y.d by rw[<- CE.Fa];exact hd]at hk;have hw:=s.w;rw[hd]at hw;rw[hw]at hk;simp only[Int.reduceEq,or_self,if_false,if_true]at hk;have:=hk.2;omega
 obtain⟨ou,rfl,fr',M2,Kt,rfl,h2,Wt,mC,Bx,f0,fd⟩:=cG hY (VC lw (by rw[au];exact ji LO (ji s1.n aq)) (xs:=y.d.kids) (fun w hw=>by
  rw[<- hd]at hw;obtain⟨a,_,b,_⟩:=s.sQ hw;exact⟨a,b⟩) ahu (h1.bump _) (by show eI _ _ (is c.F) c.F.length 1 base;rw[hF];exact⟨.inl ⟨rfl,rfl,rfl⟩,rfl⟩) hF (Sl.cU bO.bump) (fun b n c he=>lw.k y nV b n c he) (by simp[ay]) (by simp[ay]) (by simp[ay]) (by simp[ay]) (by simp[ay]))
 clear hY;obtain⟨xy,WL⟩:=Dr (l:=e.l) y.d.kids {c with M:= -1} (by show -1=rX e.l c.F;rw[hF];rfl);obtain⟨c2,tL⟩:∃c2,c2=y.d.kids.foldl (kz e.l) {c with M:= -1}:=⟨_,rfl⟩
 have vl2:c2.V=c.V/\c2.L=c.L:=by rw[tL];exact JB y.d.kids {c with M:= -1}
 have vlm:∀b q,(c2.bD b 13 q).V=c.V/\(c2.bD b 13 q).L=c.L:=fun b q=>by unfold CS.bD;split<;>exact vl2
 rw[<- tL]at h2 Wt;have V8:∀b,b<base->¬e.W b->M2.get b=m.get b:=fun b hb hw=>(Bx b hb hw).trans (s1.k b (by omega) hw)
 have jr:c2.F=y.d.kids:=by rw[tL,xy];show (y.d.kids.foldl (cP e.l) {c with M:= -1}).F=_;rw[WL];show c.F++_=_;rw[hF];rfl
 have hM2:c2.M=rX e.l y.d.kids:=by rw[tL,xy];show rX e.l (c.F++y.d.kids)=_;rw[hF];rfl
 have kI:=h2.g;have Ss:=h2.lt _ (.inl rfl);unfold j0 CE.lv at kI;obtain⟨c1,Ai⟩:∃c1,c1=y.d.kids.foldl (cP e.l) {c with M:= -1}:=⟨_,rfl⟩
 have anW:c1.F=y.d.kids:=by rw[Ai,WL];show c.F++_=_;rw[hF];rfl
 have BT:eP e.l {c with M:= -1}=(if c1.fe=0 then match uI e.l y.d.kids oj with
   |none=>c1.fault 13 0
   |some f=>if (ee e.l (y.d.kids.getD f 0)).n=1/\(ee e.l (y.d.kids.getD f 0)).kids.length=2/\(ee e.l ((ee e.l (y.d.kids.getD f 0)).kids.headD 0)).n=3 then{c1 with M:=f}else c1.fault 13 (ee e.l (y.d.kids.getD f 0)).pos
  else c1):=by
  unfold eP;simp only[hd,<- Ai,anW]
  rfl
 have LL:c1.fe=c2.fe/\c1.fp=c2.fp:=by rw[tL,xy,Ai];exact⟨rfl,rfl⟩
 rw[BT];have bad:∀c3:CS,c3=c2->c2.fe≠0->jz c3 c1:=fun c3 e3 fR=>⟨by rw[e3];exact LL.1.symm,by rw[e3];exact LL.2.symm,fun q=>absurd (by rw[<- e3];exact q) fR⟩
 cases hfn:uI e.l y.d.kids oj with
 |none=>
  have hMv:c2.M= -1:=by rw[hM2];unfold rX;rw[hfn]
  rw[hMv]at kI;simp only[f0,fd,kI,Ss,ao,simprocAttr]at hX;generalize hC:run (UT B Ev.K) 38 _ _=C at hX;by_cases vZ:c2.fe=0
  ·obtain⟨M3,rfl,h3,s3⟩:=Qd h2 vZ (by decide) hC;clear hC;simp only[f0,fd,ao,simprocAttr]at hX;refine⟨M3,Kt,_,hX.symm,h3,?_,ji mC s3.n,fun b hb hw=>(s3.k b (by omega) hw).trans (V8 b hb hw),(by show c2.F=_;rw[jr,hd]),?_,vl2⟩
   ·exact Wt.eB s3.n fun b hb im _=>s3.k b hb fun w=>by have:=lw.w b w;omega
   ·rw[if_pos (LL.1.trans vZ)];exact⟨rfl,rfl,fun q=>absurd q (by simp[CS.fault])⟩
  ·obtain⟨M3,rfl,n3,k3⟩:=Qc h2 vZ hC;clear hC;simp only[f0,fd,ao,simprocAttr]at hX;refine⟨M3,Kt,c2,hX.symm,h2.same n3 k3,?_,ji mC n3,fun b hb hw=>(k3 b (by omega)).trans (V8 b hb hw),by rw[jr,hd],?_,vl2⟩
   ·exact Wt.eB n3 fun b hb im _=>k3 b hb
   ·rw[if_neg (by rw[LL.1];exact vZ)];exact bad c2 rfl vZ
 |some f=>
  have hMv:c2.M=(f:Int):=by rw[hM2];unfold rX;rw[hfn]
  rw[hMv]at kI;have TA:(0:Int)<=(f:Int):=by omega
  simp only[f0,fd,kI,Ss,TA,ao,simprocAttr]at hX;generalize hC:run (UT B Ev.K) 38 _ _=C at hX;obtain⟨M3,rfl,n3,k3⟩:=Ii h2 hC;clear hC;have h3:=h2.same n3 k3;have LI:eI M3 Kt (is c2.F) c2.F.length 1 base:=Wt.eB n3 fun b hb im _=>k3 b hb
  have DD:∀b,b<base->¬e.W b->M3.get b=m.get b:=fun b hb hw=>(k3 b (by omega)).trans (V8 b hb hw)
  by_cases vZ:c2.fe=0
  ·rw[gQ vZ]at hX;rw[if_pos (LL.1.trans vZ)];obtain⟨rE,_⟩:f<y.d.kids.length/\True:=by
    unfold uI at hfn;rw[List.findIdx?_eq_some_iff_getElem]at hfn;exact⟨hfn.1,trivial⟩
   have WJ:y.d.kids[f]?=some y.d.kids[f]:=jE rE;have oQ:y.d.kids.getD f 0=y.d.kids[f]:=by rw[List.getD_eq_getElem?_getD,WJ];rfl
   have adV:y.d.kids[f]∈y.d.kids:=oX rE;simp only[oQ];generalize y.d.kids[f]=x at *;have hxr:x∈(dZ e.l (e.l.length- 1)).kids:=by rw[hd];exact adV
   obtain⟨x0,_,xl,_⟩:=s.sQ hxr;obtain⟨z,hz,a1,a2,a3,a4,a5,a6,a7⟩:=h3.at x0 xl;have jV:=h3.g;have pz:=h3.lt _ (.inl rfl);have gl3:=h3.nd.g;have ll3:=h3.nd.lt;unfold j0 CE.lv at jV;rw[hMv]at jV;rcases tU h3 with⟨q,_⟩|⟨b,cp,t,ro,rest,rfl,gb,bl,bw⟩
   ·rw[jr]at q;rw[q]at rE;cases rE
   have tM:(is (c2.F++rest))[f]?=some (.int .i64 x):=by rw[gp,jr,rB rE,WJ];rfl
   have hfx:=ap (n:=c2.F.length) (i:=f) (k:=.i64) (by rw[jr];exact rE);simp only[f0,fd,jV,pz,gl3,ll3,gb,bl,tM,hfx,a1,a6,Nat.mul_one,ao,simprocAttr]at hX;obtain⟨D,hD⟩:∃D,ve M3 20 18 (.cells [EV.int .i64 0,EV.aa,EV.int .i64 0,EV.str [],EV.int .i64 0] 5 59 false)=D:=⟨_,rfl⟩
   have dn:D.next=M3.next+20:=by rw[<- hD,jL];rfl
   have fc:∀b,b<M3.next->D.get b=M3.get b:=fun b hb=>by rw[<- hD];exact lI hb
   have mR:D.get (M3.next+18)=.cells [EV.int .i64 0,EV.aa,EV.int .i64 0,EV.str [],EV.int .i64 0] 5 59 false:=by rw[<- hD];exact lJ
   unfold ve at hD;rw[hD,show nb (M3.next+18) 0=M3.next+18 from rfl]at hX;simp only[mR,ao,simprocAttr]at hX;generalize zw:D.set (M3.next+18) _=M4 at hX;have n4:M4.next=M3.next+20:=by rw[<- zw,aj];exact dn
   have o4:∀b,b<M3.next->M4.get b=M3.get b:=fun b hb=>by rw[<- zw,af (by omega)];exact fc b hb
   have p4:M4.get (M3.next+18)=.cells [EV.int .i64 z.d.kind,z.kv,EV.int .i64 z.d.n,EV.str z.d.s,EV.int .i64 z.d.pos] 5 59 false:=by rw[<- zw];exact aN
   have l4:M3.next+18<M4.next:=by omega
   have h4:Cb e M4 (.slice b 0 c2.F.length cp) vv sp c2:=h3.same (by omega) o4;have YH:eI M4 (.slice b 0 c2.F.length cp) (is c2.F) c2.F.length 1 base:=LI.eB (by omega) fun b hb im _=>o4 b hb
   clear zw hD dn fc mR;have nW:=h4.g;have uZ:=h4.lt _ (.inl rfl);have PP:=h4.nd.g;have Tt:=h4.nd.lt;unfold j0 CE.lv at nW;have bT:=fun k n p (s:cH)=>Cs (h4.nd.k z a7) (k:=k) (n:=n) (p:=p) (s:=s)
   obtain⟨hfk,rD,HH,Kb,Z9⟩:=s.fn hxr;rw[<- hz]at rD HH Z9;have aef:z.d.kids≠[]:=fun q=>by rw[q]at rD;simp at rD
   obtain⟨bz,cz,tz,rz,Gh,gz,lz⟩:∃bz cz tz rz,z.kv=.slice bz 0 z.d.kids.length cz/\M4.get bz=.cells (is z.d.kids) 1 tz rz/\bz<M4.next:=by
    rcases(h4.nd.k z a7).is with⟨q,_⟩|⟨bz,cz,tz,rz,w1,w2,w3,_⟩
    ·exact absurd q aef
    ·exact⟨bz,cz,tz,rz,w1,w2,w3⟩
   rw[<- hz];by_cases X4:z.d.n=1
   ·by_cases YM:z.d.kids.length=2
    ·obtain⟨k0,k1,LK⟩:∃k0 k1,z.d.kids=[k0,k1]:=by
      match z.d.kids,YM with
      |[a,b],_=>exact⟨a,b,rfl⟩
     have aeg:k0∈(dZ e.l x.toNat).kids:=by show k0∈(ee e.l x).kids;rw[<- hz,LK];simp
     obtain⟨k00,_,k0l,_⟩:=s.sQ aeg;obtain⟨w,hw,b1,b2,b3,b4,b5,b6,b7⟩:=h4.at k00 k0l;have sS:(is z.d.kids)[0]?=some (.int .i64 k0):=by rw[LK];rfl
     have kL:idx z.d.kids.length (.int .i64 0)=some 0:=ap (i:=0) (by omega);have uV:(z.d.kids.length:Int)=2:=by omega
     have hhd:z.d.kids.headD 0=k0:=by rw[LK];rfl
     rw[Gh]at p4 bT;by_cases c3n:w.d.n=3
     ·simp only[f0,fd,p4,l4,nW,uZ,PP,Tt,bT,Gh,cT,dS,X4,YM,uV,c3n,gz,lz,kL,show idx 2 (.int .i64 0)=some 0 from rfl,sS,b1,b4,Nat.mul_one,ao,simprocAttr]at hX;generalize hC:run (UT B Ev.K) 38 _ _=C at hX;obtain⟨M5,r,rfl,h5,s5⟩:=qM (b:=true) (h4.bump 26) (by decide) hC;clear hC;simp only[f0,fd,bT,ao,simprocAttr]at hX;refine⟨M5,_,_,hX.symm,h5,?_,?_,fun b hb hw=> ?_,?_,?_,vlm _ _⟩
      ·rw[show c2.bD true 13 z.d.pos=c2 by rw[CS.bD,if_pos (.inl rfl)]];exact(YH.mono (m':=Ev.bump M4 26) aq fun _ _=>rfl).eB s5.n fun b hb im _=>s5.k b hb fun w=>by have:=lw.w b w;omega
      ·exact ji (by rw[au];exact ji (by omega) aq) s5.n
      ·exact(s5.k b (by rw[au];exact cQ (by omega) aq) hw).trans ((o4 b (by omega)).trans (DD b hb hw))
      ·rw[show c2.bD true 13 z.d.pos=c2 by rw[CS.bD,if_pos (.inl rfl)]];show c2.F=_;rw[jr,hd]
      ·rw[show c2.bD true 13 z.d.pos=c2 by rw[CS.bD,if_pos (.inl rfl)],if_pos ⟨X4,YM,by rw[hhd,<- hw];exact c3n⟩];have:({c1 with M:=(f:Int)}:CS)=c2:=by rw[tL,xy,<- Ai];show _={c1 with M:=rX e.l (c.F++y.d.kids)};rw[hF];show _={c1 with M:=rX e.l y.d.kids};unfold rX;rw[hfn]
       rw[this];exact .refl
     ·simp only[f0,fd,p4,l4,nW,uZ,PP,Tt,bT,Gh,cT,dS,X4,YM,uV,c3n,gz,lz,kL,show idx 2 (.int .i64 0)=some 0 from rfl,sS,b1,b4,Nat.mul_one,ao,simprocAttr]at hX;generalize hC:run (UT B Ev.K) 38 _ _=C at hX;obtain⟨M5,r,rfl,h5,s5⟩:=qM (b:=false) (h4.bump 26) (by decide) hC;clear hC;simp only[f0,fd,bT,ao,simprocAttr]at hX;refine⟨M5,_,_,hX.symm,h5,?_,?_,fun b hb hw=> ?_,?_,?_,vlm _ _⟩
      ·rw[show c2.bD false 13 z.d.pos=c2.fault 13 z.d.pos by rw[CS.bD,if_neg (by simp[vZ])]];exact(YH.mono (m':=Ev.bump M4 26) aq fun _ _=>rfl).eB s5.n fun b hb im _=>s5.k b hb fun w=>by have:=lw.w b w;omega
      ·exact ji (by rw[au];exact ji (by omega) aq) s5.n
      ·exact(s5.k b (by rw[au];exact cQ (by omega) aq) hw).trans ((o4 b (by omega)).trans (DD b hb hw))
      ·rw[show c2.bD false 13 z.d.pos=c2.fault 13 z.d.pos by rw[CS.bD,if_neg (by simp[vZ])]];show c2.F=_;rw[jr,hd]
      ·rw[show c2.bD false 13 z.d.pos=c2.fault 13 z.d.pos by rw[CS.bD,if_neg (by simp[vZ])],if_neg (fun q=>c3n (by rw[hw,<- hhd];exact q.2.2))];exact⟨rfl,rfl,fun q=>absurd q (by simp[CS.fault])⟩
    ·have uV:¬(z.d.kids.length:Int)=2:=by omega
     rw[Gh]at p4 bT;simp only[f0,fd,p4,l4,nW,uZ,PP,Tt,bT,Gh,cT,dS,X4,YM,uV,gz,lz,Nat.mul_one,ao,simprocAttr]at hX;generalize hC:run (UT B Ev.K) 38 _ _=C at hX;obtain⟨M5,r,rfl,h5,s5⟩:=qM (b:=false) (h4.bump 26) (by decide) hC;clear hC;simp only[f0,fd,bT,ao,simprocAttr]at hX;refine⟨M5,_,_,hX.symm,h5,?_,?_,fun b hb hw=> ?_,?_,?_,vlm _ _⟩
     ·rw[show c2.bD false 13 z.d.pos=c2.fault 13 z.d.pos by rw[CS.bD,if_neg (by simp[vZ])]];exact(YH.mono (m':=Ev.bump M4 26) aq fun _ _=>rfl).eB s5.n fun b hb im _=>s5.k b hb fun w=>by have:=lw.w b w;omega
     ·exact ji (by rw[au];exact ji (by omega) aq) s5.n
     ·exact(s5.k b (by rw[au];exact cQ (by omega) aq) hw).trans ((o4 b (by omega)).trans (DD b hb hw))
     ·rw[show c2.bD false 13 z.d.pos=c2.fault 13 z.d.pos by rw[CS.bD,if_neg (by simp[vZ])]];show c2.F=_;rw[jr,hd]
     ·rw[show c2.bD false 13 z.d.pos=c2.fault 13 z.d.pos by rw[CS.bD,if_neg (by simp[vZ])],if_neg (fun q=>YM q.2.1)];exact⟨rfl,rfl,fun q=>absurd q (by simp[CS.fault])⟩
   ·rw[Gh]at p4 bT;simp only[f0,fd,p4,l4,nW,uZ,PP,Tt,bT,Gh,cT,dS,X4,gz,lz,Nat.mul_one,ao,simprocAttr]at hX;generalize hC:run (UT B Ev.K) 38 _ _=C at hX;obtain⟨M5,r,rfl,h5,s5⟩:=qM (b:=false) (h4.bump 26) (by decide) hC;clear hC;simp only[f0,fd,bT,ao,simprocAttr]at hX;refine⟨M5,_,_,hX.symm,h5,?_,?_,fun b hb hw=> ?_,?_,?_,vlm _ _⟩
    ·rw[show c2.bD false 13 z.d.pos=c2.fault 13 z.d.pos by rw[CS.bD,if_neg (by simp[vZ])]];exact(YH.mono (m':=Ev.bump M4 26) aq fun _ _=>rfl).eB s5.n fun b hb im _=>s5.k b hb fun w=>by have:=lw.w b w;omega
    ·exact ji (by rw[au];exact ji (by omega) aq) s5.n
    ·exact(s5.k b (by rw[au];exact cQ (by omega) aq) hw).trans ((o4 b (by omega)).trans (DD b hb hw))
    ·rw[show c2.bD false 13 z.d.pos=c2.fault 13 z.d.pos by rw[CS.bD,if_neg (by simp[vZ])]];show c2.F=_;rw[jr,hd]
    ·rw[show c2.bD false 13 z.d.pos=c2.fault 13 z.d.pos by rw[CS.bD,if_neg (by simp[vZ])],if_neg (fun q=>X4 q.1)];exact⟨rfl,rfl,fun q=>absurd q (by simp[CS.fault])⟩
  ·rw[ij vZ]at hX;simp only[f0,fd,ao,simprocAttr]at hX;refine⟨M3,Kt,c2,hX.symm,h3,LI,ji mC n3,DD,by rw[jr,hd],?_,vl2⟩
   rw[if_neg (by rw[LL.1];exact vZ)];exact bad c2 rfl vZ
end
end
section
section
variable {e:CE} {m m' M0:Mem} {fv By vv sp:EV} {c c' c0:CS} {base:Nat}
theorem XW(s:Shape e)(lw:Low e base fv)(LO:base<=M0.next)(hw:∀i,dM e.l (i+1) i<500000)(h0:Cb e M0 fv vv sp c0)(hv0:rv e base M0 vv c0.V)(hF:∀x∈c0.F,x∈(dZ e.l (e.l.length- 1)).kids)(hl:c0.F.length<100000)(hL:c0.L=0)(hV:c0.V=[]){v2 v3:EV}{fr:Fr}
  (f2:fr.get 2=v2) (f3:fr.get 3=v3) (f4:fr.get 4=.ptr e.cb 0) (f63:fr.get 63=fv) (f64:fr.get 64=.int .i64 (c0.F.length:Int)) (f65:fr.get 65=.int .i64 0) (fd:fr.defers=[]) :
  ∃ou,exec U (.loop gG) fr M0=some ou/\∃fr' m' vv' sp' c',ou=.exit 2 fr' m'/\Cb e m' fv vv' sp' c'/\rv e base m' vv' c'.V/\base<=m'.next/\(∀b,b<base->¬e.W b->m'.get b=M0.get b)/\jz c' (aO (nY e.l) c0.F c0)/\c'.F=c0.F/\fr'.get 2=v2/\fr'.get 3=v3/\fr'.get 4=.ptr e.cb 0/\fr'.defers=[]:=by
 refine dr (σ:=Nat) (fun j fr m=>j<=c0.F.length/\∃vv sp c,Cb e m fv vv sp c/\rv e base m vv c.V/\base<=m.next/\(∀b,b<base->¬e.W b->m.get b=M0.get b)/\jz c (aO (nY e.l) (c0.F.take j) c0)/\c.F=c0.F/\c.L=0/\c.V.length<=j/\fr.get 2=v2/\fr.get 3=v3/\fr.get 4=.ptr e.cb 0/\fr.get 63=fv/\fr.get 64=.int .i64 (c0.F.length:Int)/\fr.get 65=.int .i64 (j:Int)/\fr.defers=[]) (fun j=>c0.F.length- j) _ ?_ 0 fr M0 ⟨nZ _,vv,sp,c0,h0,hv0,LO,fun _ _ _=>rfl,.refl,rfl,hL,by rw[hV];exact cR _,f2,f3,f4,f63,f64,f65,fd⟩
 rintro j fr m ⟨hj,vv,sp,c,h,hv,hb,hk,eq,cF,cL,cV,f2,f3,f4,f63,f64,f65,fd⟩;generalize hX:exec U gG fr m=X;by_cases aH:j<c0.F.length
 ·have hc:(j:Int)<(c0.F.length:Int):=by omega
  have gP:=aZ (i:=j) (by omega);have hg:c0.F[j]?=some c0.F[j]:=jE aH;have e1:c0.F.take (j+1)=c0.F.take j++[c0.F[j]]:=List.take_succ_eq_append_getElem aH;have nV:c0.F[j]∈c0.F:=oX aH;generalize c0.F[j]=x at *;have hr:=tU h;rw[cF]at hr;rcases hr with⟨q,_⟩|⟨b,cp,t,ro,rest,rfl,gb,bl,bw⟩
  ·rw[q]at aH;cases aH
  have tM:(is (c0.F++rest))[j]?=some (.int .i64 x):=by rw[gp,rB aH,hg];rfl
  have eC:=ap (n:=c0.F.length) (i:=j) (k:=.i64) aH;have HQ:=yg h;by_cases hf:c.fe=0
  ·rw[gQ hf]at HQ;simp only[gG,f2,f3,f4,f63,f64,f65,fd,hc,gb,bl,eC,tM,HQ,Nat.mul_one,ao,simprocAttr]at hX;generalize hC:run (UT B Ev.K) 24 _ _=C at hX;obtain⟨m2,vv2,sp2,c2,rfl,h2,hv2,mC,Bx,BF,F2,L2,V2⟩:=aaX s lw (by rw[au];exact ji hb aq) (h.bump 0) hf (hv.cU lw.w (by rw[au];exact aq) fun _ _ _=>rfl) (by rw[cF];exact hF) (by rw[cF];omega) cL (by omega) (hF x nV) hw hC;clear hC;simp only[f2,f3,f4,f63,f64,f65,fd,gP,ao,simprocAttr]at hX;subst hX;have uF:=eq.2.2 hf;have oD:aO (nY e.l) (c0.F.take (j+1)) c0=nY e.l x c:=by rw[e1,jF,<- uF,if_pos hf]
   exact bB (j+1) (by omega) ⟨aH,vv2,sp2,c2,h2,hv2,mC,fun b hb hw=>(Bx b hb hw).trans (hk b hb hw),by rw[oD];exact BF,F2.trans cF,L2.trans cL,by omega,by simp[f2,f3,f4,f63,f64,fd,ay]⟩
  ·rw[ij hf]at HQ;simp only[gG,f2,f3,f4,f63,f64,f65,fd,hc,gb,bl,eC,tM,HQ,gP,Nat.mul_one,ao,simprocAttr]at hX;subst hX;have oD:aO (nY e.l) (c0.F.take (j+1)) c0=aO (nY e.l) (c0.F.take j) c0:=by rw[e1,jF,if_neg (by rw[<- eq.1];exact hf)]
   exact bB (j+1) (by omega) ⟨aH,vv,sp,c,h.bump 0,hv.cU lw.w (by rw[au];exact aq) fun _ _ _=>rfl,by rw[au];exact ji hb aq,hk,by rw[oD];exact eq,cF,cL,by omega,by simp[f2,f3,f4,f63,f64,fd,ay]⟩
 ·have hc:¬((j:Int)<(c0.F.length:Int)):=by omega
  obtain rfl:j=c0.F.length:=by omega
  simp only[gG,f64,f65,fd,hc,ao,simprocAttr]at hX;subst hX;rw[List.take_length]at eq;exact bK ⟨_,_,vv,sp,c,rfl,h,hv,hb,hk,eq,cF,by simp[f2,f3,f4,fd,ay]⟩
end
end
section
section
variable {e:CE} {m m' M0:Mem} {fv By vv sp:EV} {c c' c0:CS} {base:Nat}
def pG(n j:Nat):List Int:=List.replicate j (-1)++List.replicate (n- j) 0
theorem Je{n j:Nat}(h:j<=n):(pG n j).length=n:=by unfold pG;simp;omega
theorem Jd{n j:Nat}(h:j<n):(pG n j).set j (-1)=pG n (j+1):=by
 unfold pG;rw[List.set_append_right _ _ (by simp),List.length_replicate,Nat.sub_self,show n- j=(n-(j+1))+1 by omega,List.replicate_succ,List.set_cons_zero,List.replicate_succ',List.append_assoc]
 rfl
theorem Cb.Jc(h:Cb e m fv vv sp c){i:Nat}{x:Int}:Cb e (m.set e.zb (.cells (is (c.S.set i x)) 1 3 false)) fv vv sp {c with S:=c.S.set i x}/\bO e m (m.set e.zb (.cells (is (c.S.set i x)) 1 3 false)):=by
 have st:bO e m (m.set e.zb (.cells (is (c.S.set i x)) 1 3 false)):=⟨by rw[aj];exact cR _,fun b _ hw=>af fun q=>hw (.inr (.inr (.inl q)))⟩;obtain⟨n1,n2,n3,n4,n5,n6⟩:=h.ne;exact⟨h.O1 st ((af n2).trans h.g) ((af n4).trans h.gk) aN ((af n6.symm).trans h.ga) ⟨h.len.1,by rw[List.length_set];exact h.len.2.1,h.len.2.2⟩ rfl,st⟩
theorem Cb.UA(h:Cb e m fv vv sp c){i:Nat}{x:Int}:Cb e (m.set e.ab (.cells (is (c.C.set i x)) 1 3 false)) fv vv sp {c with C:=c.C.set i x}/\bO e m (m.set e.ab (.cells (is (c.C.set i x)) 1 3 false)):=by
 have st:bO e m (m.set e.ab (.cells (is (c.C.set i x)) 1 3 false)):=⟨by rw[aj];exact cR _,fun b _ hw=>af fun q=>hw (.inr (.inr (.inr q)))⟩;obtain⟨n1,n2,n3,n4,n5,n6⟩:=h.ne;exact⟨h.O1 st ((af n3).trans h.g) ((af n5).trans h.gk) ((af n6).trans h.gz) aN ⟨h.len.1,h.len.2.1,by rw[List.length_set];exact h.len.2.2⟩ rfl,st⟩
theorem XX{n:Nat}(hn:e.xs.length=n)(hl:n<100000)(h0:Cb e M0 fv vv sp {c with S:=pG n 0,C:=pG n 0}){v2 v3:EV}{fr:Fr}
  (f2:fr.get 2=v2) (f3:fr.get 3=v3) (f4:fr.get 4=.ptr e.cb 0) (f38:fr.get 38=.int .i64 (n:Int)) (f39:fr.get 39=.int .i64 0) (fd:fr.defers=[]) :
  ∃ou,exec U (.loop iX) fr M0=some ou/\∃fr' m',ou=.exit 0 fr' m'/\Cb e m' fv vv sp {c with S:=pG n n,C:=pG n n}/\bO e M0 m'/\fr'.get 2=v2/\fr'.get 3=v3/\fr'.get 4=.ptr e.cb 0/\fr'.defers=[]:=by
 refine dr (σ:=Nat) (fun j fr m=>j<=n/\Cb e m fv vv sp {c with S:=pG n j,C:=pG n j}/\bO e M0 m/\fr.get 2=v2/\fr.get 3=v3/\fr.get 4=.ptr e.cb 0/\fr.get 38=.int .i64 (n:Int)/\fr.get 39=.int .i64 (j:Int)/\fr.defers=[]) (fun j=>n- j) _ ?_ 0 fr M0 ⟨nZ _,h0,.refl,f2,f3,f4,f38,f39,fd⟩
 rintro j fr m ⟨hj,h,st,f2,f3,f4,f38,f39,fd⟩;generalize hX:exec U iX fr m=X;by_cases aH:j<n
 ·have hc:(j:Int)<(n:Int):=by omega
  have gP:=aZ (i:=j) (by omega);have HK:=h.g;have hb:=h.lt _ (.inl rfl);have gz:=h.gz;have lz:=h.lt _ (.inr (.inr (.inl rfl)));have ga:=h.ga;have la:=h.lt _ (.inr (.inr (.inr rfl)));unfold j0 CE.lv CE.row at HK;rw[hn]at HK;have eC:=ap (n:=n) (i:=j) (k:=.i64) aH;have YG:j+1<=(is (pG n j)).length:=by rw[eM,Je hj];omega
  have fm:=fX (x:= -1) (show j<(pG n j).length by rw[Je hj];exact aH);rw[Jd aH]at fm;obtain⟨n1,n2,n3,n4,n5,n6⟩:=h.ne;have ga2:∀x,(m.set e.zb x).get e.ab=.cells (is (pG n j)) 1 3 false:=fun x=>(af n6.symm).trans ga
  simp only[iX,f2,f3,f4,f38,f39,fd,hc,HK,hb,gz,lz,ga,la,ga2,eC,YG,fm,gP,Nat.mul_one,ao,simprocAttr]at hX;subst hX;have e1:(pG n j).set j (-1)=pG n (j+1):=Jd aH;obtain⟨h2,s2⟩:=h.Jc (i:=j) (x:= -1);simp only[e1]at h2 s2;obtain⟨h3,s3⟩:=h2.UA (i:=j) (x:= -1);simp only[e1]at h3 s3;exact bB (j+1) (by omega) ⟨aH,h3.bump _,((st.trans s2).trans s3).trans bO.bump,by simp[f2,f3,f4,f38,fd,ay]⟩
 ·have hc:¬((j:Int)<(n:Int)):=by omega
  obtain rfl:j=n:=by omega
  simp only[iX,f38,f39,fd,hc,ao,simprocAttr]at hX;subst hX;exact bK ⟨_,_,rfl,h,st,by simp[f2,f3,f4,fd,ay]⟩
end
end
section
theorem QT{l:List cH}{i:Nat}:(lQ l)[i]?=(l[i]?).map fun s=>[.str s]:=by unfold lQ;rw[List.getElem?_map]
theorem FH{l:List cH}:(lQ l).length=l.length:=by unfold lQ;rw[List.length_map]
theorem ZS{l:List cH}{m:Mem}:m.load none (glV l)=some (.fz 0 1 (lQ l)):=rfl
def arl(l:List Int):List (List EV):=l.map fun s=>[.int .i64 s]
def ixN{α:Type}[DecidableEq α](x:α):List α->Nat
 |[]=>0
 |a::l=>if a=x then 0 else ixN x l+1
theorem Wa{α:Type}[DecidableEq α]{x:α}:∀{l:List α} {i:Nat},x∉l.take i->l[i]?=some x->ixN x l=i
 |[],i,_,h=>by simp at h
 |a::l,0,_,h=>by simp only[List.getElem?_cons_zero,bQ]at h;simp only[ixN,if_pos h]
 |a::l,i+1,hn,h=>by
  simp only[List.take_succ_cons,qn,not_or]at hn;simp only[ixN,if_neg (Ne.symm hn.1),Wa hn.2 (by simpa using h)]
def ixL{α:Type}[DecidableEq α](x:α)(l:List α):Int:=if x∈l then(ixN x l:Int)else -1
theorem ZY{α:Type}[DecidableEq α]{x:α}{l:List α}:(0<=ixL x l)=(x∈l):=by
 unfold ixL;by_cases h:x∈l
 ·rw[if_pos h];simp[h]
 ·rw[if_neg h];simp[h]
end
section
theorem CY{l:List cH}{x:cH}(hl:l.length<1000000000){tg:Nat}{m0:Mem}{fr:Fr}(h0:fr.get 0=.fz tg 1 (lQ l))(h1:fr.get 1=.str x)(h7:fr.get 7=.int .i64 (l.length:Int))(h8:fr.get 8=.int .i64 0)(hd:fr.defers=[]) :
  ∃o,exec U (.loop di) fr m0=some o/\((x∈l/\∃fr',o=.ret fr' m0/\fr'.get 4=.int .i64 (ixN x l:Int)/\fr'.defers=[])\/(x∉l/\∃fr',o=.exit 0 fr' m0/\fr'.defers=[])):=by
 refine dr (σ:=Nat) (fun i fr m=>m=m0/\i<=l.length/\x∉l.take i/\fr.get 0=.fz tg 1 (lQ l)/\fr.get 1=.str x/\fr.get 7=.int .i64 (l.length:Int)/\fr.get 8=.int .i64 (i:Int)/\fr.defers=[]) (fun i=>l.length- i) _ ?_ 0 fr m0 ⟨rfl,nZ _,by simp,h0,h1,h7,h8,hd⟩
 rintro i fr m ⟨rfl,hi,hn,h0,h1,h7,h8,hd⟩;generalize hX:exec U di fr m=X;by_cases aH:i<l.length
 ·have hc:(i:Int)<(l.length:Int):=by omega
  have hg:l[i]?=some l[i]:=jE aH;have gP:=aZ (i:=i) (by omega);simp only[di,h0,h1,h7,h8,hd,hc,hg,aH,gP,ap,QT,FH,ao,simprocAttr]at hX;subst hX;refine rY (fun he=>iD (.inl ⟨by rw[he];exact oX aH,_,rfl,?_,by simp[hd,ay]⟩)) (fun he=>bB (i+1) (by omega) ⟨rfl,aH,?_,by simp[h0,h1,h7,hd,ay]⟩)
  ·have:ixN x l=i:=Wa hn (by rw[hg,he]);rw[this];simp only[ay,Nat.reduceBEq]
  ·rw[List.take_succ_eq_append_getElem aH,Ag];rintro(q|q)
   ·exact hn q
   ·exact he (IA.1 q)
 ·have hc:¬((i:Int)<(l.length:Int)):=by omega
  simp only[di,h0,h7,h8,hd,hc,ao,simprocAttr]at hX;subst hX;have:l.take i=l:=uP (by omega);rw[this]at hn;exact bK (.inr ⟨hn,_,rfl,by simp[hd,ay]⟩)
theorem E2{l:List cH}{x:cH}(hl:l.length<1000000000){tg:Nat}{m:Mem}:run U u6 [.fz tg 1 (lQ l),.str x] m=some (.ret (.int .i64 (ixL x l)) m):=by
 rw[cf (by simp[dy])];generalize hL:exec (UT B K) (ar.loop di)=L;simp only[dy,FH,ao,simprocAttr];subst hL;generalize hX:exec _ (.loop di) _ _=X;obtain⟨o,rfl,h⟩:=cG hX (CY (l:=l) (x:=x) hl (tg:=tg) (by simp[ay]) (by simp[ay]) (by simp[ay]) (by simp[ay]) (by simp[ay]));rcases h with⟨h,fr',rfl,h4,hd⟩|⟨h,fr',rfl,hd⟩
 ·simp only[h,h4,hd,ixL,ao,simprocAttr]
 ·simp only[h,hd,ixL,ao,simprocAttr]
theorem E3{l:List cH}{x:cH}(hl:l.length<1000000000){tg:Nat}{m:Mem}:run U sE [.fz tg 1 (lQ l),.str x] m=some (.ret (bo (x∈l)) m):=by
 rw[cf (by simp[cB])];have h:=fun m=>E2 (x:=x) hl (tg:=tg) (m:=m)
 simp only[cB,h,ZY,ao,simprocAttr]
end
section
def qo(k s:Int):Prop:=if s=0 then 1<=k/\k<=11 else if s=1 then 12<=k/\k<=22 else if s=2 then k=23 else if s=3 then k=11 else if s=4 then k=24 else k=25
theorem O3{k s:Int}:bA B K RO [.int .i64 k,.int .i64 s]=some (bo (qo k s)):=by
 rw[dY (by simp[iS])];unfold qo;by_cases a:s=0
 ·subst a;simp +contextual -implicitDefEqProofs (maxDischargeDepth:=8) only[iS,if_true,ao,simprocAttr]
 ·by_cases b:s=1
  ·subst b;simp +contextual -implicitDefEqProofs (maxDischargeDepth:=8) only[iS,if_true,if_false,ao,simprocAttr]
  ·by_cases c:s=2
   ·subst c;simp only[iS,if_true,if_false,ao,simprocAttr]
   ·by_cases d:s=3
    ·subst d;simp only[iS,if_true,if_false,ao,simprocAttr]
    ·by_cases e:s=4
     ·subst e;simp only[iS,if_true,if_false,ao,simprocAttr]
     ·simp only[iS,a,b,c,d,e,if_false,ao,simprocAttr]
theorem Vi:∀n:_root_.Fin 256,(97<=ior .u8 ((n.val:Nat):Int) 32/\ior .u8 ((n.val:Nat):Int) 32<=122)↔((97<=n.val/\n.val<=122)\/(65<=n.val/\n.val<=90)):=by decide +kernel
theorem akW(c:UInt8):((97<=ior .u8 (cI c) 32/\ior .u8 (cI c) 32<=122)\/cI c=95)↔jO (cI c):=by
 have h:=Vi ⟨c.toNat,c.toNat_lt⟩;unfold jO;have e:cI c=((c.toNat:Nat):Int):=rfl;rw[e];simp only at h;rw[h];omega
theorem XQ{e:Nat}{m:Mem}{s:cH}:l8 (.bytes e) m (.str s)=some (.slice (nb m.next 0) 0 s.length none,ext m [.cells (s.map fun b=>.int .u8 (b.toNat:Int)) 1 e false]):=by
 simp only[l8,nb,Nat.add_zero];rw[Vz]
theorem L8{s:cH}(hs:s.length<1000000000){b t:Nat}{m0:Mem}(hb:m0.get b=.cells (s.map fun c=>.int .u8 (cI c)) 1 t false){fr:Fr}(h0:fr.get 0=.str s)(h7:fr.get 7=.slice b 0 s.length none)(h8:fr.get 8=.int .i64 (s.length:Int))(h9:fr.get 9=.int .i64 0)(hd:fr.defers=[]) :
  ∃o,exec U (.loop jd) fr m0=some o/\((¬(∀(i:Nat) (c:UInt8),s[i]?=some c->jO (cI c)\/i≠0/\mT (cI c))/\∃fr',o=.ret fr' m0/\fr'.get 2=.bool false/\fr'.defers=[])\/
   ((∀(i:Nat) (c:UInt8),s[i]?=some c->jO (cI c)\/i≠0/\mT (cI c))/\∃fr',o=.exit 0 fr' m0/\fr'.get 0=.str s/\fr'.defers=[])):=by
 refine dr (σ:=Nat) (fun i fr m=>m=m0/\i<=s.length/\fr.get 0=.str s/\fr.get 7=.slice b 0 s.length none/\fr.get 8=.int .i64 (s.length:Int)/\fr.get 9=.int .i64 (i:Int)/\(∀(j:Nat) (c:UInt8),j<i->s[j]?=some c->jO (cI c)\/j≠0/\mT (cI c))/\fr.defers=[]) (fun i=>s.length- i) _ ?_ 0 fr m0 ⟨rfl,nZ _,h0,h7,h8,h9,by omega,hd⟩
 rintro i fr m ⟨rfl,hi,h0,h7,h8,h9,hall,hd⟩;generalize hX:exec U jd fr m=X;by_cases aH:i<s.length
 ·have hc:(i:Int)<(s.length:Int):=by omega
  have hg:s[i]?=some s[i]:=jE aH;have gP:=aZ (i:=i) (by omega);have hi0:((i:Int)=0)=(i=0):=by simp
  generalize s[i]=c at hg;have hor:=akW c;simp +contextual -implicitDefEqProofs (maxDischargeDepth:=8) only[jd,h0,h7,h8,h9,hd,hc,hb,hg,aH,Nat.mul_one,gP,hi0,hor,ap,ao,simprocAttr]at hX;subst hX;refine rY (fun hp=>iD (Or.inl ⟨fun q=> ?_,_,rfl,by simp[hd,ay]⟩)) (fun hp=>bB (i+1) (by omega) ⟨rfl,aH,by simp[h0,ay],by simp[h7,ay],by simp[h8,ay],by simp[ay],fun j d hj YJ=> ?_,by simp[hd,ay]⟩)
  ·rcases q i c hg with q|⟨q1,q2⟩
   ·exact hp.1 q
   ·unfold mT at q2;omega
  ·by_cases Gj:j<i
   ·exact hall j d Gj YJ
   ·obtain rfl:j=i:=by omega
    rw[hg]at YJ;cases YJ;by_cases q:jO (cI c)
    ·exact .inl q
    ·refine .inr ?_
     have:¬((j=0\/cI c<48)\/57<cI c):=fun r=>hp ⟨q,r⟩
     unfold mT;omega
 ·have hc:¬((i:Int)<(s.length:Int)):=by omega
  simp only[jd,h0,h7,h8,h9,hd,hc,ao,simprocAttr]at hX;subst hX;exact bK (Or.inr ⟨fun j c hj=>hall j c (by have:=(mu.1 hj).1;omega) hj,_,rfl,by simp[h0,hd,ay]⟩)
theorem YP:L_tree_words=vu:=rfl
theorem QF{s:cH}(hs:s.length<1000000000):bA B K JE [.str s]=some (bo (xu s)):=by
 rw[dY (by simp[pZ])];generalize hL:exec (UT B K) (ar.loop jd)=L;have hl:=fun m=>ZS (l:=vu) (m:=m)
 have h:=fun m=>E3 (l:=vu) (x:=s) (by decide) (tg:=0) (m:=m)
 simp only[pZ,XQ,ao,simprocAttr];subst hL;generalize hX:exec _ (.loop jd) _ _=X;obtain⟨o,rfl,hq⟩:=cG hX (L8 (s:=s) (b:=nb fT.next 0) (t:=YZ) hs (by rw[aw rfl (by simp)];rfl) (by simp[ay]) (by simp[ay]) (by simp[ay]) (by simp[ay]) (by simp[ay]));rcases hq with⟨hq,fr',rfl,h2,hd⟩|⟨hq,fr',rfl,h0,hd⟩
 ·have:¬xu s:=fun q=>hq q.1
  simp only[this,h2,hd,fh,ao,simprocAttr]
 ·simp +contextual -implicitDefEqProofs (maxDischargeDepth:=8) only[h0,hd,YP,hl,h,ao,simprocAttr];refine congrArg some (qF ?_)
  have fR:s≠[]↔0<s.length:=List.length_pos_iff.symm;unfold xu;constructor
  ·rintro⟨⟨q1,q2⟩,q3⟩;exact⟨hq,fR.1 q1,by omega,q3⟩
  ·rintro⟨_,q1,q2,q3⟩;exact⟨⟨fR.2 q1,by omega⟩,q3⟩
end
section
structure qk where
 word:cH
 name:Bool
 low:Int
 high:Int
 more:Int
 sort:Int
 kids:List Int
 maybe:Bool
def xm:qk:=⟨[],false,0,0,0,0,[],false⟩
def qp:List qk:=[⟨[],false,0,9223372036854775807,0,0,[],false⟩,⟨[],false,0,1,0,0,[],false⟩,⟨[110,105,108],false,0,0,0,0,[],false⟩,⟨[],true,0,0,0,0,[],false⟩,
 ⟨[],false,1,16,0,0,[0,0],false⟩,⟨[110,101,103],false,0,0,0,0,[0],false⟩,⟨[110,111,116],false,0,0,0,0,[0],false⟩,⟨[97,116],false,0,0,0,0,[0,0],false⟩,
 ⟨[108,101,110],false,0,0,0,0,[0],false⟩,⟨[110,101,119],false,0,0,0,0,[0],false⟩,⟨[99,97,108,108],true,0,0,8,0,[],false⟩,⟨[118,97,114],true,0,0,0,0,[0],false⟩,
 ⟨[115,101,116],true,0,0,0,0,[0],false⟩,⟨[112,117,116],true,0,0,0,0,[0,0],false⟩,⟨[105,102],false,0,0,0,0,[0,2,2],true⟩,⟨[119,104,105,108,101],false,0,0,0,0,[0,2],false⟩,
 ⟨[102,111,114],true,0,0,0,0,[0,0,2],false⟩,⟨[98,114,101,97,107],false,0,0,0,0,[],false⟩,⟨[99,111,110,116,105,110,117,101],false,0,0,0,0,[],false⟩,⟨[114,101,116,117,114,110],false,0,0,0,0,[0],false⟩,
 ⟨[112,114,105,110,116],false,0,0,0,0,[0],false⟩,⟨[100,111],false,0,0,0,0,[3],false⟩,⟨[98,108,111,99,107],false,0,0,4611686018427387904,1,[],false⟩,⟨[],true,1,3,0,0,[],false⟩,
 ⟨[102,110],true,1,3,8,4,[2],false⟩,⟨[112,114,111,103],false,0,0,200,5,[],false⟩]
def pa(k:Int):qk:=if 1<=k/\k<=26 then qp.getD (k- 1).toNat xm else xm
def qk.ye(r:qk):List EV:=[.str r.word,.bool r.name,.int .i64 r.low,.int .i64 r.high,.int .i64 r.more,.int .i64 r.sort,row r.kids.isEmpty 0 1 (ints r.kids),.bool r.maybe]
noncomputable def qk.cells(r:qk):List EV:=[.str r.word,bo (r.name=true),.int .i64 r.low,.int .i64 r.high,.int .i64 r.more,.int .i64 r.sort,row r.kids.isEmpty 0 1 (ints r.kids),bo (r.maybe=true)]
theorem Qg(b:Bool):EV.bool b=bo (b=true):=by cases b<;>simp[bo]
theorem qk.K8(r:qk):r.ye=r.cells:=by unfold qk.ye qk.cells;rw[Qg r.name,Qg r.maybe]
theorem Zl(n:Nat)(h:n<26):bA B K vI [.int .i64 ((n:Int)+1)]=some (.tuple [.agg (qp.getD n xm).ye,.bool true]):=by
 have hc:n=0\/n=1\/n=2\/n=3\/n=4\/n=5\/n=6\/n=7\/n=8\/n=9\/n=10\/n=11\/n=12\/n=13\/n=14\/n=15\/n=16\/n=17\/n=18\/n=19\/n=20\/n=21\/n=22\/n=23\/n=24\/n=25:=by omega
 rcases hc with rfl|rfl|rfl|rfl|rfl|rfl|rfl|rfl|rfl|rfl|rfl|rfl|rfl|rfl|rfl|rfl|rfl|rfl|rfl|rfl|rfl|rfl|rfl|rfl|rfl|rfl
 all_goals exact Bn 10 fun call=>by kernel_rfl
def ar.fst:ar->ar
 | .seq a _=>a
 |c=>c
def ar.snd:ar->ar
 | .seq _ b=>b
 |c=>c
theorem N0{T:Nat->Option jm}{a b c:ar}{fr:Fr}{m:Mem}:exec T (.seq a (.seq b c)) fr m=nt (exec T (.seq a b) fr m) (exec T c):=by
 rw[wq,wq];cases exec T a fr m with
 |none=>rfl
 |some o=>
  cases o with
  |norm fr m=>simp only[nt];rw[wq];rfl
  |exit id fr m=>rfl
  |ret fr m=>rfl
  |jk v fr m=>rfl
def VL(o:Option Out):Option (EV×EV×bX×List (Nat×List EV)):=match o with
 |some (.norm fr m)=>some (fr.get 0,fr.get 2,m.get 0,fr.defers)
 |_=>none
theorem RZ{o:Option Out}{a b:EV}{c:bX}{d:List (Nat×List EV)}(h:VL o=some (a,b,c,d)):∃fr m,o=some (.norm fr m)/\fr.get 0=a/\fr.get 2=b/\m.get 0=c/\fr.defers=d:=by
 unfold VL at h
 split at h
 ·simp only[bQ,sY]at h;exact⟨_,_,rfl,h.1,h.2.1,h.2.2.1,h.2.2.2⟩
 ·cases h
theorem Re(k:Int)(call:Call):VL (aB call 0 (.seq eE.body.fst eE.body.snd.fst) (kF [.int .i64 k] 0 mP) fT)=some (.int .i64 k,.ptr 0 0,.cells xm.ye 8 kV false,[]):=by kernel_rfl
theorem Rf:eE.body=.seq eE.body.fst (.seq eE.body.snd.fst eE.body.snd.snd):=rfl
theorem UI{k:Int}(h:¬(1<=k/\k<=26)):bA B K vI [.int .i64 k]=some (.tuple [.agg xm.ye,.bool false]):=by
 rw[dY (by simp[eE]),Rf,N0];obtain⟨fr,m,h1,g0,g2,gm,gd⟩:=RZ (Re k (bc (UT B K) 0));rw[cw.2 ⟨0,h1⟩];by_cases a:k<1
 ·simp only[eE,ar.snd,g0,g2,gm,gd,xm,qk.ye,List.isEmpty_nil,a,ao,simprocAttr]
  rfl
 ·have b:27<=k:=by omega
  simp only[eE,ar.snd,g0,g2,gm,gd,xm,qk.ye,List.isEmpty_nil,a,b,ao,simprocAttr]
  rfl
theorem QE{k:Int}:bA B K vI [.int .i64 k]=some (.tuple [.agg (pa k).cells,bo (1<=k/\k<=26)]):=by
 by_cases h:1<=k/\k<=26
 ·obtain⟨n,rfl⟩:∃n:Nat,k=(n:Int)+1:=⟨(k- 1).toNat,by omega⟩
  rw[Zl n (by omega),qk.K8,show pa ((n:Int)+1)=qp.getD n xm by unfold pa;rw[if_pos h,show ((n:Int)+1- 1).toNat=n by omega],<- IR h]
 ·rw[UI h,qk.K8,show pa k=xm by unfold pa;rw[if_neg h],<- mY h]
end
end Go.Proofs.YtfbnghpabppljaaGreatDoor.Ev
