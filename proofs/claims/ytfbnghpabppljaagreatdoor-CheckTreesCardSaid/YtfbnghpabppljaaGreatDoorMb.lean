/- EvOpG, EvOp, EvOps, EvDraw, EvSched, EvMake, EvDraws, EvDrawEnd. -/
import Derived.Test.YtfbnghpabppljaaGreatDoorMa
set_option linter.unusedSimpArgs false
set_option linter.unusedVariables false
set_option linter.unusedSectionVars false
set_option linter.defProp false
set_option maxRecDepth 20000
set_option maxHeartbeats 8000000
namespace Go.Proofs.YtfbnghpabppljaaGreatDoor.Ev
open Go
section
section
variable {base:Nat} {ρ:eR} {m:Mem} {w:World} {P:Program}
theorem Oo(hR:R base ρ m w){t u e:TypeId}{size:Nat}(ht:P.underlying t=some (.slice e))(hs:iK P e=some size){d s:EV}{d' s':Value}(hd:VR ρ d d')(hx:VR ρ s s'){v:EV}{m':Mem}(h:x7 m size d s=some (v,m')) :
  Ac P (Builtin.copy_ #[t,u] t #[d',s']) base ρ m w v m':=by
 unfold x7 at h;cases hd<;>simp only[reduceCtorEq]at h
 case aa=>
  obtain⟨nx,lh,h2⟩:=mH.1 h;cases h2;obtain⟨s1,s2,s3⟩:=kX (P:=P) hR hx size (n:=nx.1) (xs:=nx.2) lh;obtain⟨vs,f1,f2,f3⟩:=s3 0 (nZ _);refine⟨ρ,w,.int .i64 0,?_,.int _ _,hR,.refl _ _ _⟩
  unfold Builtin.copy_;simp only[List.getElem?_toArray,List.getElem?_cons_zero,List.getElem?_cons_succ,Sem.run_bind,run_underlying ht,Result.andThen_ok,s1,cy hs];rw[show Nat.min nx.1 0=0 by simp];simp only[f1,Result.andThen_ok,Sem.run_pure,goInt]
  rfl
 case slice b off len c o L hL hc ho hr=>
  cases lh:m.source size s with
  |none=>simp[lh]at h
  |some nx=>
  obtain⟨n,xs⟩:=nx;simp only[lh]at h;obtain⟨m1,hm1,h2⟩:=mH.1 h;cases h2;obtain⟨s1,s2,s3⟩:=kX (P:=P) hR hx size lh;obtain⟨vs,f1,f2,f3⟩:=s3 (min n len) (Nat.min_le_left _ _);obtain⟨w',r1,r2,r3⟩:=rJ (P:=P) hR hL f2 f3 hm1;have bT:(storeCells ⟨L.dW,o,none⟩ vs).run P w=.ok () w':=by
   rcases Nat.eq_zero_or_pos len with h0|h0
   ·have:vs=[]:=by
     have:=f2.length;rw[h0]at this;simp at this;exact List.eq_nil_of_length_eq_zero this.symm
    subst this;exact r1
   ·rw[ho h0];exact r1
  refine⟨ρ,w',.int .i64 (min n len:Nat),?_,.int _ _,r2,r3⟩
  unfold Builtin.copy_;simp only[List.getElem?_toArray,List.getElem?_cons_zero,List.getElem?_cons_succ,Sem.run_bind,run_underlying ht,Result.andThen_ok,s1,cy hs];rw[show Nat.min n len=min n len from rfl];simp only[f1,Result.andThen_ok,Sem.run_pure,goInt,bT]
 case jA b off a=>
  cases lh:m.source size s with
  |none=>simp[lh]at h
  |some nx=>
  obtain⟨n,xs⟩:=nx;simp only[lh]at h;obtain⟨m1,hm1,h2⟩:=mH.1 h;cases h2;obtain⟨s1,s2,s3⟩:=kX (P:=P) hR hx size lh;obtain⟨vs,f1,f2,f3⟩:=s3 (min n 0) (Nat.min_le_left _ _);obtain⟨q1,q2⟩:=Qu (by rw[Nat.min_zero,Nat.zero_mul,List.take_zero]at hm1;exact hm1);obtain⟨r2,r3⟩:=hR.UD q1 q2;have yv:vs=[]:=by
   have:=f2.length;simp at this;exact List.eq_nil_of_length_eq_zero this.symm
  subst yv;refine⟨ρ,w,.int .i64 (min n 0:Nat),?_,.int _ _,r2,r3⟩
  unfold Builtin.copy_;simp only[List.getElem?_toArray,List.getElem?_cons_zero,List.getElem?_cons_succ,Sem.run_bind,run_underlying ht,Result.andThen_ok,s1,cy hs];rw[show Nat.min n 0=min n 0 from rfl];simp only[f1,Result.andThen_ok,Sem.run_pure,goInt,storeCells]
 case gN b off len c o L hL hc ho=>
  cases lh:m.source size s with
  |none=>simp[lh]at h
  |some nx=>
  obtain⟨n,xs⟩:=nx;simp only[lh]at h;obtain⟨m1,hm1,h2⟩:=mH.1 h;cases h2;obtain⟨s1,s2,s3⟩:=kX (P:=P) hR hx size lh;obtain⟨vs,f1,f2,f3⟩:=s3 (min n len) (Nat.min_le_left _ _);obtain⟨w',r1,r2,r3⟩:=rJ (P:=P) hR hL f2 f3 hm1;have bT:(storeCells ⟨L.dW,o,none⟩ vs).run P w=.ok () w':=by
   rcases Nat.eq_zero_or_pos len with h0|h0
   ·have:vs=[]:=by
     have:=f2.length;rw[h0]at this;simp at this;exact List.eq_nil_of_length_eq_zero this.symm
    subst this;exact r1
   ·rw[ho (by omega)];exact r1
  refine⟨ρ,w',.int .i64 (min n len:Nat),?_,.int _ _,r2,r3⟩
  unfold Builtin.copy_;simp only[List.getElem?_toArray,List.getElem?_cons_zero,List.getElem?_cons_succ,Sem.run_bind,run_underlying ht,Result.andThen_ok,s1,cy hs];rw[show Nat.min n len=min n len from rfl];simp only[f1,Result.andThen_ok,Sem.run_pure,goInt,bT]
def acP(P:Program)(kt:TypeId)(c:Nat):Prop:=∃d,P.underlying kt=some d/\((c=0/\d=.bool)\/(c=1/\d=.string)\/(c=2/\∃k,d=.int k))
theorem yh{kt:TypeId}{c:Nat}(h:Io P kt=some c):acP P kt c:=by
 unfold Io at h;cases hu:P.underlying kt with
 |none=>simp[hu]at h
 |some d=>
  rw[hu]at h;refine⟨d,hu,?_⟩
  cases d<;>simp at h<;>subst h<;>simp
theorem jM{kt:TypeId}{c:Nat}(h:acP P kt c)(b:Bool)(n:Nat)(v:Value)(w:World):(Instr.checkKey b (n+1) kt v).run P w=.ok () w:=by
 obtain⟨d,hu,h⟩:=h;rcases h with⟨_,rfl⟩|⟨_,rfl⟩|⟨_,k,rfl⟩<;>simp[Instr.checkKey,run_underlying hu]
theorem xG:∀{a b:Int},uj a b=decide (a=b)
 | .ofNat a,.ofNat b=>by
  simp only[uj];cases h:a.beq b with
  |true=>simp[bf h]
  |false=>have:=my h;simp;omega
 | .negSucc a,.negSucc b=>by
  simp only[uj];cases h:a.beq b with
  |true=>simp[bf h]
  |false=>have:=my h;simp[this]
 | .ofNat a,.negSucc b=>by simp[uj]
 | .negSucc a,.ofNat b=>by simp[uj]
theorem R9{k l:IntKind}(h:2+cx k=2+cx l):k=l:=lW (by rw[show cx k=cx l by omega];exact dN _)
theorem V7{kt:TypeId}{c:Nat}{d:TypeDesc}(hu:P.underlying kt=some d)(hd:(c=0/\d=.bool)\/(c=1/\d=.string)\/(c=2/\∃k,d=.int k)){k l:EV}{k' l':Value}(hk:VR ρ k k')(hl:VR ρ l l')(kL:oB c k=true)(hs:ni l=ni k) :
  Instr.sameNow d k' l'=some (EV.same k l)/\(EV.same k l=true->Instr.sameBits 10000 l' k'=true):=by
 cases hk<;>simp only[oB,rF]at kL
 case bool a=>
  cases hl<;>simp only[ni]at hs<;>(try (omega))
  ·have:=bf kL;subst this;rcases hd with⟨_,rfl⟩|⟨h,_⟩|⟨h,_⟩
   ·exact⟨rfl,fun h=>by simp[EV.same]at h;simp[Instr.sameBits,h]⟩
   ·cases h
   ·cases h
 case int x a=>
  cases hl<;>simp only[ni]at hs<;>(try (exfalso;cases x<;>simp[cx]at hs;done))
  ·have:=bf kL;subst this;obtain rfl:=R9 hs;rcases hd with⟨h,_⟩|⟨h,_⟩|⟨_,kk,rfl⟩
   ·cases h
   ·cases h
   ·refine⟨?_,fun h=> ?_⟩
    ·simp only[Instr.sameNow,if_true,EV.same,dN,cond_true,xG];rfl
    ·simp only[EV.same,dN,cond_true,xG,decide_eq_true_eq]at h;simp[Instr.sameBits,h]
 case str a=>
  cases hl<;>simp only[ni]at hs<;>(try omega)
  ·have:=bf kL;subst this;rcases hd with⟨h,_⟩|⟨_,rfl⟩|⟨h,_⟩
   ·cases h
   ·refine⟨?_,fun h=> ?_⟩
    ·simp only[Instr.sameNow,EV.same,gJ,bytes_beq]
    ·simp only[EV.same,gJ,decide_eq_true_eq]at h;simp[Instr.sameBits,bytes_beq,h]
   ·cases h
def GU(ρ:eR)(es:List (EV×EV))(ds:List MapEntry):Prop:=es.length=ds.length/\∀(i:Nat) (e:EV×EV) (d:MapEntry),es[i]?=some e->ds[i]?=some d->ae1 ρ e d
theorem GU.cons{e:EV×EV}{es:List (EV×EV)}{ds:List MapEntry}(h:GU ρ (e::es) ds):∃d vr,ds=d::vr/\ae1 ρ e d/\GU ρ es vr:=by
 cases ds with
 |nil=>have:=h.1;simp at this
 |cons d vr=>exact⟨d,vr,rfl,h.2 0 e d rfl rfl,by have:=h.1;simpa using this,fun i a b ha hb=>h.2 (i+1) a b (by simpa using ha) (by simpa using hb)⟩
theorem xX{kt:TypeId}{c:Nat}{d:TypeDesc}(hu:P.underlying kt=some d)(hd:(c=0/\d=.bool)\/(c=1/\d=.string)\/(c=2/\∃k,d=.int k)){k:EV}{k':Value}(hk:VR ρ k k')(kL:oB c k=true) :
  ∀(es:List (EV×EV)) (ds:List MapEntry) (i:Nat),GU ρ es ds->pw k es=true->
   (Instr.findNow d k' ds i=some none/\find k es=none/\(∀v,update k v es=es++[(k,v)])/\erase k es=es)\/
   (∃j v v' old,Instr.findNow d k' ds i=some (some (i+j,v'))/\find k es=some v/\VR ρ v v'/\ds[j]?=some old/\old.val=v'/\(∀u,update k u es=es.set j (k,u))/\erase k es=es.eraseIdx j/\j<es.length/\Instr.sameBits 10000 old.key k'=true):=by
 intro es
 induction es with
 |nil=>
  intro ds i h _;have:ds=[]:=by have:=h.1;simp at this;exact List.eq_nil_of_length_eq_zero this.symm
  subst this;exact .inl ⟨rfl,rfl,fun _=>rfl,rfl⟩
 |cons e es ih=>
  intro ds i h hs;obtain⟨x,vr,rfl,hx,hr⟩:=h.cons;obtain⟨l,u⟩:=e;simp only[pw]at hs;cases Wn:(ni l).beq (ni k)<;>simp only[Wn,cond_true,cond_false,rF]at hs
  obtain⟨ub,NH⟩:=V7 hu hd hk hx.1 kL (bf Wn);cases hq:EV.same k l with
  |true=>
   right
   refine⟨0,u,x.val,x,?_,?_,hx.2,rfl,rfl,fun z=> ?_,?_,by simp,NH hq⟩
   ·simp only[Instr.findNow,ub,hq];rfl
   ·simp[find,hq]
   ·simp[update,hq]
   ·simp[erase,hq]
  |false=>
   rcases ih vr (i+1) hr hs with⟨a1,a2,a3,a4⟩|⟨j,v,v',old,a1,a2,a3,a4,a5,a6,a7,a8,a9⟩
   ·left
    refine⟨?_,by simp[find,hq,a2],fun z=>by simp[update,hq,a3],by simp[erase,hq,a4]⟩
    simp only[Instr.findNow,ub,hq];exact a1
   ·right
    refine⟨j+1,v,v',old,?_,by simp[find,hq,a2],a3,by simpa using a4,a5,fun z=>by simp[update,hq,a6],by simp[erase,hq,a7],by simp;omega,a9⟩
    simp only[Instr.findNow,ub,hq];rw[a1];congr 3;omega
theorem uy{c:Nat}{k:EV}{es:List (EV×EV)}(h:jB c k es=true):oB c k=true/\pw k es=true:=by
 unfold jB at h;cases hk:oB c k<;>simp only[hk,cond_true,cond_false,rF]at h
 exact⟨rfl,h⟩
theorem Hq(hR:R base ρ m w){b:Nat}{L:Loc}(hL:ρ b=some L){es:List (EV×EV)}(hm:m.get b=.map es):∃ds c,w.heap[L.dW]?=some (.map ds c)/\GU ρ es ds.toList/\base<=L.dW/\L.ro=false:=by
 have:=hR.dW b L hL;rw[hm]at this;obtain⟨ds,c,h1,h2,h3,h4⟩:=this;exact⟨ds,c,h1,⟨by simpa using h2,fun i e d he hd=>h3 i e d he (by simpa using hd)⟩,h4⟩
theorem wQ(hR:R base ρ m w){b:Nat}{L:Loc}(hL:ρ b=some L){es fs:List (EV×EV)}(hm:m.get b=.map es){ds gs:Array MapEntry}{c c':Nat}(hw:w.heap[L.dW]?=some (.map ds c))(he:GU ρ fs gs.toList)(Kk:base<=L.dW)(sH:L.ro=false) :
  R base ρ (m.set b (.map fs)) {w with heap:=w.heap.setIfInBounds L.dW (.map gs c')}/\Step ρ m w ρ (m.set b (.map fs)) {w with heap:=w.heap.setIfInBounds L.dW (.map gs c')}:=by
 have vn:Live m b:=by unfold Live;rw[hm];simp
 have oH:∀d,d≠b->(m.set b (.map fs)).get d=m.get d:=fun d hd=>by rw[Mem.ct,if_neg hd]
 have DJ:∀d,Live (m.set b (.map fs)) d->Live m d:=by
  intro d hd;by_cases e:d=b
  ·subst e;exact vn
  ·unfold Live at hd⊢;rwa [oH d e]at hd
 have aH:L.dW<w.heap.size:=(Array.getElem?_eq_some_iff.1 hw).1;have HG:∀k,k≠L.dW->(w.heap.setIfInBounds L.dW (.map gs c'))[k]?=w.heap[k]?:=fun k hk=>by rw[Array.getElem?_setIfInBounds_ne (by omega)]
 refine⟨⟨hR.lt,fun d M hM=> ?_,fun d f M M' h1 h2 h3 h4=>hR.inj d f M M' h1 h2 (DJ d h3) (DJ f h4),by simpa using hR.base,fun d hd=>by rw[oH d (fun e=>by subst e;have:=hR.lt _ _ hL;rw[Mem.aj]at hd;omega)];exact hR.clean d hd⟩,
  ⟨.refl ρ,fun _ h h'=>absurd h h',cR _,fun d hd hn=>oH d (fun e=>by subst e;rw[hL]at hn;cases hn),fun d _ hd=>by rw[oH d (fun e=>by subst e;rw[hm]at hd;cases hd)];exact hd,by simp,fun i hi=> ?_,fun i hi hr=>HG i (fun e=>hr ⟨b,L,hL,vn,sH,e.symm⟩),rfl,rfl,rfl⟩⟩
 ·by_cases e:d=b
  ·subst e;rw[hL]at hM;cases hM;rw[Mem.ct,if_pos rfl];refine⟨gs,c',by simp[aH],by simpa using he.1,fun i x y hx hy=>he.2 i x y hx (by simpa using hy),Kk,sH⟩
  ·rw[oH d e];by_cases hl:m.get d=.dead
   ·rw[hl];trivial
   ·have fR:M.dW≠L.dW:=fun uX=>e (hR.inj b d L M hL hM vn hl sH uX.symm).symm
    exact(hR.dW d M hM).of_heap (.refl ρ) (HG _ fR)
 ·rintro⟨d,M,hM,h1,h2,h3⟩;exact⟨d,M,hM,DJ d h1,h2,h3⟩
theorem run_getObj_map{r:Nat}{ds:Array MapEntry}{c:Nat}(h:w.heap[r]?=some (.map ds c)):(getObj r).run P w=.ok (.map ds c) w:=by simp only[getObj,Sem.run,h]
theorem run_setObj_map{r:Nat}{ds:Array MapEntry}{c:Nat}(h:w.heap[r]?=some (.map ds c))(o:Obj):(setObj r o).run P w=.ok () {w with heap:=w.heap.setIfInBounds r o}:=by simp only[setObj,Sem.run,h]
theorem Hr(hR:R base ρ m w){t kt e:TypeId}{c:Nat}(ht:P.underlying t=some (.map kt e))(hc:Io P kt=some c){z:EV}(hz:GM P e=some z){mp k:EV}{mp' k':Value}(hmp:VR ρ mp mp')(hk:VR ρ k k'){ok:Bool}{fr:bm->EV}{om okk:bm}(e1:fr om=mp)(e2:fr okk=k){v:EV}{m':Mem}
  (h:aL fr (.lookup c z ok om okk) m=some (.val v m')):Ac P (Instr.lookup t mp' k' ok) base ρ m w v m':=by
 obtain⟨zv,z1,z2⟩:=CI (ρ:=ρ) hz;have LJ:=yh hc;have WB:=LJ;obtain⟨d,hu,hd⟩:=WB;simp only[aL,e1,e2]at h;cases hmp<;>simp only[reduceCtorEq]at h
 case bN=>
  cases kL:oB c k<;>simp only[kL,cond_true,cond_false,reduceCtorEq,bQ,R1.val.injEq]at h
  obtain⟨rfl,rfl⟩:=h;refine⟨ρ,w,if ok then .tuple #[zv,.bool false]else zv,?_,?_,hR,.refl _ _ _⟩
  ·simp only[Instr.lookup,Sem.run_bind,run_underlying ht,Result.andThen_ok,Sem.run_pure,jM LJ,Instr.findKey,run_underlying hu,Instr.findNow,z1]
  ·cases ok
   ·exact z2
   ·exact .tuple (.cons z2 (.cons (.bool _) .nil))
 case map b L hL=>
  cases hm:m.get b with
  |dead=>simp[hm]at h
  |cells=>simp[hm]at h
  |map es=>
  simp only[hm]at h;cases py:jB c k es<;>simp only[py,cond_true,cond_false,reduceCtorEq]at h
  obtain⟨kL,Wn⟩:=uy py;obtain⟨ds,cl,hw,vp,_,_⟩:=Hq hR hL hm;rcases xX hu hd hk kL es ds.toList 0 vp Wn with⟨a1,a2,_,_⟩|⟨j,x,x',old,a1,a2,a3,a4,a5,_⟩
  ·simp only[a2,bQ,R1.val.injEq]at h;obtain⟨rfl,rfl⟩:=h;refine⟨ρ,w,if ok then .tuple #[zv,.bool false]else zv,?_,?_,hR,.refl _ _ _⟩
   ·simp only[Instr.lookup,Sem.run_bind,run_underlying ht,Result.andThen_ok,Sem.run_pure,run_getObj_map hw,jM LJ,Instr.findKey,run_underlying hu,a1,z1]
   ·cases ok
    ·exact z2
    ·exact .tuple (.cons z2 (.cons (.bool _) .nil))
  ·simp only[a2,bQ,R1.val.injEq]at h;obtain⟨rfl,rfl⟩:=h;refine⟨ρ,w,if ok then .tuple #[x',.bool true]else x',?_,?_,hR,.refl _ _ _⟩
   ·simp only[Instr.lookup,Sem.run_bind,run_underlying ht,Result.andThen_ok,Sem.run_pure,run_getObj_map hw,jM LJ,Instr.findKey,run_underlying hu,a1]
   ·cases ok
    ·exact a3
    ·exact .tuple (.cons a3 (.cons (.bool _) .nil))
theorem zd(hR:R base ρ m w){t kt e:TypeId}{c:Nat}(ht:P.underlying t=some (.map kt e))(hc:Io P kt=some c){mp k x:EV}{mp' k' x':Value}(hmp:VR ρ mp mp')(hk:VR ρ k k')(hx:VR ρ x x'){fr:bm->EV}{om okk ox:bm}(e1:fr om=mp)(e2:fr okk=k)(e3:fr ox=x){v:EV}{m':Mem}
  (h:aL fr (.pi c om okk ox) m=some (.val v m')):∃w',(Instr.mapUpdate t mp' k' x').run P w=.ok () w'/\v=.undef/\R base ρ m' w'/\Step ρ m w ρ m' w':=by
 have LJ:=yh hc;have WB:=LJ;obtain⟨d,hu,hd⟩:=WB;simp only[aL,e1,e2,e3]at h;cases hmp<;>simp only[reduceCtorEq]at h
 case map b L hL=>
  cases hm:m.get b with
  |dead=>simp[hm]at h
  |cells=>simp[hm]at h
  |map es=>
  simp only[hm]at h;cases py:jB c k es<;>simp only[py,cond_true,cond_false,reduceCtorEq,bQ,R1.val.injEq]at h
  obtain⟨kL,Wn⟩:=uy py;obtain⟨rfl,rfl⟩:=h;obtain⟨ds,cl,hw,vp,hb,sH⟩:=Hq hR hL hm;rcases xX hu hd hk kL es ds.toList 0 vp Wn with⟨a1,_,a3,_⟩|⟨j,y,y',old,a1,_,_,a4,a5,a6,_,a8,a9⟩
  ·obtain⟨q1,q2⟩:=wQ (c':=cl+1) hR hL hm hw (fs:=update k x es) (gs:=ds.push {key:=k',val:=x',born:=cl}) (by
    rw[a3];refine⟨by simp[vp.1],fun i p q hp hq=> ?_⟩
    simp only[Array.toList_push]at hq;by_cases hi:i<es.length
    ·rw[rB hi]at hp;rw[rB (by rw[<- vp.1];exact hi)]at hq;exact vp.2 i p q hp hq
    ·rw[yy (by omega)]at hp;rw[yy (by rw[<- vp.1];omega),<- vp.1]at hq;have h0:i- es.length=0:=by
      have:=(mu.1 hp).1;simp at this;omega
     rw[h0]at hp hq;simp at hp hq;subst hp hq;exact⟨hk,hx⟩) hb sH
   refine⟨_,?_,rfl,q1,q2⟩
   simp only[Instr.mapUpdate,Sem.run_bind,run_underlying ht,Result.andThen_ok,Sem.run_pure,run_getObj_map hw,jM LJ,Instr.findKey,run_underlying hu,a1,run_setObj_map hw]
  ·have YJ:j<ds.size:=by have:=vp.1;simp at this;omega
   have BY:ds[j]?=some old:=by simpa using a4
   obtain⟨q1,q2⟩:=wQ (c':=cl) hR hL hm hw (fs:=update k x es) (gs:=ds.modify j fun e=>{e with key:=k',val:=x'}) (by
    rw[a6];refine⟨by simp;simpa using vp.1,fun i p q hp hq=> ?_⟩
    rw[Array.getElem?_toList,Array.getElem?_modify]at hq;rw[List.getElem?_set]at hp;by_cases PK:j=i
    ·subst PK;rw[if_pos rfl,if_pos a8]at hp;rw[if_pos rfl,BY]at hq;cases hp;cases hq;exact⟨hk,hx⟩
    ·rw[if_neg PK]at hp;rw[if_neg PK]at hq;exact vp.2 i p q hp (by simpa using hq)) hb sH
   refine⟨_,?_,rfl,q1,q2⟩
   simp only[Instr.mapUpdate,Sem.run_bind,run_underlying ht,Result.andThen_ok,Sem.run_pure,run_getObj_map hw,jM LJ,Instr.findKey,run_underlying hu,a1,Nat.zero_add,BY,Option.map_some,Option.getD_some,Instr.keyThatStays,a9,if_true,run_setObj_map hw]
theorem Ie(hR:R base ρ m w){t u kt e:TypeId}{c:Nat}(ht:P.underlying t=some (.map kt e))(hc:Io P kt=some c){mp k:EV}{mp' k':Value}(hmp:VR ρ mp mp')(hk:VR ρ k k'){fr:bm->EV}{om okk:bm}(e1:fr om=mp)(e2:fr okk=k){v:EV}{m':Mem}(ty:TypeId)
  (h:aL fr (.delete c om okk) m=some (.val v m')):Ac P (Builtin.delete_ #[t,u] ty #[mp',k']) base ρ m w v m':=by
 have LJ:=yh hc;have WB:=LJ;obtain⟨d,hu,hd⟩:=WB;simp only[aL,e1,e2]at h;cases hmp<;>simp only[reduceCtorEq]at h
 case bN=>
  cases kL:oB c k<;>simp only[kL,cond_true,cond_false,reduceCtorEq,bQ,R1.val.injEq]at h
  obtain⟨rfl,rfl⟩:=h;refine⟨ρ,w,.tuple #[],?_,.tuple .nil,hR,.refl _ _ _⟩
  simp only[Builtin.delete_,List.getElem?_toArray,List.getElem?_cons_zero,List.getElem?_cons_succ,Sem.run_bind,run_underlying ht,Result.andThen_ok,jM LJ,Sem.run_pure]
 case map b L hL=>
  cases hm:m.get b with
  |dead=>simp[hm]at h
  |cells=>simp[hm]at h
  |map es=>
  simp only[hm]at h;cases py:jB c k es<;>simp only[py,cond_true,cond_false,reduceCtorEq,bQ,R1.val.injEq]at h
  obtain⟨kL,Wn⟩:=uy py;obtain⟨rfl,rfl⟩:=h;obtain⟨ds,cl,hw,vp,hb,sH⟩:=Hq hR hL hm;rcases xX hu hd hk kL es ds.toList 0 vp Wn with⟨a1,_,_,a4⟩|⟨j,y,y',old,a1,_,_,a4,_,_,a7,a8,_⟩
  ·obtain⟨q1,q2⟩:=wQ (c':=cl) hR hL hm hw (fs:=erase k es) (gs:=ds) (by rw[a4];exact vp) hb sH;refine⟨ρ,_,.tuple #[],?_,.tuple .nil,q1,q2⟩
   simp only[Builtin.delete_,List.getElem?_toArray,List.getElem?_cons_zero,List.getElem?_cons_succ,Sem.run_bind,run_underlying ht,Result.andThen_ok,run_getObj_map hw,jM LJ,Instr.findKey,run_underlying hu,a1,Sem.run_pure,run_setObj_map hw]
  ·obtain⟨q1,q2⟩:=wQ (c':=cl) hR hL hm hw (fs:=erase k es) (gs:=ds.eraseIdxIfInBounds j) (by
    rw[a7];have YJ:j<ds.size:=by have:=vp.1;simp at this;omega
    have hl:(ds.eraseIdxIfInBounds j).toList=ds.toList.eraseIdx j:=by simp[Array.eraseIdxIfInBounds,YJ]
    rw[hl];refine⟨by rw[List.length_eraseIdx,List.length_eraseIdx,vp.1],fun i p q hp hq=> ?_⟩
    rw[List.getElem?_eraseIdx]at hp hq;by_cases PK:i<j
    ·rw[if_pos PK]at hp hq;exact vp.2 i p q hp hq
    ·rw[if_neg PK]at hp hq;exact vp.2 (i+1) p q hp hq) hb sH
   refine⟨ρ,_,.tuple #[],?_,.tuple .nil,q1,q2⟩
   simp only[Builtin.delete_,List.getElem?_toArray,List.getElem?_cons_zero,List.getElem?_cons_succ,Sem.run_bind,run_underlying ht,Result.andThen_ok,run_getObj_map hw,jM LJ,Instr.findKey,run_underlying hu,a1,Sem.run_pure,Nat.zero_add,run_setObj_map hw]
theorem VI:∀(l:List EV) (l':List Value) (k:IntKind) (x:Int) (v:EV),gi ρ l l'->ng k x l=some v->∃v',VR ρ v v'/\(l'.foldlM Builtin.max2 (.int k x)).run P w=.ok v' w:=by
 intro l
 induction l with
 |nil=>intro l' k x v hl h;cases hl;simp[ng]at h;subst h;exact⟨_,.int _ _,rfl⟩
 |cons y l ih=>
  intro l' k x v hl h;cases hl with
  |cons hy hs=>
  cases hy with
  |int k2 n=>
   simp only[ng]at h;cases hk:(cx k).beq (cx k2)<;>simp only[hk,cond_true,cond_false,reduceCtorEq]at h
   obtain rfl:=lW hk;obtain⟨v',h1,h2⟩:=ih _ k _ v hs h;exact⟨v',h1,by simp only[List.foldlM_cons,Builtin.max2,Sem.run_bind,Sem.run_pure,Result.andThen_ok,h2]⟩
  |_=>simp[ng]at h
theorem VG:∀(l:List EV) (l':List Value) (k:IntKind) (x:Int) (v:EV),gi ρ l l'->qB k x l=some v->∃v',VR ρ v v'/\(l'.foldlM Builtin.min2 (.int k x)).run P w=.ok v' w:=by
 intro l
 induction l with
 |nil=>intro l' k x v hl h;cases hl;simp[qB]at h;subst h;exact⟨_,.int _ _,rfl⟩
 |cons y l ih=>
  intro l' k x v hl h;cases hl with
  |cons hy hs=>
  cases hy with
  |int k2 n=>
   simp only[qB]at h;cases hk:(cx k).beq (cx k2)<;>simp only[hk,cond_true,cond_false,reduceCtorEq]at h
   obtain rfl:=lW hk;obtain⟨v',h1,h2⟩:=ih _ k _ v hs h;exact⟨v',h1,by simp only[List.foldlM_cons,Builtin.min2,Sem.run_bind,Sem.run_pure,Result.andThen_ok,h2]⟩
  |_=>simp[qB]at h
theorem RW{l:List EV}{l':List Value}(hl:gi ρ l l'){v:EV}(h:sl l=some v)(a:Array TypeId)(t:TypeId):∃v',VR ρ v v'/\(Builtin.max_ a t ⟨l'⟩).run P w=.ok v' w:=by
 cases hl with
 |nil=>simp[sl]at h
 |cons hx hs=>
  cases hx with
  |int k n=>exact VI _ _ k n v hs h
  |_=>simp[sl]at h
theorem RU{l:List EV}{l':List Value}(hl:gi ρ l l'){v:EV}(h:BD l=some v)(a:Array TypeId)(t:TypeId):∃v',VR ρ v v'/\(Builtin.min_ a t ⟨l'⟩).run P w=.ok v' w:=by
 cases hl with
 |nil=>simp[BD]at h
 |cons hx hs=>
  cases hx with
  |int k n=>exact VG _ _ k n v hs h
  |_=>simp[BD]at h
end
end
section
section
variable {G:List Nat} {base:Nat} {ρ:eR} {m:Mem} {w:World} {P:Program} {n:Nat} {fr:Fr} {a:Act}
theorem iu{v:EV}{m m':Mem}{x:Option EV}(h:jb m x=some (.val v m')):x=some v/\m'=m:=by
 unfold jb at h;obtain⟨y,hy,h2⟩:=mH.1 h;cases h2;exact⟨hy,rfl⟩
theorem oi{v:EV}{m':Mem}{x:Option (EV×Mem)}(h:w8 x=some (.val v m')):x=some (v,m'):=by
 unfold w8 at h;obtain⟨y,hy,h2⟩:=mH.1 h;cases h2;exact hy
theorem ZE{v:EV}{m':Mem}{x:Option Mem}(h:ofM x=some (.val v m')):x=some m'/\v=.undef:=by
 unfold ofM at h;obtain⟨y,hy,h2⟩:=mH.1 h;cases h2;exact⟨hy,rfl⟩
theorem ah{α β:Type}{x:Option α}{f:α->β}{y:β}(h:x.map f=some y):∃a,x=some a/\f a=y:=mH.1 h
theorem XE{op:BinOp}{neg:Bool}(oF:(op=.eql/\neg=false)\/(op=.neq/\neg=true)){t:TypeId}{e:ua}(he:pW P 20 t=some e)(oQ:P.eqGuardType P.depth t=false\/∃ms,P.underlying t=some (.interface ms)){ox oy:Operand}{x y:EV}{x' y':Value}(hx:VR ρ x x')(hy:VR ρ y y'){b:Bool}(h:ft e x y=some b) :
  ((do eqGuard op t ox oy x' y';binOp op t x' y'):Sem Value).run P w=.ok (.bool (neg^^b)) w:=by
 have hr:=Oa (P:=P) (w:=w) 20 t e he Op.maxDepth (by decide) x y x' y' hx hy b h;have aej:(eqGuard op t ox oy x' y').run P w=.ok () w:=by
  cases hx with
  |agg hv hf=>
   cases hy with
   |agg tE hf'=>
    rcases oQ with oQ|⟨ms,hms⟩
    ·rcases oF with⟨rfl,rfl⟩|⟨rfl,rfl⟩<;>simp[eqGuard,oQ]
    ·simp[pW,hms]at he;subst he;simp[ft,ew]at h
   |undef=>cases e<;>simp[ft,ew]at h
   |_=>rcases oF with⟨rfl,rfl⟩|⟨rfl,rfl⟩<;>rfl
  |undef=>cases e<;>simp[ft,ew]at h
  |aP=>
   cases hy with
   |aP=>
    exfalso;cases e with
    |bG k=>simp[ft,ew]at h
    |agg es=>simp[ft]at h
   |undef=>cases e<;>simp[ft,ew]at h
   |_=>rcases oF with⟨rfl,rfl⟩|⟨rfl,rfl⟩<;>rfl
  |_=>rcases oF with⟨rfl,rfl⟩|⟨rfl,rfl⟩<;>rfl
 simp only[Sem.run_bind,aej,Result.andThen_ok]
 -- whole numbers and strings are aiY by other ways
 cases hx with
 |int k z=>
  cases hy with
  |int l u=>
   cases e with
   |agg es=>simp[ft]at h
   |bG q=>
    simp only[ft,ew]at h;cases hq:q.beq 1<;>simp only[hq,cond_true,cond_false,reduceCtorEq]at h
    cases hk:(cx k).beq (cx l)<;>simp only[hk,cond_true,cond_false,reduceCtorEq,bQ]at h
    obtain rfl:=lW hk;subst h;rcases oF with⟨rfl,rfl⟩|⟨rfl,rfl⟩
    ·simp[binOp,Op.intCmp];rfl
    ·simp[binOp,Op.intCmp];rfl
  |_=>cases e<;>simp[ft,ew]at h
 |str s=>
  cases hy with
  |str s2=>
   cases e with
   |agg es=>simp[ft]at h
   |bG q=>
    simp only[ft,ew]at h;cases hq:q.beq 2<;>simp only[hq,cond_true,cond_false,reduceCtorEq,bQ]at h
    subst h;rcases oF with⟨rfl,rfl⟩|⟨rfl,rfl⟩<;>simp only[binOp,Op.stringOp,yk,gJ,DA]<;>simp
  |_=>cases e<;>simp[ft,ew]at h
 |_=>
  cases hy<;>(first
   |(cases e<;>simp[ft,ew]at h;done)
   |(rcases oF with⟨rfl,rfl⟩|⟨rfl,rfl⟩
     ·simp only[binOp,Op.equal,Sem.run_bind,hr,Result.andThen_ok,Sem.run_pure];simp
     ·simp only[binOp,Op.equal,Sem.run_bind,hr,Result.andThen_ok,Sem.run_pure];simp))
theorem Lf{o:Oper}{c:Go.Call}(ho:o.op=.call c){b:Builtin}(hb:c.callee=.builtin b) :
  execOp a.eval o=builtin b c.argTypes o.type (c.args.map fun| .const _=>true|_=>false) (c.args.map a.eval):=by
 simp only[execOp,ho,resolve,hb]
 rfl
theorem R5(hR:R base ρ m w){t ty:TypeId}{e:TypeId}(hu:P.underlying t=some (.slice e)){x:EV}{x':Value}(hx:VR ρ x x'){v:EV}{fr:bm->EV}{ox:bm}(e1:fr ox=x){m':Mem}(h:aL fr (.len ox) m=some (.val v m')) :
  Ac P (Builtin.len_ #[t] ty #[x']) base ρ m w v m':=by
 simp only[aL,e1]at h;cases hx<;>simp only[reduceCtorEq,bQ,R1.val.injEq]at h
 all_goals
  obtain⟨rfl,rfl⟩:=h;exact⟨ρ,w,_,by simp only[Builtin.len_,List.getElem?_toArray,List.getElem?_cons_zero,Sem.run_bind,run_underlying hu,Result.andThen_ok,Sem.run_pure,goInt]<;>rfl,.int _ _,hR,.refl _ _ _⟩
theorem Hu(hR:R base ρ m w){t ty:TypeId}(hu:P.underlying t=some .string){x:EV}{x':Value}(hx:VR ρ x x'){v:EV}{fr:bm->EV}{ox:bm}(e1:fr ox=x){m':Mem}(h:aL fr (.gj ox) m=some (.val v m')) :
  Ac P (Builtin.len_ #[t] ty #[x']) base ρ m w v m':=by
 simp only[aL,e1]at h;cases hx<;>simp only[reduceCtorEq,bQ,R1.val.injEq]at h
 case str s=>
  obtain⟨rfl,rfl⟩:=h;exact⟨ρ,w,.int .i64 (s.size:Int),by simp[Builtin.len_,run_underlying hu,goInt],.int _ _,hR,.refl _ _ _⟩
theorem Hv(hR:R base ρ m w){t ty k e:TypeId}(hu:P.underlying t=some (.map k e)){x:EV}{x':Value}(hx:VR ρ x x'){v:EV}{fr:bm->EV}{ox:bm}(e1:fr ox=x){m':Mem}(h:aL fr (.sG ox) m=some (.val v m')) :
  Ac P (Builtin.len_ #[t] ty #[x']) base ρ m w v m':=by
 simp only[aL,e1]at h;cases hx<;>simp only[reduceCtorEq,bQ,R1.val.injEq]at h
 case bN=>
  obtain⟨rfl,rfl⟩:=h;exact⟨ρ,w,_,by simp only[Builtin.len_,List.getElem?_toArray,List.getElem?_cons_zero,Sem.run_bind,run_underlying hu,Result.andThen_ok,Sem.run_pure,goInt]<;>rfl,.int _ _,hR,.refl _ _ _⟩
 case map b L hL=>
  cases hm:m.get b with
  |dead=>simp[hm]at h
  |cells=>simp[hm]at h
  |map es=>
   simp only[hm,bQ,R1.val.injEq]at h;obtain⟨rfl,rfl⟩:=h;obtain⟨ds,c,hw,he,_⟩:=Hq hR hL hm;refine⟨ρ,w,.int .i64 (ds.size:Int),?_,?_,hR,.refl _ _ _⟩
   ·simp[Builtin.len_,run_underlying hu,goInt,run_getObj_map hw]
   ·have:=he.1;simp at this;rw[this];exact .int _ _
theorem Fo(hR:R base ρ m w){b:Builtin}{ts:List TypeId}{EX:List Value}{ys:List bm}(hv:gi ρ (ys.map fr.eval) EX){io:oa}(hc:wx P b ts ys=some io)(ty:TypeId)(cs:Array Bool){v:EV}{m':Mem}(h:aL fr.eval io m=some (.val v m')) :
  Good base ρ m w v m' ((builtin b ⟨ts⟩ ty cs ⟨EX⟩).run P w):=by
 unfold wx at hc
 split at hc
 ·-- len
  rename_i t x
  cases hv with
  |cons hx hn=>
  cases hn;cases hu:P.underlying t with
  |none=>simp[hu]at hc
  |some d=>
   rw[hu]at hc;cases d<;>simp only[reduceCtorEq,bQ]at hc<;>subst hc
   case string=>exact(Hu hR hu hx rfl h).vb
   case slice e=>exact(R5 hR hu hx rfl h).vb
   case map k e=>exact(Hv hR hu hx rfl h).vb
   case array k e=>
    simp only[aL,bQ,R1.val.injEq]at h;obtain⟨rfl,rfl⟩:=h;exact Good.still (s:=Builtin.len_ #[t] ty #[_]) hR (by simp[Builtin.len_,run_underlying hu,goInt]) (.int _ _)
 ·-- cap
  rename_i t x
  cases hv with
  |cons hx hn=>
  cases hn;cases hu:P.underlying t with
  |none=>simp[hu]at hc
  |some d=>
   rw[hu]at hc;cases d<;>simp only[reduceCtorEq,bQ]at hc
   subst hc;simp only[aL]at h;generalize tJ:fr.eval x=e at hx h;cases hx<;>simp only[reduceCtorEq,bQ,R1.val.injEq]at h
   all_goals
    obtain⟨rfl,rfl⟩:=h;exact Good.still (s:=Builtin.cap_ #[t] ty #[_]) hR (by simp[Builtin.cap_,run_underlying hu,goInt]) (.int _ _)
 ·-- max
  cases hc;simp only[aL]at h;obtain⟨h1,rfl⟩:=iu h;obtain⟨v',r1,r2⟩:=RW (P:=P) (w:=w) hv h1 ⟨ts⟩ ty;exact Good.still (s:=Builtin.max_ ⟨ts⟩ ty ⟨EX⟩) hR r2 r1
 ·cases hc;simp only[aL]at h;obtain⟨h1,rfl⟩:=iu h;obtain⟨v',r1,r2⟩:=RU (P:=P) (w:=w) hv h1 ⟨ts⟩ ty;exact Good.still (s:=Builtin.min_ ⟨ts⟩ ty ⟨EX⟩) hR r2 r1
 ·-- append
  rename_i t u s x
  cases hv with
  |cons hs hn=>
  cases hn with
  |cons hx hn=>
  cases hn;obtain⟨e,he,hc⟩:=Option.bind_eq_some_iff.1 hc;obtain⟨_,lh,hc⟩:=Option.bind_eq_some_iff.1 hc;obtain⟨i,hi,hc⟩:=Option.bind_eq_some_iff.1 hc;obtain⟨z,hz,hc⟩:=Option.bind_eq_some_iff.1 hc;obtain⟨_,hq,hc⟩:=Option.bind_eq_some_iff.1 hc;cases Gi:z.length.beq i.size<;>simp only[Gi,cond_true,cond_false,reduceCtorEq]at hq
  cases hb:i.bytes.ble 65536<;>simp only[hb,cond_true,cond_false,reduceCtorEq,bQ]at hc
  subst hc;have ht:P.underlying t=some (.slice e):=by
   unfold O2 at he
   split at he
   ·cases he;assumption
   ·cases he
  have Gk:∃du,P.underlying u=some du/\((∃v,du=.slice v)\/du=.string):=by
   unfold ab4 at lh
   split at lh
   ·exact⟨_,by assumption,.inl ⟨_,rfl⟩⟩
   ·exact⟨_,by assumption,.inr rfl⟩
   ·cases lh
  obtain⟨du,hu,Gk⟩:=Gk;simp only[aL]at h;have an0:=Is (P:=P) hR ht hu Gk hi hz (bf Gi) (rI hb) hs hx (oi h);obtain⟨ρ',w',v',r1,r2⟩:=an0;exact(show Ac P (Builtin.append_ #[t,u] ty #[_,_]) base ρ m w v m' from⟨ρ',w',v',r1,r2⟩).vb
 ·-- copy
  rename_i t u s x
  cases hv with
  |cons hs hn=>
  cases hn with
  |cons hx hn=>
  cases hn;cases ht:P.underlying t with
  |none=>simp[ht]at hc
  |some dt=>
   rw[ht]at hc;cases dt<;>simp only[reduceCtorEq]at hc
   rename_i e
   cases hz:iK P e with
   |none=>simp[hz]at hc
   |some k=>
    simp only[hz,bQ]at hc;subst hc;simp only[aL]at h;obtain⟨ρ',w',v',r1,r2⟩:=Oo (P:=P) (u:=u) hR ht hz hs hx (oi h);exact(show Ac P (Builtin.copy_ #[t,u] ty #[_,_]) base ρ m w v m' from⟨ρ',w',v',r1,r2⟩).vb
 ·-- delete
  rename_i t u s x
  cases hv with
  |cons hs hn=>
  cases hn with
  |cons hx hn=>
  cases hn;cases ht:P.underlying t with
  |none=>simp[ht]at hc
  |some dt=>
   rw[ht]at hc;cases dt<;>simp only[reduceCtorEq]at hc
   rename_i kt e
   obtain⟨c,hk,rfl⟩:=ah hc;exact(Ie (P:=P) (u:=u) hR ht hk hs hx rfl rfl ty h).vb
 ·cases hc
theorem Good.Dm{v:EV}{s:Sem Value}(hR:R base ρ m w)(h:∃v',VR ρ v v'/\s.run P w=.ok v' w):Good base ρ m w v m ((do pure (Next.value (<- s)):Sem Next).run P w):=
 let ⟨_,h1,h2⟩:=h;Good.still hR h2 h1
theorem mv{t e:TypeId}(h:vA P t=some e):P.underlying t=some (.slice e):=by
 unfold vA at h;split at h<;>cases h;assumption
theorem wH{t:TypeId}{q:Nat×TypeId}(h:Ao P t=some q):P.underlying t=some (.array q.1 q.2):=by
 unfold Ao at h;split at h<;>cases h;assumption
theorem xD{t:TypeId}{fs:Array Field}(h:yB P t=some fs):P.underlying t=some (.struct fs):=by
 unfold yB at h;split at h<;>cases h;assumption
theorem yC{t:TypeId}{q:TypeId×TypeId}(h:LS P t=some q):P.underlying t=some (.map q.1 q.2):=by
 unfold LS at h;split at h<;>cases h;assumption
theorem nh{t:TypeId}{u:Unit}(h:rL P t=some u):P.underlying t=some .string:=by
 unfold rL at h;split at h<;>cases h;assumption
theorem Ch{t:TypeId}{k:IntKind}(h:TR P t=some k):P.underlying t=some (.int k):=by
 unfold TR at h;split at h<;>cases h;assumption
theorem QD{t:TypeId}{u:Unit}(h:LU P t=some u):∃ms,P.underlying t=some (.interface ms):=by
 unfold LU at h;split at h<;>cases h;exact⟨_,by assumption⟩
theorem An{t:TypeId}{u:Unit}(h:CQ P t=some u):∃d,P.underlying t=some d/\∀ms,d≠.interface ms:=by
 unfold CQ at h;cases hu:P.underlying t with
 |none=>rw[hu]at h;cases h
 |some d=>rw[hu]at h;refine⟨d,rfl,fun ms e=> ?_⟩;subst e;cases h
theorem ld{b:Bool}{u:Unit}(h:ph b=some u):b=true:=by
 unfold ph at h;cases b<;>simp at h;rfl
theorem iA{x y:Option oa}{r:oa}(h:Yx x y=some r):x=some r\/y=some r:=by
 unfold Yx at h;cases x with
 |none=>exact .inr h
 |some z=>exact .inl h
theorem ag{α β:Type}{x:Option α}{f:α->Option β}{y:β}(h:x.bind f=some y):∃a,x=some a/\f a=some y:=Option.bind_eq_some_iff.1 h
theorem Dk{o:Oper}{io:oa}(hc:cOp P G o=some io)(hG:lx G ρ)(hR:R base ρ m w)(hF:FR ρ n fr a){v:EV}{m':Mem}(h:aL fr.eval io m=some (.val v m')) :
  Good base ρ m w v m' ((execOp a.eval o).run P w):=by
 have E:∀{x:Operand} {y:bm},fS G x=some y->VR ρ (fr.eval y) (a.eval x):=fun h=>j3 hG hF h
 have EO:∀{x:Option Operand} {y:Option bm},Ld G x=some y->uN ρ (y.map fr.eval) (x.map a.eval):=fun h=>OH hG hF h
 unfold cOp at hc
 split at hc
 case h_1 x ho=>
  obtain⟨y,hy,rfl⟩:=ah hc;simp only[aL,bQ,R1.val.injEq]at h;obtain⟨rfl,rfl⟩:=h;exact⟨ρ,w,a.eval x,.inl (by simp only[execOp,ho];rfl),E hy,hR,.refl _ _ _⟩
 case h_2 x ho=>
  obtain⟨y,hy,rfl⟩:=ah hc;simp only[aL,bQ,R1.val.injEq]at h;obtain⟨rfl,rfl⟩:=h;exact⟨ρ,w,a.eval x,.inl (by simp only[execOp,ho];rfl),E hy,hR,.refl _ _ _⟩
 case h_3 c x y ho=>
  obtain⟨c',h1,hc⟩:=ag hc;obtain⟨x',h2,hc⟩:=ag hc;obtain⟨y',h3,rfl⟩:=ah hc;have wW:=E h1;simp only[aL]at h;generalize fr.eval c'=cv at wW h;generalize wa:a.eval c=cc at wW;cases wW<;>simp only[reduceCtorEq,bQ,R1.val.injEq]at h
  rename_i b
  obtain⟨rfl,rfl⟩:=h;refine⟨ρ,w,if b then a.eval x else a.eval y,.inl (by simp only[execOp,ho,wa,asBool,Sem.run_bind,Sem.run_pure,Result.andThen_ok]),?_,hR,.refl _ _ _⟩
  cases b
  ·exact E h3
  ·exact E h2
 case h_4 e ho=>
  obtain⟨z,hz,rfl⟩:=ah hc;simp only[aL,bQ,R1.val.injEq]at h;obtain⟨rfl,rfl⟩:=h;simp only[execOp,ho];exact((Ey hR.n hz).runs hR).vb
 case h_5 e x ho=>
  obtain⟨y,hy,rfl⟩:=ah hc;simp only[aL]at h;cases nX:(fr.eval y).cells with
  |none=>simp[nX]at h
  |some cs=>
   simp only[nX,bQ,R1.val.injEq]at h;obtain⟨rfl,rfl⟩:=h;simp only[execOp,ho];exact((Lh hR.n (E hy) nX).runs hR).vb
 case h_6 t parts ho=>
  obtain⟨z,hz,hc⟩:=ag hc;obtain⟨zv,z1,z2,z3⟩:=pA (ρ:=ρ) hz;rcases iA hc with hc|hc
  ·obtain⟨fs,hu,hc⟩:=ag hc;obtain⟨_,hall,hc⟩:=ag hc;obtain⟨ps,hp,rfl⟩:=ah hc;have hu:=xD hu;have hall:=ld hall;simp only[aL]at h;have hE:=iu (x:=(eQ z (ps.map fun p=>(p.1,p.2.1,fr.eval p.2.2))).map .agg) h;obtain⟨hE1,hE2⟩:=hE;subst hE2;obtain⟨ds,hf,hE3⟩:=mH.1 hE1;subst hE3;obtain⟨p1,p2⟩:=Bo hG hF hp;have Z7:∀(l:List Field) (w:World),(∀f∈l,∃s,iK P f.type=some s)->(l.mapM fun(f:Field)=>(do pure (f.offset,<- sizeOf f.type):Sem (Nat×Nat))).run P w=.ok (l.map fun f=>(f.offset,(iK P f.type).getD 0)) w:=by
    intro l w hl
    induction l with
    |nil=>rfl
    |cons f l ih=>
     obtain⟨s,hs⟩:=hl f (by simp);simp only[List.mapM_cons,Sem.run_bind,cy hs,Result.andThen_ok,Sem.run_pure,ih (fun g hg=>hl g (by simp[hg])),List.map_cons,hs,Option.getD_some]
   have hpl:=Z7 fs.toList w (fun f hf=>Option.isSome_iff_exists.1 (List.all_eq_true.1 hall f hf));obtain⟨vr,f1,f2,f3,_⟩:=xY (ρ:=ρ) (place:=fun i=>(fs.toList.map fun f=>(f.offset,(iK P f.type).getD 0)).toArray[i]?) _ (parts.toList.map fun p=>(p.1,a.eval p.2)) z zv.cells z2 z3 p1 (fun i p q hp' Gi=>by
    obtain⟨g1,g2⟩:=p2 i p q hp' Gi;refine⟨?_,g2⟩
    obtain⟨f,eH,vZ⟩:=ag g1;obtain⟨s,ub,NH⟩:=ah vZ;rw[<- NH];have:fs.toList[q.1]?=some f:=by simpa using eH
    simp[eH,ub]) ds hf
   have mB:(Instr.build t (parts.map fun(i,x)=>(i,a.eval x))).run P w=.ok (.agg vr) w:=by
    simp only[Instr.build,Sem.run_bind,z1,Result.andThen_ok,run_underlying hu,Array.toList_map];rw[show (fs.mapM fun f=>(do pure (f.offset,<- sizeOf f.type):Sem (Nat×Nat))).run P w=.ok (fs.toList.map fun f=>(f.offset,(iK P f.type).getD 0)).toArray w by
     rw[Array.mapM_eq_mapM_toList,Sem.run_map,hpl];rfl]
    simp only[Result.andThen_ok,f1,Sem.run_pure]
   simp only[execOp,ho];exact Good.still hR mB (.agg f2 f3)
  ·obtain⟨q,hu,hc⟩:=ag hc;obtain⟨s,hs,hc⟩:=ag hc;obtain⟨ps,hp,rfl⟩:=ah hc;have hu:=wH hu;simp only[aL]at h;have hE:=iu (x:=(eQ z (ps.map fun p=>(p.1,p.2.1,fr.eval p.2.2))).map .agg) h;obtain⟨hE1,hE2⟩:=hE;subst hE2;obtain⟨ds,hf,hE3⟩:=mH.1 hE1;subst hE3;obtain⟨p1,p2⟩:=Bo hG hF hp;obtain⟨vr,f1,f2,f3,_⟩:=xY (ρ:=ρ) (place:=fun i=>some (i*s,s)) _ (parts.toList.map fun p=>(p.1,a.eval p.2)) z zv.cells z2 z3 p1 (fun i p q hp' Gi=>p2 i p q hp' Gi) ds hf;have mB:(Instr.build t (parts.map fun(i,x)=>(i,a.eval x))).run P w=.ok (.agg vr) w:=by simp only[Instr.build,Sem.run_bind,z1,Result.andThen_ok,run_underlying hu,Array.toList_map,cy hs,f1,Sem.run_pure]
   simp only[execOp,ho];exact Good.still hR mB (.agg f2 f3)
 case h_7 t len parts ho=>
  obtain⟨e,hu,hc⟩:=ag hc;obtain⟨s,hs,hc⟩:=ag hc;obtain⟨z,hz,hc⟩:=ag hc;obtain⟨ps,hp,hc⟩:=ag hc;obtain⟨_,HD,hc⟩:=ag hc;obtain⟨_,hl,rfl⟩:=ah hc;have hu:=mv hu;simp only[aL]at h;cases nX:eQ (eA len z) (ps.map fun p=>(p.1*s,s,fr.eval p.2))with
  |none=>simp[nX]at h
  |some cs=>
   simp only[nX,bQ,R1.val.injEq]at h;obtain⟨rfl,rfl⟩:=h;obtain⟨p1,p2⟩:=mapM_some _ hp;have hb:=BI (P:=P) hR.n hu hs hz (bf (ld HD)) (rI (ld hl)) (qs:=parts.toList.map fun p=>(p.1,a.eval p.2)) (by simpa using p1.symm) (fun i p q hp' Gi=>by
    rw[List.getElem?_map]at hp' Gi;obtain⟨p0,hp0,rfl⟩:=mH.1 hp';obtain⟨q0,hq0,rfl⟩:=mH.1 Gi;obtain⟨x,hx,hxp⟩:=ah (p2 i q0 p0 hq0 hp0);subst hxp;exact⟨⟨rfl,rfl⟩,E hx⟩) nX
   simp only[execOp,ho];have:(parts.map fun(i,x)=>(i,a.eval x))=(⟨parts.toList.map fun p=>(p.1,a.eval p.2)⟩:Array (Nat×Value)):=by apply Array.ext';simp
   rw[this];exact(hb.runs hR).vb
 case h_8 t x ho=>
  obtain⟨g,hg,hc⟩:=ag hc;obtain⟨y,hy,rfl⟩:=ah hc;simp only[aL]at h;obtain⟨h1,h2⟩:=iu h;subst h2;obtain⟨ad,v',e1,e2,e3⟩:=xw (P:=P) hR hg (E hy) h1;simp only[execOp,ho];refine Good.still (s:=Instr.loadAt t (a.eval x)) hR (v':=v') ?_ e3
  rw[e1];simp only[Instr.loadAt,Instr.sureAddr,Sem.run_bind,Sem.run_pure,Result.andThen_ok,e2]
 case h_9 t x y ho=>
  obtain⟨s,hs,hc⟩:=ag hc;obtain⟨x',hx,hc⟩:=ag hc;obtain⟨y',hy,rfl⟩:=ah hc;simp only[aL]at h;obtain⟨h1,rfl⟩:=ZE h;have uU:=E hx;have ES:=E hy;unfold Mem.store at h1;cases hx0:fr.eval x'<;>simp only[hx0,reduceCtorEq]at h1
  rename_i b off
  cases nX:(fr.eval y').cells with
  |none=>simp[nX]at h1
  |some vs=>
   simp only[nX]at h1;cases hl:vs.length.beq s<;>simp only[hl,cond_true,cond_false,reduceCtorEq]at h1
   rw[hx0]at uU;generalize HO:a.eval x=av at uU;cases uU with
   | @ptr _ _ L hL=>
   obtain⟨c1,c2⟩:=ES.cells nX;obtain⟨w',r1,r2,r3⟩:=rJ (P:=P) hR hL c1 c2 h1;refine⟨ρ,w',undef,.inr ⟨?_,rfl⟩,.undef,r2,r3⟩
   have tF:(a.eval y).cells.size=s:=by rw[<- bf hl,c1.length];simp
   simp only[execOp,ho,HO,Instr.storeAt,Instr.sureAddr,storeVar,Sem.run_bind,Sem.run_pure,Result.andThen_ok,cy hs];rw[if_neg (by simp[tF])];simp only[r1,Result.andThen_ok]
 case h_10 x ho=>
  obtain⟨y,hy,rfl⟩:=ah hc;have ES:=E hy;simp only[aL]at h;generalize fr.eval y=e at ES h;generalize HO:a.eval x=av at ES;cases ES<;>simp only[reduceCtorEq,bQ,R1.val.injEq]at h
  case ptr b off L hL=>
   obtain⟨rfl,rfl⟩:=h;exact⟨ρ,w,_,.inl (by simp only[execOp,ho,HO];rfl),.ptr hL,hR,.refl _ _ _⟩
  case func f p q p' q' h1 h2=>
   obtain⟨rfl,rfl⟩:=h;exact⟨ρ,w,_,.inl (by simp only[execOp,ho,HO];rfl),.func h1 h2,hR,.refl _ _ _⟩
  case iface t p p' h1=>
   obtain⟨rfl,rfl⟩:=h;exact⟨ρ,w,_,.inl (by simp only[execOp,ho,HO];rfl),.iface h1,hR,.refl _ _ _⟩
 case h_11 op t x y yt ho=>
  obtain⟨x',hx,hc⟩:=ag hc;obtain⟨y',hy,hc⟩:=ag hc;have plain:op≠.eql->op≠.neq->some (oa.bin op x' y')=some io->Good base ρ m w v m' ((execOp a.eval o).run P w):=by
   intro n1 n2 hc;cases hc;simp only[aL]at h;obtain⟨h1,h2⟩:=iu h;subst h2;obtain⟨v',r1,r2⟩:=KV (P:=P) (w:=w) (t:=t) (E hx) (E hy) h1;simp only[execOp,ho];refine Good.still hR (v':=v') ?_ r1
   rw[Fj n1 n2];simpa using r2
  have eqs:∀neg,((op=.eql/\neg=false)\/(op=.neq/\neg=true))->cEq P neg t x' y'=some io->Good base ρ m w v m' ((execOp a.eval o).run P w):=by
   intro neg oF hc;unfold cEq at hc;have:∃e,pW P 20 t=some e/\io=.eq neg e x' y'/\(P.eqGuardType P.depth t=false\/∃ms,P.underlying t=some (.interface ms)):=by
    cases hg:P.eqGuardType P.depth t<;>simp only[hg,cond_true,cond_false]at hc
    ·obtain⟨e,he,rfl⟩:=ah hc;exact⟨e,he,rfl,.inl rfl⟩
    ·obtain⟨_,hi,rfl⟩:=ah hc;obtain⟨ms,hms⟩:=QD hi;exact⟨.bG 7,by simp[pW,hms],rfl,.inr ⟨ms,hms⟩⟩
   obtain⟨e,he,rfl,oQ⟩:=this;simp only[aL]at h;have hE:=iu (x:=(ft e (fr.eval x') (fr.eval y')).map fun b=>.bool (neg^^b)) h;obtain⟨hE1,hE2⟩:=hE;subst hE2;obtain⟨b,hb,hE3⟩:=mH.1 hE1;subst hE3;have hr:=XE (P:=P) (w:=w) (ox:=x) (oy:=y) oF he oQ (E hx) (E hy) hb;simp only[execOp,ho];exact Good.still hR hr (.bool _)
  cases op<;>first
   |exact eqs false (.inl ⟨rfl,rfl⟩) hc
   |exact eqs true (.inr ⟨rfl,rfl⟩) hc
   |exact plain (by simp) (by simp) hc
 case h_12 op t x ho=>
  obtain⟨y,hy,rfl⟩:=ah hc;simp only[aL]at h;obtain⟨h1,h2⟩:=iu h;subst h2;obtain⟨v',r1,r2⟩:=N1 (P:=P) (w:=w) (E hy) h1;simp only[execOp,ho];exact Good.still hR r2 r1
 case h_13 s d x ho=>
  obtain⟨y,hy,hc⟩:=ag hc;have ES:=E hy;simp only[execOp,ho];rcases iA hc with hc|hc
  ·obtain⟨_,hs,hc⟩:=ag hc;obtain⟨k,hd,rfl⟩:=ah hc;obtain⟨ds,hs,_⟩:=An hs;have hd:=Ch hd;simp only[aL]at h;have h1:=oi h;generalize fr.eval y=e at ES h1;generalize a.eval x=av at ES;cases ES<;>simp only[l8,reduceCtorEq,bQ,sY]at h1
   obtain⟨rfl,rfl⟩:=h1;exact Good.still hR (XS hs hd _ _) (.int _ _)
  rcases iA hc with hc|hc
  ·obtain⟨_,hs,hc⟩:=ag hc;obtain⟨_,hd,rfl⟩:=ah hc;simp only[aL]at h;have h1:=oi h;generalize fr.eval y=e at ES h1;generalize a.eval x=av at ES;cases ES<;>simp only[l8,reduceCtorEq,bQ,sY]at h1
   obtain⟨rfl,rfl⟩:=h1;exact Good.still hR (SY (nh hs) (nh hd) _) (.str _)
  rcases iA hc with hc|hc
  ·obtain⟨_,hs,hc⟩:=ag hc;obtain⟨e,hd,hc⟩:=ag hc;obtain⟨k,he,hc⟩:=ag hc;obtain⟨_,hk,rfl⟩:=ah hc;have hk:k=.u8:=by have:=bf (ld hk);cases k<;>simp[cx]at this;rfl
   subst hk;simp only[aL]at h;obtain⟨B,rfl,hB⟩:=El (P:=P) hR.n (nh hs) (mv hd) (Ch he) ES (oi h);exact(hB.runs hR).vb
  ·obtain⟨e,hs,hc⟩:=ag hc;obtain⟨_,hd,hc⟩:=ag hc;obtain⟨k,he,hc⟩:=ag hc;obtain⟨_,hk,rfl⟩:=ah hc;have hk:k=.u8:=by have:=bf (ld hk);cases k<;>simp[cx]at this;rfl
   subst hk;simp only[aL]at h;exact(Me hR (mv hs) (Ch he) (nh hd) ES (oi h)).vb
 case h_14 t x ho=>
  obtain⟨_,hu,hc⟩:=ag hc;obtain⟨y,hy,rfl⟩:=ah hc;obtain⟨d,hu,hd⟩:=An hu;simp only[aL,bQ,R1.val.injEq]at h;obtain⟨rfl,rfl⟩:=h;simp only[execOp,ho];refine Good.still (v':=.iface t (a.eval x)) hR ?_ (.iface (E hy))
  simp only[Instr.makeInterface,Sem.run_bind,run_underlying hu,Result.andThen_ok];cases d<;>first|rfl|exact absurd rfl (hd _)
 case h_15 f p c ho=>
  obtain⟨p',hp,hc⟩:=ag hc;obtain⟨c',wa,rfl⟩:=ah hc;simp only[aL,bQ,R1.val.injEq]at h;obtain⟨rfl,rfl⟩:=h;have h1:=pV hG hF hp;have h2:=pV hG hF wa;simp only[execOp,ho];refine Good.still (v':=.func (.func f) (p.map a.eval) (c.map a.eval)) hR rfl ?_
  have e1:p.map a.eval=⟨p.toList.map a.eval⟩:=by apply Array.ext';simp
  have e2:c.map a.eval=⟨c.toList.map a.eval⟩:=by apply Array.ext';simp
  rw[e1,e2];exact .func h1 h2
 case h_16 t ho=>
  obtain⟨_,_,rfl⟩:=ah hc;simp only[aL,bQ,R1.val.injEq]at h;obtain⟨rfl,rfl⟩:=h;simp only[execOp,ho];have:=((uw (P:=P) hR.n).runs hR).vb;simpa[Instr.makeMap]using this
 case h_17 t k z ho=>
  obtain⟨q,hu,rfl⟩:=ah hc;have hu:=yC hu;simp only[aL,bQ,R1.val.injEq]at h;obtain⟨rfl,rfl⟩:=h;simp only[execOp,ho];have:=((uw (P:=P) hR.n).runs hR).vb;simpa[Instr.makeMap,run_underlying hu,Act.eval,asInt,asIntOf]using this
 case h_18 t l c ho=>
  obtain⟨e,hu,hc⟩:=ag hc;obtain⟨i,hi,hc⟩:=ag hc;obtain⟨z,hz,hc⟩:=ag hc;obtain⟨l',hl,hc⟩:=ag hc;obtain⟨c',wa,hc⟩:=ag hc;obtain⟨_,HD,hc⟩:=ag hc;obtain⟨_,hb,rfl⟩:=ah hc;have vn:=E hl;have wW:=E wa;simp only[aL]at h;simp only[execOp,ho];generalize fr.eval l'=el at vn h;generalize fr.eval c'=ec at wW h;generalize a.eval l=al at vn;generalize a.eval c=ac at wW;cases vn<;>(try simp only[reduceCtorEq]at h)
  rename_i k1 n1
  cases k1<;>(try simp only[reduceCtorEq]at h)
  cases n1<;>(try simp only[reduceCtorEq]at h)
  rename_i ln
  cases wW<;>(try simp only[reduceCtorEq]at h)
  rename_i k2 n2
  cases k2<;>(try simp only[reduceCtorEq]at h)
  cases n2<;>(try simp only[reduceCtorEq]at h)
  rename_i cn
  cases h1:ln.ble cn<;>simp only[h1,cond_true,cond_false,reduceCtorEq]at h
  cases h2:cn.ble room<;>simp only[h2,cond_true,cond_false,reduceCtorEq,bQ,R1.val.injEq]at h
  obtain⟨rfl,rfl⟩:=h;exact((y9 hR.n (mv hu) hi hz (bf (ld HD)) (rI (ld hb)) (rI h1) (rI h2)).runs hR).vb
 case h_19 t x lo hi mx ho=>
  obtain⟨_,Sk,hc⟩:=ag hc;obtain⟨x',hx,hc⟩:=ag hc;obtain⟨Dz,im,hc⟩:=ag hc;obtain⟨AS,xf,hc⟩:=ag hc;obtain⟨Dw,yx,hc⟩:=ag hc;have uU:=E hx;have vn:=EO im;have hhv:=EO xf;have hmv:=EO yx;have Wv:(mx.map a.eval).isSome=true->(hi.map a.eval).isSome=true:=by
   have:=ld Sk;cases mx<;>cases hi<;>simp at this ⊢
  simp only[execOp,ho];rcases iA hc with hc|hc
  ·obtain⟨q,hu,hc⟩:=ag hc;obtain⟨s,hs,rfl⟩:=ah hc;have hu:=wH hu;simp only[aL]at h;generalize fr.eval x'=e at uU h;generalize a.eval x=av at uU;cases uU<;>simp only[reduceCtorEq]at h
   rename_i b off L hL
   obtain⟨h1,h2⟩:=iu h;subst h2;obtain⟨l,hh,t',r1,r2⟩:=Bh (P:=P) (w:=w) vn hhv hmv Wv hL (cR q.1) (o:=L.off+off) (fun _=>rfl) false h1;refine Good.still hR ?_ r2
   simp only[Instr.sliceAt,Sem.run_bind,run_underlying hu,Result.andThen_ok,Instr.sureAddr,Sem.run_pure,r1,cy hs,Ee,Option.map_some]
   split<;>rfl
  rcases iA hc with hc|hc
  ·obtain⟨el,hu,hc⟩:=ag hc;obtain⟨s,hs,rfl⟩:=ah hc;have hu:=mv hu;simp only[aL]at h;generalize fr.eval x'=e at uU h;generalize a.eval x=av at uU;cases uU<;>simp only[reduceCtorEq]at h
   case aa=>
    cases h1:aS (Dw.map fr.eval) 0 0 with
    |none=>simp[h1]at h
    |some t1=>
    cases h2:aS (AS.map fr.eval) 0 0 with
    |none=>simp[h1,h2]at h
    |some t2=>
    cases h3:aS (Dz.map fr.eval) 0 0 with
    |none=>simp[h1,h2,h3]at h
    |some t3=>
    simp only[h1,h2,h3,bQ,R1.val.injEq]at h;obtain⟨rfl,rfl⟩:=h;have z:∀{y:Option EV} {r:Nat},aS y 0 0=some r->r=0:=by
     intro y r hb;unfold aS at hb
     split at hb
     ·cases hb;rfl
     ·rename_i i
      cases hq:i.ble 0<;>simp only[hq,cond_true,cond_false,reduceCtorEq,bQ]at hb
      have:=rI hq;omega
     ·cases hb
    have e1:=z h1;have e2:=z h2;have e3:=z h3;subst e1 e2 e3;obtain⟨r,_⟩:=mE (P:=P) (w:=w) vn hhv hmv Wv true (n:=0) rfl (t:=0) (h:=0) (l:=0) (c:=0) (by
     cases hm:Dw.map fr.eval with
     |none=>exact .inl ⟨rfl,rfl⟩
     |some y=>rw[hm]at h1;exact .inr ⟨0,h1,by simp⟩) h2 h3
    refine Good.still (v':=.slice none 0 0) hR ?_ .aa
    simp only[Instr.sliceAt,Instr.slice,Sem.run_bind,run_underlying hu,Result.andThen_ok,r,cy hs,Sem.run_pure,if_true]
   case slice b off len c o L hL sJ yw CA=>
    cases hm:m.get b with
    |dead=>simp[hm]at h
    |map=>simp[hm]at h
    |cells cs e1 el1 ro1=>
    simp only[hm]at h;cases hq:e1.beq s<;>simp only[hq,cond_true,cond_false,reduceCtorEq]at h
    obtain⟨h1,h2⟩:=iu h;subst h2;obtain⟨l,hh,t',r1,r2⟩:=MD (P:=P) (w:=w) vn hhv hmv Wv hL sJ yw CA (by rw[Xy hR hL hm,bf hq]) true h1;refine Good.still hR ?_ r2
    simp only[Instr.sliceAt,Instr.slice,Sem.run_bind,run_underlying hu,Result.andThen_ok,r1,cy hs,Sem.run_pure,Ee]
   case jA b off a0=>
    obtain⟨h1,h2⟩:=iu h;subst h2;obtain⟨l,hh,t',r1,r2⟩:=Ja (P:=P) (w:=w) (a:=a0) vn hhv hmv Wv true h1;refine Good.still hR ?_ r2
    simp only[Instr.sliceAt,Instr.slice,Sem.run_bind,run_underlying hu,Result.andThen_ok,r1,cy hs,Sem.run_pure,Ee]
   case gN b off len c o L hL sJ yw=>
    obtain⟨h1,h2⟩:=iu h;subst h2;obtain⟨l,hh,t',r1,r2⟩:=Bh (P:=P) (w:=w) vn hhv hmv Wv hL sJ yw true h1;refine Good.still hR ?_ r2
    simp only[Instr.sliceAt,Instr.slice,Sem.run_bind,run_underlying hu,Result.andThen_ok,r1,cy hs,Sem.run_pure,Ee]
  ·obtain⟨_,hu,hc⟩:=ag hc;obtain⟨_,hmn,rfl⟩:=ah hc;have hu:=nh hu;have hmn:=ld hmn;have:mx=none:=by
    cases mx with
    |none=>rfl
    |some y=>
     simp[Ld]at yx;obtain⟨z,hz,rfl⟩:=yx;simp at hmn
   subst this;simp only[aL]at h;generalize fr.eval x'=e at uU h;generalize a.eval x=av at uU;cases uU<;>simp only[reduceCtorEq]at h
   rename_i s'
   cases h1:aS (AS.map fr.eval) s'.data.toList.length s'.data.toList.length with
   |none=>simp only[h1,reduceCtorEq]at h
   |some hh=>
   cases h2:aS (Dz.map fr.eval) 0 hh with
   |none=>simp only[h1,h2,reduceCtorEq]at h
   |some l=>
    simp only[h1,h2,bQ,R1.val.injEq]at h;obtain⟨rfl,rfl⟩:=h;obtain⟨v',r1,r2⟩:=I9 (P:=P) (w:=w) hu vn hhv h1 h2;exact Good.still hR r2 r1
 case h_20 s x f ho=>
  obtain⟨fs,hu,hc⟩:=ag hc;obtain⟨x',hx,hc⟩:=ag hc;obtain⟨fl,hf,hc⟩:=ag hc;obtain⟨sz,hs,hc⟩:=ag hc;obtain⟨_,h1,rfl⟩:=ah hc;have h1:=rI (ld h1);obtain⟨k,rfl⟩:∃k,sz=k+1:=⟨sz- 1,by omega⟩
  have uU:=E hx;simp only[aL]at h;simp only[execOp,ho];generalize fr.eval x'=e at uU h;generalize a.eval x=av at uU;cases uU<;>simp only[reduceCtorEq,bQ,R1.val.injEq]at h
  rename_i hL
  obtain⟨rfl,rfl⟩:=h;exact Good.Dm hR (KD (xD hu) hf hs (.ptr hL))
 case h_21 t x f ho=>
  obtain⟨fs,hu,hc⟩:=ag hc;obtain⟨x',hx,hc⟩:=ag hc;obtain⟨fl,hf,hc⟩:=ag hc;obtain⟨g,hg,rfl⟩:=ah hc;have uU:=E hx;simp only[aL]at h;simp only[execOp,ho];cases he:fr.eval x'<;>simp only[he,reduceCtorEq]at h
  rename_i cs
  rw[he]at uU;obtain⟨h1,h2⟩:=iu h;subst h2;exact Good.Dm hR (KC (xD hu) hf hg uU h1)
 case h_22 t x i ho=>
  obtain⟨x',hx,hc⟩:=ag hc;obtain⟨i',hi,hc⟩:=ag hc;have uU:=E hx;have hiv:=E hi;simp only[execOp,ho];rcases iA hc with hc|hc
  ·obtain⟨e,hu,hc⟩:=ag hc;obtain⟨s,hs,rfl⟩:=ah hc;simp only[aL]at h;cases he:fr.eval x'<;>simp only[he,reduceCtorEq]at h
   case fz=>rw[he]at uU;cases uU
   rename_i b off len cap
   rw[he]at uU;cases hj:idx len (fr.eval i')with
   |none=>simp[hj]at h
   |some j=>
    simp only[hj,bQ,R1.val.injEq]at h;obtain⟨rfl,rfl⟩:=h;exact Good.Dm hR (J4 (mv hu) hs uU hiv hj)
  ·obtain⟨q,hu,hc⟩:=ag hc;obtain⟨s,hs,rfl⟩:=ah hc;simp only[aL]at h;cases he:fr.eval x'<;>simp only[he,reduceCtorEq]at h
   rename_i b off
   rw[he]at uU;cases hj:idx q.1 (fr.eval i')with
   |none=>simp[hj]at h
   |some j=>
    simp only[hj,bQ,R1.val.injEq]at h;obtain⟨rfl,rfl⟩:=h;exact Good.Dm hR (DG (wH hu) hs uU hiv hj)
 case h_23 t x i ho=>
  obtain⟨x',hx,hc⟩:=ag hc;obtain⟨i',hi,hc⟩:=ag hc;have uU:=E hx;have hiv:=E hi;simp only[execOp,ho];rcases iA hc with hc|hc
  ·obtain⟨_,hu,rfl⟩:=ah hc;simp only[aL]at h;generalize fr.eval x'=e at uU h;generalize a.eval x=av at uU;cases uU<;>simp only[reduceCtorEq]at h
   rename_i s'
   cases hj:idx s'.data.toList.length (fr.eval i')with
   |none=>simp only[hj,reduceCtorEq]at h
   |some j=>
    simp only[hj]at h;cases WQ:s'.data.toList[j]? with
    |none=>simp only[WQ,reduceCtorEq]at h
    |some c=>
     simp only[WQ,bQ,R1.val.injEq]at h;obtain⟨rfl,rfl⟩:=h;exact Good.still hR (HA (nh hu) hiv hj WQ) (.int _ _)
  ·obtain⟨q,hu,hc⟩:=ag hc;obtain⟨s,hs,hc⟩:=ag hc;obtain⟨g,hg,rfl⟩:=ah hc;simp only[aL]at h;cases he:fr.eval x'<;>simp only[he,reduceCtorEq]at h
   rename_i cs
   rw[he]at uU;cases hj:idx q.1 (fr.eval i')with
   |none=>simp[hj]at h
   |some j=>
    simp only[hj]at h;obtain⟨h1,h2⟩:=iu h;subst h2;exact Good.Dm hR (HB (wH hu) hs hg uU hiv hj h1)
 case h_24 t mp k ok ho=>
  obtain⟨q,hu,hc⟩:=ag hc;obtain⟨c,hk,hc⟩:=ag hc;obtain⟨z,hz,hc⟩:=ag hc;obtain⟨m1,hm,hc⟩:=ag hc;obtain⟨k1,vo,rfl⟩:=ah hc;simp only[execOp,ho];exact(Hr hR (yC hu) hk hz (E hm) (E vo) rfl rfl h).vb
 case h_25 t mp k x ho=>
  obtain⟨q,hu,hc⟩:=ag hc;obtain⟨c,hk,hc⟩:=ag hc;obtain⟨m1,hm,hc⟩:=ag hc;obtain⟨k1,vo,hc⟩:=ag hc;obtain⟨x1,hx,rfl⟩:=ah hc;obtain⟨w',r1,rfl,r2,r3⟩:=zd (P:=P) hR (yC hu) hk (E hm) (E vo) (E hx) rfl rfl rfl h;exact⟨ρ,w',undef,.inr ⟨by simp only[execOp,ho,Sem.run_bind,r1,Result.andThen_ok,Sem.run_pure],rfl⟩,.undef,r2,r3⟩
 case h_26 t mp k x ho=>
  obtain⟨q,hu,hc⟩:=ag hc;obtain⟨c,hk,hc⟩:=ag hc;obtain⟨m1,hm,hc⟩:=ag hc;obtain⟨k1,vo,hc⟩:=ag hc;obtain⟨x1,hx,rfl⟩:=ah hc;obtain⟨w',r1,rfl,r2,r3⟩:=zd (P:=P) hR (yC hu) hk (E hm) (E vo) (E hx) rfl rfl rfl h;exact⟨ρ,w',undef,.inr ⟨by simp only[execOp,ho,Sem.run_bind,r1,Result.andThen_ok,Sem.run_pure],rfl⟩,.undef,r2,r3⟩
 case h_27 x xt t ho=>
  obtain⟨_,hu,hc⟩:=ag hc;obtain⟨y,hy,rfl⟩:=ah hc;obtain⟨d,hu,hd⟩:=An hu;have ES:=E hy;simp only[aL]at h;simp only[execOp,ho];generalize fr.eval y=e at ES h;generalize a.eval x=av at ES;cases ES<;>simp only[reduceCtorEq]at h
  rename_i u v0 v1 hv
  cases hq:t.beq u<;>simp only[hq,cond_true,cond_false,reduceCtorEq,bQ,R1.val.injEq]at h
  obtain⟨rfl,rfl⟩:=h;obtain rfl:=bf hq;refine Good.still hR ?_ hv
  simp only[Instr.typeAssert,Sem.run_bind,run_underlying hu,Result.andThen_ok];cases d<;>first|(exact absurd rfl (hd _))|simp
 case h_28 x i ho=>
  obtain⟨y,hy,rfl⟩:=ah hc;have ES:=E hy;simp only[aL]at h;simp only[execOp,ho];generalize fr.eval y=e at ES h;generalize a.eval x=av at ES;cases ES<;>simp only[reduceCtorEq]at h
  rename_i vs vz yv
  obtain⟨h1,h2⟩:=iu h;subst h2;obtain⟨v',g1,g2⟩:=yv.get i v h1;refine Good.still hR ?_ g2
  simp[Instr.extract,g1]
 case h_29 c ho=>
  obtain⟨ys,Wk,hc⟩:=ag hc
  split at hc
  ·rename_i b hb
   rw[Lf ho hb];have hv:=pV hG hF Wk;have e1:c.args.map a.eval=⟨c.args.toList.map a.eval⟩:=by apply Array.ext';simp
   rw[e1];exact Fo (ts:=c.argTypes.toList) hR hv hc _ _ h
  ·cases hc
 case h_30=>cases hc
theorem Pf{o:Oper}{f:Operand}{xs:Array Operand}{ts:Array TypeId}(ho:o.op=.call ⟨.value f,xs,ts⟩){f':bm}{ys:List bm}(hf:fS G f=some f')(Wk:Aa G xs.toList=some ys)(hG:lx G ρ)(hF:FR ρ n fr a){g:Nat}{x y:List EV}(he:fr.eval f'=.func g x y) :
  ∃aK:Array Value,(execOp a.eval o).run P w=(callFunc g aK).run P w/\gi ρ (x++ys.map fr.eval++y) aK.toList:=by
 have So:=j3 hG hF hf;have hv:=pV hG hF Wk;rw[he]at So;generalize HO:a.eval f=av at So;cases So with
 | @func _ _ _ x' y' hx hy=>
 refine⟨⟨x'++xs.toList.map a.eval++y'⟩,?_,(hx.append hv).append hy⟩
 simp only[execOp,ho,resolve,HO,Deferred.ofValue,Sem.run_bind,Sem.run_pure,Result.andThen_ok,invoke]
 congr 2
 apply Array.ext'
 simp
theorem Vk{o:Oper}{x:Operand}(ho:o.op=.panic x){x':bm}(hx:fS G x=some x')(hG:lx G ρ)(hF:FR ρ n fr a){t:Nat}{v:EV}(he:fr.eval x'=.iface t v) :
  ∃v',(execOp a.eval o).run P w=.halt (.panic v') w/\VR ρ (.iface t v) v':=by
 have hv:=j3 hG hF hx;rw[he]at hv;generalize HO:a.eval x=av at hv;cases hv with
 |iface h=>exact⟨_,by simp[execOp,ho,HO,Instr.panic],.iface h⟩
end
end
section
def aqm(ρ:eR)(e:Nat×List EV)(d:Deferred):Prop:=∃c':Array Value,d.target=.fn (.func e.1) c'/\gi ρ e.2 (d.args.toList++c'.toList)
inductive xC(ρ:eR):List (Nat×List EV)->List Deferred->Prop
 |nil:xC ρ [] []
 |cons {e:Nat×List EV} {d:Deferred} {es:List (Nat×List EV)} {ds:List Deferred} (h:aqm ρ e d) (hs:xC ρ es ds):xC ρ (e::es) (d::ds)
theorem xC.ext{ρ ρ':eR}(e:Ext ρ ρ'){es:List (Nat×List EV)}{ds:List Deferred}(h:xC ρ es ds):xC ρ' es ds:=by
 induction h with
 |nil=>exact .nil
 |cons h _ ih=>obtain⟨c',h1,h2⟩:=h;exact .cons ⟨c',h1,h2.ext e⟩ ih
structure Cc(ρ:eR)(n:Nat)(fr:Fr)(a:Act):Prop where
 tm:FR ρ n fr a
 Fk:xC ρ fr.defers a.defers
theorem Cc.ext{ρ ρ':eR}{n:Nat}{fr:Fr}{a:Act}(e:Ext ρ ρ')(h:Cc ρ n fr a):Cc ρ' n fr a:=⟨h.tm.ext e,h.Fk.ext e⟩
theorem put_defers(fr:Fr)(d:Option Nat)(v:EV):(fr.put d v).defers=fr.defers:=by cases d<;>rfl
theorem Jk(a:Act)(d:Option Nat)(v:Value):(a.put d v).defers=a.defers:=by cases d<;>rfl
theorem Cc.put{ρ:eR}{n:Nat}{fr:Fr}{a:Act}(h:Cc ρ n fr a){d:Option Nat}(hd:∀x,d=some x->x<n){v:EV}{v':Value}(hv:VR ρ v v'):Cc ρ n (fr.put d v) (a.put d v'):=
 ⟨h.tm.put hd hv,by rw[put_defers,Jk];exact h.Fk⟩
def Reach(base n:Nat)(ρ:eR)(m:Mem)(w:World)(out:Out)(e:Exit)(a':Act)(w':World):Prop:=
 match out with
 | .norm fr' m'=>e=.normal/\∃ρ',R base ρ' m' w'/\Step ρ m w ρ' m' w'/\Cc ρ' n fr' a'
 | .exit id fr' m'=>e=.exit id/\∃ρ',R base ρ' m' w'/\Step ρ m w ρ' m' w'/\Cc ρ' n fr' a'
 | .ret fr' m'=>e=.ret/\∃ρ',R base ρ' m' w'/\Step ρ m w ρ' m' w'/\Cc ρ' n fr' a'
 | .jk v fr' m'=>∃ρ' v',e=.panic [{v:=v',recovered:=false}]/\VR ρ' v v'/\R base ρ' m' w'/\Step ρ m w ρ' m' w'/\Cc ρ' n fr' a'
theorem Reach.after{base n:Nat}{ρ ρ1:eR}{m m1:Mem}{w w1:World}(s:Step ρ m w ρ1 m1 w1){out:Out}{e:Exit}{a':Act}{w':World}(h:Reach base n ρ1 m1 w1 out e a' w'):Reach base n ρ m w out e a' w':=by
 cases out with
 |norm fr' m'=>obtain⟨he,ρ',h1,h2,h3⟩:=h;exact⟨he,ρ',h1,s.trans h2,h3⟩
 |exit id fr' m'=>obtain⟨he,ρ',h1,h2,h3⟩:=h;exact⟨he,ρ',h1,s.trans h2,h3⟩
 |ret fr' m'=>obtain⟨he,ρ',h1,h2,h3⟩:=h;exact⟨he,ρ',h1,s.trans h2,h3⟩
 |jk v fr' m'=>obtain⟨ρ',v',he,h0,h1,h2,h3⟩:=h;exact⟨ρ',v',he,h0,h1,s.trans h2,h3⟩
def qf(base:Nat)(ρ:eR)(m:Mem)(w:World)(fin:Fin)(e:Ending)(w':World):Prop:=
 match fin with
 | .ret v m'=>∃ρ' v',e=.returned v'/\VR ρ' v v'/\R base ρ' m' w'/\Step ρ m w ρ' m' w'
 | .jk v m'=>∃ρ' v',e=.panicked [{v:=v',recovered:=false}]/\VR ρ' v v'/\R base ρ' m' w'/\Step ρ m w ρ' m' w'
def rA(P:Program)(G:List Nat)(call:Call):Prop:=
 ∀f args m fin,call f args m=some fin->∀base ρ w (aK:Array Value),R base ρ m w->lx G ρ->gi ρ args aK.toList->
  ((callFunc f aK).run P w=.ok (.enter f aK) w/\Calls P f aK w (qf base ρ m w fin))\/
  (∃v v',fin=.ret v m/\(callFunc f aK).run P w=.ok (.value v') w/\VR ρ v v')
section
variable {P:Program} {G:List Nat} {n:Nat} {call:Call}
theorem Le{ops:Array Oper}{o:Oper}{io:bd}(h:u0 P G n ops o=some io):Ej P G o=some io.op/\io.dst=o.dst/\(∀x,o.dst=some x->x<n)/\
  ((o.guard=none/\io.guard=none)\/(∃j w t,o.guard=some (j,w)/\(ops[j]?).bind (·.dst)=some t/\io.guard=some (t,w))):=by
 unfold u0 at h;cases hx:Ej P G o with
 |none=>simp[hx]at h
 |some op=>
  simp only[hx]at h;cases hb:acJ n o.dst with
  |false=>simp[hb]at h
  |true=>
  simp only[hb,cond_true]at h;have pT:∀x,o.dst=some x->x<n:=by
   intro x hx;rw[hx]at hb;exact rI hb
  cases hg:o.guard with
  |none=>simp only[hg,bQ]at h;subst h;exact⟨rfl,rfl,pT,.inl ⟨rfl,rfl⟩⟩
  |some jw=>
   obtain⟨j,w⟩:=jw;simp only[hg]at h;cases ht:(ops[j]?).bind (·.dst)with
   |none=>simp[ht]at h
   |some t=>simp only[ht,bQ]at h;subst h;exact⟨rfl,rfl,pT,.inr ⟨j,w,t,rfl,ht,rfl⟩⟩
theorem oY{ρ:eR}{ops:Array Oper}{o:Oper}{io:bd}{fr:Fr}{a:Act}(hF:FR ρ n fr a)
  (hg:(o.guard=none/\io.guard=none)\/(∃j w t,o.guard=some (j,w)/\(ops[j]?).bind (·.dst)=some t/\io.guard=some (t,w))) {b:Bool} (h:bt fr io.guard=some b) :
  Region.wanted o (yielded ops a.tmps)=b:=by
 rcases hg with⟨h1,h2⟩|⟨j,w,t,h1,h2,h3⟩
 ·rw[h2]at h;simp[bt]at h;subst h;simp[Region.wanted,h1]
 ·rw[h3]at h;simp only[bt]at h;cases hv:fr.get t<;>simp only[hv,reduceCtorEq,bQ]at h
  case undef=>
   have ht:=hF.tmp t;rw[hv]at ht;generalize YF:a.tmps.getD t undef=tv at ht;cases ht;subst h;simp only[Region.wanted,h1,yielded,h2,Option.bind_some];cases hq:a.tmps[t]? with
   |none=>rfl
   |some x=>
    rw[Array.getD_eq_getD_getElem?,hq]at YF;simp only[Option.getD_some]at YF;rw[YF];rfl
  rename_i c
  have ht:=hF.tmp t;rw[hv]at ht;generalize YF:a.tmps.getD t undef=tv at ht;cases ht;simp only[Region.wanted,h1,yielded,h2,Option.bind_some];have:a.tmps[t]?=some (.bool c):=by
   rw[Array.getD_eq_getD_getElem?]at YF;cases hq:a.tmps[t]? with
   |none=>rw[hq]at YF;simp[undef]at YF
   |some x=>rw[hq]at YF;simp at YF;rw[YF]
  rw[this];subst h;simp
theorem wv{o:Oper}{op:oa}(h:Ej P G o=some (.val op)):cOp P G o=some op:=by
 unfold Ej at h
 split at h
 ·obtain⟨_,_,h⟩:=ag h;obtain⟨_,_,h⟩:=ah h;cases h
 ·obtain⟨_,_,h⟩:=ag h;obtain⟨_,_,h⟩:=ah h;cases h
 ·obtain⟨_,_,h⟩:=ah h;cases h
 ·obtain⟨_,hh,h⟩:=ah h;cases h;exact hh
theorem GN{o:Oper}{f:bm}{ys:List bm}(h:Ej P G o=some (.call f ys)):∃f0 xs ts,o.op=.call ⟨.value f0,xs,ts⟩/\fS G f0=some f/\Aa G xs.toList=some ys:=by
 unfold Ej at h
 split at h
 ·rename_i f0 xs ts ho
  obtain⟨_,h1,h⟩:=ag h;obtain⟨_,h2,h⟩:=ah h;cases h;exact⟨f0,xs,ts,ho,h2,h1⟩
 ·obtain⟨_,_,h⟩:=ag h;obtain⟨_,_,h⟩:=ah h;cases h
 ·obtain⟨_,_,h⟩:=ah h;cases h
 ·obtain⟨_,hh,h⟩:=ah h;cases h
theorem OF{o:Oper}{f:bm}{ys:List bm}(h:Ej P G o=some (.defer f ys)):∃f0 xs ts,o.op=.defer ⟨.value f0,xs,ts⟩/\fS G f0=some f/\Aa G xs.toList=some ys:=by
 unfold Ej at h
 split at h
 ·obtain⟨_,_,h⟩:=ag h;obtain⟨_,_,h⟩:=ah h;cases h
 ·rename_i f0 xs ts ho
  obtain⟨_,h1,h⟩:=ag h;obtain⟨_,h2,h⟩:=ah h;cases h;exact⟨f0,xs,ts,ho,h2,h1⟩
 ·obtain⟨_,_,h⟩:=ah h;cases h
 ·obtain⟨_,hh,h⟩:=ah h;cases h
theorem OE{o:Oper}{x:bm}(h:Ej P G o=some (.panic x)):∃x0,o.op=.panic x0/\fS G x0=some x:=by
 unfold Ej at h
 split at h
 ·obtain⟨_,_,h⟩:=ag h;obtain⟨_,_,h⟩:=ah h;cases h
 ·obtain⟨_,_,h⟩:=ag h;obtain⟨_,_,h⟩:=ah h;cases h
 ·rename_i x0 ho
  obtain⟨_,h2,h⟩:=ah h;cases h;exact⟨x0,ho,h2⟩
 ·obtain⟨_,hh,h⟩:=ah h;cases h
theorem QB{o:Oper}{a:Act}{next next':Act->World->Prop}{Q Q':Exit->Act->World->Prop}(hn:∀a w,next a w->next' a w)(hq:∀e a w,Q e a w->Q' e a w){r:Result Next}(h:o.upon P a next Q r):o.upon P a next' Q' r:=by
 unfold Oper.upon at *
 split at h
 ·exact hn _ _ h
 ·exact hn _ _ h
 ·exact hn _ _ h
 ·refine h.mono fun e w hp=> ?_
  cases e with
  |returned v=>exact hn _ _ hp
  |panicked c=>exact hq _ _ _ hp
  |outgrown=>obtain⟨a,w,h⟩:=hp;exact⟨a,w,hq _ _ _ h⟩
 ·exact h.mono fun v w hp=>hn _ _ hp
 ·exact hq _ _ _ h
 ·exact h
theorem ud{ops:Array Oper}{Q Q':Exit->Act->World->Prop}(hq:∀e a w,Q e a w->Q' e a w):∀(l:List Nat) (a:Act) (w:World),wpOps P ops Q l a w->wpOps P ops Q' l a w
 |[],a,w,h=>hq _ _ _ h
 |i::l,a,w,h=>by
  simp only[wpOps]at h⊢;cases ho:ops[i]? with
  |none=>simp only[ho]at h⊢;exact ud hq l a w h
  |some o=>
   simp only[ho]at h ⊢
   split
   ·rename_i hw
    rw[if_pos hw]at h;rcases h with h|⟨h1,a0,w0,h2⟩
    ·exact .inl (QB (ud hq l) hq h)
    ·exact .inr ⟨h1,a0,w0,hq _ _ _ h2⟩
   ·rename_i hw
    rw[if_neg hw]at h;exact ud hq l _ w h
theorem FY(cm:rA P G call){base:Nat}{ops:Array Oper}:∀(is:List bd) (l:List Nat),is.length=l.length->(∀(k:Nat) (i:Nat) (io:bd),l[k]?=some i->is[k]?=some io->∃o,ops[i]?=some o/\u0 P G n ops o=some io)->
  ∀(ρ:eR) (m:Mem) (w:World) (fr:Fr) (a:Act) (out:Out),R base ρ m w->lx G ρ->Cc ρ n fr a->jx call is fr m=some out->wpOps P ops (Reach base n ρ m w out) l a w:=by
 intro is
 induction is with
 |nil=>
  intro l hl ad4 ρ m w fr a out hR hG hF h;cases l with
  |cons x l=>simp at hl
  |nil=>
   simp only[jx,bQ]at h;subst h;exact⟨rfl,ρ,hR,.refl _ _ _,hF⟩
 |cons io is ih=>
  intro l hl ad4 ρ m w fr a out hR hG hF h;cases l with
  |nil=>simp at hl
  |cons i l=>
  obtain⟨o,ho,hc⟩:=ad4 0 i io rfl rfl;obtain⟨hx,pT,AT,oQ⟩:=Le hc;have zm:is.length=l.length:=by simpa using hl
  have ag7:∀(k:Nat) (i:Nat) (io:bd),l[k]?=some i->is[k]?=some io->∃o,ops[i]?=some o/\u0 P G n ops o=some io:=
   fun k i io h1 h2=>ad4 (k+1) i io (by simpa using h1) (by simpa using h2)
  -- what follows,from where a step has led
  have next:∀{ρ1:eR} {m1:Mem} {w1:World} {iq:Fr} {a1:Act},R base ρ1 m1 w1->Step ρ m w ρ1 m1 w1->Cc ρ1 n iq a1->jx call is iq m1=some out->wpOps P ops (Reach base n ρ m w out) l a1 w1:=by
   intro ρ1 m1 w1 iq a1 n8 hs rh h1;have:=ih l zm ag7 ρ1 m1 w1 iq a1 out n8 (hG.ext hs.ext) rh h1;exact ud (fun e a w hq=>hq.after hs) l a1 w1 this
  simp only[jx]at h;simp only[wpOps,ho];cases hw:bt fr io.guard with
  |none=>simp[hw]at h
  |some b=>
  rw[oY hF.tm oQ hw];cases b with
  |false=>
   simp only[hw]at h;rw[if_neg (by simp)];rw[pT]at h;exact next hR (.refl _ _ _) (hF.put AT .undef) h
  |true=>
   simp only[hw]at h;rw[if_pos rfl]
   left
   simp only[Oper.wp];cases oF:io.op with
   |val op=>
    simp only[oF]at h;cases tJ:aL fr.eval op m with
    |none=>simp[tJ]at h
    |some r=>
     obtain⟨v,m1⟩:=r;simp only[tJ]at h;rw[oF]at hx;obtain⟨ρ1,w1,v',mB,hv,n8,hs⟩:=Dk (wv hx) hG hR hF.tm tJ;rcases mB with mB|⟨mB,rfl⟩
     ·rw[mB];simp only[Oper.upon];rw[pT]at h;exact next n8 hs ((hF.ext hs.ext).put AT hv) h
     ·rw[mB];simp only[Oper.upon];rw[pT]at h;exact next n8 hs ((hF.ext hs.ext).put AT hv) h
   |call f args=>
    simp only[oF]at h;rw[oF]at hx;obtain⟨f0,xs0,ts0,yw,hf,Wk⟩:=GN hx;cases BX:fr.eval f<;>simp only[BX,ie,reduceCtorEq]at h
    rename_i g x y
    obtain⟨aK,mB,hv⟩:=Pf (w:=w) (P:=P) yw hf Wk hG hF.tm BX;rw[mB];cases xS:call g (x++args.map fr.eval++y) m with
    |none=>simp only[xS,reduceCtorEq]at h
    |some fin=>
     rcases cm _ _ _ _ xS base ρ w aK hR hG hv with⟨h1,h2⟩|⟨v,v',rfl,h1,h2⟩
     ·rw[h1];simp only[Oper.upon];refine h2.mono fun e w' hp=> ?_
      cases fin with
      |ret v m1=>
       obtain⟨ρ1,v',rfl,vj,n8,hs⟩:=hp;simp only[xS]at h;rw[pT]at h;exact next n8 hs ((hF.ext hs.ext).put AT vj) h
      |jk v m1=>
       obtain⟨ρ1,v',rfl,vj,n8,hs⟩:=hp;simp only[xS,bQ]at h;subst h;exact⟨ρ1,v',rfl,vj,n8,hs,hF.ext hs.ext⟩
     ·rw[h1];simp only[xS]at h;simp only[Oper.upon];rw[pT]at h;exact next hR (.refl _ _ _) (hF.put AT h2) h
   |panic x=>
    simp only[oF]at h;rw[oF]at hx;obtain⟨x0,yw,DH⟩:=OE hx;cases uU:fr.eval x<;>simp only[uU,reduceCtorEq,bQ]at h
    rename_i t v
    subst h;obtain⟨v',mB,hv⟩:=Vk (w:=w) (P:=P) yw DH hG hF.tm uU;rw[mB];exact⟨ρ,v',rfl,hv,hR,.refl _ _ _,hF⟩
   |defer f args=>
    simp only[oF]at h;rw[oF]at hx;obtain⟨f0,xs0,ts0,yw,hf,Wk⟩:=OF hx;cases BX:fr.eval f<;>simp only[BX,reduceCtorEq]at h
    rename_i g x y
    have So:=j3 hG hF.tm hf;have hv:=pV hG hF.tm Wk;rw[BX]at So;generalize HO:a.eval f0=av at So;cases So with
    | @func _ _ _ x' y' Cy hy'=>
    have mB:(execOp a.eval o).run P w=.ok (.defer {target:=.fn (.func g) ⟨y'⟩,args:=⟨x'⟩++xs0.map a.eval}) w:=by simp only[execOp,yw,resolve,HO,Deferred.ofValue,Sem.run_bind,Sem.run_pure,Result.andThen_ok]
    rw[mB];simp only[Oper.upon];rw[pT]at h;have e1:((⟨x'⟩:Array Value)++xs0.map a.eval).toList=x'++xs0.toList.map a.eval:=by simp
    have jr:Cc ρ n ⟨fr.tmps,(g,x++args.map fr.eval++y)::fr.defers⟩ {a with defers:={target:=.fn (.func g) ⟨y'⟩,args:=⟨x'⟩++xs0.map a.eval}::a.defers}:=
     ⟨⟨hF.tm.size,hF.tm.tmp⟩,.cons ⟨⟨y'⟩,rfl,by rw[e1];exact(Cy.append hv).append hy'⟩ hF.Fk⟩
    exact next hR (.refl _ _ _) (jr.put AT .undef) h
end
end
section
section
variable {P:Program} {G:List Nat} {n:Nat} {call:Call} {chk:List (Nat×Nat)} {B0:Nat}
inductive At(call:Call)(B0:Nat)(o:bd)(i:Nat)(fr:Fr)(m:Mem)(v:EV)(m':Mem):Prop
 |skip (hw:bt fr o.guard=some false) (hv:v=.undef) (hm:m'=m)
 |pure (op:oa) (m1:Mem) (hw:bt fr o.guard=some true) (ho:o.op=.val op) (hs:dG op=0) (h:aL fr.eval op m=some (.val v m1)) (hm:m'=m)
 |make (op:oa) (m1:Mem) (hw:bt fr o.guard=some true) (ho:o.op=.val op) (hs:dG op=1) (h:aL fr.eval op ⟨B0+i,m.ja⟩=some (.val v m1)) (hm:m'=⟨m.next,m1.ja⟩)
 |load (agg:Option Nat) (a:bm) (hw:bt fr o.guard=some true) (ho:o.op=.val (.load agg a)) (h:m.load agg (fr.eval a)=some v) (hm:m'=m)
 |act (op:oa) (hw:bt fr o.guard=some true) (ho:o.op=.val op) (hs:3<=dG op) (h:aL fr.eval op m=some (.val v m'))
 |call (f:bm) (args:List bm) (hw:bt fr o.guard=some true) (ho:o.op=.call f args) (h:ie call (fr.eval f) (args.map fr.eval) m=some (.ret v m'))
def qm(o:bd)(fr:Fr):Prop:=bt fr o.guard=some true/\3<=sort o.op
def EG(o:bd)(fr:Fr)(agg:Option Nat)(a:bm):Prop:=bt fr o.guard=some true/\o.op=.val (.load agg a)/\Ge (fr.eval a)=false
structure Canon(call:Call)(chk:List (Nat×Nat))(B0:Nat)(r:List bd)(i:Nat)(F:Nat->Fr)(M:Nat->Mem)(V:Nat->EV):Prop where
 at_:∀k o,r[k]?=some o->At call B0 o (i+k) (F (i+k)) (M (i+k)) (V (i+k)) (M (i+k+1))/\F (i+k+1)=(F (i+k)).put o.dst (V (i+k))
 c1:∀k o agg a l q,r[k]?=some o->r[l]?=some q->EG o (F (i+k)) agg a->qm q (F (i+l))->cr (i+k) (i+l) chk=true->
  (l<k->(M (i+l)).fi agg ((F (i+k)).eval a) (V (i+k))=true)/\(k<l->(M (i+l+1)).fi agg ((F (i+k)).eval a) (V (i+k))=true)
structure CH(call:Call)(chk:List (Nat×Nat))(B0:Nat)(r:List bd)(i:Nat)(ls:List (Nat×Mem))(seen:List Seen)(F:Nat->Fr)(M:Nat->Mem)(V:Nat->EV):Prop extends Canon call chk B0 r i F M V where
 c2:∀k o agg a,r[k]?=some o->EG o (F (i+k)) agg a->∀j mj,(j,mj)∈ls->cr (i+k) j chk=true->mj.fi agg ((F (i+k)).eval a) (V (i+k))=true
 c3:∀l q,r[l]?=some q->qm q (F (i+l))->∀s,s∈seen->cr s.i (i+l) chk=true->(M (i+l+1)).fi s.agg s.a s.v=true
theorem OC{o:bd}{r:List bd}{i:Nat}{fr fr':Fr}{m m':Mem}{v:EV}{ls vB:List (Nat×Mem)}{seen Bj:List Seen}{F':Nat->Fr}{M':Nat->Mem}{V':Nat->EV}
  (TF:At call B0 o i fr m v m') (hfr:fr'=fr.put o.dst v) (hF:F' (i+1)=fr') (hM:M' (i+1)=m') (hc:CH call chk B0 r (i+1) vB Bj F' M' V')
  (BS:∀x,x∈ls->x∈vB) (Z6:∀x,x∈seen->x∈Bj) (WV:qm o fr->(i,m)∈vB/\∀s,s∈seen->cr s.i i chk=true->m'.fi s.agg s.a s.v=true)
  (acA:∀agg a,EG o fr agg a->⟨i,agg,fr.eval a,v⟩∈Bj/\∀j mj,(j,mj)∈ls->cr i j chk=true->mj.fi agg (fr.eval a) v=true) :
  ∃F M V,F i=fr/\M i=m/\F (i+(r.length+1))=F' (i+1+r.length)/\M (i+(r.length+1))=M' (i+1+r.length)/\CH call chk B0 (o::r) i ls seen F M V:=by
 let F:Nat->Fr:=fun x=>if x=i then fr else F' x
 let M:Nat->Mem:=fun x=>if x=i then m else M' x
 let V:Nat->EV:=fun x=>if x=i then v else V' x
 have F0:F i=fr:=if_pos rfl;have M0:M i=m:=if_pos rfl;have V0:V i=v:=if_pos rfl;have FS:∀k,F (i+(k+1))=F' (i+1+k):=fun k=>by show (if _ then _ else _)=_;rw[if_neg (by omega)];congr 1;omega
 have MS:∀k,M (i+(k+1))=M' (i+1+k):=fun k=>by show (if _ then _ else _)=_;rw[if_neg (by omega)];congr 1;omega
 have VS:∀k,V (i+(k+1))=V' (i+1+k):=fun k=>by show (if _ then _ else _)=_;rw[if_neg (by omega)];congr 1;omega
 have F1:F (i+0+1)=fr':=by have:=FS 0;rw[show i+0+1=i+(0+1)by omega,this];exact hF
 have M1:M (i+0+1)=m':=by have:=MS 0;rw[show i+0+1=i+(0+1)by omega,this];exact hM
 have FS1:∀k,F (i+(k+1)+1)=F' (i+1+k+1):=fun k=>by rw[show i+(k+1)+1=i+(k+1+1)by omega,FS];congr 1
 have MS1:∀k,M (i+(k+1)+1)=M' (i+1+k+1):=fun k=>by rw[show i+(k+1)+1=i+(k+1+1)by omega,MS];congr 1
 have pr:∀k,i+(k+1)=i+1+k:=fun k=>by omega
 refine⟨F,M,V,F0,M0,FS _,MS _,⟨⟨?_,?_⟩,?_,?_⟩⟩
 ·intro k q hk;cases k with
  |zero=>
   simp at hk;subst hk;rw[F1,M1];simp only[Nat.add_zero,F0,M0,V0];exact⟨TF,hfr⟩
  |succ k=>
   simp at hk;have:=hc.at_ k q hk
   rw[FS,MS,VS,FS1,MS1,pr k];exact this
 ·intro k p agg a l q hk hl hL hA hp;cases k with
  |zero=>
   simp at hk;subst hk;simp only[Nat.add_zero,F0,V0]at hL hp⊢;cases l with
   |zero=>
    refine⟨fun h=>absurd h (by omega),fun h=>absurd h (by omega)⟩
   |succ l=>
    simp at hl;refine⟨fun h=>absurd h (by omega),fun _=> ?_⟩
    rw[MS1];rw[FS]at hA;rw[pr l]at hp;exact hc.c3 l q hl hA _ (acA agg a hL).1 hp
  |succ k=>
   simp at hk;rw[FS,VS]at *;cases l with
   |zero=>
    simp at hl;subst hl;simp only[Nat.add_zero,F0,M0]at hA hp⊢;refine⟨fun _=> ?_,fun h=>absurd h (by omega)⟩
    rw[pr k]at hp;exact hc.c2 k p agg a hk hL i m (WV hA).1 hp
   |succ l=>
    simp at hl;rw[FS]at hA;rw[pr k,pr l]at hp;obtain⟨g1,g2⟩:=hc.c1 k p agg a l q hk hl hL hA hp;rw[MS,MS1];exact⟨fun h=>g1 (by omega),fun h=>g2 (by omega)⟩
 ·intro k p agg a hk hL j mj hj hp;cases k with
  |zero=>
   simp at hk;subst hk;simp only[Nat.add_zero,F0,V0]at hL hp⊢;exact(acA agg a hL).2 j mj hj hp
  |succ k=>
   simp at hk;rw[FS,VS]at *;rw[pr k]at hp;exact hc.c2 k p agg a hk hL j mj (BS _ hj) hp
 ·intro l q hl hA s hs hp;cases l with
  |zero=>
   simp at hl;subst hl;rw[M1];simp only[Nat.add_zero,F0]at hA hp;exact(WV hA).2 s hs hp
  |succ l=>
   simp at hl;rw[MS1];rw[FS]at hA;rw[pr l]at hp;exact hc.c3 l q hl hA s (Z6 _ hs) hp
theorem zZ{i:Nat}{agg:Option Nat}{a v:EV}:∀{sn:List (Nat×Mem)},bW chk i agg a v sn=true->∀j mj,(j,mj)∈sn->cr i j chk=true->mj.fi agg a v=true
 |[],_,j,mj,h,_=>by simp at h
 |(x,y)::sn,h,j,mj,hm,hp=>by
  simp only[bW]at h;rcases qn.1 hm with e|hm
  ·cases e;simp only[hp,cond_true]at h;cases hs:y.fi agg a v<;>simp only[hs,cond_true,cond_false,rF]at h
   rfl
  ·have:bW chk i agg a v sn=true:=by
    cases hq:cr i x chk<;>simp only[hq,cond_true,cond_false]at h
    ·exact h
    ·cases hs:y.fi agg a v<;>simp only[hs,cond_true,cond_false,rF]at h
     exact h
   exact zZ this j mj hm hp
theorem qE{j:Nat}{m:Mem}:∀{se:List Seen},bq chk j m se=true->∀s,s∈se->cr s.i j chk=true->m.fi s.agg s.a s.v=true
 |[],_,s,h,_=>by simp at h
 |x::se,h,s,hm,hp=>by
  simp only[bq]at h;rcases qn.1 hm with e|hm
  ·cases e;simp only[hp,cond_true]at h;cases hs:m.fi x.agg x.a x.v<;>simp only[hs,cond_true,cond_false,rF]at h
   rfl
  ·have:bq chk j m se=true:=by
    cases hq:cr x.i j chk<;>simp only[hq,cond_true,cond_false]at h
    ·exact h
    ·cases hs:m.fi x.agg x.a x.v<;>simp only[hs,cond_true,cond_false,rF]at h
     exact h
   exact qE this s hm hp
theorem X1:∀(r:List bd) (i:Nat) (fr:Fr) (m:Mem) (ls:List (Nat×Mem)) (seen:List Seen) (out:Out),ei call chk B0 r i fr m ls seen=some out->
  ∃F M V,F i=fr/\M i=m/\out=.norm (F (i+r.length)) (M (i+r.length))/\CH call chk B0 r i ls seen F M V:=by
 intro r
 induction r with
 |nil=>
  intro i fr m ls seen out h;simp only[ei,bQ]at h;subst h;exact⟨fun _=>fr,fun _=>m,fun _=>.undef,rfl,rfl,rfl,⟨⟨by simp,by simp⟩,by simp,by simp⟩⟩
 |cons o r ih=>
  intro i fr m ls seen out h
  -- one operation,and what follows
  have go:∀{v:EV} {m':Mem} {vB:List (Nat×Mem)} {Bj:List Seen},At call B0 o i fr m v m'->ei call chk B0 r (i+1) (fr.put o.dst v) m' vB Bj=some out->
    (∀x,x∈ls->x∈vB)->(∀x,x∈seen->x∈Bj)->(qm o fr->(i,m)∈vB/\∀s,s∈seen->cr s.i i chk=true->m'.fi s.agg s.a s.v=true)->
    (∀agg a,EG o fr agg a->⟨i,agg,fr.eval a,v⟩∈Bj/\∀j mj,(j,mj)∈ls->cr i j chk=true->mj.fi agg (fr.eval a) v=true)->
    ∃F M V,F i=fr/\M i=m/\out=.norm (F (i+(o::r).length)) (M (i+(o::r).length))/\CH call chk B0 (o::r) i ls seen F M V:=by
   intro v m' vB Bj TF hr h1 h2 h3 h4;obtain⟨F',M',V',e1,e2,e3,hc⟩:=ih (i+1) _ _ _ _ out hr;obtain⟨F,M,V,f1,f2,f3,f4,wa⟩:=OC TF rfl e1 e2 hc h1 h2 h3 h4;exact⟨F,M,V,f1,f2,by rw[List.length_cons,f3,f4];exact e3,wa⟩
  simp only[ei]at h;cases hw:bt fr o.guard with
  |none=>simp[hw]at h
  |some b=>
  cases b with
  |false=>
   simp only[hw]at h;exact go (.skip hw rfl rfl) h (fun _ h=>h) (fun _ h=>h) (fun ha=>by have:=ha.1;rw[hw]at this;cases this) (fun _ _ hl=>by have:=hl.1;rw[hw]at this;cases this)
  |true=>
   simp only[hw]at h;cases ho:o.op with
   |panic x=>simp[ho]at h
   |defer f x=>simp[ho]at h
   |call f args=>
    simp only[ho]at h;cases hc:ie call (fr.eval f) (args.map fr.eval) m with
    |none=>simp[hc]at h
    |some fin=>
     cases fin with
     |jk v m1=>simp[hc]at h
     |ret v m1=>
      simp only[hc]at h;cases hk:bq chk i m1 seen<;>simp only[hk,cond_true,cond_false,reduceCtorEq]at h
      exact go (.call f args hw ho hc) h (fun _ h=>Ah _ h) (fun _ h=>h) (fun _=>⟨by simp,qE hk⟩) (fun _ _ hl=>by have:=hl.2.1;rw[ho]at this;cases this)
   |val op=>
    simp only[ho]at h;have Pj:dG op<3->qm o fr->False:=fun hs ha=>by have:=ha.2;rw[ho]at this;simp only[sort]at this;omega
    have Nc:dG op≠2->∀agg a,EG o fr agg a->False:=fun hs agg a hl=>by
     have:=hl.2.1;rw[ho]at this;cases this;exact hs rfl
    split at h
    ·rename_i hs
     cases tJ:aL fr.eval op m with
     |none=>simp[tJ]at h
     |some q=>
      obtain⟨v,m1⟩:=q;simp only[tJ]at h;exact go (.pure op m1 hw ho hs tJ rfl) h (fun _ h=>h) (fun _ h=>h) (fun ha=>(Pj (by omega) ha).elim) (fun _ _ hl=>(Nc (by omega) _ _ hl).elim)
    ·rename_i hs
     cases tJ:aL fr.eval op ⟨B0+i,m.ja⟩with
     |none=>simp[tJ]at h
     |some q=>
      obtain⟨v,m1⟩:=q;simp only[tJ]at h;exact go (.make op m1 hw ho hs tJ rfl) h (fun _ h=>h) (fun _ h=>h) (fun ha=>(Pj (by omega) ha).elim) (fun _ _ hl=>(Nc (by omega) _ _ hl).elim)
    ·rename_i hs
     cases op<;>simp only[reduceCtorEq]at h
     rename_i agg a
     cases hl:m.load agg (fr.eval a)with
     |none=>simp[hl]at h
     |some v=>
      simp only[hl]at h;cases hf:Ge (fr.eval a)<;>simp only[hf,cond_true,cond_false]at h
      ·cases hk:bW chk i agg (fr.eval a) v ls<;>simp only[hk,cond_true,cond_false,reduceCtorEq]at h
       refine go (.load agg a hw ho hl rfl) h (fun _ h=>h) (fun _ h=>Ah _ h) (fun ha=>(Pj (by rw[hs];omega) ha).elim) (fun ajj a' zm=> ?_)
       have:=zm.2.1;rw[ho]at this;cases this;exact⟨by simp,zZ hk⟩
      ·cases hk:ey chk i m.next ls<;>simp only[hk,cond_true,cond_false,reduceCtorEq]at h
       refine go (.load agg a hw ho hl rfl) h (fun _ h=>h) (fun _ h=>h) (fun ha=>(Pj (by rw[hs];omega) ha).elim) (fun ajj a' zm=> ?_)
       have:=zm.2.1;rw[ho]at this;cases this;have:=zm.2.2;rw[hf]at this;cases this
    ·rename_i h0 h1 h2
     have hs:3<=dG op:=by
      rcases Nat.lt_or_ge (dG op) 3 with h3|h3
      ·exfalso;have:dG op=0\/dG op=1\/dG op=2:=by omega
       rcases this with e|e|e
       ·exact h0 e
       ·exact h1 e
       ·exact h2 e
      ·exact h3
     cases tJ:aL fr.eval op m with
     |none=>simp[tJ]at h
     |some q=>
      obtain⟨v,m1⟩:=q;simp only[tJ]at h;cases hk:bq chk i m1 seen<;>simp only[hk,cond_true,cond_false,reduceCtorEq]at h
      exact go (.act op hw ho hs tJ) h (fun _ h=>Ah _ h) (fun _ h=>h) (fun _=>⟨by simp,qE hk⟩) (fun _ _ hl=>(Nc (by omega) _ _ hl).elim)
end
end
section
structure OT(ops:Array Oper)(l:List Nat):Prop where
 nodup:l.Nodup
 all:∀i,i∈l↔i<ops.size
 aiV:∀(k i:Nat) (o:Oper) (e:Edge),l[k]?=some i->ops[i]?=some o->e∈o.after->gY e=true->e.on∈l.take k
theorem Jm{e:Edge}(h:gY e=true):Region.binds .any e=true:=by
 unfold gY at h;unfold Region.binds;cases hg:e.ground<;>simp_all
theorem AV:∀(l:List Oper) (i:Nat),wh l i=true->∀(k:Nat) (o:Oper) (e:Edge),l[k]?=some o->e∈o.after->gY e=true->e.on<i+k
 |[],i,_,k,o,e,h,_,_=>by simp at h
 |x::l,i,hd,k,o,e,h,he,hp=>by
  simp only[wh,rC]at hd;cases k with
  |zero=>
   simp at h;subst h;have:=List.all_eq_true.1 hd.1 e (by simpa using he);simp[hp]at this;omega
  |succ k=>
   have:=AV l (i+1) hd.2 k o e (by simpa using h) he hp;omega
theorem yV:∀(n:Nat) (l:List Nat),l.Nodup->(∀x,x∈l->x<n)->l.length<=n
 |0,l,_,h=>by
  cases l with
  |nil=>simp
  |cons x l=>exact absurd (h x (by simp)) (by omega)
 |n+1,l,hn,h=>by
  by_cases hm:n∈l
  ·have h1:=yV n (l.erase n) (hn.erase n) (fun x hx=>by
    have h2:=(hn.mem_erase_iff).1 hx;have:=h x h2.2;have:=h2.1;omega)
   rw[List.length_erase_of_mem hm]at h1;omega
  ·have h1:=yV n l hn (fun x hx=>by
    have h2:=h x hx;have:x≠n:=fun e=>hm (e▸hx)
    omega)
   omega
theorem RH{n:Nat}{l:List Nat}(hn:l.Nodup)(h:∀x,x∈l->x<n)(hl:l.length=n):∀i,i<n->i∈l:=by
 intro i hi;apply vt
 intro hni;have:=yV n (i::l) (List.nodup_cons.2 ⟨hni,hn⟩) (fun x hx=>by
  rcases qn.1 hx with rfl|hx
  ·exact hi
  ·exact h x hx)
 simp at this;omega
theorem RG{l:List Nat}(h:l.Nodup):l.reverse.Nodup:=List.pairwise_reverse.2 (List.Pairwise.imp (fun h=>Ne.symm h) h)
theorem VQ(ops:Array Oper)(zq:wh ops.toList 0=true):∀(fuel t:Nat) (listed:Array Bool) (acc:List Nat),listed.size=ops.size->(∀i,listed.getD i true=false↔(i<ops.size/\i∉acc))->(∀i,i∈acc->i<ops.size)->acc.Nodup->acc.length+fuel=ops.size->
  (∀(k i:Nat) (o:Oper) (e:Edge),acc.reverse[k]?=some i->ops[i]?=some o->e∈o.after->gY e=true->e.on∈acc.reverse.take k)->
  OT ops (Region.linearise.go .any ops fuel t listed acc)
 |0,t,listed,acc,tF,hl,aH,hnd,hlen,hed=>by
  simp only[Region.linearise.go];refine⟨RG hnd,fun i=> ?_,hed⟩
  rw[List.mem_reverse];exact⟨aH i,RH hnd aH (by omega) i⟩
 |fuel+1,t,listed,acc,tF,hl,aH,hnd,hlen,hed=>by
  simp only[Region.linearise.go]
  -- aga is ready:the least T8 is not listed
  have hex:∃i,i<ops.size/\i∉acc:=by
   apply vt
   intro iv;have hall:∀i,i<ops.size->i∈acc:=fun x hx=>vt fun hx2=>iv ⟨x,hx,hx2⟩
   have h1:(List.range ops.size).length<=acc.length:=by
    have h2:=yV acc.length ((List.range ops.size).map fun x=>acc.idxOf x) ?_ ?_
    ·simpa using h2
    ·have anH:∀x,x<ops.size->∀y,y<ops.size->acc.idxOf x=acc.idxOf y->x=y:=by
      intro x hx y hy hxy;have e1:=List.getElem_idxOf (List.idxOf_lt_length_iff.2 (hall x hx));have e2:=List.getElem_idxOf (List.idxOf_lt_length_iff.2 (hall y hy));rw[<- e1,<- e2]
      congr 1
     rw[List.Nodup,List.pairwise_map];refine List.Pairwise.imp_of_mem ?_ (List.nodup_range (n:=ops.size))
     intro a b ha hb PN e;exact PN (anH a (by simpa using ha) b (by simpa using hb) e)
    ·intro x hx;obtain⟨y,hy,rfl⟩:=List.mem_map.1 hx;exact List.idxOf_lt_length_iff.2 (hall y (by simpa using hy))
   simp at h1;omega
  generalize hrs:(List.range ops.size).filter (fun i=> !listed.getD i true&&((ops[i]?).map (fun x=>x.after.all fun e=> !Region.binds .any e||listed.getD e.on false)).getD false)=rs;have zi:∀i,i∈rs↔i<ops.size/\listed.getD i true=false/\∀o,ops[i]?=some o->∀e∈o.after,Region.binds .any e=true->listed.getD e.on false=true:=by
   intro i;rw[<- hrs];simp only[List.mem_filter,List.mem_range,rC,Bool.not_eq_true'];constructor
   ·rintro⟨h1,h2,h3⟩;refine⟨h1,h2,fun o ho e he hb=> ?_⟩
    rw[ho]at h3;simp only[Option.map_some,Option.getD_some,Array.all_eq_true_iff_forall_mem]at h3;have:=h3 e he;simpa[hb]using this
   ·rintro⟨h1,h2,h3⟩;refine⟨h1,h2,?_⟩
    have ho:ops[i]?=some ops[i]:=Array.getElem?_eq_getElem h1;rw[ho];simp only[Option.map_some,Option.getD_some,Array.all_eq_true_iff_forall_mem];intro e he;cases hb:Region.binds .any e with
    |false=>rfl
    |true=>simpa using h3 _ ho e he hb
  have hgt:∀i,listed.getD i false=true↔(i<ops.size/\i∈acc):=by
   intro i;have h1:=hl i;by_cases hi:i<ops.size
   ·have e1:listed.getD i true=listed.getD i false:=by simp[Array.getD,tF,hi]
    rw[e1]at h1;cases hb:listed.getD i false with
    |true=>rw[hb]at h1;simp at h1;exact⟨fun _=>⟨hi,h1 hi⟩,fun _=>rfl⟩
    |false=>rw[hb]at h1;simp at h1;exact⟨fun h=>(by cases h),fun h=>absurd h.2 h1.2⟩
   ·have e2:listed.getD i false=false:=by simp[Array.getD,tF,hi]
    rw[e2];exact⟨fun h=>(by cases h),fun h=>absurd h.1 hi⟩
  have fR:rs≠[]:=by
   -- the least one
   obtain⟨i,hi⟩:∃i,(i<ops.size/\i∉acc)/\∀j,j<i->¬(j<ops.size/\j∉acc):=by
    obtain⟨i,hi⟩:=hex
    induction i using Nat.strongRecOn with
    |_ i ih=>
     by_cases h:∃j,j<i/\(j<ops.size/\j∉acc)
     ·obtain⟨j,hj,hj2⟩:=h;exact ih j hj hj2
     ·exact⟨i,hi,fun j hj h2=>h ⟨j,hj,h2⟩⟩
   intro anp;have:i∈rs:=by
    rw[zi];refine⟨hi.1.1,(hl i).2 hi.1,fun o ho e he hb=> ?_⟩
    rw[hgt];have hp:gY e=true:=by
     unfold Region.binds at hb;unfold gY;cases hg:e.ground<;>simp_all
    have aho:e.on<i:=by
     have:=AV ops.toList 0 zq i o e (by simpa using ho) he hp;omega
    have h2:=hi.2 e.on aho;refine⟨by omega,?_⟩
    apply vt
    intro h3;exact h2 ⟨by omega,h3⟩
   rw[anp]at this;simp at this
  have HF:0<rs.length:=List.length_pos_iff.2 fR;have ahB:t % rs.length<rs.length:=Nat.mod_lt _ HF;rw[jE ahB];simp only;have hi:rs[t % rs.length]∈rs:=oX ahB;generalize rs[t % rs.length]=i at hi;obtain⟨h1,h2,h3⟩:=(zi i).1 hi;have hni:i∉acc:=((hl i).1 h2).2;refine VQ ops zq fuel _ _ (i::acc) (by simpa using tF) (fun j=> ?_) (fun j hj=> ?_) (List.nodup_cons.2 ⟨hni,hnd⟩) (by simp;omega) ?_
  ·by_cases e:j=i
   ·subst e;have:(listed.setIfInBounds j true).getD j true=true:=by simp[Array.getD_eq_getD_getElem?,tF,h1]
    rw[this];simp
   ·have:(listed.setIfInBounds i true).getD j true=listed.getD j true:=by rw[Array.getD_eq_getD_getElem?,Array.getElem?_setIfInBounds_ne (fun h=>e h.symm),<- Array.getD_eq_getD_getElem?]
    rw[this,hl j];simp[e]
  ·rcases qn.1 hj with rfl|hj
   ·exact h1
   ·exact aH j hj
  ·intro k j o e hk ho he hp;rw[List.reverse_cons]at hk⊢;by_cases uW:k<acc.reverse.length
   ·rw[rB uW]at hk;rw[List.take_append_of_le_length (by omega)];exact hed k j o e hk ho he hp
   ·have Fc:k=acc.reverse.length:=by
     have:=(mu.1 hk).1;simp at this uW⊢;omega
    subst Fc;rw[yy (cR _)]at hk;simp at hk;subst hk;rw[List.take_append_of_le_length (cR _),List.take_length];have:=(hgt e.on).1 (h3 o ho e he (Jm hp));exact List.mem_reverse.2 this.2
theorem G7{P:Program}(j9:P.follows .mixedOrders=true)(ops:Array Oper)(zq:wh ops.toList 0=true)(t:Nat):OT ops (Region.schedule (P.follows .mixedOrders) ops t):=by
 unfold Region.schedule;rw[j9];simp only[Bool.true_or,if_true];unfold Region.linearise;exact VQ ops zq ops.size t _ [] (by simp) (fun i=>by
  by_cases hi:i<ops.size
  ·simp[Array.getD_eq_getD_getElem?,hi]
  ·simp[Array.getD_eq_getD_getElem?,hi]) (by simp) (by simp) (by simp) (by simp)
theorem uL:∀(l:List Oper) (acc:List (List Nat)) (i:Nat),i<acc.length->(gf l acc)[i]?=acc[i]?
 |[],acc,i,_=>rfl
 |o::l,acc,i,h=>by
  simp only[gf];rw[uL l _ i (by simp;omega),rB h]
theorem Eu:∀(l:List Oper) (acc:List (List Nat)) (k:Nat) (o:Oper),l[k]?=some o->
  ∃Lt:List (List Nat),(gf l acc)[acc.length+k]?=some ((o.after.toList.filter gY).flatMap fun e=>e.on::Lt.getD e.on [])/\Lt.length=acc.length+k/\∀i,i<Lt.length->Lt[i]?=(gf l acc)[i]?
 |[],acc,k,o,h=>by simp at h
 |x::l,acc,k,o,h=>by
  cases k with
  |zero=>
   simp at h;subst h;refine⟨acc,?_,rfl,fun i hi=> ?_⟩
   ·simp only[gf];rw[uL l _ _ (by simp)];simp
   ·simp only[gf];rw[uL l _ i (by simp;omega),rB hi]
  |succ k=>
   simp only[gf];obtain⟨Lt,h1,h2,h3⟩:=Eu l (acc++[(x.after.toList.filter gY).flatMap fun e=>e.on::acc.getD e.on []]) k o (by simpa using h);refine⟨Lt,?_,by rw[h2];simp;omega,h3⟩
   rw[<- h1];congr 1;simp;omega
theorem Fq{ops:Array Oper}(zq:wh ops.toList 0=true){l:List Nat}(hl:OT ops l):∀(j k:Nat),l[k]?=some j->∀i,i∈(gf ops.toList []).getD j []->i∈l.take k:=by
 intro j
 induction j using Nat.strongRecOn with
 |_ j ih=>
  intro k hk i hi;have hj:j<ops.size:=(hl.all j).1 (List.mem_of_getElem? hk);have ho:ops.toList[j]?=some ops[j]:=by simp[hj]
  obtain⟨Lt,h1,h2,h3⟩:=Eu ops.toList [] j ops[j] ho;simp only[List.length_nil,Nat.zero_add]at h1 h2;rw[List.getD_eq_getElem?_getD,h1,Option.getD_some]at hi;obtain⟨e,he,hi⟩:=List.mem_flatMap.1 hi;obtain⟨he1,he2⟩:=List.mem_filter.1 he;have aH:e.on<j:=by
   have:=AV ops.toList 0 zq j ops[j] e ho (by simpa using he1) he2;omega
  have hon:=hl.aiV k j ops[j] e hk (Array.getElem?_eq_getElem hj) (by simpa using he1) he2;rcases qn.1 hi with rfl|hi
  ·exact hon
  ·have an2:Lt.getD e.on []=(gf ops.toList []).getD e.on []:=by rw[List.getD_eq_getElem?_getD,List.getD_eq_getElem?_getD,h3 e.on (by omega)]
   rw[an2]at hi;obtain⟨k',DL⟩:=List.mem_iff_getElem?.1 hon;have acB:k'<k:=by
    have:=(mu.1 DL).1;simp at this;omega
   rw[List.getElem?_take,if_pos acB]at DL;have:=ih e.on aH k' DL i hi;exact(List.take_subset_take_left l (Nat.le_of_lt acB)) this
end
section
section
variable {G:List Nat} {base:Nat} {ρ:eR} {m:Mem} {w:World} {P:Program} {n:Nat} {fr:Fr} {a:Act}
theorem Nt{o:Oper}{io:oa}(hc:cOp P G o=some io)(hs:dG io=1)(hG:lx G ρ)(hR:RN base ρ m w)(hF:FR ρ n fr a){v:EV}{m1:Mem}(h:aL fr.eval io m=some (.val v m1)) :
  ∃B,m1=m.new B/\∃ρ' w' v',(execOp a.eval o).run P w=.ok (.value v') w'/\VR ρ' v v'/\Made base ρ m w ρ' B w':=by
 have E:∀{x:Operand} {y:bm},fS G x=some y->VR ρ (fr.eval y) (a.eval x):=fun h=>j3 hG hF h
 have fin:∀{s:Sem Value} {B:bX},execOp a.eval o=(do pure (Next.value (<- s)):Sem Next)->wD P s base ρ m w v B->∃ρ' w' v',(execOp a.eval o).run P w=.ok (.value v') w'/\VR ρ' v v'/\Made base ρ m w ρ' B w':=by
  rintro s B he ⟨ρ',w',v',h1,h2,h3⟩;exact⟨ρ',w',v',by rw[he];simp[h1],h2,h3⟩
 unfold cOp at hc
 split at hc
 case h_1=>obtain⟨_,_,rfl⟩:=ah hc;simp[dG]at hs
 case h_2=>obtain⟨_,_,rfl⟩:=ah hc;simp[dG]at hs
 case h_3=>obtain⟨_,_,hc⟩:=ag hc;obtain⟨_,_,hc⟩:=ag hc;obtain⟨_,_,rfl⟩:=ah hc;simp[dG]at hs
 case h_4 e ho=>
  obtain⟨z,hz,rfl⟩:=ah hc;simp only[aL,bQ,R1.val.injEq]at h;obtain⟨rfl,rfl⟩:=h;exact⟨_,rfl,fin (by simp only[execOp,ho]) (Ey hR hz)⟩
 case h_5 e x ho=>
  obtain⟨y,hy,rfl⟩:=ah hc;simp only[aL]at h;cases nX:(fr.eval y).cells with
  |none=>simp[nX]at h
  |some cs=>
   simp only[nX,bQ,R1.val.injEq]at h;obtain⟨rfl,rfl⟩:=h;exact⟨_,rfl,fin (by simp only[execOp,ho]) (Lh hR (E hy) nX)⟩
 case h_6=>
  obtain⟨_,_,hc⟩:=ag hc;rcases iA hc with hc|hc
  ·obtain⟨_,_,hc⟩:=ag hc;obtain⟨_,_,hc⟩:=ag hc;obtain⟨_,_,rfl⟩:=ah hc;simp[dG]at hs
  ·obtain⟨_,_,hc⟩:=ag hc;obtain⟨_,_,hc⟩:=ag hc;obtain⟨_,_,rfl⟩:=ah hc;simp[dG]at hs
 case h_7 t len parts ho=>
  obtain⟨e,hu,hc⟩:=ag hc;obtain⟨s,tF,hc⟩:=ag hc;obtain⟨z,hz,hc⟩:=ag hc;obtain⟨ps,hp,hc⟩:=ag hc;obtain⟨_,HD,hc⟩:=ag hc;obtain⟨_,hl,rfl⟩:=ah hc;have hu:=mv hu;simp only[aL]at h;cases nX:eQ (eA len z) (ps.map fun p=>(p.1*s,s,fr.eval p.2))with
  |none=>simp[nX]at h
  |some cs=>
   simp only[nX,bQ,R1.val.injEq]at h;obtain⟨rfl,rfl⟩:=h;obtain⟨p1,p2⟩:=mapM_some _ hp;have hb:=BI (P:=P) hR hu tF hz (bf (ld HD)) (rI (ld hl)) (qs:=parts.toList.map fun p=>(p.1,a.eval p.2)) (by simpa using p1.symm) (fun i p q hp' Gi=>by
    rw[List.getElem?_map]at hp' Gi;obtain⟨p0,hp0,rfl⟩:=mH.1 hp';obtain⟨q0,hq0,rfl⟩:=mH.1 Gi;obtain⟨x,hx,hxp⟩:=ah (p2 i q0 p0 hq0 hp0);subst hxp;exact⟨⟨rfl,rfl⟩,E hx⟩) nX
   have:(parts.map fun(i,x)=>(i,a.eval x))=(⟨parts.toList.map fun p=>(p.1,a.eval p.2)⟩:Array (Nat×Value)):=by apply Array.ext';simp
   exact⟨_,rfl,fin (by simp only[execOp,ho];rw[this]) hb⟩
 case h_8=>obtain⟨_,_,hc⟩:=ag hc;obtain⟨_,_,rfl⟩:=ah hc;simp[dG]at hs
 case h_9=>obtain⟨_,_,hc⟩:=ag hc;obtain⟨_,_,hc⟩:=ag hc;obtain⟨_,_,rfl⟩:=ah hc;simp[dG]at hs
 case h_10=>obtain⟨_,_,rfl⟩:=ah hc;simp[dG]at hs
 case h_11 op t x y yt ho=>
  obtain⟨_,_,hc⟩:=ag hc;obtain⟨_,_,hc⟩:=ag hc
  split at hc
  ·unfold cEq at hc;simp only[Bool.cond_eq_ite]at hc
   split at hc<;>(obtain⟨_,_,rfl⟩:=ah hc;simp[dG]at hs)
  ·unfold cEq at hc;simp only[Bool.cond_eq_ite]at hc
   split at hc<;>(obtain⟨_,_,rfl⟩:=ah hc;simp[dG]at hs)
  ·cases hc;simp[dG]at hs
 case h_12=>obtain⟨_,_,rfl⟩:=ah hc;simp[dG]at hs
 case h_13 s d x ho=>
  obtain⟨y,hy,hc⟩:=ag hc;rcases iA hc with hc|hc
  ·obtain⟨_,_,hc⟩:=ag hc;obtain⟨_,_,rfl⟩:=ah hc;simp[dG]at hs
  rcases iA hc with hc|hc
  ·obtain⟨_,_,hc⟩:=ag hc;obtain⟨_,_,rfl⟩:=ah hc;simp[dG]at hs
  rcases iA hc with hc|hc
  ·obtain⟨_,hsu,hc⟩:=ag hc;obtain⟨e,hd,hc⟩:=ag hc;obtain⟨k,he,hc⟩:=ag hc;obtain⟨_,hk,rfl⟩:=ah hc;have hk:k=.u8:=by have:=bf (ld hk);cases k<;>simp[cx]at this;rfl
   subst hk;simp only[aL]at h;obtain⟨B,rfl,hB⟩:=El (P:=P) hR (nh hsu) (mv hd) (Ch he) (E hy) (oi h);exact⟨B,rfl,fin (by simp only[execOp,ho]) hB⟩
  ·obtain⟨_,_,hc⟩:=ag hc;obtain⟨_,_,hc⟩:=ag hc;obtain⟨_,_,hc⟩:=ag hc;obtain⟨_,_,rfl⟩:=ah hc;simp[dG]at hs
 case h_14=>obtain⟨_,_,hc⟩:=ag hc;obtain⟨_,_,rfl⟩:=ah hc;simp[dG]at hs
 case h_15=>obtain⟨_,_,hc⟩:=ag hc;obtain⟨_,_,rfl⟩:=ah hc;simp[dG]at hs
 case h_16 t ho=>
  obtain⟨_,_,rfl⟩:=ah hc;simp only[aL,bQ,R1.val.injEq]at h;obtain⟨rfl,rfl⟩:=h;refine⟨_,rfl,fin (by simp only[execOp,ho]) (s:=Instr.makeMap t (none.map a.eval)) ?_⟩
  have:=uw (P:=P) hR;simpa[Instr.makeMap]using this
 case h_17 t k z ho=>
  obtain⟨q,hu,rfl⟩:=ah hc;have hu:=yC hu;simp only[aL,bQ,R1.val.injEq]at h;obtain⟨rfl,rfl⟩:=h;refine⟨_,rfl,fin (by simp only[execOp,ho]) (s:=Instr.makeMap t ((some (.const (.int k z))).map a.eval)) ?_⟩
  obtain⟨ρ',w',v',h1,h2⟩:=uw (P:=P) hR;exact⟨ρ',w',v',by simpa[Instr.makeMap,run_underlying hu,Act.eval,asInt,asIntOf]using h1,h2⟩
 case h_18 t l c ho=>
  obtain⟨e,hu,hc⟩:=ag hc;obtain⟨i,hi,hc⟩:=ag hc;obtain⟨z,hz,hc⟩:=ag hc;obtain⟨l',hl,hc⟩:=ag hc;obtain⟨c',wa,hc⟩:=ag hc;obtain⟨_,HD,hc⟩:=ag hc;obtain⟨_,hb,rfl⟩:=ah hc;have vn:=E hl;have wW:=E wa;simp only[aL]at h;have hex:execOp a.eval o=(do pure (Next.value (<- Instr.makeSlice t (a.eval l) (a.eval c))):Sem Next):=by simp only[execOp,ho]
  generalize fr.eval l'=el at vn h;generalize fr.eval c'=ec at wW h;generalize a.eval l=al at vn hex;generalize a.eval c=ac at wW hex;cases vn<;>(try simp only[reduceCtorEq]at h)
  rename_i k1 n1
  cases k1<;>(try simp only[reduceCtorEq]at h)
  cases n1<;>(try simp only[reduceCtorEq]at h)
  rename_i ln
  cases wW<;>(try simp only[reduceCtorEq]at h)
  rename_i k2 n2
  cases k2<;>(try simp only[reduceCtorEq]at h)
  cases n2<;>(try simp only[reduceCtorEq]at h)
  rename_i cn
  cases h1:ln.ble cn<;>simp only[h1,cond_true,cond_false,reduceCtorEq]at h
  cases h2:cn.ble room<;>simp only[h2,cond_true,cond_false,reduceCtorEq,bQ,R1.val.injEq]at h
  obtain⟨rfl,rfl⟩:=h;exact⟨_,rfl,fin hex (y9 hR (mv hu) hi hz (bf (ld HD)) (rI (ld hb)) (rI h1) (rI h2))⟩
 case h_19=>
  obtain⟨_,_,hc⟩:=ag hc;obtain⟨_,_,hc⟩:=ag hc;obtain⟨_,_,hc⟩:=ag hc;obtain⟨_,_,hc⟩:=ag hc;obtain⟨_,_,hc⟩:=ag hc;rcases iA hc with hc|hc
  ·obtain⟨_,_,hc⟩:=ag hc;obtain⟨_,_,rfl⟩:=ah hc;simp[dG]at hs
  rcases iA hc with hc|hc
  ·obtain⟨_,_,hc⟩:=ag hc;obtain⟨_,_,rfl⟩:=ah hc;simp[dG]at hs
  ·obtain⟨_,_,hc⟩:=ag hc;obtain⟨_,_,rfl⟩:=ah hc;simp[dG]at hs
 case h_20=>obtain⟨_,_,hc⟩:=ag hc;obtain⟨_,_,hc⟩:=ag hc;obtain⟨_,_,hc⟩:=ag hc;obtain⟨_,_,hc⟩:=ag hc;obtain⟨_,_,rfl⟩:=ah hc;simp[dG]at hs
 case h_21=>obtain⟨_,_,hc⟩:=ag hc;obtain⟨_,_,hc⟩:=ag hc;obtain⟨_,_,hc⟩:=ag hc;obtain⟨_,_,rfl⟩:=ah hc;simp[dG]at hs
 case h_22=>
  obtain⟨_,_,hc⟩:=ag hc;obtain⟨_,_,hc⟩:=ag hc;rcases iA hc with hc|hc
  ·obtain⟨_,_,hc⟩:=ag hc;obtain⟨_,_,rfl⟩:=ah hc;simp[dG]at hs
  ·obtain⟨_,_,hc⟩:=ag hc;obtain⟨_,_,rfl⟩:=ah hc;simp[dG]at hs
 case h_23=>
  obtain⟨_,_,hc⟩:=ag hc;obtain⟨_,_,hc⟩:=ag hc;rcases iA hc with hc|hc
  ·obtain⟨_,_,rfl⟩:=ah hc;simp[dG]at hs
  ·obtain⟨_,_,hc⟩:=ag hc;obtain⟨_,_,hc⟩:=ag hc;obtain⟨_,_,rfl⟩:=ah hc;simp[dG]at hs
 case h_24=>obtain⟨_,_,hc⟩:=ag hc;obtain⟨_,_,hc⟩:=ag hc;obtain⟨_,_,hc⟩:=ag hc;obtain⟨_,_,hc⟩:=ag hc;obtain⟨_,_,rfl⟩:=ah hc;simp[dG]at hs
 case h_25=>obtain⟨_,_,hc⟩:=ag hc;obtain⟨_,_,hc⟩:=ag hc;obtain⟨_,_,hc⟩:=ag hc;obtain⟨_,_,hc⟩:=ag hc;obtain⟨_,_,rfl⟩:=ah hc;simp[dG]at hs
 case h_26=>obtain⟨_,_,hc⟩:=ag hc;obtain⟨_,_,hc⟩:=ag hc;obtain⟨_,_,hc⟩:=ag hc;obtain⟨_,_,hc⟩:=ag hc;obtain⟨_,_,rfl⟩:=ah hc;simp[dG]at hs
 case h_27=>obtain⟨_,_,hc⟩:=ag hc;obtain⟨_,_,rfl⟩:=ah hc;simp[dG]at hs
 case h_28=>obtain⟨_,_,rfl⟩:=ah hc;simp[dG]at hs
 case h_29 c ho=>
  obtain⟨ys,Wk,hc⟩:=ag hc
  split at hc
  ·exfalso;unfold wx at hc;simp only[Bool.cond_eq_ite]at hc
   split at hc
   ·split at hc<;>first|(cases hc;simp[dG]at hs;done)|cases hc
   ·split at hc<;>first|(cases hc;simp[dG]at hs;done)|cases hc
   ·cases hc;simp[dG]at hs
   ·cases hc;simp[dG]at hs
   ·obtain⟨_,_,hc⟩:=ag hc;obtain⟨_,_,hc⟩:=ag hc;obtain⟨_,_,hc⟩:=ag hc;obtain⟨_,_,hc⟩:=ag hc;obtain⟨_,_,hc⟩:=ag hc
    split at hc<;>first|(cases hc;simp[dG]at hs;done)|cases hc
   ·split at hc
    ·split at hc<;>first|(cases hc;simp[dG]at hs;done)|cases hc
    ·cases hc
   ·split at hc
    ·obtain⟨_,_,rfl⟩:=ah hc;simp[dG]at hs
    ·cases hc
   ·cases hc
  ·cases hc
 case h_30=>cases hc
theorem q9{l:List bm}{f g:bm->EV}(h:∀x,x∈l->f x=g x):l.map f=l.map g:=List.map_congr_left h
theorem lS{l:Option bm}{f g:bm->EV}(h:∀x,x∈Di l->f x=g x):l.map f=l.map g:=by
 cases l with
 |none=>rfl
 |some x=>simp[h x (by simp[Di])]
theorem xZ{f g:bm->EV}{op:oa}(h:∀x,x∈ku op->f x=g x)(m:Mem):aL f op m=aL g op m:=by
 cases op
 case build z ps=>
  simp only[aL];rw[List.map_congr_left (g:=fun p=>(p.1,p.2.1,g p.2.2))];intro p hp;rw[h p.2.2 (by simp only[ku,List.mem_map];exact⟨p,hp,rfl⟩)]
 case aG e s l z ps=>
  simp only[aL];rw[List.map_congr_left (g:=fun p=>(p.1*s,s,g p.2))];intro p hp;rw[h p.2 (by simp only[ku,List.mem_map];exact⟨p,hp,rfl⟩)]
 case AJ k x y=>
  simp only[aL];rw[q9 (l:=x) (fun z hz=>h z (by simp[ku,hz])),q9 (l:=y) (fun z hz=>h z (by simp[ku,hz]))]
 case max xs=>simp only[aL];rw[q9 (l:=xs) h]
 case min xs=>simp only[aL];rw[q9 (l:=xs) h]
 case ob x l hh=>
  simp only[aL];rw[h x (by simp[ku]),lS (l:=l) (fun z hz=>h z (by simp[ku,hz])),lS (l:=hh) (fun z hz=>h z (by simp[ku,hz]))]
 case pE e x l hh mm=>
  simp only[aL];rw[h x (by simp[ku]),lS (l:=l) (fun z hz=>h z (by simp[ku,hz])),lS (l:=hh) (fun z hz=>h z (by simp[ku,hz])),lS (l:=mm) (fun z hz=>h z (by simp[ku,hz]))]
 case xp e k x l hh mm=>
  simp only[aL];rw[h x (by simp[ku]),lS (l:=l) (fun z hz=>h z (by simp[ku,hz])),lS (l:=hh) (fun z hz=>h z (by simp[ku,hz])),lS (l:=mm) (fun z hz=>h z (by simp[ku,hz]))]
 all_goals
  simp only[ku,qn,List.not_mem_nil,or_false,forall_eq_or_imp,forall_eq]at h;simp only[aL,h]
theorem Jl{f:bm->EV}{op:oa}(hs:dG op=0){m m1:Mem}{v:EV}(h:aL f op m=some (.val v m1)):m1=m/\∀m',aL f op m'=some (.val v m'):=by
 have e1:∀{x:Option EV},jb m x=some (.val v m1)->m1=m/\∀m',jb m' x=some (.val v m'):=by
  intro x hx;obtain⟨h1,h2⟩:=iu hx;exact⟨h2,fun m'=>by rw[h1];rfl⟩
 cases op<;>simp only[dG]at hs<;>(try (simp at hs;done))
 case conv c x=>
  cases c<;>simp at hs
  all_goals
   simp only[aL]at h⊢;have h1:=oi h;generalize f x=e at h1⊢;cases e<;>simp only[l8,reduceCtorEq,bQ,sY]at h1
   obtain⟨rfl,rfl⟩:=h1;exact⟨rfl,fun m'=>rfl⟩
 all_goals
  simp only[aL,Bool.cond_eq_ite]at h ⊢
  first
   |exact e1 h
   |(simp only[bQ,R1.val.injEq]at h;obtain⟨rfl,rfl⟩:=h;exact⟨rfl,fun m'=>rfl⟩)
   |(revert h;(repeat' split)<;>intro h<;>first
    |(cases h;done)
    |exact e1 h
    |(simp only[bQ,R1.val.injEq]at h;obtain⟨rfl,rfl⟩:=h;exact⟨rfl,fun m'=>rfl⟩)
    |(simp_all;done))
end
end
section
theorem MI{a b:Option Nat}(h:yL a b=true):a=b:=by
 cases a<;>cases b<;>simp[yL]at h
 ·rfl
 ·exact congrArg some h
mutual
theorem yK:∀{a b:EV},EV.same a b=true->a=b
 |a,b,h=>by
  cases a<;>cases b<;>simp only[EV.same,rF]at h
  case undef.undef=>rfl
  case bM.bM=>rfl
  case aa.aa=>rfl
  case bN.bN=>rfl
  case bS.bS=>rfl
  case aP.aP=>rfl
  case bool.bool x y=>rw[beq_iff_eq.1 h]
  case int.int k x l y=>
   cases hk:(cx k).beq (cx l)<;>simp only[hk,cond_true,cond_false,rF]at h
   rw[lW hk,xG]at *;rw[of_decide_eq_true h]
  case str.str x y=>
   rw[gJ]at h;rw[of_decide_eq_true h]
  case ptr.ptr x i y j=>
   cases hk:x.beq y<;>simp only[hk,cond_true,cond_false,rF]at h
   rw[bf hk,bf h]
  case slice.slice x i k c y j l d=>
   cases h1:x.beq y<;>simp only[h1,cond_true,cond_false,rF]at h
   cases h2:i.beq j<;>simp only[h2,cond_true,cond_false,rF]at h
   cases h3:k.beq l<;>simp only[h3,cond_true,cond_false,rF]at h
   rw[bf h1,bf h2,bf h3,MI h]
  case map.map x y=>rw[bf h]
  case func.func f x y g z u=>
   cases h1:f.beq g<;>simp only[h1,cond_true,cond_false,rF]at h
   cases h2:EV.oV x z<;>simp only[h2,cond_true,cond_false,rF]at h
   rw[bf h1,th h2,th h]
  case iface.iface t v u z=>
   cases h1:t.beq u<;>simp only[h1,cond_true,cond_false,rF]at h
   rw[bf h1,yK h]
  case agg.agg x y=>rw[th h]
  case tuple.tuple x y=>rw[th h]
  case fz.fz t e x u f y=>
   cases h0:t.beq 0<;>simp only[h0,cond_true,cond_false,rF]at h
   cases h1:t.beq u<;>simp only[h1,cond_true,cond_false,rF]at h
   cases h2:e.beq f<;>simp only[h2,cond_true,cond_false,rF]at h
   rw[bf h1,bf h2,FO h]
theorem th:∀{a b:List EV},EV.oV a b=true->a=b
 |[],[],_=>rfl
 |[],_::_,h=>by simp[EV.oV]at h
 |_::_,[],h=>by simp[EV.oV]at h
 |x::a,y::b,h=>by
  simp only[EV.oV]at h;cases h1:EV.same x y<;>simp only[h1,cond_true,cond_false,rF]at h
  rw[yK h1,th h]
theorem FO:∀{a b:List (List EV)},EV.sy a b=true->a=b
 |[],[],_=>rfl
 |[],_::_,h=>by simp[EV.sy]at h
 |_::_,[],h=>by simp[EV.sy]at h
 |x::a,y::b,h=>by
  simp only[EV.sy]at h;cases h1:EV.oV x y<;>simp only[h1,cond_true,cond_false,rF]at h
  rw[th h1,FO h]
end
theorem FI{m:Mem}{agg:Option Nat}{a v:EV}(h:m.fi agg a v=true):m.load agg a=some v:=by
 unfold Mem.fi at h;cases hl:m.load agg a with
 |none=>simp[hl]at h
 |some x=>simp only[hl]at h;rw[yK h]
theorem VO{m m':Mem}{agg:Option Nat}{b off:Nat}(h:m.get b=m'.get b):m.load agg (.ptr b off)=m'.load agg (.ptr b off):=by simp only[Mem.load,h]
theorem R.congr{base:Nat}{ρ:eR}{m m':Mem}{w:World}(h:R base ρ m w)(hn:m'.next=m.next)(hg:∀b,m'.get b=m.get b):R base ρ m' w:=
 ⟨fun b L hb=>by rw[hn];exact h.lt b L hb,fun b L hb=>by rw[hg];exact h.dW b L hb,fun b c L L' h1 h2 h3 h4=>h.inj b c L L' h1 h2 (by unfold Live at *;rwa [hg]at h3) (by unfold Live at *;rwa [hg]at h4),h.base,
  fun b hb=>by rw[hg];exact h.clean b (by rw[<- hn];exact hb)⟩
theorem Step.congr{ρ ρ':eR}{m m1 iQ:Mem}{w w':World}(h:Step ρ m w ρ' m1 w')(hn:iQ.next=m1.next)(hg:∀b,iQ.get b=m1.get b):Step ρ m w ρ' iQ w':=
 ⟨h.ext,h.new,by rw[hn];exact h.next,fun b hb hr=>by rw[hg];exact h.same b hb hr,fun b hb hd=>by rw[hg];exact h.dead b hb hd,h.size,
  fun i hi ⟨b,L,h1,h2,h3,h4⟩=>h.MM i hi ⟨b,L,h1,by unfold Live at *;rwa [hg]at h2,h3,h4⟩,h.kept,h.os,h.tape,h.output⟩
theorem R.weaken{base:Nat}{ρ:eR}{m m':Mem}{w:World}(h:R base ρ m w)(hn:∀b L,ρ b=some L->b<m'.next)(hg:∀b L,ρ b=some L->m'.get b=m.get b\/m'.get b=.dead)(hc:∀b,m'.next<=b->m'.get b=.dead):R base ρ m' w:=by
 have lv:∀b L,ρ b=some L->Live m' b->Live m b:=fun b L hb hl=>by
  rcases hg b L hb with e|e
  ·unfold Live at *;rwa [e]at hl
  ·exact absurd e hl
 refine⟨hn,fun b L hb=> ?_,fun b c L L' h1 h2 h3 h4=>h.inj b c L L' h1 h2 (lv b L h1 h3) (lv c L' h2 h4),h.base,hc⟩
 rcases hg b L hb with e|e
 ·rw[e];exact h.dW b L hb
 ·rw[e];trivial
theorem side{base:Nat}{ρ:eR}{B:bX}{L:Loc}{w:World}(h:Bd base ρ B L w)(hl:B≠.dead):(L.ro=false->base<=L.dW)/\(L.ro=true->L.dW<base):=by
 cases B with
 |dead=>exact absurd rfl hl
 |cells cs esz el ro=>
  obtain⟨_,_,_,_,_,_,h4,_,_,h7,h8⟩:=h;exact⟨fun e=>(h7 (by rw[<- h4];exact e)).1,fun e=>h8 (by rw[<- h4];exact e)⟩
 |map es=>
  obtain⟨_,_,_,_,_,h4,h5⟩:=h;exact⟨fun _=>h4,fun e=>by rw[h5]at e;cases e⟩
theorem over(m:Mem)(f:Nat->bX):∀l:List Nat,∃m':Mem,m'.next=m.next/\∀b,m'.get b=if b∈l then f b else m.get b
 |[]=>⟨m,rfl,fun b=>by simp⟩
 |x::l=>by
  obtain⟨m',h1,h2⟩:=over m f l;refine⟨m'.set x (f x),h1,fun b=> ?_⟩
  rw[Mem.ct,h2 b];by_cases e:b=x
  ·subst e;simp
  ·simp[e]
theorem Yd{base:Nat}{ρ0 ρ ρ':eR}{m0 Mm mi me M2:Mem}{w0 w w':World}(l:List Nat)(hR:R base ρ Mm w)(bT:Step ρ0 m0 w0 ρ Mm w)(hR':R base ρ' me w')(hs:Step ρ mi w ρ' me w')
  (hl:∀b,b∈l->m0.next<=b/\b<mi.next/\mi.get b=.dead) (hmi:∀b L,ρ b=some L->b∉l->mi.get b=Mm.get b\/mi.get b=.dead) (Ww:∀b,b<m0.next->mi.get b=Mm.get b) (YI:m0.next<=mi.next)
  (h2n:M2.next=me.next) (h2g:∀b,M2.get b=if b∈l then Mm.get b else me.get b):R base ρ' M2 w'/\Step ρ0 m0 w0 ρ' M2 w':=by
 have old:∀b L,b∈l->ρ' b=some L->ρ b=some L:=by
  intro b L hb hL;cases e:ρ b with
  |some L'=>rw[hs.ext b L' e]at hL;exact hL
  |none=>have:=hs.new b e (by rw[hL];simp);have:=(hl b hb).2.1;omega
 have BW:∀b,b∈l->M2.get b=Mm.get b:=fun b hb=>by rw[h2g,if_pos hb]
 have DI:∀b,b∉l->M2.get b=me.get b:=fun b hb=>by rw[h2g,if_neg hb]
 -- a block T8 waits is not in the ajk reach
 have apart:∀b L,b∈l->ρ b=some L->Live Mm b->L.ro=false->L.dW<w.heap.size/\¬MM ρ mi L.dW:=by
  intro b L hb hL vn sH;refine⟨(hR.dW b L hL).lt vn,?_⟩
  rintro⟨c,Mc,hc,NL,ad2,uX⟩;have sJ:c∉l:=fun h=>NL (hl c h).2.2
  have aed:Live Mm c:=by
   rcases hmi c Mc hc sJ with e|e
   ·unfold Live at *;rwa [e]at NL
   ·exact absurd e NL
  have:=hR.inj c b Mc L hc hL aed vn ad2 uX;exact sJ (this▸hb)
 have mix:∀b c L L',b∈l->c∉l->ρ' b=some L->ρ' c=some L'->Live M2 b->Live M2 c->L.dW=L'.dW->(L.ro=false\/L'.ro=false)->False:=by
  intro b c L L' hb hc h1 h2 h3 h4 uX sH;have Ko:=old b L hb h1;have h3':Live Mm b:=by unfold Live at *;rwa [BW b hb]at h3
  have h4':Live me c:=by unfold Live at *;rwa [DI c hc]at h4
  have s1:=side (hR.dW b L Ko) h3';have s2:=side (hR'.dW c L' h2) h4';have both:L.ro=false/\L'.ro=false:=by
   cases e1:L.ro<;>cases e2:L'.ro
   ·exact⟨rfl,rfl⟩
   ·have a1:=s1.1 e1;have a2:=s2.2 e2;omega
   ·have a1:=s1.2 e1;have a2:=s2.1 e2;omega
   ·rcases sH with h|h
    ·rw[e1]at h;cases h
    ·rw[e2]at h;cases h
  obtain⟨a1,a2⟩:=apart b L hb Ko h3' both.1;exact a2 (hs.MM L.dW a1 ⟨c,L',h2,h4',both.2,uX.symm⟩)
 refine⟨⟨fun b L hb=>by rw[h2n];exact hR'.lt b L hb,?_,?_,hR'.base,?_⟩,⟨bT.ext.trans hs.ext,?_,?_,?_,?_,ji bT.size hs.size,?_,?_,hs.os.trans bT.os,hs.tape.trans bT.tape,hs.output.trans bT.output⟩⟩
 ·intro b L hb;by_cases xT:b∈l
  ·rw[BW b xT];have hL:=old b L xT hb;by_cases hd:Mm.get b=.dead
   ·rw[hd];trivial
   ·have hB:=hR.dW b L hL;refine hB.of_heap hs.ext ?_
    cases sH:L.ro with
    |false=>obtain⟨a1,a2⟩:=apart b L xT hL hd sH;exact hs.kept L.dW a1 a2
    |true=>
     refine hs.kept L.dW (hB.lt hd) ?_
     rintro⟨c,Mc,hc,NL,ad2,uX⟩;have sJ:c∉l:=fun h=>NL (hl c h).2.2
     have aed:Live Mm c:=by
      rcases hmi c Mc hc sJ with e|e
      ·unfold Live at *;rwa [e]at NL
      ·exact absurd e NL
     have s1:=(side hB hd).2 sH;have s2:=(side (hR.dW c Mc hc) aed).1 ad2;omega
  ·rw[DI b xT];exact hR'.dW b L hb
 ·intro b c L L' h1 h2 h3 h4 sH uX;by_cases hb:b∈l<;>by_cases hc:c∈l
  ·exact hR.inj b c L L' (old b L hb h1) (old c L' hc h2) (by unfold Live at *;rwa [BW b hb]at h3) (by unfold Live at *;rwa [BW c hc]at h4) sH uX
  ·exact(mix b c L L' hb hc h1 h2 h3 h4 uX (.inl sH)).elim
  ·exact(mix c b L' L hc hb h2 h1 h4 h3 uX.symm (.inr sH)).elim
  ·exact hR'.inj b c L L' h1 h2 (by unfold Live at *;rwa [DI b hb]at h3) (by unfold Live at *;rwa [DI c hc]at h4) sH uX
 ·intro b hb;rw[h2n]at hb;have xT:b∉l:=fun h=>by have:=(hl b h).2.1;have:=hs.next;omega
  rw[DI b xT];exact hR'.clean b hb
 ·intro b h0 h1;cases e:ρ b with
  |some L=>exact bT.new b h0 (by rw[e];simp)
  |none=>exact ji YI (hs.new b e h1)
 ·rw[h2n];exact ji YI hs.next
 ·intro b hb h0;have xT:b∉l:=fun h=>by have:=(hl b h).1;omega
  have hρ:ρ b=none:=by
   cases e:ρ b with
   |none=>rfl
   |some L=>have:=bT.new b h0 (by rw[e];simp);omega
  rw[DI b xT,hs.same b (cQ hb YI) hρ,Ww b hb,bT.same b hb h0]
 ·intro b hb hd;have xT:b∉l:=fun h=>by have:=(hl b h).1;omega
  rw[DI b xT];exact hs.dead b (cQ hb YI) (by rw[Ww b hb];exact bT.dead b hb hd)
 ·rintro i hi ⟨b,L,h1,h2,h3,h4⟩;by_cases hb:b∈l
  ·exact bT.MM i hi ⟨b,L,old b L hb h1,by unfold Live at *;rwa [BW b hb]at h2,h3,h4⟩
  ·obtain⟨c,Lc,c1,c2,c3,c4⟩:=hs.MM i (cQ hi bT.size) ⟨b,L,h1,by unfold Live at *;rwa [DI b hb]at h2,h3,h4⟩;have sJ:c∉l:=fun h=>c2 (hl c h).2.2
   refine bT.MM i hi ⟨c,Lc,c1,?_,c3,c4⟩
   rcases hmi c Lc c1 sJ with e|e
   ·unfold Live at *;rwa [e]at c2
   ·exact absurd e c2
 ·intro i hi hr;rw[hs.kept i (cQ hi bT.size),bT.kept i hi hr];rintro⟨c,Lc,c1,c2,c3,c4⟩;have sJ:c∉l:=fun h=>c2 (hl c h).2.2
  refine hr (bT.MM i hi ⟨c,Lc,c1,?_,c3,c4⟩)
  rcases hmi c Lc c1 sJ with e|e
  ·unfold Live at *;rwa [e]at c2
  ·exact absurd e c2
theorem RY{base:Nat}{ρ0 ρ ρ':eR}{m0 Mm:Mem}{w0 w w':World}{k:Nat}{B:bX}(hR:R base ρ Mm w)(bT:Step ρ0 m0 w0 ρ Mm w)(LK:m0.next<=k)(hk:k<Mm.next)(hm:Made base ρ ⟨k,Mm.ja⟩ w ρ' B w') :
  R base ρ' ⟨Mm.next,Mm.ja.set k B⟩ w'/\Step ρ0 m0 w0 ρ' ⟨Mm.next,Mm.ja.set k B⟩ w':=by
 have hg:∀b,(⟨Mm.next,Mm.ja.set k B⟩:Mem).get b=if b=k then B else Mm.get b:=fun b=>by
  unfold Mem.get;simp only[Tr.ct];split<;>rfl
 have uE:∀b,((⟨k,Mm.ja⟩:Mem).new B).get b=if b=k then B else Mm.get b:=fun b=>by rw[Mem.cN];rfl
 have aeo:∀b,b≠k->ρ' b=ρ b:=fun b hb=>hm.dom b hb
 refine⟨⟨?_,?_,?_,hm.base,?_⟩,⟨bT.ext.trans hm.ext,?_,bT.next,?_,?_,by have:=bT.size;have:=hm.size;omega,?_,?_,hm.os.trans bT.os,hm.tape.trans bT.tape,hm.output.trans bT.output⟩⟩
 ·intro b L hb;by_cases e:b=k
  ·rw[e];exact hk
  ·rw[aeo b e]at hb;exact hR.lt b L hb
 ·intro b L hb;rw[hg,<- uE];exact hm.dW b L hb
 ·intro b c L L' h1 h2 h3 h4;exact hm.inj b c L L' h1 h2 (by unfold Live at *;rw[uE];rwa [hg]at h3) (by unfold Live at *;rw[uE];rwa [hg]at h4)
 ·intro b hb;have hb:Mm.next<=b:=hb;rw[hg,if_neg (by omega)];exact hR.clean b hb
 ·intro b h0 h1;by_cases e:b=k
  ·rw[e];exact LK
  ·rw[aeo b e]at h1;exact bT.new b h0 h1
 ·intro b hb h0;rw[hg,if_neg (by omega)];exact bT.same b hb h0
 ·intro b hb hd;rw[hg,if_neg (by omega)];exact bT.dead b hb hd
 ·rintro i hi ⟨b,L,h1,h2,h3,h4⟩;by_cases e:b=k
  ·subst e;obtain⟨L0,q1,q2⟩:=hm.loc;have:ρ' b=some L0:=q1;rw[this]at h1;cases h1;have:=bT.size;omega
  ·rw[aeo b e]at h1;exact bT.MM i hi ⟨b,L,h1,by unfold Live at *;rwa [hg,if_neg e]at h2,h3,h4⟩
 ·intro i hi hr;rw[hm.old i (cQ hi bT.size),bT.kept i hi hr]
end
section
section
variable {P:Program} {G:List Nat} {n:Nat} {call:Call}
theorem Us(op:oa):dG op<=3:=by
 cases op<;>simp[dG]
 case conv c x=>cases c<;>simp
theorem Cj(op:Aj):sort op<=3:=by
 cases op<;>simp only[sort]<;>first|exact Us _|omega
theorem Dy{f:bm->EV}{op:oa}(hs:dG op=1){m m1:Mem}{v:EV}(h:aL f op m=some (.val v m1)):∃(B:bX) (mk:Nat->EV),v=mk m.next/\m1=m.new B/\∀m',aL f op m'=some (.val (mk m'.next) (m'.new B)):=by
 cases op<;>(try simp only[dG]at hs)<;>(try (simp at hs;done))
 case alloc e z=>
  simp only[aL,bQ,R1.val.injEq]at h⊢;exact⟨.cells z z.length e false,fun k=>.ptr k 0,h.1.symm,h.2.symm,fun m'=>⟨rfl,rfl⟩⟩
 case box e x=>
  simp only[aL]at h⊢;cases hc:(f x).cells with
  |none=>simp[hc]at h
  |some cs=>
   simp only[hc,bQ,R1.val.injEq]at h⊢;exact⟨.cells cs cs.length e false,fun k=>.ptr k 0,h.1.symm,h.2.symm,fun m'=>⟨rfl,rfl⟩⟩
 case aG e s len z ps=>
  simp only[aL]at h⊢;cases hc:eQ (eA len z) (ps.map fun p=>(p.1*s,s,f p.2))with
  |none=>simp[hc]at h
  |some cs=>
   simp only[hc,bQ,R1.val.injEq]at h⊢;exact⟨.cells cs s e false,fun k=>.slice k 0 len (some len),h.1.symm,h.2.symm,fun m'=>⟨rfl,rfl⟩⟩
 case uR=>
  simp only[aL,bQ,R1.val.injEq]at h⊢;exact⟨.map [],fun k=>.map k,h.1.symm,h.2.symm,fun m'=>⟨rfl,rfl⟩⟩
 case jI e s z l c=>
  simp only[aL,Bool.cond_eq_ite]at h⊢;generalize f l=el at h⊢;generalize f c=ec at h ⊢
  split at h
  ·rename_i ln cn
   split at h
   ·rename_i hq
    split at h
    ·rename_i hq2
     simp only[bQ,R1.val.injEq]at h;exact⟨.cells (eA cn z) s e false,fun k=>.slice k 0 ln (some cn),h.1.symm,h.2.symm,fun m'=>by rw[if_pos hq,if_pos hq2]⟩
    ·cases h
   ·cases h
  ·cases h
 case conv c x=>
  cases c<;>(try (simp at hs;done))
  rename_i e
  simp only[aL]at h⊢;have h1:=oi h;generalize f x=ex at h1⊢;cases ex<;>simp only[l8,reduceCtorEq,bQ,sY]at h1
  rename_i s
  exact⟨.cells (s.map fun b=>.int .u8 (b.toNat:Int)) 1 e false,fun k=>.slice k 0 s.length none,h1.1.symm,h1.2.symm,fun m'=>rfl⟩
theorem VM{m:Mem}{agg:Option Nat}{x v:EV}(hf:Ge x=false)(h:m.load agg x=some v):∃b off,x=.ptr b off/\m.get b≠.dead:=by
 cases x<;>simp only[Mem.load,reduceCtorEq]at h
 case gu=>simp[Ge]at hf
 rename_i b off
 refine⟨b,off,rfl,fun e=> ?_⟩
 rw[e]at h;cases h
theorem VN{o:Oper}{io:oa}(hc:cOp P G o=some io)(hs:dG io=2):∃agg x x0,io=.load agg x/\fS G x0=some x:=by
 unfold cOp at hc
 split at hc
 case h_1=>obtain⟨_,_,rfl⟩:=ah hc;simp[dG]at hs
 case h_2=>obtain⟨_,_,rfl⟩:=ah hc;simp[dG]at hs
 case h_3=>obtain⟨_,_,hc⟩:=ag hc;obtain⟨_,_,hc⟩:=ag hc;obtain⟨_,_,rfl⟩:=ah hc;simp[dG]at hs
 case h_4=>obtain⟨_,_,rfl⟩:=ah hc;simp[dG]at hs
 case h_5=>obtain⟨_,_,rfl⟩:=ah hc;simp[dG]at hs
 case h_6=>
  obtain⟨_,_,hc⟩:=ag hc;rcases iA hc with hc|hc
  ·obtain⟨_,_,hc⟩:=ag hc;obtain⟨_,_,hc⟩:=ag hc;obtain⟨_,_,rfl⟩:=ah hc;simp[dG]at hs
  ·obtain⟨_,_,hc⟩:=ag hc;obtain⟨_,_,hc⟩:=ag hc;obtain⟨_,_,rfl⟩:=ah hc;simp[dG]at hs
 case h_7=>obtain⟨_,_,hc⟩:=ag hc;obtain⟨_,_,hc⟩:=ag hc;obtain⟨_,_,hc⟩:=ag hc;obtain⟨_,_,hc⟩:=ag hc;obtain⟨_,_,hc⟩:=ag hc;obtain⟨_,_,rfl⟩:=ah hc;simp[dG]at hs
 case h_8=>obtain⟨_,_,hc⟩:=ag hc;obtain⟨x,hx,rfl⟩:=ah hc;exact⟨_,x,_,rfl,hx⟩
 case h_9=>obtain⟨_,_,hc⟩:=ag hc;obtain⟨_,_,hc⟩:=ag hc;obtain⟨_,_,rfl⟩:=ah hc;simp[dG]at hs
 case h_10=>obtain⟨_,_,rfl⟩:=ah hc;simp[dG]at hs
 case h_11 op t x y yt ho=>
  obtain⟨_,_,hc⟩:=ag hc;obtain⟨_,_,hc⟩:=ag hc
  split at hc
  ·unfold cEq at hc;simp only[Bool.cond_eq_ite]at hc
   split at hc<;>(obtain⟨_,_,rfl⟩:=ah hc;simp[dG]at hs)
  ·unfold cEq at hc;simp only[Bool.cond_eq_ite]at hc
   split at hc<;>(obtain⟨_,_,rfl⟩:=ah hc;simp[dG]at hs)
  ·cases hc;simp[dG]at hs
 case h_12=>obtain⟨_,_,rfl⟩:=ah hc;simp[dG]at hs
 case h_13=>
  obtain⟨_,_,hc⟩:=ag hc;rcases iA hc with hc|hc
  ·obtain⟨_,_,hc⟩:=ag hc;obtain⟨_,_,rfl⟩:=ah hc;simp[dG]at hs
  rcases iA hc with hc|hc
  ·obtain⟨_,_,hc⟩:=ag hc;obtain⟨_,_,rfl⟩:=ah hc;simp[dG]at hs
  rcases iA hc with hc|hc
  ·obtain⟨_,_,hc⟩:=ag hc;obtain⟨_,_,hc⟩:=ag hc;obtain⟨_,_,hc⟩:=ag hc;obtain⟨_,_,rfl⟩:=ah hc;simp[dG]at hs
  obtain⟨_,_,hc⟩:=ag hc;obtain⟨_,_,hc⟩:=ag hc;obtain⟨_,_,hc⟩:=ag hc;obtain⟨_,_,rfl⟩:=ah hc;simp[dG]at hs
 case h_14=>obtain⟨_,_,hc⟩:=ag hc;obtain⟨_,_,rfl⟩:=ah hc;simp[dG]at hs
 case h_15=>obtain⟨_,_,hc⟩:=ag hc;obtain⟨_,_,rfl⟩:=ah hc;simp[dG]at hs
 case h_16=>obtain⟨_,_,rfl⟩:=ah hc;simp[dG]at hs
 case h_17=>obtain⟨_,_,rfl⟩:=ah hc;simp[dG]at hs
 case h_18=>obtain⟨_,_,hc⟩:=ag hc;obtain⟨_,_,hc⟩:=ag hc;obtain⟨_,_,hc⟩:=ag hc;obtain⟨_,_,hc⟩:=ag hc;obtain⟨_,_,hc⟩:=ag hc;obtain⟨_,_,hc⟩:=ag hc;obtain⟨_,_,rfl⟩:=ah hc;simp[dG]at hs
 case h_19=>
  obtain⟨_,_,hc⟩:=ag hc;obtain⟨_,_,hc⟩:=ag hc;obtain⟨_,_,hc⟩:=ag hc;obtain⟨_,_,hc⟩:=ag hc;obtain⟨_,_,hc⟩:=ag hc;rcases iA hc with hc|hc
  ·obtain⟨_,_,hc⟩:=ag hc;obtain⟨_,_,rfl⟩:=ah hc;simp[dG]at hs
  rcases iA hc with hc|hc
  ·obtain⟨_,_,hc⟩:=ag hc;obtain⟨_,_,rfl⟩:=ah hc;simp[dG]at hs
  ·obtain⟨_,_,hc⟩:=ag hc;obtain⟨_,_,rfl⟩:=ah hc;simp[dG]at hs
 case h_20=>obtain⟨_,_,hc⟩:=ag hc;obtain⟨_,_,hc⟩:=ag hc;obtain⟨_,_,hc⟩:=ag hc;obtain⟨_,_,hc⟩:=ag hc;obtain⟨_,_,rfl⟩:=ah hc;simp[dG]at hs
 case h_21=>obtain⟨_,_,hc⟩:=ag hc;obtain⟨_,_,hc⟩:=ag hc;obtain⟨_,_,hc⟩:=ag hc;obtain⟨_,_,rfl⟩:=ah hc;simp[dG]at hs
 case h_22=>
  obtain⟨_,_,hc⟩:=ag hc;obtain⟨_,_,hc⟩:=ag hc;rcases iA hc with hc|hc
  ·obtain⟨_,_,hc⟩:=ag hc;obtain⟨_,_,rfl⟩:=ah hc;simp[dG]at hs
  ·obtain⟨_,_,hc⟩:=ag hc;obtain⟨_,_,rfl⟩:=ah hc;simp[dG]at hs
 case h_23=>
  obtain⟨_,_,hc⟩:=ag hc;obtain⟨_,_,hc⟩:=ag hc;rcases iA hc with hc|hc
  ·obtain⟨_,_,rfl⟩:=ah hc;simp[dG]at hs
  ·obtain⟨_,_,hc⟩:=ag hc;obtain⟨_,_,hc⟩:=ag hc;obtain⟨_,_,rfl⟩:=ah hc;simp[dG]at hs
 case h_24=>obtain⟨_,_,hc⟩:=ag hc;obtain⟨_,_,hc⟩:=ag hc;obtain⟨_,_,hc⟩:=ag hc;obtain⟨_,_,hc⟩:=ag hc;obtain⟨_,_,rfl⟩:=ah hc;simp[dG]at hs
 case h_25=>obtain⟨_,_,hc⟩:=ag hc;obtain⟨_,_,hc⟩:=ag hc;obtain⟨_,_,hc⟩:=ag hc;obtain⟨_,_,hc⟩:=ag hc;obtain⟨_,_,rfl⟩:=ah hc;simp[dG]at hs
 case h_26=>obtain⟨_,_,hc⟩:=ag hc;obtain⟨_,_,hc⟩:=ag hc;obtain⟨_,_,hc⟩:=ag hc;obtain⟨_,_,hc⟩:=ag hc;obtain⟨_,_,rfl⟩:=ah hc;simp[dG]at hs
 case h_27=>obtain⟨_,_,hc⟩:=ag hc;obtain⟨_,_,rfl⟩:=ah hc;simp[dG]at hs
 case h_28=>obtain⟨_,_,rfl⟩:=ah hc;simp[dG]at hs
 case h_29 c ho=>
  obtain⟨ys,Wk,hc⟩:=ag hc
  split at hc
  ·exfalso;unfold wx at hc;simp only[Bool.cond_eq_ite]at hc
   split at hc
   ·split at hc<;>first|(cases hc;simp[dG]at hs;done)|cases hc
   ·split at hc<;>first|(cases hc;simp[dG]at hs;done)|cases hc
   ·cases hc;simp[dG]at hs
   ·cases hc;simp[dG]at hs
   ·obtain⟨_,_,hc⟩:=ag hc;obtain⟨_,_,hc⟩:=ag hc;obtain⟨_,_,hc⟩:=ag hc;obtain⟨_,_,hc⟩:=ag hc;obtain⟨_,_,hc⟩:=ag hc
    split at hc<;>first|(cases hc;simp[dG]at hs;done)|cases hc
   ·split at hc
    ·split at hc<;>first|(cases hc;simp[dG]at hs;done)|cases hc
    ·cases hc
   ·split at hc
    ·obtain⟨_,_,rfl⟩:=ah hc;simp[dG]at hs
    ·cases hc
   ·cases hc
  ·cases hc
 case h_30=>cases hc
theorem RK{o:bd}{x:bm}(hx:x∈qQ o.op):∀t,x=.tmp t->t∈named o:=by
 intro t ht;subst ht;unfold named;have:t∈tmpsOf (qQ o.op):=by
  generalize qQ o.op=l at hx
  induction l with
  |nil=>simp at hx
  |cons y l ih=>
   rcases qn.1 hx with e|hx2
   ·subst e;simp[tmpsOf]
   ·cases y with
    |tmp s=>simp only[tmpsOf];exact Ah _ (ih hx2)
    |const v=>simp only[tmpsOf];exact ih hx2
 simp[this]
theorem JD{o:bd}{t:Nat}{b:Bool}(h:o.guard=some (t,b)):t∈named o:=by unfold named;simp[h]
theorem RL{o:bd}{t:Nat}(h:o.dst=some t):t∈named o:=by unfold named;simp[h]
structure Cx(P:Program)(G:List Nat)(n:Nat)(call:Call)(ops:Array Oper)(is:List bd)(chk:List (Nat×Nat))(B0:Nat)(F:Nat->Fr)(M:Nat->Mem)(V:Nat->EV):Prop where
 comp:∀(i:Nat) (io:bd),is[i]?=some io->∃o,ops[i]?=some o/\u0 P G n ops o=some io
 at_:∀(k:Nat) (o:bd),is[k]?=some o->At call B0 o k (F k) (M k) (V k) (M (k+1))/\F (k+1)=(F k).put o.dst (V k)
 c1:∀(k:Nat) (o:bd) (agg:Option Nat) (a:bm) (l:Nat) (q:bd),is[k]?=some o->is[l]?=some q->EG o (F k) agg a->qm q (F l)->cr k l chk=true->
  (l<k->(M l).fi agg ((F k).eval a) (V k)=true)/\(k<l->(M (l+1)).fi agg ((F k).eval a) (V k)=true)
 open_:∀(i j:Nat) (io jo:bd),i<j->is[i]?=some io->is[j]?=some jo->i∉(gf ops.toList []).getD j []->
  ¬(sort io.op=3/\sort jo.op=3)/\(∀t,io.dst=some t->t∉named jo)/\(∀t,jo.dst=some t->t∉named io)/\(sort io.op=2->sort jo.op=3->cr i j chk=true)/\(sort io.op=3->sort jo.op=2->cr j i chk=true)
variable {ops:Array Oper} {is:List bd} {chk:List (Nat×Nat)} {B0:Nat} {F:Nat->Fr} {M:Nat->Mem} {V:Nat->EV}
def zQ(is:List bd)(F:Nat->Fr)(V:Nat->EV)(S:List Nat)(t:Nat):Nat->EV
 |0=>(F 0).get t
 |k+1=>if k∈S/\(is[k]?).bind (·.dst)=some t then V k else zQ is F V S t k
theorem A5(C:Cx P G n call ops is chk B0 F M V)(S:List Nat)(t:Nat):∀k,k<=is.length->(∀j o,j<k->is[j]?=some o->o.dst=some t->j∈S)->zQ is F V S t k=(F k).get t
 |0,_,_=>rfl
 |k+1,hk,h=>by
  have aH:k<is.length:=by omega
  have ho:is[k]?=some is[k]:=jE aH;obtain⟨_,hF⟩:=C.at_ k _ ho
  simp only[zQ,ho,Option.bind_some];rw[hF];by_cases hd:is[k].dst=some t
  ·rw[if_pos ⟨h k _ (by omega) ho hd,hd⟩,hd];simp only[Fr.put,Fr.ct,if_true]
  ·rw[if_neg (fun e=>hd e.2),A5 C S t k (by omega) (fun j o hj=>h j o (by omega))];cases hdd:is[k].dst with
   |none=>rfl
   |some u=>
    simp only[Fr.put,Fr.ct];rw[if_neg];intro e;subst e;exact hd hdd
theorem A6(S:List Nat)(t:Nat):∀d k,(∀j o,k<=j->j<k+d->is[j]?=some o->o.dst=some t->j∉S)->zQ is F V S t (k+d)=zQ is F V S t k
 |0,k,_=>rfl
 |d+1,k,h=>by
  rw[<- Nat.add_assoc];simp only[zQ];rw[if_neg]
  ·exact A6 S t d k fun j o h1 h2=>h j o h1 (by omega)
  ·rintro⟨h1,h2⟩;cases ho:is[k+d]? with
   |none=>rw[ho]at h2;cases h2
   |some o=>rw[ho]at h2;exact h (k+d) o (by omega) (by omega) ho h2 h1
theorem GH{S S':List Nat}(t:Nat):∀k,(∀j o,j<k->is[j]?=some o->o.dst=some t->(j∈S↔j∈S'))->zQ is F V S t k=zQ is F V S' t k
 |0,_=>rfl
 |k+1,h=>by
  simp only[zQ];rw[GH t k fun j o hj=>h j o (by omega)];cases ho:is[k]? with
  |none=>simp
  |some o=>
   simp only[Option.bind_some];by_cases hd:o.dst=some t
   ·have:=h k o (by omega) ho hd;by_cases hk:k∈S
    ·rw[if_pos ⟨hk,hd⟩,if_pos ⟨this.1 hk,hd⟩]
    ·rw[if_neg (fun e=>hk e.1),if_neg (fun e=>hk (this.2 e.1))]
   ·rw[if_neg (fun e=>hd e.2),if_neg (fun e=>hd e.2)]
def jD(is:List bd)(B0:Nat)(F:Nat->Fr)(M:Nat->Mem)(j:Nat)(B:bX):Prop:=
 ∃o op,is[j]?=some o/\o.op=.val op/\dG op=1/\bt (F j) o.guard=some true/\M (j+1)=⟨(M j).next,(M j).ja.set (B0+j) B⟩
theorem Cn(m:Mem)(k:Nat)(B:bX)(b:Nat):(⟨m.next,m.ja.set k B⟩:Mem).get b=if b=k then B else m.get b:=by
 unfold Mem.get;simp only[Tr.ct];split<;>rfl
theorem jD.get{j:Nat}{B:bX}(h:jD is B0 F M j B):(M (j+1)).get (B0+j)=B:=by
 obtain⟨_,_,_,_,_,_,h⟩:=h;rw[h,Cn,if_pos rfl]
theorem jD.YT{j:Nat}{B B':bX}(h:jD is B0 F M j B)(h':jD is B0 F M j B'):B=B':=h.get.symm.trans h'.get
theorem jD.no{j:Nat}{B:bX}(h:jD is B0 F M j B){o:bd}(ho:is[j]?=some o)(ha:qm o (F j)):False:=by
 obtain⟨o',op,h1,h2,h3,_⟩:=h;rw[ho]at h1;cases h1;have:=ha.2;rw[h2]at this;simp only[sort]at this;omega
theorem MT(C:Cx P G n call ops is chk B0 F M V){k:Nat}{o:bd}(ho:is[k]?=some o)(hna:¬qm o (F k)):(M (k+1)=M k/\∀B,¬jD is B0 F M k B)\/∃B,jD is B0 F M k B:=by
 obtain⟨TF,_⟩:=C.at_ k o ho
 cases TF with
 |skip hw _ hm=>exact .inl ⟨hm,fun B ⟨o',op,h1,h2,h3,h4,_⟩=>by rw[ho]at h1;cases h1;rw[hw]at h4;cases h4⟩
 |pure op m1 hw oF hs _ hm=>exact .inl ⟨hm,fun B ⟨o',op',h1,h2,h3,h4,_⟩=>by rw[ho]at h1;cases h1;rw[oF]at h2;cases h2;omega⟩
 |load agg a hw oF _ hm=>exact .inl ⟨hm,fun B ⟨o',op',h1,h2,h3,h4,_⟩=>by rw[ho]at h1;cases h1;rw[oF]at h2;cases h2;simp[dG]at h3⟩
 |make op m1 hw oF hs h hm=>
  obtain⟨B,mk,_,h2,_⟩:=Dy hs h;exact .inr ⟨B,o,op,ho,oF,hs,hw,by rw[hm,h2];rfl⟩
 |act op hw oF hs h=>exact absurd ⟨hw,by rw[oF];exact hs⟩ hna
 |call f args hw oF h=>exact absurd ⟨hw,by rw[oF];simp[sort]⟩ hna
theorem seg(C:Cx P G n call ops is chk B0 F M V)(K:Nat):∀i,K<=i->i<=is.length->(∀e o,K<=e->e<i->is[e]?=some o->¬qm o (F e))->
  (M i).next=(M K).next/\∀b,(∃j B,K<=j/\j<i/\jD is B0 F M j B/\b=B0+j/\(M i).get b=B)\/((∀j B,K<=j->j<i->jD is B0 F M j B->b≠B0+j)/\(M i).get b=(M K).get b):=by
 intro i
 induction i with
 |zero=>intro h _ _;obtain rfl:K=0:=(by omega);exact⟨rfl,fun b=>.inr ⟨fun j B h1 h2=>absurd h2 (by omega),rfl⟩⟩
 |succ i ih=>
  intro h1 h2 h3;by_cases hK:K=i+1
  ·subst hK;exact⟨rfl,fun b=>.inr ⟨fun j B h1 h2=>absurd h2 (by omega),rfl⟩⟩
  ·obtain⟨hn,hb⟩:=ih (by omega) (by omega) (fun e o he he2=>h3 e o he (by omega));have aH:i<is.length:=by omega
   have ho:is[i]?=some is[i]:=jE aH;rcases MT C ho (h3 i _ (by omega) (by omega) ho)with⟨e,iv⟩|⟨B,hB⟩
   ·rw[e];refine⟨hn,fun b=> ?_⟩
    rcases hb b with⟨j,B,q1,q2,q3,q4,q5⟩|⟨q1,q2⟩
    ·exact .inl ⟨j,B,q1,by omega,q3,q4,q5⟩
    ·refine .inr ⟨fun j B j1 j2 hj=> ?_,q2⟩
     by_cases Gj:j<i
     ·exact q1 j B j1 Gj hj
     ·obtain rfl:j=i:=by omega
      exact absurd hj (iv B)
   ·have hB':=hB;obtain⟨_,_,_,_,_,_,hM⟩:=hB';rw[hM];refine⟨hn,fun b=> ?_⟩
    rw[Cn];by_cases hbi:b=B0+i
    ·exact .inl ⟨i,B,by omega,by omega,hB,hbi,by rw[if_pos hbi]⟩
    ·rw[if_neg hbi];rcases hb b with⟨j,B',q1,q2,q3,q4,q5⟩|⟨q1,q2⟩
     ·exact .inl ⟨j,B',q1,by omega,q3,q4,q5⟩
     ·refine .inr ⟨fun j B' j1 j2 hj=> ?_,q2⟩
      by_cases Gj:j<i
      ·exact q1 j B' j1 Gj hj
      ·obtain rfl:j=i:=by omega
       exact hbi
structure Inv(n:Nat)(ops:Array Oper)(is:List bd)(B0:Nat)(F:Nat->Fr)(M:Nat->Mem)(V:Nat->EV)(base:Nat)(ρ0:eR)(m0:Mem)(w0:World)(S:List Nat)(K:Nat)(ρ:eR)(Mm:Mem)(vq:Fr)(a:Act)(w:World):Prop where
 b0:m0.next=B0
 sub:∀i,i∈S->i<is.length
 bef:∀j,j∈S->∀i,i∈(gf ops.toList []).getD j []->i∈S
 Fs:∀(e:Nat) (o:bd),is[e]?=some o->qm o (F e)->(e∈S↔e<K)
 last:K=0\/∃e o,K=e+1/\is[e]?=some o/\qm o (F e)
 hR:R base ρ Mm w
 nx:Mm.next=(M K).next
 nxN:B0+is.length<=(M K).next
 W8:∀(j:Nat) (B:bX),jD is B0 F M j B->j∈S->K<=j->Mm.get (B0+j)=B
 Sx:∀b,(∀(j:Nat) (B:bX),jD is B0 F M j B->j∈S->K<=j->b≠B0+j)->Mm.get b=(M K).get b
 un:∀j,j<is.length->ρ (B0+j)≠none->j∈S
 late:∀(j:Nat) (B:bX),jD is B0 F M j B->j<K->j∉S->(M K).get (B0+j)=B
 dd:∀j,K<=j->j<is.length->(M K).get (B0+j)=.dead
 st:Step ρ0 m0 w0 ρ Mm w
 fr:Cc ρ n vq a
 cur:∀t,vq.get t=zQ is F V S t is.length
 df:vq.defers=(F 0).defers
section
variable {base:Nat} {ρ0 ρ:eR} {m0 Mm:Mem} {w0 w:World} {S:List Nat} {K:Nat} {vq:Fr} {a:Act}
theorem Inv.kN(I:Inv n ops is B0 F M V base ρ0 m0 w0 S K ρ Mm vq a w):K<=is.length:=by
 rcases I.last with h|⟨e,o,h,ho,_⟩
 ·omega
 ·have:=(mu.1 ho).1;omega
theorem jD.lt{j:Nat}{B:bX}(h:jD is B0 F M j B):j<is.length:=by
 obtain⟨o,_,ho,_⟩:=h;exact(mu.1 ho).1
theorem Inv.wk(C:Cx P G n call ops is chk B0 F M V)(I:Inv n ops is B0 F M V base ρ0 m0 w0 S K ρ Mm vq a w){i:Nat}(h1:K<=i)(h2:i<=is.length)(h3:∀e o,K<=e->e<i->is[e]?=some o->¬qm o (F e)) :
  (M i).next=(M K).next/\(∀b L,ρ b=some L->(M i).get b=Mm.get b\/(M i).get b=.dead)/\(∀b,(∀j,j<is.length->b≠B0+j)->(M i).get b=Mm.get b)/\
   (∀j,i<=j->j<is.length->(M i).get (B0+j)=.dead)/\(∀j B,jD is B0 F M j B->j<i->j∉S->(M i).get (B0+j)=B):=by
 obtain⟨hn,hb⟩:=seg C K i h1 h2 h3;refine⟨hn,fun b L hL=> ?_,fun b iv=> ?_,fun j j1 j2=> ?_,fun j B hj j1 j2=> ?_⟩
 ·rcases hb b with⟨j,B,q1,q2,q3,q4,q5⟩|⟨q1,q2⟩
  ·left
   rw[q5,q4];exact(I.W8 j B q3 (I.un j q3.lt (by rw[<- q4,hL];simp)) q1).symm
  ·by_cases hp:∃j B,jD is B0 F M j B/\j∈S/\K<=j/\b=B0+j
   ·obtain⟨j,B,p1,p2,p3,p4⟩:=hp
    right
    rw[q2,p4];exact I.dd j p3 p1.lt
   ·left
    rw[q2];exact(I.Sx b fun j B p1 p2 p3 p4=>hp ⟨j,B,p1,p2,p3,p4⟩).symm
 ·rcases hb b with⟨j,B,q1,q2,q3,q4,q5⟩|⟨q1,q2⟩
  ·exact absurd q4 (iv j q3.lt)
  ·rw[q2];exact(I.Sx b fun j B p1 _ _=>iv j p1.lt).symm
 ·rcases hb (B0+j)with⟨j',B,q1,q2,q3,q4,q5⟩|⟨q1,q2⟩
  ·omega
  ·rw[q2];exact I.dd j (by omega) j2
 ·rcases hb (B0+j)with⟨j',B',q1,q2,q3,q4,q5⟩|⟨q1,q2⟩
  ·have:j=j':=by omega
   subst this;rw[q5];exact q3.YT hj
  ·rw[q2];by_cases hjK:j<K
   ·exact I.late j B hj hjK j2
   ·exact absurd rfl (q1 j B (by omega) j1 hj)
theorem Inv.val(C:Cx P G n call ops is chk B0 F M V)(I:Inv n ops is B0 F M V base ρ0 m0 w0 S K ρ Mm vq a w){i:Nat}{o:bd}(ho:is[i]?=some o)(hi:i∉S)(hb:∀j,j∈(gf ops.toList []).getD i []->j∈S) :
  ∀t,t∈named o->vq.get t=(F i).get t:=by
 intro t ht;have aH:=(mu.1 ho).1;rw[I.cur t,show is.length=i+(is.length- i)by omega,A6 S t _ i,A5 C S t i (by omega)]
 ·intro j q hj hq hd;apply vt
  intro NM;exact(C.open_ j i q o hj hq ho (fun h=>NM (hb j h))).2.1 t hd ht
 ·intro j q h1 h2 hq hd NM;by_cases e:j=i
  ·subst e;exact hi NM
  ·exact(C.open_ i j o q (by omega) ho hq (fun h=>hi (I.bef j NM i h))).2.2.1 t hd ht
theorem eval_eq{f g:Fr}{o:bd}(h:∀t,t∈named o->f.get t=g.get t):∀x,x∈qQ o.op->f.eval x=g.eval x:=by
 intro x hx;cases x with
 |const v=>rfl
 |tmp t=>exact h t (RK hx t rfl)
theorem IM{f g:Fr}{o:bd}(h:∀t,t∈named o->f.get t=g.get t):bt f o.guard=bt g o.guard:=by
 cases hg:o.guard with
 |none=>rfl
 |some p=>
  obtain⟨t,b⟩:=p;simp only[bt,h t (JD hg)]
theorem Inv.Ih(C:Cx P G n call ops is chk B0 F M V)(I:Inv n ops is B0 F M V base ρ0 m0 w0 S K ρ Mm vq a w){i:Nat}{o:bd}(ho:is[i]?=some o)(hi:i∉S) :
  ∀t,(vq.put o.dst (V i)).get t=zQ is F V (i::S) t is.length:=by
 intro t;have aH:=(mu.1 ho).1;by_cases hd:o.dst=some t
 ·rw[hd,show is.length=(i+1)+(is.length-(i+1))by omega,A6 (i::S) t _ (i+1)]
  ·simp only[zQ,ho,Option.bind_some];rw[if_pos ⟨by simp,hd⟩];simp only[Fr.put,Fr.ct,if_true]
  ·intro j q h1 h2 hq hdq hj;rcases qn.1 hj with e|NM
   ·omega
   ·exact(C.open_ i j o q (by omega) ho hq (fun h=>hi (I.bef j NM i h))).2.1 t hd (RL hdq)
 ·have:(vq.put o.dst (V i)).get t=vq.get t:=by
   cases hdd:o.dst with
   |none=>rfl
   |some u=>
    simp only[Fr.put,Fr.ct];rw[if_neg];intro e;subst e;exact hd hdd
  rw[this,I.cur t];refine GH t _ fun j q hj hq hdq=> ?_
  constructor
  ·intro h;exact Ah _ h
  ·intro h;rcases qn.1 h with e|h
   ·subst e;rw[ho]at hq;cases hq;exact absurd hdq hd
   ·exact h
theorem Inv.idle(C:Cx P G n call ops is chk B0 F M V)(I:Inv n ops is B0 F M V base ρ0 m0 w0 S K ρ Mm vq a w){i:Nat}{o:bd}(ho:is[i]?=some o)(hi:i∉S)(hb:∀j,j∈(gf ops.toList []).getD i []->j∈S)
  (hna:¬qm o (F i)) (BT:∀B,¬jD is B0 F M i B) {ρ1:eR} {w1:World} {a1:Act} (n8:R base ρ1 Mm w1) (hs:Step ρ Mm w ρ1 Mm w1) (hF:Cc ρ1 n (vq.put o.dst (V i)) a1) :
  Inv n ops is B0 F M V base ρ0 m0 w0 (i::S) K ρ1 Mm (vq.put o.dst (V i)) a1 w1:=by
 have aH:=(mu.1 ho).1;refine⟨I.b0,?_,?_,?_,I.last,n8,I.nx,I.nxN,?_,?_,?_,?_,I.dd,I.st.trans hs,hF,I.Ih C ho hi,by rw[put_defers];exact I.df⟩
 ·intro j hj;rcases qn.1 hj with e|hj
  ·rw[e];exact aH
  ·exact I.sub j hj
 ·intro j hj k hk;rcases qn.1 hj with e|hj
  ·rw[e]at hk;exact Ah _ (hb k hk)
  ·exact Ah _ (I.bef j hj k hk)
 ·intro e q hq hA;rw[<- I.Fs e q hq hA];constructor
  ·intro h;rcases qn.1 h with e1|h
   ·subst e1;rw[ho]at hq;cases hq;exact absurd hA hna
   ·exact h
  ·exact Ah _
 ·intro j B hj NM hK;rcases qn.1 NM with e|h
  ·rw[e]at hj;exact absurd hj (BT B)
  ·exact I.W8 j B hj h hK
 ·intro b iv;exact I.Sx b fun j B h1 h2 h3=>iv j B h1 (Ah _ h2) h3
 ·intro j hj h1;refine Ah _ (I.un j hj ?_)
  intro h0;have:=hs.new _ h0 h1;have:=I.nx;have:=I.nxN;omega
 ·intro j B hj h1 h2;exact I.late j B hj h1 fun h=>h2 (Ah _ h)
theorem Inv.make(C:Cx P G n call ops is chk B0 F M V)(I:Inv n ops is B0 F M V base ρ0 m0 w0 S K ρ Mm vq a w){i:Nat}{o:bd}(ho:is[i]?=some o)(hi:i∉S)(hb:∀j,j∈(gf ops.toList []).getD i []->j∈S)
  {B:bX} (hm:jD is B0 F M i B) {ρ1:eR} {w1:World} {a1:Act} (hM:Made base ρ ⟨B0+i,Mm.ja⟩ w ρ1 B w1) (hF:Cc ρ1 n (vq.put o.dst (V i)) a1) :
  Inv n ops is B0 F M V base ρ0 m0 w0 (i::S) K ρ1 ⟨Mm.next,Mm.ja.set (B0+i) B⟩ (vq.put o.dst (V i)) a1 w1:=by
 have aH:=(mu.1 ho).1;obtain⟨n8,hs⟩:=RY I.hR I.st (by have:=I.b0;omega) (by have:=I.nx;have:=I.nxN;omega) hM;refine⟨I.b0,?_,?_,?_,I.last,n8,I.nx,I.nxN,?_,?_,?_,?_,I.dd,hs,hF,I.Ih C ho hi,by rw[put_defers];exact I.df⟩
 ·intro j hj;rcases qn.1 hj with e|hj
  ·rw[e];exact aH
  ·exact I.sub j hj
 ·intro j hj k hk;rcases qn.1 hj with e|hj
  ·rw[e]at hk;exact Ah _ (hb k hk)
  ·exact Ah _ (I.bef j hj k hk)
 ·intro e q hq hA;rw[<- I.Fs e q hq hA];constructor
  ·intro h;rcases qn.1 h with e1|h
   ·subst e1;exact(hm.no hq hA).elim
   ·exact h
  ·exact Ah _
 ·intro j B' hj NM hK;rw[Cn];by_cases e:j=i
  ·subst e;rw[if_pos rfl];exact hm.YT hj
  ·rw[if_neg (by omega)];rcases qn.1 NM with h|h
   ·exact absurd h e
   ·exact I.W8 j B' hj h hK
 ·intro b iv;rw[Cn];by_cases e:b=B0+i
  ·rw[if_pos e];have hiK:i<K:=by
    apply vt
    intro h;exact iv i B hm (by simp) (by omega) e
   rw[e];exact(I.late i B hm hiK hi).symm
  ·rw[if_neg e];exact I.Sx b fun j B h1 h2 h3=>iv j B h1 (Ah _ h2) h3
 ·intro j hj h1;by_cases e:j=i
  ·rw[e];simp
  ·refine Ah _ (I.un j hj ?_)
   rw[<- hM.dom (B0+j) (show B0+j≠B0+i by omega)];exact h1
 ·intro j B' hj h1 h2;exact I.late j B' hj h1 fun h=>h2 (Ah _ h)
theorem Inv.next(C:Cx P G n call ops is chk B0 F M V)(I:Inv n ops is B0 F M V base ρ0 m0 w0 S K ρ Mm vq a w){i:Nat}{o:bd}(ho:is[i]?=some o)(hi:i∉S)(hb:∀j,j∈(gf ops.toList []).getD i []->j∈S)
  (hA:qm o (F i)):K<=i/\∀e q,K<=e->e<i->is[e]?=some q->¬qm q (F e):=by
 have hKi:K<=i:=by
  apply vt
  intro h;exact hi ((I.Fs i o ho hA).2 (by omega))
 refine⟨hKi,fun e q h1 h2 hq PO=> ?_⟩
 have heS:e∈S:=by
  apply vt
  intro heS;have:=(C.open_ e i q o h2 hq ho (fun h=>heS (hb e h))).1;exact this ⟨Nat.le_antisymm (Cj _) PO.2,Nat.le_antisymm (Cj _) hA.2⟩
 have:=(I.Fs e q hq PO).1 heS;omega
theorem Inv.text(C:Cx P G n call ops is chk B0 F M V)(I:Inv n ops is B0 F M V base ρ0 m0 w0 S K ρ Mm vq a w){i:Nat}(h1:K<=i)(h2:i<=is.length)(h3:∀e o,K<=e->e<i->is[e]?=some o->¬qm o (F e)) :
  R base ρ (M i) w:=by
 obtain⟨k1,k2,k3,k4,k5⟩:=I.wk C h1 h2 h3;refine I.hR.weaken (fun b L hb=> ?_) k2 (fun b hb=> ?_)
 ·rw[k1,<- I.nx];exact I.hR.lt b L hb
 ·rw[k1]at hb;rw[k3 b (fun j hj=>by have:=I.nxN;omega)];exact I.hR.clean b (by rw[I.nx];exact hb)
theorem Inv.act(C:Cx P G n call ops is chk B0 F M V)(I:Inv n ops is B0 F M V base ρ0 m0 w0 S K ρ Mm vq a w){i:Nat}{o:bd}(ho:is[i]?=some o)(hi:i∉S)(hb:∀j,j∈(gf ops.toList []).getD i []->j∈S)
  (hA:qm o (F i)) {ρ1:eR} {w1:World} {a1:Act} (n8:R base ρ1 (M (i+1)) w1) (hs:Step ρ (M i) w ρ1 (M (i+1)) w1) (hF:Cc ρ1 n (vq.put o.dst (V i)) a1) :
  ∃M2,Inv n ops is B0 F M V base ρ0 m0 w0 (i::S) (i+1) ρ1 M2 (vq.put o.dst (V i)) a1 w1:=by
 have aH:=(mu.1 ho).1;obtain⟨hKi,iv⟩:=I.next C ho hi hb hA;obtain⟨k1,k2,k3,k4,k5⟩:=I.wk C hKi (Nat.le_of_lt aH) iv;have LO:=I.b0;have YI:=I.nx;have auq:=I.nxN;have Ka:=hs.next
 let l:=(S.filter fun j=>decide (i<j)).map fun j=>B0+j
 have hl:∀b,b∈l↔∃j,j∈S/\i<j/\b=B0+j:=by
  intro b;simp only[l,List.mem_map,List.mem_filter,decide_eq_true_eq];constructor
  ·rintro⟨j,⟨h1,h2⟩,h3⟩;exact⟨j,h1,h2,h3.symm⟩
  ·rintro⟨j,h1,h2,h3⟩;exact⟨j,⟨h1,h2⟩,h3.symm⟩
 obtain⟨M2,m1,m2⟩:=over (M (i+1)) Mm.get l;have acv:R base ρ1 M2 w1/\Step ρ0 m0 w0 ρ1 M2 w1:=by
  refine Yd l I.hR I.st n8 hs (fun b xT=> ?_) (fun b L hL _=>k2 b L hL) (fun b xT=> ?_) (by omega) m1 m2
  ·obtain⟨j,j1,j2,rfl⟩:=(hl b).1 xT;have:=I.sub j j1;exact⟨by omega,by omega,k4 j (by omega) this⟩
  ·exact k3 b fun j hj=>by omega
 refine⟨M2,I.b0,?_,?_,?_,.inr ⟨i,o,rfl,ho,hA⟩,acv.1,m1,by omega,?_,?_,?_,?_,?_,acv.2,hF,I.Ih C ho hi,by rw[put_defers];exact I.df⟩
 ·intro j hj;rcases qn.1 hj with e|hj
  ·rw[e];exact aH
  ·exact I.sub j hj
 ·intro j hj k hk;rcases qn.1 hj with e|hj
  ·rw[e]at hk;exact Ah _ (hb k hk)
  ·exact Ah _ (I.bef j hj k hk)
 ·intro e q hq PO;constructor
  ·intro h;rcases qn.1 h with e1|h
   ·omega
   ·have:=(I.Fs e q hq PO).1 h;omega
  ·intro h;by_cases e1:e=i
   ·rw[e1];simp
   ·refine Ah _ ((I.Fs e q hq PO).2 ?_)
    apply vt
    intro h2;exact iv e q (by omega) (by omega) hq PO
 ·intro j B hj NM hK;rcases qn.1 NM with e|h
  ·omega
  ·rw[m2,if_pos ((hl _).2 ⟨j,h,by omega,rfl⟩)];exact I.W8 j B hj h (by omega)
 ·intro b anl;rw[m2]
  split
  ·rename_i xT
   obtain⟨j,j1,j2,rfl⟩:=(hl b).1 xT;have hjN:=I.sub j j1;rw[hs.dead (B0+j) (by omega) (k4 j (by omega) hjN),I.Sx (B0+j) ?_]
   ·exact I.dd j (by omega) hjN
   ·intro j' B h1 h2 h3 h4;have:j=j':=by omega
    subst this;exact anl j B h1 (Ah _ h2) (by omega) rfl
  ·rfl
 ·intro j hj h1;refine Ah _ (I.un j hj ?_)
  intro h0;have:=hs.new _ h0 h1;omega
 ·intro j B hj h1 h2;have NM:j∉S:=fun h=>h2 (Ah _ h)
  have Gj:j≠i:=fun e=>h2 (by rw[e];simp)
  have hjN:=hj.lt;have hρ:ρ (B0+j)=none:=by
   cases e:ρ (B0+j)with
   |none=>rfl
   |some L=>exact absurd (I.un j hjN (by rw[e];simp)) NM
  rw[hs.same (B0+j) (by omega) hρ];exact k5 j B hj (by omega) NM
 ·intro j h1 h2;exact hs.dead (B0+j) (by omega) (k4 j (by omega) h2)
theorem Inv.load(C:Cx P G n call ops is chk B0 F M V)(I:Inv n ops is B0 F M V base ρ0 m0 w0 S K ρ Mm vq a w){i:Nat}{o:bd}(ho:is[i]?=some o)(hi:i∉S)(hb:∀j,j∈(gf ops.toList []).getD i []->j∈S)
  {agg:Option Nat} {x:bm} (hL:EG o (F i) agg x) (h:(M i).load agg ((F i).eval x)=some (V i)) {x':Value} (hv:VR ρ ((F i).eval x) x'):Mm.load agg ((F i).eval x)=some (V i):=by
 have aH:=(mu.1 ho).1;have Wn:sort o.op=2:=by rw[hL.2.1];rfl
 -- a place in the akK order from af0 no act parts us
 have hex:∃k,K<=k/\k<=is.length/\(∀e q,K<=e->e<k->is[e]?=some q->¬qm q (F e))/\(M k).load agg ((F i).eval x)=some (V i):=by
  by_cases hKi:K<=i
  ·by_cases WV:∃e,K<=e/\e<i/\∃q,is[e]?=some q/\qm q (F e)
   ·-- the first of asQ
    obtain⟨e,⟨he1,he2,q,hq,PO⟩,anu⟩:∃e,(K<=e/\e<i/\∃q,is[e]?=some q/\qm q (F e))/\∀e',e'<e->¬(K<=e'/\e'<i/\∃q,is[e']?=some q/\qm q (F e')):=by
     obtain⟨e,he⟩:=WV
     induction e using Nat.strongRecOn with
     |_ e ih=>
      by_cases h:∃e',e'<e/\(K<=e'/\e'<i/\∃q,is[e']?=some q/\qm q (F e'))
      ·obtain⟨e',h1,h2⟩:=h;exact ih e' h1 h2
      ·exact⟨e,he,fun e' h1 h2=>h ⟨e',h1,h2⟩⟩
    have heS:e∉S:=fun hh=>by have:=(I.Fs e q hq PO).1 hh;omega
    have hp:=(C.open_ e i q o he2 hq ho (fun hh=>heS (hb e hh))).2.2.2.2 (Nat.le_antisymm (Cj _) PO.2) Wn;have:=(C.c1 i o agg x e q ho hq hL PO hp).1 he2;exact⟨e,he1,by omega,fun e' q' h1 h2 Gi hA'=>anu e' h2 ⟨h1,by omega,q',Gi,hA'⟩,FI this⟩
   ·exact⟨i,hKi,by omega,fun e q h1 h2 hq hA=>WV ⟨e,h1,h2,q,hq,hA⟩,h⟩
  ·rcases I.last with h0|⟨e,q,hK,hq,PO⟩
   ·omega
   ·have heS:e∈S:=(I.Fs e q hq PO).2 (by omega);have hie:i≠e:=fun h=>hi (h▸heS)
    have hp:=(C.open_ i e o q (by omega) ho hq (fun hh=>hi (I.bef e heS i hh))).2.2.2.1 Wn (Nat.le_antisymm (Cj _) PO.2);have:=(C.c1 i o agg x e q ho hq hL PO hp).2 (by omega);refine⟨K,cR _,I.kN,fun e' q' h1 h2=>absurd h2 (by omega),?_⟩
    rw[hK];exact FI this
 obtain⟨k,h1,h2,h3,h4⟩:=hex;obtain⟨_,k2,_,_,_⟩:=I.wk C h1 h2 h3;obtain⟨b,off,hx,hd⟩:=VM hL.2.2 h4;rw[hx]at hv h4⊢;cases hv with
 |ptr hL=>
 rcases k2 b _ hL with e|e
 ·rw[<- VO e];exact h4
 ·exact absurd e hd
theorem aiW(cm:rA P G call)(C:Cx P G n call ops is chk B0 F M V)(hG:lx G ρ0):∀(l S:List Nat) (K:Nat) (ρ:eR) (Mm:Mem) (vq:Fr) (a:Act) (w:World),Inv n ops is B0 F M V base ρ0 m0 w0 S K ρ Mm vq a w->
  (∀(k i:Nat),l[k]?=some i->i<is.length/\i∉S/\i∉l.take k/\∀b,b∈(gf ops.toList []).getD i []->b∈S\/b∈l.take k)->(∀i,i<is.length->i∈S\/i∈l)->
  wpOps P ops (Reach base n ρ0 m0 w0 (.norm (F is.length) (M is.length))) l a w:=by
 intro l
 induction l with
 |nil=>
  intro S K ρ Mm vq a w I hl hall;have hS:∀i,i<is.length->i∈S:=fun i hi=>by rcases hall i hi with h|h;exact h;cases h
  obtain⟨k1,k2,k3,k4,k5⟩:=I.wk C I.kN (cR _) (fun e q h1 h2 hq hA=>by have:=(I.Fs e q hq hA).1 (hS e h2);omega);obtain⟨_,hb⟩:=seg C K is.length I.kN (cR _) (fun e q h1 h2 hq hA=>by have:=(I.Fs e q hq hA).1 (hS e h2);omega);have hg:∀b,(M is.length).get b=Mm.get b:=by
   intro b;rcases hb b with⟨j,B,q1,q2,q3,q4,q5⟩|⟨q1,q2⟩
   ·rw[q5,q4];exact(I.W8 j B q3 (hS j q2) q1).symm
   ·rw[q2];exact(I.Sx b fun j B p1 p2 p3 p4=>q1 j B p3 p1.lt p1 p4).symm
  have YI:(M is.length).next=Mm.next:=by rw[k1,I.nx]
  have aeq:∀k,k<=is.length->(F k).defers=(F 0).defers:=by
   intro k
   induction k with
   |zero=>intro _;rfl
   |succ k ih=>
    intro hk;have aH:k<is.length:=by omega
    obtain⟨_,hF⟩:=C.at_ k is[k] (jE aH)
    rw[hF,put_defers];exact ih (by omega)
  refine⟨rfl,ρ,I.hR.congr YI hg,I.st.congr YI hg,⟨⟨I.fr.tm.size,fun t=> ?_⟩,?_⟩⟩
  ·have:=I.fr.tm.tmp t;rw[I.cur t,A5 C S t is.length (cR _) (fun j o hj _ _=>hS j hj)]at this;exact this
  ·rw[aeq _ (cR _),<- I.df];exact I.fr.Fk
 |cons i l ih=>
  intro S K ρ Mm vq a w I hl hall;obtain⟨aH,hi,_,hb⟩:=hl 0 i rfl;have hb:∀j,j∈(gf ops.toList []).getD i []->j∈S:=fun j hj=>by
   rcases hb j hj with h|h
   ·exact h
   ·simp at h
  have BV:is[i]?=some is[i]:=jE aH;generalize is[i]=io at BV;have next:∀{K1:Nat} {ρ1:eR} {M1:Mem} {iq:Fr} {a1:Act} {w1:World},Inv n ops is B0 F M V base ρ0 m0 w0 (i::S) K1 ρ1 M1 iq a1 w1->wpOps P ops (Reach base n ρ0 m0 w0 (.norm (F is.length) (M is.length))) l a1 w1:=by
   intro K1 ρ1 M1 iq a1 w1 I1;refine ih (i::S) K1 ρ1 M1 iq a1 w1 I1 (fun k j hj=> ?_) (fun j hj=> ?_)
   ·obtain⟨g1,g2,g3,g4⟩:=hl (k+1) j (by simpa using hj);rw[List.take_succ_cons]at g3 g4;refine⟨g1,?_,fun h=>g3 (Ah _ h),fun b hb=> ?_⟩
    ·intro h;rcases qn.1 h with e|h
     ·exact g3 (by rw[e];simp)
     ·exact g2 h
    ·rcases g4 b hb with h|h
     ·exact .inl (Ah _ h)
     ·rcases qn.1 h with e|h
      ·exact .inl (by rw[e];simp)
      ·exact .inr h
   ·rcases hall j hj with h|h
    ·exact .inl (Ah _ h)
    ·rcases qn.1 h with e|h
     ·exact .inl (by rw[e];simp)
     ·exact .inr h
  obtain⟨o,ho,hc⟩:=C.comp i io BV;obtain⟨hx,pT,AT,oQ⟩:=Le hc;obtain⟨TF,_⟩:=C.at_ i io BV
  have hval:=I.val C BV hi hb;have tJ:=eval_eq hval;have hwt:=IM hval;have hGρ:=hG.ext I.st.ext;simp only[wpOps,ho]
  -- one T8 looks at the memory fw it is
  have still:∀{op:oa},io.op=.val op->¬qm io (F i)->(∀B,¬jD is B0 F M i B)->aL vq.eval op Mm=some (.val (V i) Mm)->
    o.wp P a w (wpOps P ops (Reach base n ρ0 m0 w0 (.norm (F is.length) (M is.length))) l) (Reach base n ρ0 m0 w0 (.norm (F is.length) (M is.length))):=by
   intro op oF hna BT he;rw[oF]at hx;obtain⟨ρ1,w1,v',mB,hv,n8,hs⟩:=Dk (wv hx) hGρ I.hR I.fr.tm he;have hF:=(I.fr.ext hs.ext).put AT hv;rw[<- pT]at hF;have:=next (I.idle C BV hi hb hna BT n8 hs hF);simp only[Oper.wp];rw[pT]at this;rcases mB with mB|⟨mB,rfl⟩
   ·rw[mB];exact this
   ·rw[mB];exact this
  cases TF with
  |skip hw hv hm=>
   rw[oY I.fr.tm oQ (hwt.trans hw),if_neg (by simp)];have hF:=I.fr.put AT (VR.undef (ρ:=ρ));rw[<- hv,<- pT]at hF;have:=next (I.idle C BV hi hb (fun hA=>by have:=hA.1;rw[hw]at this;cases this) (fun B ⟨o',op,h1,h2,h3,h4,_⟩=>by rw[BV]at h1;cases h1;rw[hw]at h4;cases h4) I.hR (.refl _ _ _) hF);rw[pT]at this;exact this
  |pure op m1 hw oF hs h hm=>
   rw[oY I.fr.tm oQ (hwt.trans hw),if_pos rfl]
   left
   refine still oF (fun hA=>by have:=hA.2;rw[oF]at this;simp only[sort]at this;omega) (fun B ⟨o',op',h1,h2,h3,h4,_⟩=>by rw[BV]at h1;cases h1;rw[oF]at h2;cases h2;omega) ?_
   rw[xZ (g:=(F i).eval) (fun x DH=>tJ x (by rw[oF];exact DH))];exact(Jl hs h).2 Mm
  |load agg x hw oF h hm=>
   rw[oY I.fr.tm oQ (hwt.trans hw),if_pos rfl]
   left
   refine still oF (fun hA=>by have:=hA.2;rw[oF]at this;simp[sort,dG]at this) (fun B ⟨o',op',h1,h2,h3,h4,_⟩=>by rw[BV]at h1;cases h1;rw[oF]at h2;cases h2;simp[dG]at h3) ?_
   have Sf:vq.eval x=(F i).eval x:=tJ x (by rw[oF];simp[qQ,ku]);rw[oF]at hx;have uU:∃x',VR ρ (vq.eval x) x':=by
    cases x with
    |tmp t=>exact⟨_,I.fr.tm.tmp t⟩
    |const v=>
     obtain⟨ajj,x1,x0,q1,q2⟩:=VN (wv hx) rfl;cases q1;exact⟨_,j3 hGρ I.fr.tm q2⟩
   obtain⟨x',Cy⟩:=uU;rw[Sf]at Cy;have:=I.load C BV hi hb ⟨hw,oF,by generalize (F i).eval x=y at Cy;cases Cy<;>rfl⟩ h Cy;simp only[aL,Sf,this,jb,Option.map_some]
  |make op m1 hw oF hs h hm=>
   rw[oY I.fr.tm oQ (hwt.trans hw),if_pos rfl]
   left
   rw[oF]at hx;obtain⟨B,mk,e1,e2,e3⟩:=Dy hs h;have hmk:jD is B0 F M i B:=⟨io,op,BV,oF,hs,hw,by rw[hm,e2];rfl⟩;have he:aL vq.eval op ⟨B0+i,Mm.ja⟩=some (.val (V i) ((⟨B0+i,Mm.ja⟩:Mem).new B)):=by
    rw[xZ (g:=(F i).eval) (fun x DH=>tJ x (by rw[oF];exact DH)),e3,e1]
   have hRN:RN base ρ ⟨B0+i,Mm.ja⟩ w:=by
    refine⟨?_,I.hR.dW,I.hR.inj,I.hR.base⟩
    apply vt
    intro e;exact hi (I.un i aH e)
   obtain⟨B',hB',ρ1,w1,v',mB,hv,hM⟩:=Nt (wv hx) hs hGρ hRN I.fr.tm he;have:B'=B:=by
    have h1:=congrArg (fun m:Mem=>m.get (B0+i)) hB';simp only[Mem.cN,if_true]at h1;exact h1.symm
   subst this;have hF:=(I.fr.ext hM.ext).put AT hv;rw[<- pT]at hF;have:=next (I.make C BV hi hb hmk hM hF);rw[pT]at this;simp only[Oper.wp];rw[mB];exact this
  |act op hw oF hs h=>
   rw[oY I.fr.tm oQ (hwt.trans hw),if_pos rfl]
   left
   rw[oF]at hx;have hA:qm io (F i):=⟨hw,by rw[oF];exact hs⟩;obtain⟨hKi,iv⟩:=I.next C BV hi hb hA;have hRi:=I.text C hKi (Nat.le_of_lt aH) iv;rw[<- xZ (f:=vq.eval) (fun x DH=>tJ x (by rw[oF];exact DH))]at h;obtain⟨ρ1,w1,v',mB,hv,n8,bT⟩:=Dk (wv hx) hGρ hRi I.fr.tm h;have hF:=(I.fr.ext bT.ext).put AT hv;rw[<- pT]at hF;obtain⟨M2,I2⟩:=I.act C BV hi hb hA n8 bT hF;have:=next I2;rw[pT]at this;simp only[Oper.wp];rcases mB with mB|⟨mB,rfl⟩
   ·rw[mB];exact this
   ·rw[mB];exact this
  |call f args hw oF h=>
   rw[oY I.fr.tm oQ (hwt.trans hw),if_pos rfl]
   left
   rw[oF]at hx;have hA:qm io (F i):=⟨hw,by rw[oF];simp[sort]⟩;obtain⟨hKi,iv⟩:=I.next C BV hi hb hA;have hRi:=I.text C hKi (Nat.le_of_lt aH) iv;obtain⟨f0,xs0,ts0,yw,hf,Wk⟩:=GN hx;have LL:vq.eval f=(F i).eval f:=tJ f (by rw[oF];simp[qQ]);have hae:args.map vq.eval=args.map (F i).eval:=q9 fun x DH=>tJ x (by rw[oF];simp[qQ,DH])
   rw[<- LL,<- hae]at h;cases BX:vq.eval f<;>simp only[BX,ie,reduceCtorEq]at h
   rename_i g x y
   obtain⟨aK,mB,hv⟩:=Pf (w:=w) (P:=P) yw hf Wk hGρ I.fr.tm BX;simp only[Oper.wp];rw[mB];rcases cm _ _ _ _ h base ρ w aK hRi hGρ hv with⟨h1,h2⟩|⟨v,v',e,h1,h2⟩
   ·rw[h1];simp only[Oper.upon];refine h2.mono fun e w' hp=> ?_
    obtain⟨ρ1,v',rfl,vj,n8,bT⟩:=hp;have hF:=(I.fr.ext bT.ext).put AT vj;rw[<- pT]at hF;obtain⟨M2,I2⟩:=I.act C BV hi hb hA n8 bT hF;have:=next I2;rw[pT]at this;exact this
   ·rw[h1];simp only[Oper.upon];simp only[Fin.ret.injEq]at e;obtain⟨rfl,e⟩:=e;have hF:=I.fr.put AT h2;rw[<- pT]at hF;obtain⟨M2,I2⟩:=I.act C BV hi hb hA (by rw[e];exact hRi) (by rw[e];exact .refl _ _ _) hF;have:=next I2;rw[pT]at this;exact this
end
theorem xU{i j:Nat}:∀{l:List (Nat×Nat)},(i,j)∈l->cr i j l=true
 |[],h=>by cases h
 |(a,b)::l,h=>by
  simp only[cr];rcases qn.1 h with e|h
  ·cases e;simp
  ·have:=xU h;cases h1:a.beq i<;>simp only[cond_true,cond_false]
   ·exact this
   ·cases h2:b.beq j<;>simp only[cond_true,cond_false]
    ·exact this
theorem Ru{n i j:Nat}(h:i<j)(hj:j<n):(i,j)∈Pa n:=by
 unfold Pa;refine List.mem_flatMap.2 ⟨j,by simpa using hj,List.mem_map.2 ⟨i,by simpa using h,rfl⟩⟩
theorem xO{acc:List (List Nat)}{B9:List Nat}(h:∀k i,(B9.getD k 0).testBit i=true->i∈acc.getD k []):∀(es:List Edge) (i:Nat),(AK B9 es).testBit i=true->
  i∈(es.filter gY).flatMap fun e=>e.on::acc.getD e.on []
 |[],i,hi=>by simp[AK]at hi
 |e::es,i,hi=>by
  simp only[AK]at hi;cases hp:gY e with
  |false=>
   simp only[hp,cond_false]at hi;rw[List.filter_cons,hp];exact xO h es i hi
  |true=>
   simp only[hp,cond_true,Nat.testBit_or,Bool.or_eq_true,Nat.testBit_two_pow,decide_eq_true_eq]at hi;rw[List.filter_cons,hp];simp only[if_true,List.flatMap_cons,Ag,qn];rcases hi with(hi|hi)|hi
   ·exact .inl (.inl hi.symm)
   ·exact .inl (.inr (h _ _ hi))
   ·exact .inr (xO h es i hi)
theorem Gb:∀(l:List Oper) (acc:List (List Nat)) (B9:List Nat),B9.length=acc.length->(∀k i,(B9.getD k 0).testBit i=true->i∈acc.getD k [])->
  ∀k i,((JQ l B9).getD k 0).testBit i=true->i∈(gf l acc).getD k []
 |[],_,_,_,h=>h
 |o::l,acc,B9,hl,h=>by
  refine Gb l _ _ (by simp[hl]) fun k i hi=> ?_
  by_cases hk:k<B9.length
  ·rw[List.getD_eq_getElem?_getD,rB hk,<- List.getD_eq_getElem?_getD]at hi;rw[List.getD_eq_getElem?_getD,rB (by omega),<- List.getD_eq_getElem?_getD];exact h k i hi
  ·rw[List.getD_eq_getElem?_getD,yy (by omega)]at hi;rw[List.getD_eq_getElem?_getD,yy (by omega)];rw[hl]at hi;cases hx:k- acc.length with
   |zero=>
    rw[hx]at hi;simp only[List.getElem?_cons_zero,Option.getD_some]at hi⊢;exact xO h _ i hi
   |succ x=>rw[hx]at hi;simp at hi
theorem Ic{l:List Oper}{is:List bd}{chk:List (Nat×Nat)}(h:tT l is=some chk):wh l 0=true/\
  ∀(i j:Nat) (io jo:bd),i<j->is[i]?=some io->is[j]?=some jo->i∉(gf l []).getD j []->
   ¬(sort io.op=3/\sort jo.op=3)/\(∀t,io.dst=some t->t∉named jo)/\(∀t,jo.dst=some t->t∉named io)/\(sort io.op=2->sort jo.op=3->cr i j chk=true)/\(sort io.op=3->sort jo.op=2->cr j i chk=true):=by
 unfold tT at h;simp only[Bool.cond_eq_ite]at h
 split at h
 ·rename_i hq
  simp only[rC]at hq;obtain⟨h1,h2⟩:=hq;refine⟨h1,fun i j io jo PK BV hjo iv=> ?_⟩
  have hm:(i,j)∈(Pa is.length).filter fun(p:Nat×Nat)=> !((JQ l []).getD p.2 0).testBit p.1:=by
   refine List.mem_filter.2 ⟨Ru PK (mu.1 hjo).1,?_⟩
   cases hb:((JQ l []).getD j 0).testBit i with
   |false=>simp only[hb,Bool.not_false]
   |true=>exact absurd (Gb l [] [] rfl (fun k i h=>by simp at h) j i hb) iv
  have h3:=List.all_eq_true.1 h2 (i,j) hm;simp only[BV,hjo,Option.map_some,Option.getD_some,Option.bind_some,rC]at h3;obtain⟨⟨h4,h5⟩,h6⟩:=h3;simp only[bQ]at h;refine⟨fun⟨a,b⟩=>by rw[a,b]at h4;simp at h4,fun t ht=> ?_,fun t ht=> ?_,fun a b=> ?_,fun a b=> ?_⟩
  ·rw[ht]at h5;simpa using h5
  ·rw[ht]at h6;simpa using h6
  ·rw[<- h];refine xU (List.mem_flatMap.2 ⟨(i,j),hm,?_⟩)
   simp[BV,hjo,a,b]
  ·rw[<- h];refine xU (List.mem_flatMap.2 ⟨(i,j),hm,?_⟩)
   simp[BV,hjo,a,b]
 ·cases h
theorem Om(j9:P.follows .mixedOrders=true)(cm:rA P G call){base id:Nat}{ops:Array Oper}{is:List bd}{chk:List (Nat×Nat)}(his:ops.toList.mapM (u0 P G n ops)=some is)
  (aer:tT ops.toList is=some chk) {ρ:eR} {m:Mem} {w:World} {fr:Fr} {a:Act} {out:Out} (hR:R base ρ m w) (hG:lx G ρ) (hF:Cc ρ n fr a)
  (h:ei call chk m.next is 0 fr ⟨m.next+is.length,m.ja⟩ [] []=some out):(Code.region id ops true).wp P (Reach base n ρ m w out) a w:=by
 obtain⟨zq,ahd⟩:=Ic aer;obtain⟨hlen,ahN⟩:=mapM_some _ his;have hlen:ops.size=is.length:=by simpa using hlen
 obtain⟨F,M,V,f0,m0,DI,ahP⟩:=X1 is 0 fr _ [] [] out h;simp only[Nat.zero_add]at DI;subst DI;have C:Cx P G n call ops is chk m.next F M V:=by
  refine⟨fun i io hi=> ?_,fun k o hk=>by simpa using ahP.at_ k o hk,fun k o agg x l q hk hl hL hA hp=> ?_,ahd⟩
  ·have aH:i<ops.size:=by have:=(mu.1 hi).1;omega
   exact⟨ops[i],Array.getElem?_eq_getElem aH,ahN i ops[i] io (by simp[aH]) hi⟩
  ·have:=ahP.c1 k o agg x l q hk hl (by simpa using hL) (by simpa using hA) (by simpa using hp);simpa using this
 refine wp_region_draw fun t=> ?_
 have q:EC w {w with drawn:=w.drawn+1}:=⟨rfl,rfl,rfl,rfl⟩;generalize {w with drawn:=w.drawn+1}=w1 at q;have hl:=G7 j9 ops zq t;have xT:=Fq zq hl;generalize Region.schedule (P.follows .mixedOrders) ops t=l at hl xT;have n8:=hR.quiet q;have bT:Step ρ m w ρ m w1:=.quiet q;have oH:∀b,(M 0).get b=m.get b:=fun b=>by rw[m0];rfl
 have Ka:(M 0).next=m.next+is.length:=by rw[m0]
 have hR2:R base ρ (M 0) w1:=⟨fun b L hb=>by rw[Ka];have:=n8.lt b L hb;omega,fun b L hb=>by rw[oH];exact n8.dW b L hb,
  fun b c L L' h1 h2 h3 h4=>n8.inj b c L L' h1 h2 (by unfold Live at *;rwa [oH]at h3) (by unfold Live at *;rwa [oH]at h4),n8.base,fun b hb=>by rw[oH];exact n8.clean b (by rw[Ka]at hb;omega)⟩
 have Wm:Step ρ m w ρ (M 0) w1:=⟨bT.ext,bT.new,by rw[Ka];omega,fun b hb hn=>by rw[oH],fun b hb hd=>by rw[oH];exact hd,bT.size,
  fun i hi ⟨b,L,h1,h2,h3,h4⟩=>⟨b,L,h1,by unfold Live at *;rwa [oH]at h2,h3,h4⟩,bT.kept,bT.os,bT.tape,bT.output⟩
 have ahM:∀t,∀k,zQ is F V [] t k=(F 0).get t:=by
  intro t k
  induction k with
  |zero=>rfl
  |succ k ih=>simp only[zQ];rw[if_neg (by simp)];exact ih
 have I:Inv n ops is m.next F M V base ρ m w [] 0 ρ (M 0) fr a w1:=by
  refine⟨rfl,by simp,by simp,by simp,.inl rfl,hR2,rfl,by rw[Ka];omega,by simp,fun b _=>rfl,fun j _ hj=> ?_,fun j B _ h=>absurd h (by omega),fun j _ _=> ?_,Wm,hF,fun t=>by rw[ahM,f0],by rw[f0]⟩
  ·exfalso;apply hj
   cases e:ρ (m.next+j)with
   |none=>rfl
   |some L=>have:=hR.lt _ _ e;omega
  ·rw[oH];exact hR.clean _ (by omega)
 refine aiW cm C hG l [] 0 ρ (M 0) fr a w1 I (fun k i hk=> ?_) (fun i hi=>.inr ((hl.all i).2 (by omega)))
 refine⟨by have:=(hl.all i).1 (List.mem_of_getElem? hk);omega,by simp,?_,fun b hb=>.inr (xT i k hk b hb)⟩
 intro BW;obtain⟨k',DL⟩:=List.mem_iff_getElem?.1 BW;have aH:k'<k:=by have:=(mu.1 DL).1;simp at this;omega
 rw[List.getElem?_take,if_pos aH]at DL;have h1:=mu.1 hk;have h2:=mu.1 DL;obtain⟨g1,e1⟩:=h1;obtain⟨g2,e2⟩:=h2;exact List.pairwise_iff_getElem.1 hl.nodup k' k g2 g1 aH (by rw[e1,e2])
end
end
end Go.Proofs.YtfbnghpabppljaaGreatDoor.Ev
