/- WSc1, WSc2, WSc3, WSc4, WSc5, WSc6, PLx, WSc7, PTree, PCk, PCk2, WNm, WTree1, WTree2, WTree3, PUp, WTree4, PWt, PCk3. -/
import Derived.Test.YtfbnghpabppljaaGreatDoorMg
set_option linter.unusedSimpArgs false
set_option linter.unusedVariables false
set_option linter.unusedSectionVars false
set_option linter.defProp false
set_option maxRecDepth 20000
set_option maxHeartbeats 8000000
namespace Go.Proofs.YtfbnghpabppljaaGreatDoor.Ev
open Go
section
def oL(L:List (cH×EV)):List (EV×EV):=L.map fun p=>(.str p.1,p.2)
theorem C9{a b:cH}:EV.same (.str a) (.str b)=decide (a=b):=by
 by_cases h:a=b
 ·subst h;rw[qH _ rfl];simp
 ·cases hs:EV.same (.str a) (.str b)with
  |false=>simp[h]
  |true=>have:=yK hs;cases this;exact absurd rfl h
def vd(s:cH):List (cH×EV)->Option EV
 |[]=>none
 |(a,v)::r=>if s=a then some v else vd s r
def tf(s:cH)(v:EV):List (cH×EV)->List (cH×EV)
 |[]=>[(s,v)]
 |(a,w)::r=>if s=a then(s,v)::r else(a,w)::tf s v r
def zP(s:cH):List (cH×EV)->List (cH×EV)
 |[]=>[]
 |(a,w)::r=>if s=a then r else(a,w)::zP s r
theorem qJ{s:cH}:∀L:List (cH×EV),find (.str s) (oL L)=vd s L
 |[]=>rfl
 |(a,v)::r=>by
  show (bif EV.same (.str s) (.str a)then some v else find (.str s) (oL r))=_;rw[C9,qJ r];by_cases h:s=a<;>simp[h,vd]
theorem rK{s:cH}{v:EV}:∀L:List (cH×EV),update (.str s) v (oL L)=oL (tf s v L)
 |[]=>rfl
 |(a,w)::r=>by
  show (bif EV.same (.str s) (.str a)then(.str s,v)::oL r else(.str a,w)::update (.str s) v (oL r))=_;rw[C9,rK r];by_cases h:s=a<;>simp[h,tf,oL]
theorem Eb{s:cH}:∀L:List (cH×EV),erase (.str s) (oL L)=oL (zP s L)
 |[]=>rfl
 |(a,w)::r=>by
  show (bif EV.same (.str s) (.str a)then oL r else(.str a,w)::erase (.str s) (oL r))=_;rw[C9,Eb r];by_cases h:s=a<;>simp[h,zP,oL]
theorem wS{s:cH}(L:List (cH×EV)):jB 1 (.str s) (oL L)=true:=by
 have:pw (.str s) (oL L)=true:=by
  induction L with
  |nil=>rfl
  |cons p r ih=>exact ih
 unfold jB;rw[this];rfl
theorem DR{s s':cH}{v:EV}:∀L:List (cH×EV),vd s' (tf s v L)=if s'=s then some v else vd s' L
 |[]=>rfl
 |(a,w)::r=>by
  unfold tf;by_cases h:s=a
  ·subst h;rw[if_pos rfl];unfold vd;by_cases h2:s'=s<;>simp[h2,vd]
  ·rw[if_neg h];unfold vd;rw[DR r];by_cases h2:s'=a
   ·subst h2;rw[if_pos rfl,if_pos rfl,if_neg (fun q=>h q.symm)]
   ·rw[if_neg h2,if_neg h2]
theorem Gn{s:cH}:∀{L:List (cH×EV)},s∉L.map Prod.fst->vd s L=none
 |[],_=>rfl
 |(a,w)::r,h=>by
  simp only[List.map_cons,qn,not_or]at h;unfold vd;rw[if_neg h.1,Gn h.2]
theorem Kr{s s':cH}:∀{L:List (cH×EV)},(L.map Prod.fst).Nodup->vd s' (zP s L)=if s'=s then none else vd s' L
 |[],_=>by simp[zP,vd]
 |(a,w)::r,h=>by
  simp only[List.map_cons,List.nodup_cons]at h;unfold zP;by_cases h1:s=a
  ·subst h1;rw[if_pos rfl];by_cases h2:s'=s
   ·subst h2;rw[if_pos rfl,Gn h.1]
   ·rw[if_neg h2]
    conv=>rhs;unfold vd
    rw[if_neg h2]
  ·rw[if_neg h1];unfold vd;rw[Kr h.2];by_cases h2:s'=a
   ·subst h2;rw[if_pos rfl,if_pos rfl,if_neg (fun q=>h1 q.symm)]
   ·rw[if_neg h2,if_neg h2]
theorem JL{s a:cH}{v:EV}:∀{L:List (cH×EV)},a∈(tf s v L).map Prod.fst->a=s\/a∈L.map Prod.fst
 |[],h=>by simp[tf]at h;exact .inl h
 |(b,w)::r,h=>by
  unfold tf at h;by_cases h1:s=b
  ·rw[if_pos h1]at h;simp only[List.map_cons,qn]at h⊢;rcases h with h|h
   ·exact .inl h
   ·exact .inr (.inr h)
  ·rw[if_neg h1]at h;simp only[List.map_cons,qn]at h⊢;rcases h with h|h
   ·exact .inr (.inl h)
   ·rcases JL h with h|h
    ·exact .inl h
    ·exact .inr (.inr h)
theorem xM{s:cH}{v:EV}:∀{L:List (cH×EV)},(L.map Prod.fst).Nodup->((tf s v L).map Prod.fst).Nodup
 |[],_=>by simp[tf]
 |(b,w)::r,h=>by
  simp only[List.map_cons,List.nodup_cons]at h;unfold tf;by_cases h1:s=b
  ·rw[if_pos h1];simp only[List.map_cons,List.nodup_cons];exact⟨h1▸h.1,h.2⟩
  ·rw[if_neg h1];simp only[List.map_cons,List.nodup_cons];exact⟨fun q=>(JL q).elim (fun e=>h1 e.symm) h.1,xM h.2⟩
theorem JM{s a:cH}:∀{L:List (cH×EV)},a∈(zP s L).map Prod.fst->a∈L.map Prod.fst
 |[],h=>h
 |(b,w)::r,h=>by
  unfold zP at h;by_cases h1:s=b
  ·rw[if_pos h1]at h;exact Ah _ h
  ·rw[if_neg h1]at h;simp only[List.map_cons,qn]at h⊢;exact h.imp id JM
theorem Dq{s:cH}:∀{L:List (cH×EV)},(L.map Prod.fst).Nodup->((zP s L).map Prod.fst).Nodup
 |[],h=>h
 |(b,w)::r,h=>by
  simp only[List.map_cons,List.nodup_cons]at h;unfold zP;by_cases h1:s=b
  ·rw[if_pos h1];exact h.2
  ·rw[if_neg h1];simp only[List.map_cons,List.nodup_cons];exact⟨fun q=>h.1 (JM q),Dq h.2⟩
inductive Part where
 |box|map|ord|JV|other
 |row (s:cH)
deriving DecidableEq
structure GQ(o:Nat->Part)(m:Mem)(p:Part)(v:EV)(cs:List EV)(n esz:Nat):Prop where
 is:(v=.aa/\n=0)\/∃b t rest,v=.slice b 0 n none/\b<m.next/\o b=p/\m.get b=.cells (cs++rest) esz t false
 len:cs.length=n*esz
section
variable {o o':Nat->Part} {m m':Mem} {p:Part} {v:EV} {cs:List EV} {n esz:Nat}
theorem GQ.cU(h:GQ o m p v cs n esz)(hn:m.next<=m'.next)(hk:∀c,c<m.next->o c=p->m'.get c=m.get c)(ho:∀c,c<m.next->o' c=o c):GQ o' m' p v cs n esz:=by
 refine⟨?_,h.len⟩
 rcases h.is with h|⟨b,t,rest,e,hb,hp,hg⟩
 ·exact .inl h
 ·exact .inr ⟨b,t,rest,e,by omega,(ho b hb).trans hp,(hk b hb hp).trans hg⟩
theorem GQ.nil:GQ o m p .aa [] 0 esz:=⟨.inl ⟨rfl,rfl⟩,by simp⟩
theorem GQ.row(h:GQ o m p v cs n esz):m.source esz v=some (n,cs):=by
 have hl:=h.len;rcases h.is with⟨rfl,rfl⟩|⟨b,t,rest,rfl,hb,hp,hg⟩
 ·rw[Nat.zero_mul]at hl;rw[List.eq_nil_of_length_eq_zero hl];rfl
 ·show (m.row b 0 (n*esz)).map (fun cs=>(n,cs))=_;rw[<- hl];by_cases h0:cs.length=0
  ·rw[h0,Mem.od,List.eq_nil_of_length_eq_zero h0];rfl
  ·rw[Mem.qz h0];unfold Mem.E6;rw[hg];show ((bif (0+cs.length).ble (cs++rest).length then some (((cs++rest).drop 0).take cs.length)else none).map _)=_;rw[sx (by simp)];simp
theorem GQ.append(h:GQ o m p v cs n esz){x:EV}{xs:List EV}{e:Nat}(hx:m.source esz x=some (1,xs))(YD:xs.length=esz)(hr:n+1<=room) :
  cM m e esz v x=some (.slice (nb m.next 0) 0 (n+1) none,grow m v e esz (cs++xs))/\(∀c,c<m.next->o c≠p->(grow m v e esz (cs++xs)).get c=m.get c)/\
   GQ (fun c=>if c=m.next then p else o c) (grow m v e esz (cs++xs)) p (.slice (nb m.next 0) 0 (n+1) none) (cs++xs) (n+1) esz:=by
 have hl:=h.len;have hlen:(cs++xs).length=(n+1)*esz:=by rw[w6,hl,YD,Nat.add_mul,Nat.one_mul]
 rcases h.is with⟨rfl,rfl⟩|⟨b,t,rest,rfl,hb,hp,hg⟩
 ·rw[Nat.zero_mul]at hl;obtain rfl:=List.eq_nil_of_length_eq_zero hl;refine⟨?_,fun c hc _=>by unfold grow;rw[cN,if_neg (by omega)],⟨.inr ⟨m.next,e,[],rfl,by rw[gq];unfold nb;omega,by simp,by unfold grow;rw[cN,if_pos rfl,List.append_nil]⟩,hlen⟩⟩
  unfold cM;rw[hx]
  rfl
 ·have lN:m.row b 0 (n*esz)=some cs:=by
   have:=h.row;have e1:m.source esz (.slice b 0 n none)=(m.row b 0 (n*esz)).map (fun cs=>(n,cs)):=rfl;rw[e1]at this;cases hq:m.row b 0 (n*esz)with
   |none=>rw[hq]at this;cases this
   |some q=>rw[hq]at this;simp only[Option.map_some,bQ,sY,true_and]at this;rw[this]
  refine⟨?_,fun c hc fR=> ?_,⟨.inr ⟨m.next,e,[],rfl,by rw[gq];unfold nb;omega,by simp,?_⟩,hlen⟩⟩
  ·unfold cM;rw[hx];simp only[jC (show (1:Nat)≠0 by decide),cond_false,sx hr,cond_true,lN,hg,dN]
   rfl
  ·have hcb:c≠b:=fun q=>fR (q▸hp)
   show ((m.new (.cells (cs++xs) esz e false)).set b .dead).get c=_;rw[af hcb,cN,if_neg (by omega)]
  ·show ((m.new (.cells (cs++xs) esz e false)).set b .dead).get m.next=_;rw[af (by omega),cN,if_pos rfl,List.append_nil]
theorem GQ.cut(h:GQ o m p v cs n esz){k:Nat}(hk:k<=n)(h0:0<n):∃b t,v=.slice b 0 n none/\(∃rest,m.get b=.cells (cs++rest) esz t false)/\b<m.next/\o b=p/\GQ o m p (.slice b 0 k none) (cs.take (k*esz)) k esz:=by
 have hl:=h.len;rcases h.is with⟨_,q⟩|⟨b,t,rest,rfl,hb,hp,hg⟩
 ·omega
 ·refine⟨b,t,rfl,⟨rest,hg⟩,hb,hp,⟨.inr ⟨b,t,cs.drop (k*esz)++rest,rfl,hb,hp,by rw[<- List.append_assoc,List.take_append_drop];exact hg⟩,?_⟩⟩
  rw[List.length_take,hl];exact Nat.min_eq_left (Nat.mul_le_mul_right _ hk)
end
def yH(l:List cH):List EV:=l.map .str
def Ro(v:Pv):List EV:=[.int .i64 v.slot,.int .i64 v.kind,.int .i64 v.block]
def xJ(l:List Pv):List EV:=(l.map Ro).flatten
structure wC(o:Nat->Part)(m:Mem)(sb mb:Nat)(D:Int)(N:List cH)(F:cH->List Pv)(K:List Int)(L:List (cH×EV))(P:cH->EV)(ov kv:EV):Prop where
 get:m.get sb=.cells [.map mb,ov,kv,.int .i64 D] 4 ba false
 gm:m.get mb=.map (oL L)
 sb:sb<m.next/\o sb=.box
 mb:mb<m.next/\o mb=.map
 ord:GQ o m .ord ov (yH N) N.length 1
 JV:GQ o m .JV kv (is K) K.length 1
 nd:(L.map Prod.fst).Nodup
 ent:∀s,vd s L=if F s=[]then none else some (P s)
 row:∀s,F s≠[]->GQ o m (.row s) (P s) (xJ (F s)) (F s).length 3
 new:∀c,m.next<=c->o c=.other
abbrev Sc(o:Nat->Part)(m:Mem)(sb mb:Nat)(x:Mo)(L:List (cH×EV))(P:cH->EV)(ov kv:EV):Prop:=wC o m sb mb x.D (x.V.map Pv.name) (fun s=>pd s x.V) x.K L P ov kv
structure Bb(o:Nat->Part)(m:Mem)(o':Nat->Part)(m':Mem):Prop where
 n:m.next<=m'.next
 ow:∀c,c<m.next->o' c=o c
 k:∀c,c<m.next->o c=.other->m'.get c=m.get c
theorem Bb.refl{o:Nat->Part}{m:Mem}:Bb o m o m:=⟨cR _,fun _ _=>rfl,fun _ _ _=>rfl⟩
theorem Bb.trans{o o' o'':Nat->Part}{m m' m'':Mem}(h:Bb o m o' m')(h':Bb o' m' o'' m''):Bb o m o'' m'':=
 ⟨ji h.n h'.n,fun c hc=>(h'.ow c (cQ hc h.n)).trans (h.ow c hc),fun c hc hp=>(h'.k c (cQ hc h.n) ((h.ow c hc).trans hp)).trans (h.k c hc hp)⟩
section
variable {o:Nat->Part} {m m':Mem} {sb mb:Nat} {D:Int} {N:List cH} {F:cH->List Pv} {K:List Int} {L:List (cH×EV)} {P:cH->EV} {ov kv:EV}
theorem wC.cU(h:wC o m sb mb D N F K L P ov kv)(hn:m.next<=m'.next)(hk:∀c,c<m.next->m'.get c=m.get c):wC o m' sb mb D N F K L P ov kv/\Bb o m o m':=
 ⟨⟨(hk sb h.sb.1).trans h.get,(hk mb h.mb.1).trans h.gm,⟨by have:=h.sb.1;omega,h.sb.2⟩,⟨by have:=h.mb.1;omega,h.mb.2⟩,h.ord.cU hn (fun c hc _=>hk c hc) fun _ _=>rfl,h.JV.cU hn (fun c hc _=>hk c hc) fun _ _=>rfl,h.nd,h.ent,fun s hs=>(h.row s hs).cU hn (fun c hc _=>hk c hc) fun _ _=>rfl,fun c hc=>h.new c (ji hn hc)⟩,
  ⟨hn,fun _ _=>rfl,fun c hc _=>hk c hc⟩⟩
theorem wC.fields(h:wC o m sb mb D N F K L P ov kv){o':Nat->Part}{D':Int}{N':List cH}{K':List Int}{AA AL:EV}(hn:m.next<=m'.next)(ho:∀c,c<m.next->o' c=o c)(NI:∀c,m'.next<=c->o' c=.other)
  (hg:m'.get sb=.cells [.map mb,AA,AL,.int .i64 D'] 4 ba false) (h1:GQ o' m' .ord AA (yH N') N'.length 1) (h2:GQ o' m' .JV AL (is K') K'.length 1)
  (hk:∀c,c<m.next->o c≠.box->o c≠.ord->o c≠.JV->m'.get c=m.get c):wC o' m' sb mb D' N' F K' L P AA AL/\Bb o m o' m':=by
 have key:∀(p:Part),p≠.box->p≠.ord->p≠.JV->∀c,c<m.next->o c=p->m'.get c=m.get c:=fun p q1 q2 q3 c hc e=>hk c hc (e▸q1) (e▸q2) (e▸q3)
 exact⟨⟨hg,(key .map (by decide) (by decide) (by decide) mb h.mb.1 h.mb.2).trans h.gm,⟨by have:=h.sb.1;omega,(ho sb h.sb.1).trans h.sb.2⟩,⟨by have:=h.mb.1;omega,(ho mb h.mb.1).trans h.mb.2⟩,h1,h2,h.nd,h.ent,fun s hs=>(h.row s hs).cU hn (key _ (by simp) (by simp) (by simp)) ho,NI⟩,
  ⟨hn,ho,fun c hc hp=>key .other (by decide) (by decide) (by decide) c hc hp⟩⟩
theorem wC.entry(h:wC o m sb mb D N F K L P ov kv){o':Nat->Part}{s:cH}{l:List Pv}{w:EV}{L':List (cH×EV)}(hn:m.next<=m'.next)(ho:∀c,c<m.next->o' c=o c)(NI:∀c,m'.next<=c->o' c=.other)
  (hg:m'.get mb=.map (oL L')) (hnd:(L'.map Prod.fst).Nodup) (aen:∀s',vd s' L'=if s'=s then(if l=[]then none else some w)else vd s' L) (lN:l≠[]->GQ o' m' (.row s) w (xJ l) l.length 3)
  (hk:∀c,c<m.next->o c≠.map->o c≠.row s->m'.get c=m.get c):wC o' m' sb mb D N (fun t=>if t=s then l else F t) K L' (fun t=>if t=s then w else P t) ov kv/\Bb o m o' m':=by
 have key:∀(p:Part),p≠.map->p≠.row s->∀c,c<m.next->o c=p->m'.get c=m.get c:=fun p q1 q2 c hc e=>hk c hc (e▸q1) (e▸q2)
 refine⟨⟨(key .box (by decide) (by simp) sb h.sb.1 h.sb.2).trans h.get,hg,⟨by have:=h.sb.1;omega,(ho sb h.sb.1).trans h.sb.2⟩,⟨by have:=h.mb.1;omega,(ho mb h.mb.1).trans h.mb.2⟩,h.ord.cU hn (key _ (by decide) (by simp)) ho,h.JV.cU hn (key _ (by decide) (by simp)) ho,hnd,fun t=> ?_,fun t ht=> ?_,NI⟩,
  ⟨hn,ho,fun c hc hp=>key .other (by decide) (by simp) c hc hp⟩⟩
 ·rw[aen];by_cases q:t=s
  ·simp only[q,if_true]
  ·simp only[q,if_false];exact h.ent t
 ·by_cases q:t=s
  ·subst q;simp only[if_true]at ht⊢;exact lN ht
  ·simp only[q,if_false]at ht⊢;exact(h.row t ht).cU hn (key _ (by simp) (by simp[q])) ho
end
end
section
section
variable {o:Nat->Part} {m m':Mem} {sb mb:Nat} {x:Mo} {L:List (cH×EV)} {P:cH->EV} {ov kv:EV}
theorem Ct{D:Int}{a b c:EV}(hg:m.get sb=.cells [a,b,c,.int .i64 D] 4 ba false)(hb:sb<m.next)(hd:1<=D):kK B0 bg [.ptr sb 0] m=some (.ret (.bool true) (bump m 0)):=by
 have hc:(0:Int)<D:=by omega
 obtain⟨X,hE⟩:∃X,pI bg.results (exec B0 bg.body (kF [.ptr sb 0] 0 mP) m)=X:=⟨_,rfl⟩
 have hX:=hE;simp only[bg,hg,hb,hc,ao,simprocAttr]at hX;subst hX;exact ux (by simp[bg]) hE rfl rfl jX
theorem Pw(h:Sc o m sb mb x L P ov kv)(hd:1<=x.D):run U qq [.ptr sb 0] m=some (.ret (.bool true) (bump m 0)):=by
 rw[oq];exact Ct h.get h.sb.1 hd
theorem XP{D:Int}{a b c:EV}(hg:m.get sb=.cells [a,b,c,.int .i64 D] 4 ba false)(hb:sb<m.next):kK B1 bE [.ptr sb 0] m=some (.ret (.int .i64 D) (bump m 0)):=by
 obtain⟨X,hE⟩:∃X,pI bE.results (exec B1 bE.body (kF [.ptr sb 0] 0 mP) m)=X:=⟨_,rfl⟩
 have hX:=hE;simp only[bE,hg,hb,ao,simprocAttr]at hX;subst hX;exact ux (by simp[bE]) hE rfl rfl jX
theorem XO(h:Sc o m sb mb x L P ov kv):run U vK [.ptr sb 0] m=some (.ret (.int .i64 x.D) (bump m 0)):=by
 rw[tB];exact XP h.get h.sb.1
theorem Pz(h:Sc o m sb mb x L P ov kv)(hd:1<=x.D){s:cH}(hs:pd s x.V=[]):∃k,kK B2 aU [.ptr sb 0,.str s] m=some (.ret (.tuple [.agg [.int .i64 0,.int .i64 0,.int .i64 0],.bool false]) (bump m k)):=by
 have hg:=h.get;have WI:=h.gm;have hb:=h.sb.1;have BU:=h.mb.1;have NJ:∀M:Mem,M.get sb=.cells [.map mb,ov,kv,.int .i64 x.D] 4 ba false->sb<M.next->kK B0 bg [.ptr sb 0] M=some (.ret (.bool true) (bump M 0)):=fun M h1 h2=>Ct h1 h2 hd
 have hf:find (.str s) (oL L)=none:=by rw[qJ,h.ent,if_pos hs]
 have hk:=wS (s:=s) L;obtain⟨X,hE⟩:∃X,pI aU.results (exec B2 aU.body (kF [.ptr sb 0,.str s] 0 mP) m)=X:=⟨_,rfl⟩
 have hX:=hE;simp only[aU,nD,NJ,hg,hb,BU,WI,hf,hk,cond_true,ao,simprocAttr]at hX;subst hX;exact⟨_,ux (by simp[aU]) hE rfl rfl (fk lF)⟩
theorem De(l:List Pv):(xJ l).length=l.length*3:=by
 induction l with
 |nil=>rfl
 |cons v l ih=>unfold xJ at ih⊢;simp only[List.map_cons,List.flatten_cons,w6,ih,List.length_cons,Ro,List.length_nil];omega
theorem Ay(l:List Pv)(v:Pv):xJ (l++[v])=xJ l++Ro v:=by unfold xJ;simp
theorem Rn(l:List Pv)(v:Pv)(rest:List EV):((xJ (l++[v])++rest).drop (l.length*3)).take 3=Ro v/\l.length*3+3<=(xJ (l++[v])++rest).length:=by
 refine⟨?_,by simp[De];omega⟩
 rw[Ay,<- De,List.append_assoc,List.drop_left]
 rfl
theorem DC(h:Sc o m sb mb x L P ov kv)(hd:1<=x.D){s:cH}{l:List Pv}{v:Pv}(hs:pd s x.V=l++[v])(hl:l.length<1000000):∃k,kK B2 aU [.ptr sb 0,.str s] m=some (.ret (.tuple [.agg (Ro v),.bool true]) (bump m k)):=by
 have hg:=h.get;have WI:=h.gm;have hb:=h.sb.1;have BU:=h.mb.1;have NJ:∀M:Mem,M.get sb=.cells [.map mb,ov,kv,.int .i64 x.D] 4 ba false->sb<M.next->kK B0 bg [.ptr sb 0] M=some (.ret (.bool true) (bump M 0)):=fun M h1 h2=>Ct h1 h2 hd
 have hf:find (.str s) (oL L)=some (P s):=by rw[qJ,h.ent,if_neg (by rw[hs];simp)]
 have hk:=wS (s:=s) L;have hr:=h.row s (by rw[hs];simp);simp only[hs]at hr;have hln:(l++[v]).length=l.length+1:=by simp
 rw[hln]at hr;rcases hr.is with⟨_,q⟩|⟨b,t,rest,e,DO,_,Kf⟩
 ·omega
 obtain⟨p1,p2⟩:=Rn l v rest;have hpt:partOf (some 3) (xJ (l++[v])++rest) (l.length*3)=some (.agg (Ro v)):=by
  simp only[partOf];rw[sx p2,cond_true,p1]
 have Tx:¬(((l.length+1:Nat):Int)=0):=by omega
 have hw:IntKind.i64.wrap (((l.length+1:Nat):Int)- 1)=(l.length:Int):=by rw[wrap_i64 (by omega) (by omega)];omega
 have aH:l.length<l.length+1:=Nat.lt_succ_self _;rw[e]at hf;have hpv:Ro v=[.int .i64 v.slot,.int .i64 v.kind,.int .i64 v.block]:=rfl;rw[hpv]at hpt⊢;obtain⟨X,hE⟩:∃X,pI aU.results (exec B2 aU.body (kF [.ptr sb 0,.str s] 0 mP) m)=X:=⟨_,rfl⟩
 have hX:=hE;simp only[aU,nD,NJ,hg,hb,BU,WI,hf,hk,Kf,hpt,Tx,hw,aH,DO,ap,Nat.zero_add,cond_true,ao,simprocAttr]at hX;subst hX;exact⟨_,ux (by simp[aU]) hE rfl rfl (fk lF)⟩
end
end
section
theorem JS{T:Nat->Option jm}{F:aC}{args:List EV}{v:EV}{m m1:Mem}(hl:args.length<=F.ntmps)(h:pI F.results (exec T F.body (kF args 0 mP) m)=some (.ret v m1))(hf:Flat v=true)(hn:m.next<=m1.next)(hk:jy m m1):∃k,kK T F args m=some (.ret v (bump m k)):=
 ⟨m1.next- m.next,ux hl h hf (by unfold nb;omega) hk⟩
section
variable {o:Nat->Part} {m m':Mem} {sb mb:Nat} {x:Mo} {L:List (cH×EV)} {P:cH->EV} {ov kv:EV}
theorem aa3(h:Sc o m sb mb x L P ov kv)(hd:1<=x.D){s:cH}(hs:pd s x.V=[]):∃k,run U kj [.ptr sb 0,.str s] m=some (.ret (.tuple [.int .i64 0,.int .i64 0,.bool false]) (bump m k)):=by
 obtain⟨k,e⟩:=Pz h hd hs;rw[oA];have we:m.next<=(bump m k).next:=aq;have TG:jy m (bump m k):=jX;generalize bump m k=M at e we TG;obtain⟨X,hE⟩:∃X,pI bh.results (exec B3 bh.body (kF [.ptr sb 0,.str s] 0 mP) m)=X:=⟨_,rfl⟩
 have hX:=hE;simp only[bh,nC,e,ao,simprocAttr]at hX;subst hX;exact JS (by simp[bh]) hE rfl (by simp only[au,ak];exact ji we (ji aq aq)) (fk (pj TG we))
theorem Xn(h:Sc o m sb mb x L P ov kv)(hd:1<=x.D){s:cH}{l:List Pv}{v:Pv}(hs:pd s x.V=l++[v])(hl:l.length<1000000):∃k,run U kj [.ptr sb 0,.str s] m=some (.ret (.tuple [.int .i64 v.slot,.int .i64 v.kind,.bool true]) (bump m k)):=by
 obtain⟨k,e⟩:=DC h hd hs hl;rw[oA];have we:m.next<=(bump m k).next:=aq;have TG:jy m (bump m k):=jX;generalize bump m k=M at e we TG;have hpv:Ro v=[.int .i64 v.slot,.int .i64 v.kind,.int .i64 v.block]:=rfl;rw[hpv]at e;obtain⟨X,hE⟩:∃X,pI bh.results (exec B3 bh.body (kF [.ptr sb 0,.str s] 0 mP) m)=X:=⟨_,rfl⟩
 have hX:=hE;simp only[bh,nC,e,ao,simprocAttr]at hX;subst hX;exact JS (by simp[bh]) hE rfl (by simp only[au,ak];exact ji we (ji aq aq)) (fk (pj TG we))
theorem vT{l:List Int}:(is l).length=l.length:=by unfold is;rw[List.length_map]
theorem JW(h:Sc o m sb mb x L P ov kv)(hd:1<=x.D)(hl:x.K.length<1000000):∃v m1,run U vJ [.ptr sb 0] m=some (.ret v m1)/\eI m1 v (is x.K) x.K.length 1 m.next/\m.next<=m1.next/\jy m m1:=by
 have hg:=h.get;have hb:=h.sb.1;have NJ:=Pw h hd;have hr:=h.JV.row;rw[cf (by simp[c9])];by_cases h0:x.K.length=0
 ·have ha:cM m 3 1 .aa kv=some (.aa,m):=by unfold cM;rw[hr,h0];rfl
  have ha':cM (bump m 0) 3 1 .aa kv=some (.aa,bump m 0):=ha;refine⟨.aa,bump m 0,?_,⟨.inl ⟨rfl,h0,List.eq_nil_of_length_eq_zero (by rw[vT];exact h0)⟩,by rw[vT];omega⟩,aq,jX⟩
  simp only[c9,NJ,hg,hb,ha',ao,simprocAttr]
 ·have ha:cM (bump m 0) 3 1 .aa kv=some (.slice m.next 0 x.K.length none,(bump m 0).new (.cells (is x.K) 1 3 false)):=by
   unfold cM;rw[show (bump m 0).source 1 kv=some (x.K.length,is x.K)from hr];simp only[jC h0,cond_false,sx (show x.K.length<=room by unfold room;omega),cond_true]
   rfl
  refine⟨.slice m.next 0 x.K.length none,(bump m 0).new (.cells (is x.K) 1 3 false),?_,⟨.inr ⟨m.next,none,3,rfl,cR _,?_,?_,.inl rfl⟩,by rw[vT];omega⟩,?_,?_⟩
  ·simp only[c9,NJ,hg,hb,ha,ao,simprocAttr]
  ·rw[fI];show m.next<m.next+0+1;omega
  ·rw[cN];exact if_pos rfl
  ·rw[fI];show m.next<=m.next+0+1;omega
  ·intro c hc;rw[cN];exact if_neg (show ¬c=m.next+0 by omega)
theorem wC.depth{D D':Int}{N:List cH}{F:cH->List Pv}{K:List Int}(h:wC o m sb mb D N F K L P ov kv)(hn:m.next<=m'.next)(hg:m'.get sb=.cells [.map mb,ov,kv,.int .i64 D'] 4 ba false)(hk:∀c,c<m.next->c≠sb->m'.get c=m.get c):wC o m' sb mb D' N F K L P ov kv/\Bb o m o m':=by
 have key:∀(p:Part),p≠.box->∀c,c<m.next->o c=p->m'.get c=m.get c:=fun p hp c hc e=>hk c hc fun q=>hp (by rw[<- e,q];exact h.sb.2)
 exact h.fields hn (fun _ _=>rfl) (fun c hc=>h.new c (ji hn hc)) hg (h.ord.cU hn (key _ (by decide)) fun _ _=>rfl) (h.JV.cU hn (key _ (by decide)) fun _ _=>rfl) fun c hc q _ _=>key (o c) q c hc rfl
theorem Pe(h:Sc o m sb mb x L P ov kv)(hd:1<=x.D/\x.D<1000000):∃m1,run U xb [.ptr sb 0] m=some (.ret (.tuple []) m1)/\Sc o m1 sb mb x.open_ L P ov kv/\Bb o m o m1:=by
 have hg:=h.get;have hb:=h.sb.1;have NJ:=Pw h hd.1;have hw:IntKind.i64.wrap (x.D+1)=x.D+1:=wrap_i64 (by omega) (by omega);rw[cf (by simp[eg])];simp only[eg,NJ,hg,hb,hw,ao,simprocAttr];exact⟨_,rfl,h.depth (D':=x.D+1) (by first|exact cR _|exact aq) (by first|exact aN|(rw[fK,aN])) fun c hc fR=>by first|exact af fR|(rw[fK,af fR])⟩
end
end
section
section
variable {o:Nat->Part} {m m':Mem} {sb mb:Nat} {x:Mo} {L:List (cH×EV)} {P:cH->EV} {ov kv:EV}
theorem JR(hd:1<=x.D):∀M:Mem,M.get sb=.cells [.map mb,ov,kv,.int .i64 x.D] 4 ba false->sb<M.next->run U qq [.ptr sb 0] M=some (.ret (.bool true) (bump M 0)):=fun M h1 h2=>by
 rw[oq];exact Ct h1 h2 hd
theorem JU(h:Sc o m sb mb x L P ov kv)(hd:1<=x.D)(hl:x.V.length<1000000)(s:cH):∃(M:Mem) (a b c:Int) (is:Bool),run U xa [.ptr sb 0,.str s] m=some (.ret (.tuple [.agg [.int .i64 a,.int .i64 b,.int .i64 c],.bool is]) M)/\m.next<=M.next/\jy m M/\((pd s x.V=[]/\is=false)\/∃l v,pd s x.V=l++[v]/\is=true/\a=v.slot/\b=v.kind/\c=v.block):=by
 rw[oz];by_cases hs:pd s x.V=[]
 ·obtain⟨k,e⟩:=Pz h hd hs;exact⟨_,_,_,_,_,e,aq,jX,.inl ⟨hs,rfl⟩⟩
 ·have e0:=List.dropLast_concat_getLast hs;have zk:(pd s x.V).length<=x.V.length:=List.length_filter_le ..;obtain⟨k,e⟩:=DC h hd (l:=(pd s x.V).dropLast) (v:=(pd s x.V).getLast hs) e0.symm (by rw[List.length_dropLast];omega);exact⟨_,_,_,_,_,e,aq,jX,.inr ⟨_,_,e0.symm,rfl,rfl,rfl,rfl⟩⟩
theorem Ql{s:cH}{k:Int}{is:Bool}{a b c:Int}(h:(pd s x.V=[]/\is=false)\/∃l v,pd s x.V=l++[v]/\is=true/\a=v.slot/\b=v.kind/\c=v.block):x.bad s k↔((k<1\/3<k)\/(is=true/\c=x.D)):=by
 unfold Mo.bad;rcases h with⟨h,rfl⟩|⟨l,v,h,rfl,_,_,rfl⟩
 ·rw[h];simp
 ·rw[h];simp
theorem Nh(h:∀c,m.next<=c->o c=.other){p:Part}(hn:m.next<m'.next):∀c,m'.next<=c->(if c=m.next then p else o c)=.other:=fun c hc=>by rw[if_neg (by omega)];exact h c (by omega)
section
variable {D:Int} {N:List cH} {F:cH->List Pv} {K:List Int}
theorem wC.Qo(h:wC o m sb mb D N F K L P ov kv){s:cH}{w:EV}(hw:(F s=[]/\w=.aa)\/(F s≠[]/\w=P s)){v:Pv}{b0:Nat}(hx:m.source 3 (.slice b0 0 1 (some 1))=some (1,Ro v))(hr:(F s).length<1000000) :
  ∃M2,cM m iJ 3 w (.slice b0 0 1 (some 1))=some (.slice (nb m.next 0) 0 ((F s).length+1) none,M2)/\M2.get mb=m.get mb/\M2.get sb=m.get sb/\m.next<=M2.next/\(∀c,c<m.next->o c=.other->M2.get c=m.get c)/\
   wC (fun c=>if c=m.next then .row s else o c) (M2.set mb (.map (oL (tf s (.slice (nb m.next 0) 0 ((F s).length+1) none) L)))) sb mb D N (fun t=>if t=s then F s++[v]else F t) K (tf s (.slice (nb m.next 0) 0 ((F s).length+1) none) L) (fun t=>if t=s then .slice (nb m.next 0) 0 ((F s).length+1) none else P t) ov kv/\
   Bb o m (fun c=>if c=m.next then .row s else o c) (M2.set mb (.map (oL (tf s (.slice (nb m.next 0) 0 ((F s).length+1) none) L)))):=by
 have hv:GQ o m (.row s) w (xJ (F s)) (F s).length 3:=by
  rcases hw with⟨h0,rfl⟩|⟨h0,rfl⟩
  ·rw[h0];exact .nil
  ·exact h.row s h0
 obtain⟨a1,a2,a3⟩:=hv.append (e:=iJ) hx rfl (by unfold room;omega);have J8:=h.sb;have BU:=h.mb;have fR:sb≠mb:=fun q=>by have:=J8.2;rw[q,BU.2]at this;cases this
 have HJ:m.next<(grow m w iJ 3 (xJ (F s)++Ro v)).next:=by rw[gq];unfold nb;omega
 have g1:=a2 mb BU.1 (by rw[BU.2];simp);have g2:=a2 sb J8.1 (by rw[J8.2];simp);refine⟨_,a1,g1,g2,Nat.le_of_lt HJ,fun c hc hp=>a2 c hc (by rw[hp];simp),?_⟩
 refine h.entry (l:=F s++[v]) (by rw[aj];omega) (fun c hc=>if_neg (by omega)) (Nh h.new (by rw[aj];omega)) aN (xM h.nd) (fun s'=>by rw[DR,if_neg (by simp:¬F s++[v]=[])]) (fun _=> ?_) fun c hc q1 q2=> ?_
 ·rw[Ay,w6,List.length_singleton];exact a3.cU (by rw[aj];exact cR _) (fun c hc hp=>af fun q=>by
   rw[q]at hp;by_cases e:mb=m.next
   ·have:=BU.1;omega
   ·rw[if_neg e,BU.2]at hp;cases hp) fun _ _=>rfl
 ·rw[af (fun q:c=mb=>q1 (by rw[q];exact BU.2)),a2 c hc q2]
theorem QV(N:List cH)(s:cH):yH (N++[s])=yH N++[.str s]:=by simp[yH]
theorem wC.Qp(h:wC o m sb mb D N F K L P ov kv){s:cH}{b0:Nat}(hx:m.source 1 (.slice b0 0 1 (some 1))=some (1,[.str s]))(hr:N.length<1000000) :
  ∃M2,cM m 9 1 ov (.slice b0 0 1 (some 1))=some (.slice (nb m.next 0) 0 (N.length+1) none,M2)/\M2.get sb=m.get sb/\m.next<=M2.next/\(∀c,c<m.next->o c=.other->M2.get c=m.get c)/\
   wC (fun c=>if c=m.next then .ord else o c) (M2.set sb (.cells [.map mb,.slice (nb m.next 0) 0 (N.length+1) none,kv,.int .i64 D] 4 ba false)) sb mb D (N++[s]) F K L P (.slice (nb m.next 0) 0 (N.length+1) none) kv/\
   Bb o m (fun c=>if c=m.next then .ord else o c) (M2.set sb (.cells [.map mb,.slice (nb m.next 0) 0 (N.length+1) none,kv,.int .i64 D] 4 ba false)):=by
 obtain⟨a1,a2,a3⟩:=h.ord.append (e:=9) hx rfl (by unfold room;omega);have J8:=h.sb;have HJ:m.next<(grow m ov 9 1 (yH N++[.str s])).next:=by rw[gq];unfold nb;omega
 refine⟨_,a1,a2 sb J8.1 (by rw[J8.2];simp),Nat.le_of_lt HJ,fun c hc hp=>a2 c hc (by rw[hp];simp),?_⟩
 have hk:∀c,c<m.next->o c≠.box->o c≠.ord->((grow m ov 9 1 (yH N++[.str s])).set sb (.cells [.map mb,.slice (nb m.next 0) 0 (N.length+1) none,kv,.int .i64 D] 4 ba false)).get c=m.get c:=fun c hc q1 q2=>by
  rw[af (fun q:c=sb=>q1 (by rw[q];exact J8.2)),a2 c hc q2]
 refine h.fields (by rw[aj];omega) (fun c hc=>if_neg (by omega)) (Nh h.new (by rw[aj];omega)) aN ?_ (h.JV.cU (by rw[aj];omega) (fun c hc hp=>hk c hc (by rw[hp];simp) (by rw[hp];simp)) fun c hc=>if_neg (by omega)) fun c hc q1 q2 _=>hk c hc q1 q2
 rw[QV,w6,List.length_singleton];exact a3.cU (by rw[aj];exact cR _) (fun c hc hp=>af fun q=>by
   rw[q]at hp;by_cases e:sb=m.next
   ·have:=J8.1;omega
   ·rw[if_neg e,J8.2]at hp;cases hp) fun _ _=>rfl
theorem wC.Qq(h:wC o m sb mb D N F K L P ov kv){k:Int}{b0:Nat}(hx:m.source 1 (.slice b0 0 1 (some 1))=some (1,[.int .i64 k]))(hr:K.length<1000000) :
  ∃M2,cM m 3 1 kv (.slice b0 0 1 (some 1))=some (.slice (nb m.next 0) 0 (K.length+1) none,M2)/\M2.get sb=m.get sb/\m.next<=M2.next/\(∀c,c<m.next->o c=.other->M2.get c=m.get c)/\
   wC (fun c=>if c=m.next then .JV else o c) (M2.set sb (.cells [.map mb,ov,.slice (nb m.next 0) 0 (K.length+1) none,.int .i64 D] 4 ba false)) sb mb D N F (K++[k]) L P ov (.slice (nb m.next 0) 0 (K.length+1) none)/\
   Bb o m (fun c=>if c=m.next then .JV else o c) (M2.set sb (.cells [.map mb,ov,.slice (nb m.next 0) 0 (K.length+1) none,.int .i64 D] 4 ba false)):=by
 obtain⟨a1,a2,a3⟩:=h.JV.append (e:=3) hx rfl (by unfold room;omega);have J8:=h.sb;have HJ:m.next<(grow m kv 3 1 (is K++[.int .i64 k])).next:=by rw[gq];unfold nb;omega
 refine⟨_,a1,a2 sb J8.1 (by rw[J8.2];simp),Nat.le_of_lt HJ,fun c hc hp=>a2 c hc (by rw[hp];simp),?_⟩
 have hk:∀c,c<m.next->o c≠.box->o c≠.JV->((grow m kv 3 1 (is K++[.int .i64 k])).set sb (.cells [.map mb,ov,.slice (nb m.next 0) 0 (K.length+1) none,.int .i64 D] 4 ba false)).get c=m.get c:=fun c hc q1 q2=>by
  rw[af (fun q:c=sb=>q1 (by rw[q];exact J8.2)),a2 c hc q2]
 refine h.fields (by rw[aj];omega) (fun c hc=>if_neg (by omega)) (Nh h.new (by rw[aj];omega)) aN (h.ord.cU (by rw[aj];omega) (fun c hc hp=>hk c hc (by rw[hp];simp) (by rw[hp];simp)) fun c hc=>if_neg (by omega)) ?_ fun c hc q1 _ q2=>hk c hc q1 q2
 rw[sd,w6,List.length_singleton];exact a3.cU (by rw[aj];exact cR _) (fun c hc hp=>af fun q=>by
   rw[q]at hp;by_cases e:sb=m.next
   ·have:=J8.1;omega
   ·rw[if_neg e,J8.2]at hp;cases hp) fun _ _=>rfl
end
end
end
section
section
variable {o:Nat->Part} {m m':Mem} {sb mb:Nat} {x:Mo} {L:List (cH×EV)} {P:cH->EV} {ov kv:EV}
theorem adP(h:Sc o m sb mb x L P ov kv):∀M:Mem,kA kv M=some (.val (.int .i64 (x.K.length:Int)) M):=fun M=>by
 rcases h.JV.is with⟨rfl,q2⟩|⟨b,t,rest,rfl,_⟩
 ·rw[q2];rfl
 ·rfl
theorem On(h:Sc o m sb mb x L P ov kv)(hd:1<=x.D)(hl:x.V.length<1000000){s:cH}{k:Int}(sM:x.bad s k):∃m1,run U iB [.ptr sb 0,.str s,.int .i64 k] m=some (.ret (.tuple [.int .i64 0,.bool false]) m1)/\Sc o m1 sb mb x L P ov kv/\Bb o m o m1:=by
 obtain⟨M,a,b,c,is,e,hn,hk,nX⟩:=JU h hd hl s;rw[Ql (x:=x) nX]at sM;have hM:=(h.cU hn hk).1;have NJ:=JR (sb:=sb) (mb:=mb) (ov:=ov) (kv:=kv) hd;have hg:=hM.get;have hb:=hM.sb.1;generalize hX:run U iB [.ptr sb 0,.str s,.int .i64 k] m=X;rw[cf (by simp[br])]at hX;have fin:∀m1,m.next<=m1.next->jy m m1->X=some (.ret (.tuple [.int .i64 0,.bool false]) m1)->∃m1,X=some (.ret (.tuple [.int .i64 0,.bool false]) m1)/\Sc o m1 sb mb x L P ov kv/\Bb o m o m1:=fun m1 q1 q2 q3=>⟨m1,q3,h.cU q1 q2⟩
 by_cases k1:k<1
 ·simp only[br,e,NJ,hg,hb,k1,ao,simprocAttr]at hX;exact fin _ (ji hn (by simp only[au,ak,lV];exact aq)) (fk (pj hk hn)) hX.symm
 by_cases k2:3<k
 ·simp only[br,e,NJ,hg,hb,k1,k2,ao,simprocAttr]at hX;exact fin _ (ji hn (by simp only[au,ak,lV];exact aq)) (fk (pj hk hn)) hX.symm
 obtain⟨rfl,rfl⟩:is=true/\c=x.D:=by
  rcases sM with q|q
  ·omega
  ·exact q
 simp only[br,e,NJ,hg,hb,k1,k2,ao,simprocAttr]at hX;exact fin _ (ji hn (by simp only[au,ak,lV];exact aq)) (fk (pj hk hn)) hX.symm
theorem K3(h:Sc o m sb mb x L P ov kv)(hd:1<=x.D)(hl:x.V.length<1000000)(uW:x.K.length<1000000){s:cH}{k:Int}(sM:¬x.bad s k):∃m1 o' L' P' AA AL,run U iB [.ptr sb 0,.str s,.int .i64 k] m=some (.ret (.tuple [.int .i64 (x.K.length:Int),.bool true]) m1)/\Sc o' m1 sb mb (x.add s k) L' P' AA AL/\Bb o m o' m1:=by
 obtain⟨M,a,b,c,is,e,hn,hk,nX⟩:=JU h hd hl s;rw[Ql (x:=x) nX]at sM;have hM:=(h.cU hn hk).1;have NJ:=JR (sb:=sb) (mb:=mb) (ov:=ov) (kv:=kv) hd;have hg:=hM.get;have hb:=hM.sb.1;have WI:=hM.gm;have BU:=hM.mb.1;have py:=wS (s:=s) L;have k1:¬k<1:=by omega
 have k2:¬3<k:=by omega
 have lP:=adP h;generalize hX:run U iB [.ptr sb 0,.str s,.int .i64 k] m=X;rw[cf (by simp[br])]at hX;have ahe:(pd s x.V).length<1000000:=Nat.lt_of_le_of_lt (List.length_filter_le ..) hl;rcases nX with⟨hs,rfl⟩|⟨l,v,hs,rfl,rfl,rfl,rfl⟩
 ·have hfd:find (.str s) (oL L)=none:=by rw[qJ,hM.ent,if_pos hs]
  simp only[br,e,NJ,hg,hb,WI,BU,py,hfd,lP,k1,k2,cond_true,ao,simprocAttr]at hX;generalize qD:Mem.mk (nb M.next 51) _=M1 at hX;have g1n:M1.next=M.next+51:=by rw[<- qD];rfl
  have g1k:∀c,c<M.next->M1.get c=M.get c:=by
   intro c hc;rw[<- qD];show (ext (Mem.mk _ _) _).get c=_;rw[ai (show c<nb M.next 36+12 by unfold nb;omega)];show (ext M _).get c=_;exact ai hc
  have g1b:M1.get (nb M.next 0)=.cells [.int .i64 (x.K.length:Int),.int .i64 k,.int .i64 x.D] 3 iJ false:=by
   rw[<- qD];show (ext (Mem.mk _ _) _).get _=_;rw[ai (show nb M.next 0<nb M.next 36+12 by unfold nb;omega)];show (ext M _).get _=_;rw[aw rfl (by simp)];rfl
  have g1x:M1.get (nb (nb M.next 36+12) 0)=.cells [.int .i64 (x.K.length:Int),.int .i64 k,.int .i64 x.D] 3 iJ false:=by
   rw[<- qD];show (ext (Mem.mk _ _) _).get _=_;rw[aw rfl (by simp)];rfl
  have hx:M1.source 3 (.slice (nb (nb M.next 36+12) 0) 0 1 (some 1))=some (1,Ro ⟨s,x.D,x.K.length,k⟩):=by
   show (M1.row _ 0 (1*3)).map _=_;rw[ul g1x rfl];rfl
  clear qD;obtain⟨t1,p1⟩:=hM.cU (m':=M1) (by omega) g1k;obtain⟨M2,a1,a2,a3,a4,a5,t2,p2⟩:=t1.Qo (s:=s) (w:=.aa) (.inl ⟨hs,rfl⟩) hx ahe;generalize TH:M2.set mb _=M3 at t2 p2;generalize hL1:tf s _ L=L1 at *;have c2:(fun c=>if c=M1.next then Part.row s else o c) (nb M.next 0)=.other:=by
   simp only;rw[if_neg (by unfold nb;omega)];exact hM.new _ (by unfold nb;omega)
  have n3:nb M.next 0<M3.next:=cQ (show nb M.next 0<M1.next by unfold nb;omega) p2.n;have g3b:=(p2.k (nb M.next 0) (by unfold nb;omega) (hM.new _ (by unfold nb;omega))).trans g1b;obtain⟨t3,p3⟩:=t2.cU (m':=ext M3 [.cells [.str s] 1 9 false]) (by rw[ak];exact aq) (fun c hc=>ai hc);obtain⟨M4,b1,b2,b3,b4,t4,p4⟩:=t3.Qp (s:=s) (kY rfl) (by rw[List.length_map];exact hl);have c4:(fun c=>if c=(ext M3 [bX.cells [EV.str s] 1 9 false]).next then Part.ord else(fun c=>if c=M1.next then Part.row s else o c) c) (nb M.next 0)=.other:=by
   simp only;rw[if_neg (by rw[ak];have:M3.next<=nb M3.next [bX.cells [EV.str s] 1 9 false].length:=aq;omega)];exact c2
  have g5b:=((p3.trans p4).k (nb M.next 0) n3 c2).trans g3b;have n5:=cQ n3 (p3.trans p4).n;have hn4:nb (ext M3 [bX.cells [EV.str s] 1 9 false]).next 0=nb M3.next 1:=by rw[ak];rfl
  rw[hn4,List.length_map]at b1;rw[hn4,List.length_map]at t4 p4 g5b n5;generalize Sv:M4.set sb _=M5 at t4 p4 g5b n5;obtain⟨t5,p5⟩:=t4.cU (m':=ext M5 [.cells [.int .i64 k] 1 3 false]) (by rw[ak];exact aq) (fun c hc=>ai hc);obtain⟨M6,d1,d2,d3,d4,t6,p6⟩:=t5.Qq (k:=k) (kY rfl) uW;have g7b:=((p5.trans p6).k (nb M.next 0) n5 c4).trans g5b;have Sj:¬sb=mb:=fun q=>by have:=hM.sb.2;rw[q,hM.mb.2]at this;cases this
  have hn6:nb (ext M5 [bX.cells [EV.int .i64 k] 1 3 false]).next 0=nb M5.next 1:=by rw[ak];rfl
  rw[hn6]at d1;rw[hn6]at t6 p6 g7b;generalize hM7:M6.set sb _=M7 at t6 p6 g7b;have e2:=a2.trans t1.gm;have e3:=a3.trans t1.get;have e4:=t2.get;have e5:=b2.trans (t3.get);have e6:=t4.get;have e7:=d2.trans t5.get;have ahf:(List.map Pv.name x.V).length=x.V.length:=List.length_map ..;simp only[a1,e2,e3,rK,hL1,TH,e4,py,b1,e5,Sv,e6,d1,e7,hM7,g7b,hb,n3,n5,cond_true,ao,simprocAttr]at hX;have hF:(fun t=>if t=s then pd s x.V++[⟨s,x.D,x.K.length,k⟩]else pd t x.V)=fun t=>pd t (x.add s k).V:=by
   funext t
   simp only[Mo.add];rw[vG];by_cases q:t=s
   ·subst q;simp
   ·rw[if_neg q,if_neg (fun e=>q e.symm),List.append_nil]
  have hN:List.map Pv.name x.V++[s]=List.map Pv.name (x.add s k).V:=by simp[Mo.add]
  have t7:=t6;rw[hF,hN]at t7;exact⟨M7,_,_,_,_,_,hX.symm,t7,(h.cU hn hk).2.trans (p1.trans (p2.trans (p3.trans (p4.trans (p5.trans p6)))))⟩
 ·have hfd:find (.str s) (oL L)=some (P s):=by rw[qJ,hM.ent,if_neg (by rw[hs];simp)]
  have k3:¬v.block=x.D:=fun q=>sM (.inr ⟨rfl,q⟩)
  simp only[br,e,NJ,hg,hb,WI,BU,py,hfd,lP,k1,k2,k3,cond_true,ao,simprocAttr]at hX;generalize qD:Mem.mk (nb M.next 51) _=M1 at hX;have g1n:M1.next=M.next+51:=by rw[<- qD];rfl
  have g1k:∀c,c<M.next->M1.get c=M.get c:=by
   intro c hc;rw[<- qD];show (ext (Mem.mk _ _) _).get c=_;rw[ai (show c<nb M.next 36+12 by unfold nb;omega)];show (ext M _).get c=_;exact ai hc
  have g1b:M1.get (nb M.next 0)=.cells [.int .i64 (x.K.length:Int),.int .i64 k,.int .i64 x.D] 3 iJ false:=by
   rw[<- qD];show (ext (Mem.mk _ _) _).get _=_;rw[ai (show nb M.next 0<nb M.next 36+12 by unfold nb;omega)];show (ext M _).get _=_;rw[aw rfl (by simp)];rfl
  have g1x:M1.get (nb (nb M.next 36+12) 0)=.cells [.int .i64 (x.K.length:Int),.int .i64 k,.int .i64 x.D] 3 iJ false:=by
   rw[<- qD];show (ext (Mem.mk _ _) _).get _=_;rw[aw rfl (by simp)];rfl
  have hx:M1.source 3 (.slice (nb (nb M.next 36+12) 0) 0 1 (some 1))=some (1,Ro ⟨s,x.D,x.K.length,k⟩):=by
   show (M1.row _ 0 (1*3)).map _=_;rw[ul g1x rfl];rfl
  clear qD;obtain⟨t1,p1⟩:=hM.cU (m':=M1) (by omega) g1k;obtain⟨M2,a1,a2,a3,a4,a5,t2,p2⟩:=t1.Qo (s:=s) (w:=P s) (.inr ⟨by simp only[hs];simp,rfl⟩) hx ahe;generalize TH:M2.set mb _=M3 at t2 p2;generalize hL1:tf s _ L=L1 at *;have c2:(fun c=>if c=M1.next then Part.row s else o c) (nb M.next 0)=.other:=by
   simp only;rw[if_neg (by unfold nb;omega)];exact hM.new _ (by unfold nb;omega)
  have n3:nb M.next 0<M3.next:=cQ (show nb M.next 0<M1.next by unfold nb;omega) p2.n;have g3b:=(p2.k (nb M.next 0) (by unfold nb;omega) (hM.new _ (by unfold nb;omega))).trans g1b;obtain⟨t3,p3⟩:=t2.cU (m':=ext M3 [.cells [.str s] 1 9 false]) (by rw[ak];exact aq) (fun c hc=>ai hc);obtain⟨M4,b1,b2,b3,b4,t4,p4⟩:=t3.Qp (s:=s) (kY rfl) (by rw[List.length_map];exact hl);have c4:(fun c=>if c=(ext M3 [bX.cells [EV.str s] 1 9 false]).next then Part.ord else(fun c=>if c=M1.next then Part.row s else o c) c) (nb M.next 0)=.other:=by
   simp only;rw[if_neg (by rw[ak];have:M3.next<=nb M3.next [bX.cells [EV.str s] 1 9 false].length:=aq;omega)];exact c2
  have g5b:=((p3.trans p4).k (nb M.next 0) n3 c2).trans g3b;have n5:=cQ n3 (p3.trans p4).n;have hn4:nb (ext M3 [bX.cells [EV.str s] 1 9 false]).next 0=nb M3.next 1:=by rw[ak];rfl
  rw[hn4,List.length_map]at b1;rw[hn4,List.length_map]at t4 p4 g5b n5;generalize Sv:M4.set sb _=M5 at t4 p4 g5b n5;obtain⟨t5,p5⟩:=t4.cU (m':=ext M5 [.cells [.int .i64 k] 1 3 false]) (by rw[ak];exact aq) (fun c hc=>ai hc);obtain⟨M6,d1,d2,d3,d4,t6,p6⟩:=t5.Qq (k:=k) (kY rfl) uW;have g7b:=((p5.trans p6).k (nb M.next 0) n5 c4).trans g5b;have Sj:¬sb=mb:=fun q=>by have:=hM.sb.2;rw[q,hM.mb.2]at this;cases this
  have hn6:nb (ext M5 [bX.cells [EV.int .i64 k] 1 3 false]).next 0=nb M5.next 1:=by rw[ak];rfl
  rw[hn6]at d1;rw[hn6]at t6 p6 g7b;generalize hM7:M6.set sb _=M7 at t6 p6 g7b;have e2:=a2.trans t1.gm;have e3:=a3.trans t1.get;have e4:=t2.get;have e5:=b2.trans (t3.get);have e6:=t4.get;have e7:=d2.trans t5.get;have ahf:(List.map Pv.name x.V).length=x.V.length:=List.length_map ..;simp only[a1,e2,e3,rK,hL1,TH,e4,py,b1,e5,Sv,e6,d1,e7,hM7,g7b,hb,n3,n5,cond_true,ao,simprocAttr]at hX;have hF:(fun t=>if t=s then pd s x.V++[⟨s,x.D,x.K.length,k⟩]else pd t x.V)=fun t=>pd t (x.add s k).V:=by
   funext t
   simp only[Mo.add];rw[vG];by_cases q:t=s
   ·subst q;simp
   ·rw[if_neg q,if_neg (fun e=>q e.symm),List.append_nil]
  have hN:List.map Pv.name x.V++[s]=List.map Pv.name (x.add s k).V:=by simp[Mo.add]
  have t7:=t6;rw[hF,hN]at t7;exact⟨M7,_,_,_,_,_,hX.symm,t7,(h.cU hn hk).2.trans (p1.trans (p2.trans (p3.trans (p4.trans (p5.trans p6)))))⟩
end
end
section
section
variable {o:Nat->Part} {m m':Mem} {sb mb:Nat} {D:Int} {N:List cH} {F:cH->List Pv} {K:List Int} {L:List (cH×EV)} {P:cH->EV} {ov kv:EV}
theorem wC.Qb(h:wC o m sb mb D (N) F K L P ov kv){k:Nat}(hk:N.length=k+1):∃b t rest,ov=.slice b 0 (k+1) none/\m.get b=.cells (yH N++rest) 1 t false/\b<m.next/\
  wC o (m.set sb (.cells [.map mb,.slice b 0 k none,kv,.int .i64 D] 4 ba false)) sb mb D (N.take k) F K L P (.slice b 0 k none) kv/\Bb o m o (m.set sb (.cells [.map mb,.slice b 0 k none,kv,.int .i64 D] 4 ba false)):=by
 obtain⟨b,t,e,⟨rest,hr⟩,hb,hp,hv⟩:=h.ord.cut (k:=k) (by omega) (by omega);have J8:=h.sb;rw[hk]at e;have vo:∀c,c<m.next->o c≠.box->(m.set sb (.cells [.map mb,.slice b 0 k none,kv,.int .i64 D] 4 ba false)).get c=m.get c:=fun c hc q=>af (fun e:c=sb=>q (by rw[e];exact J8.2))
 refine⟨b,t,rest,e,hr,hb,h.fields (cR _) (fun _ _=>rfl) h.new aN ?_ (h.JV.cU (cR _) (fun c hc hp=>vo c hc (by rw[hp];simp)) fun _ _=>rfl) fun c hc q _ _=>vo c hc q⟩
 have hl:(N.take k).length=k:=by rw[List.length_take];omega
 have e2:yH (N.take k)=(yH N).take (k*1):=by unfold yH;rw[List.map_take,Nat.mul_one]
 rw[hl,e2];exact hv.cU (cR _) (fun c hc hp=>vo c hc (by rw[hp];simp)) fun _ _=>rfl
theorem abv{e b n k:Nat}(h:k<=n):cW e b 0 n none none (some (.int .i64 (k:Int))) none=some (.slice b 0 k none):=by
 unfold cW;simp only[lm h,ig];by_cases q:k=0
 ·subst q;simp
 ·simp
theorem wC.abu(h:wC o m sb mb D N F K L P ov kv){s:cH}{l:List Pv}{v:Pv}(hs:F s=l++[v])(h0:l≠[]):∃b t rest,P s=.slice b 0 (l.length+1) none/\m.get b=.cells (xJ (l++[v])++rest) 3 t false/\b<m.next/\
  wC o (m.set mb (.map (oL (tf s (.slice b 0 l.length none) L)))) sb mb D N (fun t=>if t=s then l else F t) K (tf s (.slice b 0 l.length none) L) (fun t=>if t=s then .slice b 0 l.length none else P t) ov kv/\Bb o m o (m.set mb (.map (oL (tf s (.slice b 0 l.length none) L)))):=by
 have lN:=h.row s (by rw[hs];simp);rw[hs,w6,List.length_singleton]at lN;obtain⟨b,t,e,⟨rest,hr⟩,hb,hp,hv⟩:=lN.cut (k:=l.length) (by omega) (by omega);have BU:=h.mb;have vo:∀c,c<m.next->o c≠.map->(m.set mb (.map (oL (tf s (.slice b 0 l.length none) L)))).get c=m.get c:=fun c hc q=>af (fun e:c=mb=>q (by rw[e];exact BU.2))
 refine⟨b,t,rest,e,hr,hb,h.entry (l:=l) (cR _) (fun _ _=>rfl) h.new aN (xM h.nd) (fun s'=>by rw[DR,if_neg h0]) (fun _=> ?_) fun c hc q _=>vo c hc q⟩
 have e2:xJ l=(xJ (l++[v])).take (l.length*3):=by rw[Ay,<- De,List.take_left]
 rw[e2];exact hv.cU (cR _) (fun c hc hp=>vo c hc (by rw[hp];simp)) fun _ _=>rfl
theorem wC.abr(h:wC o m sb mb D N F K L P ov kv){s:cH}:wC o (m.set mb (.map (oL (zP s L)))) sb mb D N (fun t=>if t=s then[]else F t) K (zP s L) (fun t=>if t=s then .aa else P t) ov kv/\Bb o m o (m.set mb (.map (oL (zP s L)))):=by
 have BU:=h.mb;have vo:∀c,c<m.next->o c≠.map->(m.set mb (.map (oL (zP s L)))).get c=m.get c:=fun c hc q=>af (fun e:c=mb=>q (by rw[e];exact BU.2))
 exact h.entry (l:=[]) (cR _) (fun _ _=>rfl) h.new aN (Dq h.nd) (fun s'=>by rw[Kr h.nd];simp) (fun q=>absurd rfl q) fun c hc q _=>vo c hc q
end
theorem Vp(V:List Pv)(v:Pv):(fun t=>if t=v.name then pd v.name V else pd t (V++[v]))=fun t=>pd t V:=by
 funext t
 by_cases q:t=v.name
 ·rw[if_pos q,q]
 ·rw[if_neg q,vG,if_neg (fun e=>q e.symm),List.append_nil]
section
variable {o:Nat->Part} {m m':Mem} {sb mb:Nat} {x:Mo} {L:List (cH×EV)} {P:cH->EV} {ov kv:EV}
def Scs(o:Nat->Part)(m:Mem)(sb mb:Nat)(V:List Pv)(K:List Int)(D:Int):Prop:=∃L P ov kv,Sc o m sb mb ⟨V,K,D⟩ L P ov kv
theorem XU{K:List Int}{D:Int}{V:List Pv}(hV:V.length<1000000)(hD:1<=D):∀(n:Nat) (fr:Fr) (m:Mem),n<=V.length->Scs o m sb mb (V.take n) K D->(∀v∈V.drop n,D<=v.block)->fr.get 0=.ptr sb 0->fr.get 3=.int .i64 (n:Int)->fr.defers=[]->
  ∃fr' m' k,exec U (.loop aM) fr m=some (.exit 0 fr' m')/\k<=V.length/\Scs o m' sb mb (V.take k) K D/\Bb o m o m'/\(∀v∈V.drop k,D<=v.block)/\(∀v∈(V.take k).getLast?,v.block<D)/\fr'.get 0=.ptr sb 0/\fr'.defers=[]:=by
 intro n
 induction n with
 |zero=>
  intro fr m hn hS hv h0 h3 hd;have hc:¬(0:Int)<0:=by decide
  generalize hX:exec U (.loop aM) fr m=X;rw[qK]at hX;generalize exec U (.loop aM)=KK at hX;have h3':fr.get 3=.int .i64 0:=h3;simp only[aM,h0,h3',hd,hc,ao,simprocAttr]at hX;subst hX;exact⟨_,_,0,rfl,hn,hS,.refl,hv,fun v hv=>by simp at hv,by simp[h0,hd,ay]⟩
 |succ n ih=>
  intro fr m hn hS hv h0 h3 hd;obtain⟨L,P,ov,kv,h⟩:=hS;have hc:(0:Int)<((n+1:Nat):Int):=by omega
  have hnl:n<V.length:=by omega
  have e0:V.take (n+1)=V.take n++[V[n]]:=List.take_succ_eq_append_getElem hnl;have hlen:(V.take (n+1)).length=n+1:=by rw[List.length_take];omega
  generalize hv0:V[n]=v at *;have hof:pd v.name (V.take (n+1))=pd v.name (V.take n)++[v]:=by rw[e0,vG,if_pos rfl]
  have Tw:(pd v.name (V.take n)).length<1000000:=by
   have:(pd v.name (V.take n)).length<=(V.take n).length:=List.length_filter_le ..;rw[List.length_take]at this;omega
  obtain⟨k1,e1⟩:=DC h hD hof Tw;rw[<- oz]at e1;have WX:m.next<=(bump m k1).next:=aq;have aam:jy m (bump m k1):=jX;generalize bump m k1=M1 at e1 WX aam;obtain⟨t1,p1⟩:=h.cU WX aam;have hg:=h.get;have hb:=h.sb.1;obtain⟨b,t,rest,eo,ho,DO,_,_⟩:=h.Qb (k:=n) (by rw[List.length_map];exact hlen);have w1:IntKind.i64.wrap (((n+1:Nat):Int)- 1)=(n:Int):=by rw[wrap_i64 (by omega) (by omega)];omega
  have aH:n<n+1:=Nat.lt_succ_self n;have zu:(yH (List.map Pv.name (V.take (n+1)))++rest)[n]?=some (.str v.name):=by
   rw[e0,List.map_append,rB (by simp[yH];omega)];unfold yH;rw[List.getElem?_map,yy (by rw[List.length_map,List.length_take];omega),List.length_map,List.length_take];have:n- min n V.length=0:=by omega
   rw[this];rfl
  have hpv:Ro v=[.int .i64 v.slot,.int .i64 v.kind,.int .i64 v.block]:=rfl;rw[hpv]at e1;subst eo;have nF:=t1.get;have PM:=t1.sb.1;by_cases xT:v.block<D
  ·generalize hX:exec U (.loop aM) fr m=X;rw[qK]at hX;generalize exec U (.loop aM)=KK at hX;simp only[aM,h0,h3,hd,hc,hg,hb,w1,aH,ho,zu,DO,e1,nF,PM,xT,ap,Nat.zero_add,Nat.mul_one,ao,simprocAttr]at hX;subst hX;have hMx:m.next<=(bump (ext M1 [bX.cells [EV.int IntKind.i64 v.slot,EV.int IntKind.i64 v.kind,EV.int IntKind.i64 v.block] 3 iJ false]) 7).next:=by simp only[au,ak,lV];exact ji WX aq
   obtain⟨t2,p2⟩:=h.cU hMx (fk (pj aam WX));refine⟨_,_,n+1,rfl,hn,⟨L,P,_,kv,t2⟩,p2,hv,fun u hu=> ?_,by simp[h0,hd,ay]⟩
   rw[e0,List.getLast?_append]at hu;simp at hu;rw[<- hu];exact xT
  ·have ahS:b<M1.next:=cQ DO WX;have ho1:=(aam b DO).trans ho;have py:=wS (s:=v.name) L;have hfd:find (.str v.name) (oL L)=some (P v.name):=by rw[qJ,h.ent,if_neg (by rw[hof];simp)]
   have hle:n<=n+1:=Nat.le_succ n;obtain⟨b2,tt,aqO,eo2,_,_,t2,p2⟩:=t1.Qb (k:=n) (by rw[List.length_map];exact hlen);obtain rfl:b=b2:=by cases eo2;rfl
   have hN:(List.map Pv.name (V.take (n+1))).take n=List.map Pv.name (V.take n):=by rw[<- List.map_take,List.take_take,Nat.min_eq_left hle]
   have rh:(fun t=>pd t (V.take (n+1)))=fun t=>pd t (V.take n++[v]):=by rw[e0]
   have ahK:∀u∈V.drop n,D<=u.block:=fun u hu=>by
    rw[List.drop_eq_getElem_cons hnl]at hu;rcases qn.1 hu with rfl|hu
    ·rw[hv0];omega
    ·exact hv u hu
   have kI:=t2.get;have ahD:=t2.gm;have mC:=t2.sb.1;have ahn:=t1.mb.1;have finish:∀(m2:Mem) (L2:List (cH×EV)) (P2:cH->EV),wC o m2 sb mb D ((List.map Pv.name (V.take (n+1))).take n) (fun t=>if t=v.name then pd v.name (V.take n)else pd t (V.take (n+1))) K L2 P2 (.slice b 0 n none) kv->Bb o (M1.set sb (.cells [.map mb,.slice b 0 n none,kv,.int .i64 D] 4 ba false)) o m2->∀(M':Mem) (HV:Fr),m2.next<=M'.next->jy m2 M'->
     HV.get 0=.ptr sb 0->HV.get 3=.int .i64 (n:Int)->HV.defers=[]->
     ∃fr' m' k,exec U (.loop aM) HV M'=some (.exit 0 fr' m')/\k<=V.length/\Scs o m' sb mb (V.take k) K D/\Bb o m o m'/\(∀v∈V.drop k,D<=v.block)/\(∀v∈(V.take k).getLast?,v.block<D)/\fr'.get 0=.ptr sb 0/\fr'.defers=[]:=by
    intro m2 L2 P2 t3 p3 M' HV q1 q2 q0 q3 qd;obtain⟨t4,p4⟩:=t3.cU (m':=M') q1 q2;have e5:(fun t=>if t=v.name then pd v.name (V.take n)else pd t (V.take (n+1)))=fun t=>pd t (V.take n):=by rw[<- Vp (V.take n) v,<- e0]
    rw[hN,e5]at t4;obtain⟨fr',m',k,r1,r2,r3,r4,r5⟩:=ih HV _ (by omega) ⟨L2,P2,_,kv,t4⟩ ahK q0 q3 qd;exact⟨fr',m',k,r1,r2,r3,p1.trans (p2.trans (p3.trans (p4.trans r4))),r5⟩
   by_cases hz:pd v.name (V.take n)=[]
   ·obtain⟨bp,tp,rp,ep,hrp,ahR⟩:∃bb t rest,P v.name=.slice bb 0 1 none/\(M1.set sb (.cells [.map mb,.slice b 0 n none,kv,.int .i64 D] 4 ba false)).get bb=.cells rest 3 t false/\bb<M1.next:=by
     have hr:=t2.row v.name (by simp only[hof];simp);simp only[hof,hz]at hr;rcases hr.is with⟨_,q⟩|⟨b,t,rest,q1,q2,_,q3⟩
     ·cases q
     ·exact⟨b,t,_,q1,q3,q2⟩
    rw[ep]at hfd;have Wx:¬(1:Int)<1:=by decide
    obtain⟨t3,p3⟩:=t2.abr (s:=v.name);rw[hz]at finish;generalize hX:exec U (.loop aM) fr m=X;rw[qK]at hX;generalize hKK:exec U (.loop aM)=KK at hX;simp only[aM,h0,h3,hd,hc,hg,hb,w1,aH,ho,zu,DO,e1,nF,PM,xT,ahS,ho1,kI,ahD,ahn,py,hfd,Wx,hle,abv hle,Eb,ap,Nat.zero_add,Nat.mul_one,cond_true,ao,simprocAttr]at hX;subst hKK;subst hX;exact finish _ _ _ t3 p3 _ _ (by simp only[au,ak,lV];exact aq) (fk (by first|exact lF|exact fk lF)) (by simp[h0,ay]) (by simp[ay]) (by simp[hd,ay])
   ·have t2':=t2;obtain⟨bp,tp,rp,ep,hrp,ahR,t3,p3⟩:=t2.abu hof hz;have ahQ:bp<M1.next:=ahR;rw[ep]at hfd;have Wx:(1:Int)<(((pd v.name (V.take n)).length+1:Nat):Int):=by have:=List.length_pos_iff.2 hz;omega
    have w3:IntKind.i64.wrap ((((pd v.name (V.take n)).length+1:Nat):Int)- 1)=((pd v.name (V.take n)).length:Int):=by rw[wrap_i64 (by omega) (by omega)];omega
    generalize hX:exec U (.loop aM) fr m=X;rw[qK]at hX;generalize hKK:exec U (.loop aM)=KK at hX;simp only[aM,h0,h3,hd,hc,hg,hb,w1,aH,ho,zu,DO,e1,nF,PM,xT,ahS,ho1,kI,ahD,ahn,py,hfd,Wx,w3,hrp,ahQ,hle,abv hle,abv (Nat.le_succ _),rK,ap,Nat.zero_add,Nat.mul_one,cond_true,ao,simprocAttr]at hX;subst hKK;subst hX;exact finish _ _ _ t3 p3 _ _ (by simp only[au,ak,lV];exact aq) (fk (by first|exact lF|exact fk lF)) (by simp[h0,ay]) (by simp[ay]) (by simp[hd,ay])
theorem adp(h:Sc o m sb mb x L P ov kv):∀M:Mem,kA ov M=some (.val (.int .i64 (x.V.length:Int)) M):=fun M=>by
 have:=h.ord.is;rw[List.length_map]at this;rcases this with⟨rfl,q2⟩|⟨b,t,rest,rfl,_⟩
 ·rw[q2];rfl
 ·rfl
theorem GJ(h:Sc o m sb mb x L P ov kv)(hx:x.Ok)(hd:¬x.D<2)(zt:x.D<1000000)(hl:x.V.length<1000000):∃m1 L' P' AA AL,run U pL [.ptr sb 0] m=some (.ret (.bool true) m1)/\Sc o m1 sb mb x.close L' P' AA AL/\Bb o m o m1:=by
 have hdp:=XO h;have hg:=h.get;have hb:=h.sb.1;have hlen:=adp h;obtain⟨t0,p0⟩:=h.cU (m':=bump m 0) aq (fun _ _=>rfl);have hw:IntKind.i64.wrap (x.D- 1)=x.D- 1:=wrap_i64 (by omega) (by omega);generalize hX:run U pL [.ptr sb 0] m=X;rw[cf (by simp[aV])]at hX;generalize hL:exec (UT B Ev.K) (ar.loop aM)=L0 at hX;simp only[aV,hdp,hd,hg,hb,hlen,ao,simprocAttr]at hX;subst hL;generalize hY:exec _ (.loop aM) _ _=Y at hX;have hV:x.V.take x.V.length=x.V:=List.take_length;generalize hF:Fr.set _ 3 _=iq at hY;obtain⟨fr',m2,k,e1,hk,⟨L2,P2,ov2,kv2,t1⟩,p1,hdr,hla,f0,fd⟩:=XU (sb:=sb) (mb:=mb) (o:=o) (K:=x.K) (D:=x.D) hl (by omega) x.V.length iq (bump m 0) (cR _) ⟨L,P,ov,kv,by rw[hV];exact t0⟩ (by simp) (by subst hF;simp only[ay,Nat.reduceBEq]) (by subst hF;simp only[ay,Nat.reduceBEq]) (by subst hF;simp only[ay,Nat.reduceBEq]);have hY':=hY.symm.trans e1;subst hY';have kI:=t1.get;have mC:=t1.sb.1;simp only[f0,fd,kI,mC,hw,ao,simprocAttr]at hX;obtain⟨t2,p2⟩:=t1.depth (D':=x.D- 1) (m':=m2.set sb (.cells [.map mb,ov2,kv2,.int .i64 (x.D- 1)] 4 ba false)) (cR _) aN fun c hc fR=>af fR
 have rE:=KA hx.Zm k hk hdr hla;refine⟨_,L2,P2,ov2,kv2,hX.symm,?_,p0.trans (p1.trans p2)⟩
 unfold Mo.close Sc;simp only;rw[rE];exact t2
end
end
section
theorem aZ{i:Nat}(h:i<9223372036854775807):IntKind.i64.wrap ((i:Int)+1)=((i+1:Nat):Int):=by rw[wrap_i64 (by omega) (by omega)];omega
def Tok.cells(t:Tok):List EV:=[.int .i64 (t.kind:Int),.str t.text,.int .i64 (t.n:Int),.int .i64 (t.pos:Int)]
def akH(l:List Tok):List (List EV):=l.map Tok.cells
def atq:OP (List Tok)->EV
 | .ok l=>.tuple [.fz 0 4 (akH l),.agg [.int .i64 0,.int .i64 0]]
 | .bad e p=>.tuple [.aa,.agg [.int .i64 (e:Int),.int .i64 (p:Int)]]
theorem OP.map_map{α β γ:Type}(f:α->β)(g:β->γ)(x:OP α):(x.map f).map g=x.map (fun a=>g (f a)):=by cases x<;>rfl
def Tok.move(d:Nat)(t:Tok):Tok:={t with pos:=t.pos+d}
def aqz(p:Nat)(s:cH):OP (List Tok):=TZ (s.length+1) (s.drop (FM false s)) (p+FM false s)
end
section
def vc(v:Pv):List EV:=[.str v.name,.int .i64 v.block,.int .i64 v.slot,.int .i64 v.kind]
def yA(l:List Pv):List (List EV):=l.map vc
def Hx(l:List Int):List (List EV):=l.map fun k=>[.int .i64 k]
theorem pv{l:List Pv}:(yA l).length=l.length:=List.length_map ..
theorem uz{l:List Int}:(Hx l).length=l.length:=List.length_map ..
theorem GX{l:List Pv}{i:Nat}:(yA l)[i]?=(l[i]?).map vc:=by unfold yA;rw[List.getElem?_map]
theorem ue(l:List Pv):∀el∈yA l,el.length=4:=by intro el h;obtain⟨t,_,rfl⟩:=List.mem_map.1 h;rfl
theorem Al(l:List Pv):∀el∈yA l,kq el=true:=by intro el h;obtain⟨t,_,rfl⟩:=List.mem_map.1 h;rfl
theorem wT(l:List Int):∀el∈Hx l,el.length=1:=by intro el h;obtain⟨t,_,rfl⟩:=List.mem_map.1 h;rfl
theorem AN(l:List Int):∀el∈Hx l,kq el=true:=by intro el h;obtain⟨t,_,rfl⟩:=List.mem_map.1 h;rfl
theorem V9(l:List Int):(Hx l).flatten=is l:=by
 induction l with
 |nil=>rfl
 |cons a l ih=>unfold Hx is at ih⊢;rw[List.map_cons,List.flatten_cons,ih];rfl
def moV(x:Mo)(a b:Bool):EV:=.agg [row a 0 4 (yA x.V),row b 0 1 (Hx x.K),.int .i64 x.D]
section
variable {o:Nat->Part} {m m':Mem} {sb mb:Nat} {x:Mo} {L:List (cH×EV)} {P:cH->EV} {ov kv:EV}
theorem adz(m:Mem):∃m1 o sb mb L P ov kv,run U Bu [] m=some (.ret (.ptr sb 0) m1)/\Sc o m1 sb mb Mo.new L P ov kv/\m.next<=m1.next/\(∀c,c<m.next->m1.get c=m.get c/\o c=.other):=by
 generalize hX:run U Bu [] m=X;rw[cf (by simp[kO])]at hX;simp only[kO,ao,simprocAttr]at hX;have hn:(ext m [.map [],.cells [.map (nb m.next 0),.aa,.aa,.int .i64 1] 4 ba false]).next=m.next+2:=by rw[ak];rfl
 have g0:(ext m [.map [],.cells [.map (nb m.next 0),.aa,.aa,.int .i64 1] 4 ba false]).get (nb m.next 0)=.map []:=by rw[aw rfl (by simp)];rfl
 have g1:(ext m [.map [],.cells [.map (nb m.next 0),.aa,.aa,.int .i64 1] 4 ba false]).get (nb m.next 1)=.cells [.map (nb m.next 0),.aa,.aa,.int .i64 1] 4 ba false:=by rw[aw rfl (by simp)];rfl
 have e0:nb m.next 0=m.next:=rfl;have e1:nb m.next 1=m.next+1:=rfl;refine⟨_,fun c=>if c=m.next then .map else if c=m.next+1 then .box else .other,nb m.next 1,nb m.next 0,[],fun _=>.aa,.aa,.aa,hX.symm,⟨g1,g0,⟨by rw[hn,e1];omega,by rw[e1];simp⟩,⟨by rw[hn,e0];omega,by rw[e0];simp⟩,.nil,.nil,.nil,fun s=>rfl,fun s hs=>absurd rfl hs,fun c hc=> ?_⟩,by rw[hn];omega,fun c hc=>⟨ai hc,?_⟩⟩
 ·rw[hn]at hc;rw[if_neg (by omega),if_neg (by omega)]
 ·simp only;rw[if_neg (by omega),if_neg (by omega)]
end
theorem MO{m:Mem}:∃m1,run U F8 [] m=some (.ret (.agg [.aa,.aa,.int .i64 1]) m1)/\m.next<=m1.next/\jy m m1:=by
 generalize hX:run U F8 [] m=X;rw[cf (by simp[nL])]at hX;simp only[nL,ao,simprocAttr]at hX;exact⟨_,hX.symm,by rw[ak];exact aq,lF⟩
theorem SD{x:Mo}{a b:Bool}{s:cH}(hl:x.V.length<1000000){bx:Nat}{m0:Mem}(hg:m0.get bx=.cells [row a 0 4 (yA x.V),row b 0 1 (Hx x.K),.int .i64 x.D] 3 aW false){fr:Fr}(h1:fr.get 1=.str s)(h2:fr.get 2=.ptr bx 0)(h5:fr.get 5=.int .i64 (-1))(h6:fr.get 6=.int .i64 0)(hd:fr.defers=[]) :
  ∃o,exec U (.loop iN) fr m0=some o/\∃fr',o=.exit 0 fr' m0/\fr'.get 5=.int .i64 (ri s x.V 0 (-1))/\fr'.defers=[]:=by
 refine dr (σ:=Nat) (fun i fr m=>m=m0/\i<=x.V.length/\fr.get 1=.str s/\fr.get 2=.ptr bx 0/\(∃c,fr.get 5=.int .i64 c/\ri s (x.V.drop i) i c=ri s x.V 0 (-1))/\fr.get 6=.int .i64 (i:Int)/\fr.defers=[]) (fun i=>x.V.length- i) _ ?_ 0 fr m0
  ⟨rfl,nZ _,h1,h2,⟨-1,h5,by rw[List.drop_zero]⟩,h6,hd⟩
 rintro i fr m ⟨rfl,hi,h1,h2,⟨c,h5,hc⟩,h6,hd⟩;generalize hX:exec U iN fr m=X;by_cases aH:i<x.V.length
 ·have hic:(i:Int)<(x.V.length:Int):=by omega
  have hti:x.V[i]?=some x.V[i]:=jE aH;have hw:=aZ (i:=i) (by omega);rw[List.drop_eq_getElem_cons aH]at hc;generalize x.V[i]=v at *;simp only[ri]at hc;by_cases hn:v.name=s
  ·rw[if_pos hn]at hc;simp only[iN,h1,h2,h5,h6,hd,hg,hic,hti,aH,hw,hn,pv,GX,vc,ap,ao,simprocAttr]at hX;subst hX;exact bB (i+1) (by omega) ⟨rfl,by omega,by simp[h1,ay],by simp[h2,ay],⟨_,by simp[ay],hc⟩,by simp[hd,ay]⟩
  ·rw[if_neg hn]at hc;simp only[iN,h1,h2,h5,h6,hd,hg,hic,hti,aH,hw,hn,pv,GX,vc,ap,ao,simprocAttr]at hX;subst hX;exact bB (i+1) (by omega) ⟨rfl,by omega,by simp[h1,ay],by simp[h2,ay],⟨c,by simp[h5,ay],hc⟩,by simp[hd,ay]⟩
 ·have hic:¬(i:Int)<(x.V.length:Int):=by omega
  obtain rfl:i=x.V.length:=by omega
  simp only[iN,h2,h6,hd,hg,hic,pv,ao,simprocAttr]at hX;subst hX;rw[List.drop_length]at hc;exact bK ⟨_,rfl,by simp only[h5,ay,Nat.reduceBEq];rw[<- hc];rfl,by simp[hd,ay]⟩
theorem xI{x:Mo}{a b:Bool}{s:cH}(hl:x.V.length<1000000):bA B Ev.K Ni [moV x a b,.str s]=some (.int .i64 (ri s x.V 0 (-1))):=by
 rw[dY (by simp[mf])];generalize hX:YL _=X;generalize hL:exec (UT B Ev.K) (ar.loop iN)=L0 at hX;simp only[mf,moV,ao,simprocAttr]at hX;subst hL;generalize hC:exec _ (.loop iN) _ _=C at hX;obtain⟨oo,rfl,fr',rfl,f5,fd⟩:=cG hC (SD (x:=x) (a:=a) (b:=b) (s:=s) hl (bx:=nb fT.next 0) (by rw[aw rfl (by simp)];rfl) (by simp[ay]) (by simp[ay]) (by simp[ay]) (by simp[ay]) (by simp[ay]));simp only[f5,fd,ao,simprocAttr]at hX;exact hX.symm
end
section
structure Nd where
 kind:Int
 kids:List Int
 nl:Bool
 n:Int
 s:cH
 pos:Int
def lu(k:Int):Prop:=1<=k/\k<=11
def nu(k:Int):Prop:=12<=k/\k<=22
def kindOf(l:List Nd)(x:Int):Int:=((l[x.toNat]?).map Nd.kind).getD 0
def sD:List Int:=[4,11,12,13,14,17,24,25]
def xK(d:Nd):Prop:=
 ¬(((d.kind<1\/26<d.kind)\/d.pos<0)\/¬(d.kind∈sD↔d.s≠[]))/\¬(d.s≠[]/\¬xu d.s)/\
 (if d.kind=1 then 0<=d.n else if d.kind=2 then d.n=0\/d.n=1 else if d.kind=5 then 1<=d.n/\d.n<=16 else if d.kind=24\/d.kind=25 then 1<=d.n/\d.n<=3 else d.n=0)
def mQ(l:List Nd)(k:List Int)(n:Nat):Prop:=n<=k.length/\∀x∈k.take n,lu (kindOf l x)
def yo(l:List Nd)(k:List Int)(kind:Int)(vP:Nat):Prop:=(∀x∈k,kindOf l x=kind)/\k.length<=vP
def cJ(l:List Nd)(d:Nd):Prop:=
 if d.kind=5\/d.kind=8\/d.kind=14 then d.kids.length=2/\mQ l d.kids 2
 else if d.kind=6\/d.kind=7\/d.kind=9\/d.kind=10\/d.kind=12\/d.kind=13\/d.kind=20\/d.kind=21 then d.kids.length=1/\mQ l d.kids 1
 else if d.kind=11 then d.kids.length<=8/\mQ l d.kids d.kids.length
 else if d.kind=15 then(mQ l d.kids 1/\2<=d.kids.length)/\yo l (d.kids.drop 1) 23 2
 else if d.kind=16 then(mQ l d.kids 1/\d.kids.length=2)/\yo l (d.kids.drop 1) 23 1
 else if d.kind=17 then(mQ l d.kids 2/\d.kids.length=3)/\yo l (d.kids.drop 2) 23 1
 else if d.kind=22 then d.kids.length=1/\∀x∈d.kids,kindOf l x=11
 else if d.kind=23 then ∀x∈d.kids,nu (kindOf l x)
 else if d.kind=25 then(1<=d.kids.length/\yo l (d.kids.take (d.kids.length- 1)) 24 8)/\∀x∈d.kids.getLast?,kindOf l x=23
 else if d.kind=26 then yo l d.kids 25 200
 else d.kids.length=0
def pS(l:List Nd):Nat->Nat->Nat
 |0,_=>1
 |f+1,i=>match l[i]? with
  |none=>1
  |some d=>d.kids.foldl (fun h x=>max h (1+pS l f x.toNat)) 1
def eu(l:List Nd)(i:Nat):Nat:=pS l (i+1) i
def fW(l:List Nd):Prop:=∀(i:Nat) (d:Nd),l[i]?=some d->∀x∈d.kids,0<=x/\x<(i:Int)
def dJ(l:List Nd):List Int:=(l.map Nd.kids).flatten
def jW(l:List Nd):Prop:=
 (fW l/\(dJ l).Nodup/\∀d∈l,xK d/\cJ l d)/\0<l.length/\(dJ l).length=l.length- 1/\eu l (l.length- 1)<=200
end
section
structure CS where
 K:List Int
 S:List Int
 C:List Int
 F:List Int
 V:List (List Int)
 M:Int
 X:Mo
 L:Int
 R:Int
 fe:Int
 fp:Int
def dZ(l:List Nd)(i:Nat):Nd:=l.getD i ⟨0,[],true,0,[],0⟩
def ee(l:List Nd)(x:Int):Nd:=dZ l x.toNat
def CS.fault(c:CS)(e p:Int):CS:={c with fe:=e,fp:=p}
instance(x:Mo)(s:cH)(k:Int):Decidable (x.bad s k):=by
 unfold Mo.bad;have:Decidable (∃v∈(pd s x.V).getLast?,v.block=x.D):=by
  cases h:(pd s x.V).getLast? with
  |none=>exact isFalse fun⟨v,a,_⟩=>by cases a
  |some v=>exact if q:v.block=x.D then .isTrue ⟨v,rfl,q⟩else .isFalse fun⟨w,a,b⟩=>by cases a;exact q b
 infer_instance
def eK(l:List Nd)(i:Nat)(k:Int)(c:CS):CS:=if c.X.bad (dZ l i).s k then c.fault 10 (dZ l i).pos else{c with S:=c.S.set i c.X.K.length,X:=c.X.add (dZ l i).s k}
def pP(c:CS)(s:cH):Option Pv:=(pd s c.X.V).getLast?
def uI(l:List Nd)(F:List Int)(s:cH):Option Nat:=F.findIdx? fun x=>(ee l x).s=s
def kk(K:List Int)(xs:List Int):List Int:=xs.map fun x=>K.getD x.toNat 0
def yn(op a b:Int):Prop:=if op<=2 then a=2/\b=2 else if op<=4 then a=b else a=1/\b=1
instance(op a b:Int):Decidable (yn op a b):=by unfold yn;infer_instance
def EQ(d:Nd):Int:=if d.kind=2 then 2 else if d.kind=3 then 3 else if d.kind=5 then(if d.n<=8 then 2 else 1)else if d.kind=7 then 2 else if d.kind=10 then 3 else 1
def EN(d:Nd)(k:List Int):Prop:=if d.kind=5 then yn d.n (k.getD 0 0) (k.getD 1 0)else if d.kind=6 then k=[1]else if d.kind=7 then k=[2]else if d.kind=8 then k=[3,1]else if d.kind=9 then k=[3]else if d.kind=10 then k=[1]else True
instance(d:Nd)(k:List Int):Decidable (EN d k):=by unfold EN;infer_instance
def ju(l:List Nd)(i:Nat)(c:CS):CS:=
 let d:=dZ l i
 let k:=kk c.K d.kids
 if d.kind=4 then match pP c d.s with
  |none=>c.fault 9 d.pos
  |some v=>{c with S:=c.S.set i v.slot,K:=c.K.set i v.kind}
 else if d.kind=11 then match uI l c.F d.s with
  |none=>c.fault 9 d.pos
  |some f=>
   let g:=ee l (c.F.getD f 0)
   if k=g.kids.dropLast.map (fun x=>(ee l x).n)then{c with C:=c.C.set i f,K:=c.K.set i g.n}else c.fault 11 d.pos
 else if EN d k then{c with K:=c.K.set i (EQ d)}else c.fault 11 d.pos
def aO(f:Int->CS->CS)(xs:List Int)(c:CS):CS:=xs.foldl (fun c x=>if c.fe=0 then f x c else c) c
def qi(l:List Nd):Nat->Nat->CS->CS
 |0,_,c=>c
 |f+1,i,c=>
  let c1:=aO (fun x c=>qi l f x.toNat c) (dZ l i).kids c
  if c1.fe=0 then ju l i c1 else c1
def vH(d:Nd):Nat:=if d.kind=15 then d.kids.length- 1 else if d.kind=16\/d.kind=17 then 1 else 0
def cu(d:Nd):List Int:=d.kids.take (d.kids.length- vH d)
def cd(d:Nd):List Int:=d.kids.drop (d.kids.length- vH d)
def CS.ph(c:CS)(p:Prop)[Decidable p](e q:Int):CS:=if p then c else c.fault e q
def fH(l:List Nd)(i:Nat)(c:CS):CS:=
 let d:=dZ l i
 let k:=kk c.K (cu d)
 if d.kind=12 then eK l i (k.headD 0) c
 else if d.kind=13 then match pP c d.s with
  |none=>c.fault 9 d.pos
  |some v=>if k=[v.kind]then{c with S:=c.S.set i v.slot}else c.fault 11 d.pos
 else if d.kind=14 then match pP c d.s with
  |none=>c.fault 9 d.pos
  |some v=>if v.kind=3/\k=[1,1]then{c with S:=c.S.set i v.slot}else c.fault 11 d.pos
 else if d.kind=15\/d.kind=16 then c.ph (k=[2]) 11 d.pos
 else if d.kind=17 then c.ph (k=[1,1]) 11 d.pos
 else if d.kind=18\/d.kind=19 then c.ph (0<c.L) 12 d.pos
 else if d.kind=20 then c.ph (k=[c.R]) 11 d.pos
 else if d.kind=21 then c.ph (k=[1]) 11 d.pos
 else c
def nv(l:List Nd):Nat->Nat->CS->CS
 |0,_,c=>c
 |f+1,i,c=>
  let d:=dZ l i
  let go:=aO fun x c=>nv l f x.toNat c
  if d.kind=23 then
   let c1:=go d.kids {c with X:=c.X.open_}
   {c1 with X:=c1.X.close}
  else
   let c1:=aO (fun x c=>qi l f x.toNat c) (cu d) c
   if c1.fe=0 then
    let c2:=fH l i c1
    if c2.fe=0 then
     if d.kind=17 then
      let c3:=eK l i 1 {c2 with X:=c2.X.open_}
      let c4:=go (cd d) {c3 with L:=c3.L+1}
      {c4 with L:=c4.L- 1,X:=c4.X.close}
     else if d.kind=16 then
      let c4:=go (cd d) {c2 with L:=c2.L+1}
      {c4 with L:=c4.L- 1}
     else go (cd d) c2
    else c2
   else c1
def cP(l:List Nd)(c:CS)(x:Int):CS:=
 let c1:=if c.fe=0/\(uI l c.F (ee l x).s).isSome then c.fault 10 (ee l x).pos else c
 {c1 with F:=c1.F++[x]}
def oj:cH:=[109,97,105,110]
def eP(l:List Nd)(c:CS):CS:=
 let c1:=(dZ l (l.length- 1)).kids.foldl (cP l) c
 if c1.fe=0 then match uI l c1.F oj with
  |none=>c1.fault 13 0
  |some f=>
   let d:=ee l (c1.F.getD f 0)
   if d.n=1/\d.kids.length=2/\(ee l (d.kids.headD 0)).n=3 then{c1 with M:=f}else c1.fault 13 d.pos
 else c1
def nY(l:List Nd)(x:Int)(c:CS):CS:=
 let d:=ee l x
 let c1:=aO (fun x c=>eK l x.toNat (ee l x).n c) d.kids.dropLast {c with X:=Mo.new,R:=d.n}
 let b:=(d.kids.getLastD 0).toNat
 let c2:=if c1.fe=0 then nv l (b+1) b c1 else c1
 {c2 with V:=c2.V++[c2.X.K]}
def CS.zero(l:List Nd):CS:=⟨List.replicate l.length 0,List.replicate l.length (-1),List.replicate l.length (-1),[],[],-1,Mo.new,0,0,0,0⟩
def e8(l:List Nd):CS:=
 let c:=eP l (CS.zero l)
 aO (nY l) c.F c
end
section
theorem ny{f:Int->CS->CS}{x:Int}{xs:List Int}{c:CS}:aO f (x::xs) c=aO f xs (if c.fe=0 then f x c else c):=rfl
theorem jF{f:Int->CS->CS}{x:Int}{xs:List Int}{c:CS}:aO f (xs++[x]) c=if (aO f xs c).fe=0 then f x (aO f xs c)else aO f xs c:=by
 unfold aO;rw[List.foldl_append];rfl
theorem kZ{f:Int->CS->CS}:∀{xs:List Int} {c:CS},c.fe≠0->aO f xs c=c
 |[],_,_=>rfl
 |x::xs,c,h=>by rw[ny,if_neg h];exact kZ h
theorem oh{f:Int->CS->CS}{P:CS->Prop}:∀{xs:List Int} {c:CS},P c->(∀x∈xs,∀c,P c->P (f x c))->P (aO f xs c)
 |[],_,h,_=>h
 |x::xs,c,h,hs=>by
  rw[ny];refine oh ?_ fun y hy=>hs y (Ah _ hy)
  split
  ·exact hs x (by simp) c h
  ·exact h
structure gI(c c':CS):Prop where
 K:c'.K.length=c.K.length
 S:c'.S.length=c.S.length
 C:c'.C.length=c.C.length
 F:c'.F=c.F
 V:c'.V=c.V
 M:c'.M=c.M
 X:c'.X=c.X
 L:c'.L=c.L
 R:c'.R=c.R
theorem gI.refl{c:CS}:gI c c:=⟨rfl,rfl,rfl,rfl,rfl,rfl,rfl,rfl,rfl⟩
theorem gI.trans{a b c:CS}(h:gI a b)(h':gI b c):gI a c:=
 ⟨h'.K.trans h.K,h'.S.trans h.S,h'.C.trans h.C,h'.F.trans h.F,h'.V.trans h.V,h'.M.trans h.M,h'.X.trans h.X,h'.L.trans h.L,h'.R.trans h.R⟩
theorem RI{l:List Nd}{i:Nat}{c:CS}:gI c (ju l i c):=by
 unfold ju
 try simp only
 split
 ·split<;>exact⟨by simp[CS.fault],by simp[CS.fault],rfl,rfl,rfl,rfl,rfl,rfl,rfl⟩
 ·split
  ·split
   ·exact⟨rfl,rfl,rfl,rfl,rfl,rfl,rfl,rfl,rfl⟩
   ·split
    ·exact⟨by simp,rfl,by simp,rfl,rfl,rfl,rfl,rfl,rfl⟩
    ·exact⟨rfl,rfl,rfl,rfl,rfl,rfl,rfl,rfl,rfl⟩
  ·split
   ·exact⟨by simp,rfl,rfl,rfl,rfl,rfl,rfl,rfl,rfl⟩
   ·exact⟨rfl,rfl,rfl,rfl,rfl,rfl,rfl,rfl,rfl⟩
theorem PZ{l:List Nd}:∀(f i:Nat) (c:CS),gI c (qi l f i c)
 |0,i,c=>.refl
 |f+1,i,c=>by
  have h:gI c (aO (fun x c=>qi l f x.toNat c) (dZ l i).kids c):=oh (P:=gI c) .refl fun x _ c' h=>h.trans (PZ f _ _)
  rw[qi]
  try simp only
  split
  ·exact h.trans RI
  ·exact h
inductive Sub(l:List Nd):Nat->Nat->Prop
 |refl (i:Nat):Sub l i i
 |sQ {i j:Nat} {x:Int} (h:x∈(dZ l i).kids) (s:Sub l x.toNat j):Sub l i j
theorem adw{l:List Nd}{i j:Nat}{c:CS}(h:j≠i):(ju l i c).K.getD j 0=c.K.getD j 0:=by
 have e:∀k:Int,(c.K.set i k).getD j 0=c.K.getD j 0:=fun k=>by rw[List.getD_eq_getElem?_getD,List.getD_eq_getElem?_getD,List.getElem?_set_ne (Ne.symm h)]
 unfold ju
 try simp only
 split
 ·split
  ·rfl
  ·exact e _
 ·split
  ·split
   ·rfl
   ·split
    ·exact e _
    ·rfl
  ·split
   ·exact e _
   ·rfl
theorem aix{l:List Nd}:∀(f i:Nat) (c:CS) (j:Nat),¬Sub l i j->(qi l f i c).K.getD j 0=c.K.getD j 0
 |0,i,c,j,h=>rfl
 |f+1,i,c,j,h=>by
  have e:(aO (fun x c=>qi l f x.toNat c) (dZ l i).kids c).K.getD j 0=c.K.getD j 0:=
   oh (P:=fun c'=>c'.K.getD j 0=c.K.getD j 0) rfl fun x hx c' h'=>(aix f _ _ j fun q=>h (.sQ hx q)).trans h'
  have fR:j≠i:=by
   intro q;subst q;exact h (.refl _)
  rw[qi]
  try simp only
  split
  ·exact(adw fR).trans e
  ·exact e
theorem Uf{l:List Nd}{a b:Nat}(h:Sub l a b):a=b\/∃p x,Sub l a p/\x∈(dZ l p).kids/\x.toNat=b:=by
 induction h with
 |refl i=>exact .inl rfl
 |sQ hx s ih=>
  rename_i i j x
  rcases ih with ih|⟨p,y,h1,h2,h3⟩
  ·exact .inr ⟨i,x,.refl i,hx,ih⟩
  ·exact .inr ⟨p,y,.sQ hx h1,h2,h3⟩
theorem nc{l:List Nd}{i:Nat}{d:Nd}(h:l[i]?=some d):dZ l i=d:=by unfold dZ;rw[List.getD_eq_getElem?_getD,h];rfl
theorem Hj{l:List Nd}{i:Nat}{x:Int}(h:x∈(dZ l i).kids):∃d,l[i]?=some d/\dZ l i=d:=by
 cases hd:l[i]? with
 |some d=>exact⟨d,rfl,nc hd⟩
 |none=>
  unfold dZ at h;rw[List.getD_eq_getElem?_getD,hd]at h;cases h
theorem wR{l:List Nd}(hk:fW l){i:Nat}{x:Int}(h:x∈(dZ l i).kids):0<=x/\x.toNat<i/\i<l.length:=by
 obtain⟨d,hd,e⟩:=Hj h;rw[e]at h;have:=hk i d hd x h;have h2:=(mu.1 hd).1;omega
theorem sub_le{l:List Nd}(hk:fW l){a b:Nat}(h:Sub l a b):b<=a:=by
 induction h with
 |refl i=>exact cR _
 |sQ hx s ih=>have:=wR hk hx;omega
theorem Na{l:List Nd}(hu:(dJ l).Nodup){i p:Nat}{x:Int}(h1:x∈(dZ l i).kids)(h2:x∈(dZ l p).kids):i=p:=by
 obtain⟨d,hd,e⟩:=Hj h1;obtain⟨d',ET,e'⟩:=Hj h2;rw[e]at h1;rw[e']at h2;have key:∀(a b:Nat) (da db:Nd),a<b->l[a]?=some da->l[b]?=some db->x∈da.kids->x∈db.kids->False:=by
  intro a b da db PN ha hb hxa hxb;have e:l=l.take b++l.drop b:=(List.take_append_drop b l).symm;have hu':=hu;rw[e]at hu';unfold dJ at hu';rw[List.map_append,List.flatten_append,List.nodup_append]at hu';refine hu'.2.2 x ?_ x ?_ rfl
  ·refine List.mem_flatten.2 ⟨da.kids,List.mem_map.2 ⟨da,?_,rfl⟩,hxa⟩
   exact List.mem_of_getElem? (i:=a) (by rw[List.getElem?_take,if_pos PN];exact ha)
  ·refine List.mem_flatten.2 ⟨db.kids,List.mem_map.2 ⟨db,?_,rfl⟩,hxb⟩
   exact List.mem_of_getElem? (i:=0) (by rw[List.getElem?_drop,Nat.add_zero];exact hb)
 rcases Nat.lt_trichotomy i p with h|h|h
 ·exact(key i p d d' h hd ET h1 h2).elim
 ·exact h
 ·exact(key p i d' d h ET hd h2 h1).elim
theorem adx{l:List Nd}(hk:fW l)(hu:(dJ l).Nodup){i:Nat}{x y:Int}(hx:x∈(dZ l i).kids)(hy:y∈(dZ l i).kids)(fR:x≠y):¬Sub l y.toNat x.toNat:=by
 intro h;have h1:=wR hk hx;have h2:=wR hk hy;rcases Uf h with q|⟨p,z,s,hz,e⟩
 ·exact fR (by omega)
 ·have h3:=wR hk hz;obtain rfl:z=x:=by omega
  have:=Na hu hx hz;have:=sub_le hk s;omega
theorem NC{l:List Nd}(hu:(dJ l).Nodup)(i:Nat):(dZ l i).kids.Nodup:=by
 cases hd:l[i]? with
 |none=>
  unfold dZ;rw[List.getD_eq_getElem?_getD,hd];exact List.nodup_nil
 |some d=>
  rw[nc hd];have hm:d∈l:=List.mem_of_getElem? hd;obtain⟨a,b,e⟩:=List.append_of_mem hm;rw[e]at hu;unfold dJ at hu;simp only[List.map_append,List.map_cons,List.flatten_append,List.flatten_cons]at hu;exact((List.nodup_append.1 (List.nodup_append.1 hu).2.1).1)
theorem ZV{l:List Nd}(hk:fW l)(hu:(dJ l).Nodup){i j f:Nat}{y:Int}{c:CS}(hy:(dZ l i).kids[j]?=some y):kk (qi l f y.toNat c).K ((dZ l i).kids.take j)=kk c.K ((dZ l i).kids.take j):=by
 unfold kk;refine List.map_congr_left fun x hx=> ?_
 have hnd:=NC hu i;have qg:y∈(dZ l i).kids:=List.mem_of_getElem? hy;have nV:x∈(dZ l i).kids:=List.mem_of_mem_take hx;refine aix f _ _ _ (adx hk hu nV qg ?_)
 rintro rfl;obtain⟨n,hn⟩:=List.mem_iff_getElem?.1 hx;rw[List.getElem?_take]at hn
 split at hn
 ·rename_i aH
  obtain⟨q1,q2⟩:=mu.1 hn;obtain⟨q3,q4⟩:=mu.1 hy;exact absurd ((List.getElem_inj hnd).1 (q2.trans q4.symm)) (by omega)
 ·cases hn
theorem ZW{K:List Int}{a:List Int}{x:Int}:kk K (a++[x])=kk K a++[K.getD x.toNat 0]:=by unfold kk;rw[List.map_append];rfl
end
section
theorem R4{n:Int}:bA B K Hm [.int .u8 n]=some (bo (jO n)):=by
 rw[dY (by simp[jS])];simp +contextual -implicitDefEqProofs (maxSteps:=1000000) (maxDischargeDepth:=8) only[jS,jO,ao,simprocAttr]
theorem XN{n:Int}:bA B K JJ [.int .u8 n]=some (bo (mT n)):=by
 rw[dY (by simp[kS])];simp +contextual -implicitDefEqProofs (maxSteps:=1000000) (maxDischargeDepth:=8) only[kS,mT,ao,simprocAttr]
def strs(l:List cH):List (List EV):=l.map fun s=>[.str s]
theorem TL:bA B K JI []=some (.fz 0 1 (strs vu)):=Bn 10 fun call=>by kernel_rfl
theorem Ug{l:List cH}{i:Nat}:(strs l)[i]?=(l[i]?).map fun s=>[.str s]:=by unfold strs;rw[List.getElem?_map]
theorem IZ{l:List cH}:(strs l).length=l.length:=by unfold strs;rw[List.length_map]
theorem Qx{ws:List cH}{s:cH}(hw:ws.length<1000){m0:Mem}{fr:Fr}(h0:fr.get 0=.str s)(h3:fr.get 3=.fz 0 1 (strs ws))(h4:fr.get 4=.int .i64 0)(hd:fr.defers=[]) :
  ∃o,exec U (.loop j6) fr m0=some o/\((s∈ws/\∃fr',o=.ret fr' m0/\fr'.get 2=.bool true/\fr'.defers=[])\/(s∉ws/\∃fr',o=.exit 0 fr' m0/\fr'.defers=[])):=by
 refine dr (σ:=Nat) (fun i fr m=>m=m0/\i<=ws.length/\s∉ws.take i/\fr.get 0=.str s/\fr.get 3=.fz 0 1 (strs ws)/\fr.get 4=.int .i64 (i:Int)/\fr.defers=[]) (fun i=>ws.length- i) _ ?_ 0 fr m0 ⟨rfl,nZ _,by simp,h0,h3,h4,hd⟩
 rintro i fr m ⟨rfl,hi,hn,h0,h3,h4,hd⟩;generalize hX:exec U j6 fr m=X;by_cases aH:i<ws.length
 ·have hc:(i:Int)<(ws.length:Int):=by omega
  have hg:ws[i]?=some ws[i]:=jE aH;have gP:=aZ (i:=i) (by omega);simp only[j6,h0,h3,h4,hd,hc,hg,aH,gP,ap,Ug,IZ,ao,simprocAttr]at hX;subst hX;refine rY (fun he=>iD (.inl ⟨he▸oX aH,_,rfl,?_,?_⟩)) (fun he=>bB (i+1) (by omega) ⟨rfl,aH,?_,?_,?_,?_,?_⟩)
  case refine_3=>
   rw[List.take_succ_eq_append_getElem aH,Ag];rintro(q|q)
   ·exact hn q
   ·exact he (IA.1 q).symm
  all_goals simp only[h0,h3,hd,ay,Nat.reduceBEq]
 ·have hc:¬((i:Int)<(ws.length:Int)):=by omega
  simp only[j6,h0,h3,h4,hd,hc,IZ,ao,simprocAttr]at hX;subst hX;have:ws.take i=ws:=uP (by omega);rw[this]at hn;exact bK (.inr ⟨hn,_,rfl,by simp[hd,ay]⟩)
theorem YQ{s:cH}:bA B K Nq [.str s]=some (bo (s∈vu)):=by
 rw[dY (by simp[ml])];generalize hL:exec (UT B K) (ar.loop j6)=L;simp only[ml,TL,ao,simprocAttr];subst hL;generalize hX:exec _ (.loop j6) _ _=X;obtain⟨o,rfl,h⟩:=cG hX (Qx (ws:=vu) (s:=s) (by decide) (by simp[ay]) (by simp[ay]) (by simp[ay]) (by simp[ay]));rcases h with⟨h,fr',rfl,h2,hd⟩|⟨h,fr',rfl,hd⟩
 ·simp only[h,h2,hd,fu,ao,simprocAttr]
 ·simp only[h,hd,fh,ao,simprocAttr]
theorem RM{s:cH}(hs:s.length<1000000000){m0:Mem}{fr:Fr}(h0:fr.get 0=.str s)(h3:fr.get 3=.int .i64 0)(hd:fr.defers=[]) :
  ∃o,exec U (.loop j7) fr m0=some o/\((¬(∀(i:Nat) (c:UInt8),s[i]?=some c->jO (cI c)\/i≠0/\mT (cI c))/\∃fr',o=.ret fr' m0/\fr'.get 2=.bool false/\fr'.defers=[])\/
   ((∀(i:Nat) (c:UInt8),s[i]?=some c->jO (cI c)\/i≠0/\mT (cI c))/\∃fr',o=.exit 0 fr' m0/\fr'.get 0=.str s/\fr'.defers=[])):=by
 refine dr (σ:=Nat) (fun i fr m=>m=m0/\i<=s.length/\fr.get 0=.str s/\fr.get 3=.int .i64 (i:Int)/\(∀(j:Nat) (c:UInt8),j<i->s[j]?=some c->jO (cI c)\/j≠0/\mT (cI c))/\fr.defers=[]) (fun i=>s.length- i) _ ?_ 0 fr m0 ⟨rfl,nZ _,h0,h3,by omega,hd⟩
 rintro i fr m ⟨rfl,hi,h0,h3,hall,hd⟩;generalize hX:exec U j7 fr m=X;by_cases aH:i<s.length
 ·have hc:(i:Int)<(s.length:Int):=by omega
  have hg:s[i]?=some s[i]:=jE aH;have gP:=aZ (i:=i) (by omega);have hi0:((i:Int)=0)=(i=0):=by simp
  generalize s[i]=c at hg;simp +contextual -implicitDefEqProofs (maxDischargeDepth:=8) only[j7,h0,h3,hd,hc,hg,aH,gP,hi0,ap,R4,XN,ao,simprocAttr]at hX;subst hX;refine rY (fun hp=>iD (Or.inl ⟨fun q=> ?_,_,rfl,by simp[hd,ay]⟩)) (fun hp=>bB (i+1) (by omega) ⟨rfl,aH,by simp[h0,ay],by simp[ay],fun j d hj YJ=> ?_,by simp[hd,ay]⟩)
  ·rcases q i c hg with q|⟨q1,q2⟩
   ·exact hp.1 q
   ·exact hp.2.elim q1 (fun r=>r q2)
  ·by_cases Gj:j<i
   ·exact hall j d Gj YJ
   ·obtain rfl:j=i:=by omega
    rw[hg]at YJ;cases YJ;by_cases q:jO (cI c)
    ·exact .inl q
    ·exact .inr ⟨fun r=>hp ⟨q,.inl r⟩,vt fun r=>hp ⟨q,.inr r⟩⟩
 ·have hc:¬((i:Int)<(s.length:Int)):=by omega
  simp only[j7,h0,h3,hd,hc,ao,simprocAttr]at hX;subst hX;exact bK (Or.inr ⟨fun j c hj=>hall j c (by have:=(mu.1 hj).1;omega) hj,_,rfl,by simp[h0,hd,ay]⟩)
theorem ZN{s:cH}(hs:s.length<1000000000):bA B K Nr [.str s]=some (bo (xu s)):=by
 rw[dY (by simp[mq])];generalize hL:exec (UT B K) (ar.loop j7)=L;simp only[mq,ao,simprocAttr];subst hL;generalize hX:exec _ (.loop j7) _ _=X;obtain⟨o,rfl,h⟩:=cG hX (RM (s:=s) hs (by simp[ay]) (by simp[ay]) (by simp[ay]));rcases h with⟨h,fr',rfl,h2,hd⟩|⟨h,fr',rfl,h0,hd⟩
 ·have:¬xu s:=fun q=>h q.1
  simp only[this,h2,hd,fh,ao,simprocAttr]
 ·simp +contextual -implicitDefEqProofs (maxDischargeDepth:=8) only[h0,hd,YQ,ao,simprocAttr];refine congrArg some (qF ?_)
  unfold xu;constructor
  ·rintro⟨⟨q1,q2⟩,q3⟩;exact⟨h,by omega,by omega,q3⟩
  ·rintro⟨_,q1,q2,q3⟩;exact⟨⟨by omega,by omega⟩,q3⟩
end
section
def ints(l:List Int):List (List EV):=l.map fun n=>[.int .i64 n]
theorem gh{l:List Int}{i:Nat}:(ints l)[i]?=(l[i]?).map fun n=>[.int .i64 n]:=by unfold ints;rw[List.getElem?_map]
theorem aF{l:List Int}:(ints l).length=l.length:=by unfold ints;rw[List.length_map]
theorem jJ(l:List Int):∀el∈ints l,el.length=1:=by intro el h;obtain⟨t,_,rfl⟩:=List.mem_map.1 h;rfl
theorem fJ(l:List Int):∀el∈ints l,kq el=true:=by intro el h;obtain⟨t,_,rfl⟩:=List.mem_map.1 h;rfl
theorem AP(l:List Int):(ints l).flatten=l.map (.int .i64):=by
 induction l with
 |nil=>rfl
 |cons a l ih=>rw[List.map_cons,<- ih];rfl
theorem tD(l:List Int)(n:Nat):(ints l).drop n=ints (l.drop n):=by unfold ints;rw[List.map_drop]
theorem AO(l:List Int)(n:Nat):(ints l).take n=ints (l.take n):=by unfold ints;rw[List.map_take]
def Nd.cells(d:Nd):List EV:=[.int .i64 d.kind,row d.nl 0 1 (ints d.kids),.int .i64 d.n,.str d.s,.int .i64 d.pos]
def lC(l:List Nd):List (List EV):=l.map Nd.cells
theorem jG{l:List Nd}{i:Nat}:(lC l)[i]?=(l[i]?).map Nd.cells:=by unfold lC;rw[List.getElem?_map]
theorem eL{l:List Nd}:(lC l).length=l.length:=by unfold lC;rw[List.length_map]
theorem uA{n:Nat}{k:IntKind}{x:Int}(h0:0<=x)(h:x<(n:Int)):idx n (.int k x)=some x.toNat:=by
 obtain⟨i,rfl⟩:=Int.eq_ofNat_of_zero_le h0;exact ap (by omega)
theorem uo{l:List Nd}{x:Int}(h0:0<=x)(h:x<(l.length:Int)):∃d,l[x.toNat]?=some d/\kindOf l x=d.kind:=by
 have aH:x.toNat<l.length:=by omega
 refine⟨l[x.toNat],jE aH,?_⟩
 unfold kindOf;rw[jE aH];rfl
theorem Km{l:List Int}{t:Nat}{nl:Bool}{x:Int}(hl:l.length<1000000000){m0:Mem}{fr:Fr}(h0:fr.get 0=row nl t 1 (ints l))(h1:fr.get 1=.int .i64 x)(h5:fr.get 5=.int .i64 0)(hd:fr.defers=[]) :
  ∃o,exec U (.loop gH) fr m0=some o/\((x∈l/\∃fr',o=.ret fr' m0/\fr'.get 4=.bool true/\fr'.defers=[])\/(x∉l/\∃fr',o=.exit 0 fr' m0/\fr'.defers=[])):=by
 refine dr (σ:=Nat) (fun i fr m=>m=m0/\i<=l.length/\x∉l.take i/\fr.get 0=row nl t 1 (ints l)/\fr.get 1=.int .i64 x/\fr.get 5=.int .i64 (i:Int)/\fr.defers=[]) (fun i=>l.length- i) _ ?_ 0 fr m0 ⟨rfl,nZ _,by simp,h0,h1,h5,hd⟩
 rintro i fr m ⟨rfl,hi,hn,h0,h1,h5,hd⟩;generalize hX:exec U gH fr m=X;by_cases aH:i<l.length
 ·have hc:(i:Int)<(l.length:Int):=by omega
  have hg:l[i]?=some l[i]:=jE aH;have gP:=aZ (i:=i) (by omega);simp only[gH,h0,h1,h5,hd,hc,hg,aH,gP,ap,gh,aF,ao,simprocAttr]at hX;subst hX;refine rY (fun he=>iD (Or.inl ⟨he▸oX aH,_,rfl,by simp[hd,ay]⟩)) (fun he=>bB (i+1) (by omega) ⟨rfl,aH,?_,by simp[h0,h1,hd,ay]⟩)
  rw[List.take_succ_eq_append_getElem aH,Ag];rintro(q|q)
  ·exact hn q
  ·exact he (IA.1 q).symm
 ·have hc:¬((i:Int)<(l.length:Int)):=by omega
  simp only[gH,h0,h1,h5,hd,hc,aF,ao,simprocAttr]at hX;subst hX;have:l.take i=l:=uP (by omega);rw[this]at hn;exact bK (Or.inr ⟨hn,_,rfl,by simp[hd,ay]⟩)
theorem Gl{l:List Int}{t:Nat}{nl:Bool}{x:Int}(hl:l.length<1000000000):bA B K xv [row nl t 1 (ints l),.int .i64 x]=some (bo (x∈l)):=by
 rw[dY (by simp[iO])];generalize hL:exec (UT B K) (ar.loop gH)=L;simp only[iO,ao,simprocAttr];subst hL;generalize hX:exec _ (.loop gH) _ _=X;obtain⟨o,rfl,h⟩:=cG hX (Km (l:=l) (x:=x) (nl:=nl) (t:=t) hl (by simp[ay]) (by simp[ay]) (by simp[ay]) (by simp[ay]));rcases h with⟨h,fr',rfl,h2,hd⟩|⟨h,fr',rfl,hd⟩
 ·simp only[h,h2,hd,fu,ao,simprocAttr]
 ·simp only[h,hd,fh,ao,simprocAttr]
theorem adg{t e:Nat}{els:List (List EV)}:row false t e els=.fz t e els:=rfl
theorem St{l:List Int}{t:Nat}{x:Int}(hl:l.length<1000000000):bA B K xv [.fz t 1 (ints l),.int .i64 x]=some (bo (x∈l)):=by
 rw[<- adg];exact Gl hl
theorem aa7{k:Int}:bA B K Np [.int .i64 k]=some (bo (lu k)):=by
 rw[dY (by simp[mh])];simp +contextual -implicitDefEqProofs (maxSteps:=1000000) (maxDischargeDepth:=8) only[mh,lu,ao,simprocAttr]
theorem Y7{k:Int}:bA B K Nn [.int .i64 k]=some (bo (nu k)):=by
 rw[dY (by simp[mg])];simp +contextual -implicitDefEqProofs (maxSteps:=1000000) (maxDischargeDepth:=8) only[mg,nu,ao,simprocAttr]
theorem VF{k:Int}:bA B K JG [.int .i64 k]=some (bo (k∈sD)):=by
 rw[dY (by simp[kQ])];have hf:eQ (eA 8 [.int .i64 0]) [(0,1,.int .i64 4),(1,1,.int .i64 11),(2,1,.int .i64 12),(3,1,.int .i64 13),(4,1,.int .i64 14),(5,1,.int .i64 17),(6,1,.int .i64 24),(7,1,.int .i64 25)]=some (ints sD).flatten:=by kernel_rfl
 have hz:∀m:Mem,fY (ext m [.cells (ints sD).flatten 1 xo false]) (.slice (nb m.next 0) 0 8 (some 8))=some (.fz 0 1 (ints sD)):=fun m=>
  fo (els:=ints sD) (e:=1) (cap:=some 8) (ty:=xo) (ro:=false) (by rw[aw rfl (by simp)];rfl) (jJ _) (fJ _) rfl
 simp only[kQ,iE,oO,hf,hz,Nat.mul_one,St (l:=sD) (by decide),ao,simprocAttr]
theorem ado{d:Nd}(hs:d.s.length<1000000000):bA B K F9 [.agg d.cells]=some (bo (xK d)):=by
 rw[dY (by simp[nP])];have hn:=ZN hs;simp +contextual -implicitDefEqProofs (maxSteps:=1000000) (maxDischargeDepth:=8) only[nP,Nd.cells,VF,hn,ao,simprocAttr];simp only[adT,adS];refine fZ ?_
 unfold xK;grind
end
section
def oZ(l:List Nd)(k:List Int):Prop:=∀x∈k,0<=x/\x<(l.length:Int)
theorem NX{l:List Nd}{k:List Int}{n t1 t2:Nat}{nl1 nl2:Bool}(hv:oZ l k)(hk:n<=k.length)(hl:k.length<1000000000){m0:Mem}{fr:Fr}(h0:fr.get 0=row nl1 t1 5 (lC l))(h1:fr.get 1=row nl2 t2 1 (ints k))(h2:fr.get 2=.int .i64 (n:Int))(h7:fr.get 7=.int .i64 0)(hd:fr.defers=[]) :
  ∃o,exec U (.loop jf) fr m0=some o/\((¬(∀x∈k.take n,lu (kindOf l x))/\∃fr',o=.ret fr' m0/\fr'.get 6=.bool false/\fr'.defers=[])\/((∀x∈k.take n,lu (kindOf l x))/\∃fr',o=.exit 0 fr' m0/\fr'.defers=[])):=by
 refine dr (σ:=Nat) (fun i fr m=>m=m0/\i<=n/\(∀x∈k.take i,lu (kindOf l x))/\fr.get 0=row nl1 t1 5 (lC l)/\fr.get 1=row nl2 t2 1 (ints k)/\fr.get 2=.int .i64 (n:Int)/\fr.get 7=.int .i64 (i:Int)/\fr.defers=[]) (fun i=>n- i) _ ?_ 0 fr m0 ⟨rfl,nZ _,by simp,h0,h1,h2,h7,hd⟩
 rintro i fr m ⟨rfl,hi,hn,h0,h1,h2,h7,hd⟩;generalize hX:exec U jf fr m=X;by_cases aH:i<n
 ·have hc:(i:Int)<(n:Int):=by omega
  have lP:i<k.length:=by omega
  have hg:k[i]?=some k[i]:=jE lP;obtain⟨x0,x1⟩:=hv k[i] (oX lP);obtain⟨d,IF,zt⟩:=uo x0 x1;have eC:=uA (k:=.i64) x0 x1;have gP:=aZ (i:=i) (by omega);have aus:∀q:Prop,(¬q)=(¬q):=fun _=>rfl
  simp +contextual -implicitDefEqProofs (maxSteps:=1000000) (maxDischargeDepth:=8) only[jf,h0,h1,h2,h7,hd,hc,hg,lP,gP,ap,gh,aF,jG,eL,eC,IF,Nd.cells,aa7,ao,simprocAttr]at hX;subst hX;refine rY (fun he=>iD (Or.inl ⟨fun q=>he ?_,_,rfl,by simp[hd,ay]⟩)) (fun he=>bB (i+1) (by omega) ⟨rfl,aH,?_,by simp[h0,h1,h2,hd,ay]⟩)
  ·rw[<- zt];exact q _ (List.mem_take_iff_getElem.2 ⟨i,by omega,rfl⟩)
  ·intro x hx;rw[List.take_succ_eq_append_getElem lP,Ag]at hx;rcases hx with hx|hx
   ·exact hn x hx
   ·rw[IA.1 hx,zt];exact Classical.not_not.1 he
 ·have hc:¬((i:Int)<(n:Int)):=by omega
  obtain rfl:i=n:=by omega
  simp +contextual -implicitDefEqProofs (maxSteps:=1000000) (maxDischargeDepth:=8) only[jf,h0,h1,h2,h7,hd,hc,ao,simprocAttr]at hX;subst hX;exact bK (Or.inr ⟨hn,_,rfl,by simp[hd,ay]⟩)
theorem D3{l:List Nd}{k:List Int}{n t1 t2:Nat}{nl1 nl2:Bool}(hv:oZ l k)(hl:k.length<1000000000)(hn:n<1000000000):bA B K rV [row nl1 t1 5 (lC l),row nl2 t2 1 (ints k),.int .i64 (n:Int)]=some (bo (mQ l k n)):=by
 rw[dY (by simp[jP])];generalize hL:exec (UT B K) (ar.loop jf)=L;by_cases hk:n<=k.length
 ·have hc:¬((k.length:Int)<(n:Int)):=by omega
  simp +contextual -implicitDefEqProofs (maxSteps:=1000000) (maxDischargeDepth:=8) only[jP,hc,aF,ao,simprocAttr];subst hL;generalize hX:exec _ (.loop jf) _ _=X;obtain⟨o,rfl,h⟩:=cG hX (NX (l:=l) (k:=k) (n:=n) (t1:=t1) (t2:=t2) (nl1:=nl1) (nl2:=nl2) hv hk hl (by simp[ay]) (by simp[ay]) (by simp[ay]) (by simp[ay]) (by simp[ay]));rcases h with⟨h,fr',rfl,h2,hd⟩|⟨h,fr',rfl,hd⟩
  ·simp +contextual -implicitDefEqProofs (maxSteps:=1000000) (maxDischargeDepth:=8) only[h2,hd,ao,simprocAttr];exact congrArg some (mY fun q=>h q.2)
  ·simp +contextual -implicitDefEqProofs (maxSteps:=1000000) (maxDischargeDepth:=8) only[hd,ao,simprocAttr];exact congrArg some (IR ⟨hk,h⟩)
 ·have hc:(k.length:Int)<(n:Int):=by omega
  simp +contextual -implicitDefEqProofs (maxSteps:=1000000) (maxDischargeDepth:=8) only[jP,hc,aF,ao,simprocAttr];exact congrArg some (mY fun q=>hk q.1)
theorem Yc{l:List Nd}{k:List Int}{t1 t2:Nat}{nl1 nl2:Bool}{kd:Int}{v3:EV}(hv:oZ l k)(hl:k.length<1000000000){m0:Mem}{fr:Fr}(h0:fr.get 0=row nl1 t1 5 (lC l))(h1:fr.get 1=row nl2 t2 1 (ints k))(h2:fr.get 2=.int .i64 kd)(h3:fr.get 3=v3)(h9:fr.get 9=.int .i64 0)(hd:fr.defers=[]) :
  ∃o,exec U (.loop lq) fr m0=some o/\((¬(∀x∈k,kindOf l x=kd)/\∃fr',o=.ret fr' m0/\fr'.get 8=.bool false/\fr'.defers=[])\/((∀x∈k,kindOf l x=kd)/\∃fr',o=.exit 0 fr' m0/\fr'.get 1=row nl2 t2 1 (ints k)/\fr'.get 3=v3/\fr'.defers=[])):=by
 refine dr (σ:=Nat) (fun i fr m=>m=m0/\i<=k.length/\(∀x∈k.take i,kindOf l x=kd)/\fr.get 0=row nl1 t1 5 (lC l)/\fr.get 1=row nl2 t2 1 (ints k)/\fr.get 2=.int .i64 kd/\fr.get 3=v3/\fr.get 9=.int .i64 (i:Int)/\fr.defers=[]) (fun i=>k.length- i) _ ?_ 0 fr m0 ⟨rfl,nZ _,by simp,h0,h1,h2,h3,h9,hd⟩
 rintro i fr m ⟨rfl,hi,hn,h0,h1,h2,h3,h9,hd⟩;generalize hX:exec U lq fr m=X;by_cases lP:i<k.length
 ·have hc:(i:Int)<(k.length:Int):=by omega
  have hg:k[i]?=some k[i]:=jE lP;obtain⟨x0,x1⟩:=hv k[i] (oX lP);obtain⟨d,IF,zt⟩:=uo x0 x1;have eC:=uA (k:=.i64) x0 x1;have gP:=aZ (i:=i) (by omega);simp +contextual -implicitDefEqProofs (maxSteps:=1000000) (maxDischargeDepth:=8) only[lq,h0,h1,h2,h3,h9,hd,hc,hg,lP,gP,ap,gh,aF,jG,eL,eC,IF,Nd.cells,ao,simprocAttr]at hX;subst hX;refine rY (fun he=>iD (Or.inl ⟨fun q=>he ?_,_,rfl,by simp[hd,ay]⟩)) (fun he=>bB (i+1) (by omega) ⟨rfl,lP,?_,by simp[h0,h1,h2,h3,hd,ay]⟩)
  ·rw[<- zt];exact q _ (oX lP)
  ·intro x hx;rw[List.take_succ_eq_append_getElem lP,Ag]at hx;rcases hx with hx|hx
   ·exact hn x hx
   ·rw[IA.1 hx,zt];exact Classical.not_not.1 he
 ·have hc:¬((i:Int)<(k.length:Int)):=by omega
  rw[uP (by omega)]at hn;simp +contextual -implicitDefEqProofs (maxSteps:=1000000) (maxDischargeDepth:=8) only[lq,h0,h1,h2,h3,h9,hd,hc,aF,ao,simprocAttr]at hX;subst hX;exact bK (Or.inr ⟨hn,_,rfl,by simp[h1,h3,hd,ay]⟩)
theorem all_eq{l:List Nd}{k:List Int}{t1 t2:Nat}{nl1 nl2:Bool}{kd:Int}{n:Nat}(hv:oZ l k)(hl:k.length<1000000000):bA B K pg [row nl1 t1 5 (lC l),row nl2 t2 1 (ints k),.int .i64 kd,.int .i64 (n:Int)]=some (bo (yo l k kd n)):=by
 rw[dY (by simp[nQ])];generalize hL:exec (UT B K) (ar.loop lq)=L;simp +contextual -implicitDefEqProofs (maxSteps:=1000000) (maxDischargeDepth:=8) only[nQ,ao,simprocAttr];subst hL;generalize hX:exec _ (.loop lq) _ _=X;obtain⟨o,rfl,h⟩:=cG hX (Yc (l:=l) (k:=k) (t1:=t1) (t2:=t2) (nl1:=nl1) (nl2:=nl2) (kd:=kd) hv hl (by simp[ay]) (by simp[ay]) (by simp[ay]) rfl (by simp[ay]) (by simp[ay]));rcases h with⟨h,fr',rfl,h2,hd⟩|⟨h,fr',rfl,h1,h3,hd⟩
 ·simp +contextual -implicitDefEqProofs (maxSteps:=1000000) (maxDischargeDepth:=8) only[h2,hd,ao,simprocAttr];exact congrArg some (mY fun q=>h q.1)
 ·simp only[ay,Nat.reduceBEq]at h3;simp +contextual -implicitDefEqProofs (maxSteps:=1000000) (maxDischargeDepth:=8) only[h1,h3,hd,aF,ao,simprocAttr];exact fZ ⟨fun q=>⟨h,by omega⟩,fun q=>by have:=q.2;omega⟩
theorem Sa{l:List Nd}{k:List Int}{t1 t2:Nat}{nl1 nl2:Bool}(hv:oZ l k)(hl:k.length<1000000000){m0:Mem}{fr:Fr}(h0:fr.get 0=row nl1 t1 5 (lC l))(h5:fr.get 5=row nl2 t2 1 (ints k))(h6:fr.get 6=.int .i64 0)(hd:fr.defers=[]) :
  ∃o,exec U (.loop j5) fr m0=some o/\((¬(∀x∈k,nu (kindOf l x))/\∃fr',o=.ret fr' m0/\fr'.get 4=.bool false/\fr'.defers=[])\/((∀x∈k,nu (kindOf l x))/\∃fr',o=.exit 1 fr' m0/\fr'.defers=[])):=by
 refine dr (σ:=Nat) (fun i fr m=>m=m0/\i<=k.length/\(∀x∈k.take i,nu (kindOf l x))/\fr.get 0=row nl1 t1 5 (lC l)/\fr.get 5=row nl2 t2 1 (ints k)/\fr.get 6=.int .i64 (i:Int)/\fr.defers=[]) (fun i=>k.length- i) _ ?_ 0 fr m0 ⟨rfl,nZ _,by simp,h0,h5,h6,hd⟩
 rintro i fr m ⟨rfl,hi,hn,h0,h5,h6,hd⟩;generalize hX:exec U j5 fr m=X;by_cases lP:i<k.length
 ·have hc:(i:Int)<(k.length:Int):=by omega
  have hg:k[i]?=some k[i]:=jE lP;obtain⟨x0,x1⟩:=hv k[i] (oX lP);obtain⟨d,IF,zt⟩:=uo x0 x1;have eC:=uA (k:=.i64) x0 x1;have gP:=aZ (i:=i) (by omega);simp +contextual -implicitDefEqProofs (maxSteps:=1000000) (maxDischargeDepth:=8) only[j5,h0,h5,h6,hd,hc,hg,lP,gP,ap,gh,aF,jG,eL,eC,IF,Nd.cells,Y7,ao,simprocAttr]at hX;subst hX;refine rY (fun he=>iD (Or.inl ⟨fun q=>he ?_,_,rfl,by simp[hd,ay]⟩)) (fun he=>bB (i+1) (by omega) ⟨rfl,lP,?_,by simp[h0,h5,hd,ay]⟩)
  ·rw[<- zt];exact q _ (oX lP)
  ·intro x hx;rw[List.take_succ_eq_append_getElem lP,Ag]at hx;rcases hx with hx|hx
   ·exact hn x hx
   ·rw[IA.1 hx,zt];exact Classical.not_not.1 he
 ·have hc:¬((i:Int)<(k.length:Int)):=by omega
  rw[uP (by omega)]at hn;simp +contextual -implicitDefEqProofs (maxSteps:=1000000) (maxDischargeDepth:=8) only[j5,h0,h5,h6,hd,hc,aF,ao,simprocAttr]at hX;subst hX;exact bK (Or.inr ⟨hn,_,rfl,by simp[hd,ay]⟩)
theorem ZX{l:List Nd}{d:Nd}{t1:Nat}{nl1:Bool}(hv:oZ l d.kids)(hl:d.kids.length<1000000000):bA B K Dv [row nl1 t1 5 (lC l),.agg d.cells]=some (bo (cJ l d)):=by
 rw[dY (by simp[bC])];generalize hL:exec (UT B K) (ar.loop j5)=L;obtain⟨kind,kids,nl,n,s,pos⟩:=d;simp only at hv hl;have e1:∀t1 t2 nl1 nl2,bA B K rV [row nl1 t1 5 (lC l),row nl2 t2 1 (ints kids),.int .i64 1]=some (bo (mQ l kids 1)):=fun t1 t2 nl1 nl2=>D3 (n:=1) hv hl (by omega)
 have e2:∀t1 t2 nl1 nl2,bA B K rV [row nl1 t1 5 (lC l),row nl2 t2 1 (ints kids),.int .i64 2]=some (bo (mQ l kids 2)):=fun t1 t2 nl1 nl2=>D3 (n:=2) hv hl (by omega)
 have ek:∀t1 t2 nl1 nl2,bA B K rV [row nl1 t1 5 (lC l),row nl2 t2 1 (ints kids),.int .i64 (kids.length:Int)]=some (bo (mQ l kids kids.length)):=fun t1 t2 nl1 nl2=>D3 hv hl hl
 have tG:∀k:List Int,(∀x∈k,x∈kids)->k.length<=kids.length->∀(kd:Int) (n t1 t2:Nat) (nl1 nl2:Bool),bA B K pg [row nl1 t1 5 (lC l),row nl2 t2 1 (ints k),.int .i64 kd,.int .i64 (n:Int)]=some (bo (yo l k kd n)):=fun k h1 h2 kd n t1 t2 nl1 nl2=>all_eq (fun x hx=>hv x (h1 x hx)) (by omega)
 have a1:∀t1 t2 nl1 nl2,bA B K pg [row nl1 t1 5 (lC l),row nl2 t2 1 (ints (kids.drop 1)),.int .i64 23,.int .i64 1]=some (bo (yo l (kids.drop 1) 23 1)):=tG _ (fun x hx=>List.mem_of_mem_drop hx) (by rw[OZ];omega) 23 1
 have a2:∀t1 t2 nl1 nl2,bA B K pg [row nl1 t1 5 (lC l),row nl2 t2 1 (ints (kids.drop 1)),.int .i64 23,.int .i64 2]=some (bo (yo l (kids.drop 1) 23 2)):=tG _ (fun x hx=>List.mem_of_mem_drop hx) (by rw[OZ];omega) 23 2
 have a3:∀t1 t2 nl1 nl2,bA B K pg [row nl1 t1 5 (lC l),row nl2 t2 1 (ints (kids.drop 2)),.int .i64 23,.int .i64 1]=some (bo (yo l (kids.drop 2) 23 1)):=tG _ (fun x hx=>List.mem_of_mem_drop hx) (by rw[OZ];omega) 23 1
 have a4:∀t1 t2 nl1 nl2,bA B K pg [row nl1 t1 5 (lC l),row nl2 t2 1 (ints (kids.take (kids.length- 1))),.int .i64 24,.int .i64 8]=some (bo (yo l (kids.take (kids.length- 1)) 24 8)):=tG _ (fun x hx=>List.mem_of_mem_take hx) (by rw[List.length_take];omega) 24 8
 have a5:∀t1 t2 nl1 nl2,bA B K pg [row nl1 t1 5 (lC l),row nl2 t2 1 (ints kids),.int .i64 25,.int .i64 200]=some (bo (yo l kids 25 200)):=tG _ (fun x hx=>hx) (cR _) 25 200
 have c0:((kids.length:Int)=0)=(kids.length=0):=propext (by omega);have c1:((kids.length:Int)=1)=(kids.length=1):=propext (by omega);have c2:((kids.length:Int)=2)=(kids.length=2):=propext (by omega);have c3:((kids.length:Int)=3)=(kids.length=3):=propext (by omega);have c8:((kids.length:Int)<=8)=(kids.length<=8):=propext (by omega);have d1:((1:Int)<=(kids.length:Int))=(1<=kids.length):=propext (by omega);have d2:((2:Int)<=(kids.length:Int))=(2<=kids.length):=propext (by omega);by_cases k5:kind=5
 ·subst k5;simp +contextual -implicitDefEqProofs (maxSteps:=1000000) (maxDischargeDepth:=8) only[bC,Nd.cells,aF,c2,e2,ao,simprocAttr];refine fZ ?_
  simp only[cJ];grind
 by_cases k8:kind=8
 ·subst k8;simp +contextual -implicitDefEqProofs (maxSteps:=1000000) (maxDischargeDepth:=8) only[bC,Nd.cells,aF,c2,e2,ao,simprocAttr];refine fZ ?_
  simp only[cJ];grind
 by_cases k14:kind=14
 ·subst k14;simp +contextual -implicitDefEqProofs (maxSteps:=1000000) (maxDischargeDepth:=8) only[bC,Nd.cells,aF,c2,e2,ao,simprocAttr];refine fZ ?_
  simp only[cJ];grind
 by_cases k6:kind=6
 ·subst k6;simp +contextual -implicitDefEqProofs (maxSteps:=1000000) (maxDischargeDepth:=8) only[bC,Nd.cells,aF,c1,e1,ao,simprocAttr];refine fZ ?_
  simp only[cJ];grind
 by_cases k7:kind=7
 ·subst k7;simp +contextual -implicitDefEqProofs (maxSteps:=1000000) (maxDischargeDepth:=8) only[bC,Nd.cells,aF,c1,e1,ao,simprocAttr];refine fZ ?_
  simp only[cJ];grind
 by_cases k9:kind=9
 ·subst k9;simp +contextual -implicitDefEqProofs (maxSteps:=1000000) (maxDischargeDepth:=8) only[bC,Nd.cells,aF,c1,e1,ao,simprocAttr];refine fZ ?_
  simp only[cJ];grind
 by_cases k10:kind=10
 ·subst k10;simp +contextual -implicitDefEqProofs (maxSteps:=1000000) (maxDischargeDepth:=8) only[bC,Nd.cells,aF,c1,e1,ao,simprocAttr];refine fZ ?_
  simp only[cJ];grind
 by_cases YA:kind=12
 ·subst YA;simp +contextual -implicitDefEqProofs (maxSteps:=1000000) (maxDischargeDepth:=8) only[bC,Nd.cells,aF,c1,e1,ao,simprocAttr];refine fZ ?_
  simp only[cJ];grind
 by_cases k13:kind=13
 ·subst k13;simp +contextual -implicitDefEqProofs (maxSteps:=1000000) (maxDischargeDepth:=8) only[bC,Nd.cells,aF,c1,e1,ao,simprocAttr];refine fZ ?_
  simp only[cJ];grind
 by_cases k20:kind=20
 ·subst k20;simp +contextual -implicitDefEqProofs (maxSteps:=1000000) (maxDischargeDepth:=8) only[bC,Nd.cells,aF,c1,e1,ao,simprocAttr];refine fZ ?_
  simp only[cJ];grind
 by_cases k21:kind=21
 ·subst k21;simp +contextual -implicitDefEqProofs (maxSteps:=1000000) (maxDischargeDepth:=8) only[bC,Nd.cells,aF,c1,e1,ao,simprocAttr];refine fZ ?_
  simp only[cJ];grind
 by_cases k11:kind=11
 ·subst k11;simp +contextual -implicitDefEqProofs (maxSteps:=1000000) (maxDischargeDepth:=8) only[bC,Nd.cells,aF,c8,ek,ao,simprocAttr];refine fZ ?_
  simp only[cJ];grind
 by_cases k26:kind=26
 ·subst k26;simp +contextual -implicitDefEqProofs (maxSteps:=1000000) (maxDischargeDepth:=8) only[bC,Nd.cells,aF,a5,ao,simprocAttr];refine fZ ?_
  simp only[cJ];grind
 by_cases k23:kind=23
 ·subst k23;simp +contextual -implicitDefEqProofs (maxSteps:=1000000) (maxDischargeDepth:=8) only[bC,Nd.cells,aF,ao,simprocAttr];subst hL;generalize hX:exec _ (.loop j5) _ _=X;obtain⟨o,rfl,h⟩:=cG hX (Sa (l:=l) (k:=kids) (t1:=t1) (t2:=0) (nl1:=nl1) (nl2:=nl) hv hl (by simp[ay]) (by simp[ay]) (by simp[ay]) (by simp[ay]));rcases h with⟨h,fr',rfl,h2,hd⟩|⟨h,fr',rfl,hd⟩
  ·simp +contextual -implicitDefEqProofs (maxSteps:=1000000) (maxDischargeDepth:=8) only[h2,hd,ao,simprocAttr];refine congrArg some (mY fun q=>h ?_)
   simp only[cJ]at q;grind
  ·simp +contextual -implicitDefEqProofs (maxSteps:=1000000) (maxDischargeDepth:=8) only[hd,ao,simprocAttr];refine congrArg some (IR ?_)
   simp only[cJ];grind
 by_cases k22:kind=22
 ·subst k22;by_cases h1:kids.length=1
  ·obtain⟨x,rfl⟩:∃x,kids=[x]:=List.length_eq_one_iff.1 h1
   obtain⟨x0,x1⟩:=hv x (by simp);obtain⟨d,IF,zt⟩:=uo x0 x1;have eC:=uA (k:=.i64) x0 x1;have hg:([x]:List Int)[0]?=some x:=rfl;have aH:0<([x]:List Int).length:=Nat.zero_lt_one;have c1':(([x]:List Int).length:Int)=1:=rfl;simp +contextual -implicitDefEqProofs (maxSteps:=1000000) (maxDischargeDepth:=8) only[bC,Nd.cells,aF,c1',hg,aH,Wh,gh,jG,eL,eC,IF,ao,simprocAttr];refine fZ ?_
   simp only[cJ];rw[<- zt];simp
  ·simp +contextual -implicitDefEqProofs (maxSteps:=1000000) (maxDischargeDepth:=8) only[bC,Nd.cells,aF,c1,h1,ao,simprocAttr];refine congrArg some (mY fun q=>h1 ?_)
   simp only[cJ]at q;grind
 have s1:1<=kids.length->aS (some (.int .i64 1)) 0 kids.length=some 1:=fun h=>lm (i:=1) h
 have s2:2<=kids.length->aS (some (.int .i64 2)) 0 kids.length=some 2:=fun h=>lm (i:=2) h
 have sn:aS none kids.length kids.length=some kids.length:=rfl;have st:(ints kids).take kids.length=ints kids:=uP (by rw[aF];omega);have g1:(2<=kids.length)->1<=kids.length:=by omega
 have g2:(kids.length=2)->1<=kids.length:=by omega
 have g3:(kids.length=3)->2<=kids.length:=by omega
 by_cases k15:kind=15
 ·subst k15;by_cases hk:1<=kids.length
  ·have sb:=s1 hk;simp +contextual -implicitDefEqProofs (maxSteps:=1000000) (maxDischargeDepth:=8) only[bC,Nd.cells,aF,tD,d2,e1,a2,sb,sn,st,ao,simprocAttr];refine fZ ?_
   simp only[cJ];grind
  ·have fR:¬mQ l kids 1:=fun q=>hk q.1
   simp +contextual -implicitDefEqProofs (maxSteps:=1000000) (maxDischargeDepth:=8) only[bC,Nd.cells,aF,d2,e1,a2,fR,ao,simprocAttr];refine congrArg some (mY fun q=> ?_)
   simp only[cJ]at q;grind
 by_cases k16:kind=16
 ·subst k16;by_cases hk:kids.length=2
  ·have sb:aS (some (.int .i64 1)) 0 2=some 1:=rfl;have sn:aS none 2 2=some 2:=rfl;have st:(ints kids).take 2=ints kids:=uP (by rw[aF];omega);simp +contextual -implicitDefEqProofs (maxSteps:=1000000) (maxDischargeDepth:=8) only[bC,Nd.cells,aF,tD,hk,e1,a1,sb,sn,st,c2,ao,simprocAttr];refine fZ ?_
   simp only[cJ];grind
  ·simp +contextual -implicitDefEqProofs (maxSteps:=1000000) (maxDischargeDepth:=8) only[bC,Nd.cells,aF,e1,c2,hk,ao,simprocAttr];refine congrArg some (mY fun q=> ?_)
   simp only[cJ]at q;grind
 by_cases k17:kind=17
 ·subst k17;by_cases hk:kids.length=3
  ·have sb:aS (some (.int .i64 2)) 0 3=some 2:=rfl;have sn:aS none 3 3=some 3:=rfl;have st:(ints kids).take 3=ints kids:=uP (by rw[aF];omega);simp +contextual -implicitDefEqProofs (maxSteps:=1000000) (maxDischargeDepth:=8) only[bC,Nd.cells,aF,tD,hk,e2,a3,sb,sn,st,c3,ao,simprocAttr];refine fZ ?_
   simp only[cJ];grind
  ·simp +contextual -implicitDefEqProofs (maxSteps:=1000000) (maxDischargeDepth:=8) only[bC,Nd.cells,aF,e2,c3,hk,ao,simprocAttr];refine congrArg some (mY fun q=> ?_)
   simp only[cJ]at q;grind
 by_cases k25:kind=25
 ·subst k25;by_cases hk:1<=kids.length
  ·have aH:kids.length- 1<kids.length:=by omega
   have hg:kids[kids.length- 1]?=some kids[kids.length- 1]:=jE aH;obtain⟨x0,x1⟩:=hv kids[kids.length- 1] (oX aH);obtain⟨d,IF,zt⟩:=uo x0 x1;have eC:=uA (k:=.i64) x0 x1;have hw:IntKind.i64.wrap ((kids.length:Int)- 1)=((kids.length- 1:Nat):Int):=by rw[wrap_i64 (by omega) (by omega)];omega
   have sb:aS (some (.int .i64 ((kids.length- 1:Nat):Int))) kids.length kids.length=some (kids.length- 1):=lm (by omega);have s0:∀n,aS none 0 n=some 0:=fun _=>rfl
   have DL:(1:Int)<=(kids.length:Int):=by omega
   simp +contextual -implicitDefEqProofs (maxSteps:=1000000) (maxDischargeDepth:=8) only[bC,Nd.cells,aF,AO,DL,hw,hg,aH,sb,s0,a4,ap,gh,jG,eL,eC,IF,List.drop_zero,ao,simprocAttr];refine fZ ?_
   simp only[cJ];rw[<- zt,List.getLast?_eq_getElem?,hg];simp[hk]
  ·have DL:¬(1:Int)<=(kids.length:Int):=by omega
   simp +contextual -implicitDefEqProofs (maxSteps:=1000000) (maxDischargeDepth:=8) only[bC,Nd.cells,aF,DL,ao,simprocAttr];refine congrArg some (mY fun q=> ?_)
   simp only[cJ]at q;grind
 simp +contextual -implicitDefEqProofs (maxSteps:=1000000) (maxDischargeDepth:=8) only[bC,Nd.cells,aF,c0,k5,k8,k14,k6,k7,k9,k10,YA,k13,k20,k21,k11,k26,k23,k22,k15,k16,k17,k25,ao,simprocAttr];refine fZ ?_
 simp only[cJ];grind
end
section
theorem NN{l:List Nd}(hk:fW l):∀(f i:Nat),i<f->pS l f i=eu l i:=by
 have key:∀(i f g:Nat),i<f->i<g->pS l f i=pS l g i:=by
  intro i
  induction i using Nat.strongRecOn with
  |_ i ih=>
   intro f g hf hg;obtain⟨f,rfl⟩:∃f',f=f'+1:=⟨f- 1,by omega⟩
   obtain⟨g,rfl⟩:∃g',g=g'+1:=⟨g- 1,by omega⟩
   simp only[pS];cases hd:l[i]? with
   |none=>rfl
   |some d=>
    simp only;have hx:=hk i d hd;generalize d.kids=ks at hx;have:∀(ks:List Int) (a:Nat),(∀x∈ks,0<=x/\x<(i:Int))->ks.foldl (fun h x=>max h (1+pS l f x.toNat)) a=ks.foldl (fun h x=>max h (1+pS l g x.toNat)) a:=by
     intro ks
     induction ks with
     |nil=>intro a _;rfl
     |cons x ks Wf=>
      intro a h;have:=h x (by simp);rw[List.foldl_cons,List.foldl_cons,ih x.toNat (by omega) f g (by omega) (by omega)];exact Wf _ fun y hy=>h y (by simp[hy])
    exact this ks 1 hx
 intro f i h;exact key i f (i+1) h (by omega)
theorem zo{l:List Nd}(hk:fW l){i:Nat}{d:Nd}(hd:l[i]?=some d):eu l i=d.kids.foldl (fun h x=>max h (1+eu l x.toNat)) 1:=by
 unfold eu;rw[pS];simp only[hd];have hx:=hk i d hd;generalize d.kids=ks at hx;have:∀(ks:List Int) (a:Nat),(∀x∈ks,0<=x/\x<(i:Int))->ks.foldl (fun h x=>max h (1+pS l i x.toNat)) a=ks.foldl (fun h x=>max h (1+pS l (x.toNat+1) x.toNat)) a:=by
  intro ks
  induction ks with
  |nil=>intro a _;rfl
  |cons x ks Wf=>
   intro a h;have:=h x (by simp);rw[List.foldl_cons,List.foldl_cons,NN hk i x.toNat (by omega)];exact Wf _ fun y hy=>h y (by simp[hy])
 exact this ks 1 hx
theorem DM{l:List Nd}(hk:fW l):∀i,eu l i<=i+1:=by
 intro i
 induction i using Nat.strongRecOn with
 |_ i ih=>
  cases hd:l[i]? with
  |none=>unfold eu pS;rw[hd];simp
  |some d=>
   rw[zo hk hd];have hx:=hk i d hd;generalize d.kids=ks at hx;have:∀(ks:List Int) (a:Nat),a<=i+1->(∀x∈ks,0<=x/\x<(i:Int))->ks.foldl (fun h x=>max h (1+eu l x.toNat)) a<=i+1:=by
    intro ks
    induction ks with
    |nil=>intro a h _;exact h
    |cons x ks Wf=>
     intro a ha h;have h1:=h x (by simp);have h2:=ih x.toNat (by omega);rw[List.foldl_cons];exact Wf _ (by omega) fun y hy=>h y (by simp[hy])
   exact this ks 1 (by omega) hx
theorem Ki{l:List Nd}{t:Nat}{nl:Bool}{i:Nat}{d:Nd}(hk:fW l)(hl:l.length<1000000)(hd0:l[i]?=some d)(uW:d.kids.length<1000000000)(ih:∀j:Nat,j<i->bA B K yZ [row nl 1 5 (lC l),.int .i64 (j:Int)]=some (.int .i64 (eu l j:Int))){m0:Mem}{fr:Fr}(h0:fr.get 0=row nl t 5 (lC l))(h1:fr.get 1=.int .i64 (i:Int))(h5:fr.get 5=.int .i64 1)(h6:fr.get 6=.int .i64 0)(hd:fr.defers=[]) :
  ∃o,exec U (.loop ik) fr m0=some o/\∃fr',o=.exit 0 fr' m0/\fr'.get 5=.int .i64 (eu l i:Int)/\fr'.defers=[]:=by
 have sR:=hk i d hd0;have kh:i<l.length:=(mu.1 hd0).1;have Z8:∀(ks:List Int) (a:Nat),(∀x∈ks,0<=x/\x<(i:Int))->a<=i+1->ks.foldl (fun h x=>max h (1+eu l x.toNat)) a<=i+1:=by
  intro ks
  induction ks with
  |nil=>intro a _ h;exact h
  |cons x ks Wf=>
   intro a h ha;have h1:=h x (by simp);have h2:=DM hk x.toNat;rw[List.foldl_cons];exact Wf _ (fun y hy=>h y (by simp[hy])) (by omega)
 refine dr (σ:=Nat) (fun j fr m=>m=m0/\j<=d.kids.length/\fr.get 0=row nl t 5 (lC l)/\fr.get 1=.int .i64 (i:Int)/\fr.get 5=.int .i64 (((d.kids.take j).foldl (fun h x=>max h (1+eu l x.toNat)) 1:Nat):Int)/\fr.get 6=.int .i64 (j:Int)/\fr.defers=[]) (fun j=>d.kids.length- j) _ ?_ 0 fr m0 ⟨rfl,nZ _,h0,h1,by simpa using h5,h6,hd⟩
 rintro j fr m ⟨rfl,hj,h0,h1,h5,h6,hd⟩;generalize hX:exec U ik fr m=X;by_cases aH:j<d.kids.length
 ·have hc:(j:Int)<(d.kids.length:Int):=by omega
  have hg:d.kids[j]?=some d.kids[j]:=jE aH;obtain⟨x0,x1⟩:=sR d.kids[j] (oX aH);have hih:=ih d.kids[j].toNat (by omega);have rE:(d.kids.take (j+1)).foldl (fun h x=>max h (1+eu l x.toNat)) 1=max ((d.kids.take j).foldl (fun h x=>max h (1+eu l x.toNat)) 1) (1+eu l d.kids[j].toNat):=by
   rw[List.take_succ_eq_append_getElem aH,List.foldl_append];rfl
  have hle:=Z8 (d.kids.take j) 1 (fun x hx=>sR x (List.mem_of_mem_take hx)) (by omega);have NK:=DM hk d.kids[j].toNat;have DH:((d.kids[j].toNat:Nat):Int)=d.kids[j]:=Int.toNat_of_nonneg x0;rw[DH]at hih;generalize d.kids[j]=x at *;generalize hA:(d.kids.take j).foldl (fun h x=>max h (1+eu l x.toNat)) 1=A at *;have gP:=aZ (i:=j) (by omega);have YE:IntKind.i64.wrap (1+(eu l x.toNat:Int))=((1+eu l x.toNat:Nat):Int):=by rw[wrap_i64 (by omega) (by omega)];omega
  have yx:sl [.int .i64 (A:Int),.int .i64 ((1+eu l x.toNat:Nat):Int)]=some (.int .i64 ((max A (1+eu l x.toNat):Nat):Int)):=by
   simp only[sl,ng,Nat.beq_refl,cond_true]
   congr 2
   split<;>omega
  simp only[ik,h0,h1,h5,h6,hd,hd0,kh,hc,hg,aH,gP,YE,yx,ap,gh,aF,jG,eL,Nd.cells,hih,ao,simprocAttr]at hX;subst hX;exact bB (j+1) (by omega) ⟨rfl,aH,by simp[h0,ay],by simp[h1,ay],by simp only[rE,ay,Nat.reduceBEq],by simp[hd,ay]⟩
 ·have hc:¬((j:Int)<(d.kids.length:Int)):=by omega
  rw[uP (by omega),<- zo hk hd0]at h5;simp only[ik,h0,h1,h5,h6,hd,hd0,kh,hc,ap,aF,jG,eL,Nd.cells,ao,simprocAttr]at hX;subst hX;exact bK ⟨_,rfl,by simp[h5,hd,ay]⟩
theorem Sp{l:List Nd}{nl:Bool}(hk:fW l)(hl:l.length<1000000)(uW:∀d∈l,d.kids.length<1000000000):∀i:Nat,i<l.length->∀t,bA B K yZ [row nl t 5 (lC l),.int .i64 (i:Int)]=some (.int .i64 (eu l i:Int)):=by
 intro i
 induction i using Nat.strongRecOn with
 |_ i ih=>
  intro kh t;have hd0:l[i]?=some l[i]:=jE kh;rw[dY (by simp[jR])];generalize hL:exec (UT B K) (ar.loop ik)=L;simp only[jR,ao,simprocAttr];subst hL;generalize hX:exec _ (.loop ik) _ _=X;obtain⟨o,rfl,fr',rfl,h5,hd⟩:=cG hX (Ki (l:=l) (t:=t) (nl:=nl) (i:=i) hk hl hd0 (uW _ (oX kh)) (fun j hj=>ih j hj (by omega) 1) (by simp[ay]) (by simp[ay]) (by simp[ay]) (by simp[ay]) (by simp[ay]));simp only[h5,hd,ao,simprocAttr]
end
section
theorem rc{α:Type}[DecidableEq α]:∀{a b:List α},a.Nodup->(∀x∈a,x∈b)->a.length<=b.length
 |[],b,_,_=>nZ _
 |x::a,b,h,hs=>by
  rw[List.nodup_cons]at h;have h1:=rc (b:=b.erase x) h.2 fun y hy=>by
   have fR:y≠x:=by rintro rfl;exact h.1 hy
   exact(List.mem_erase_of_ne fR).2 (hs y (by simp[hy]))
  have h2:=List.length_erase_of_mem (hs x (by simp));have h3:=List.length_pos_of_mem (hs x (by simp));rw[List.length_cons];omega
def upto(n:Nat):List Int:=(List.range n).map fun(j:Nat)=>(j:Int)
theorem CO{n:Nat}:(upto n).length=n:=by simp[upto]
theorem qR{n:Nat}{x:Int}:x∈upto n↔0<=x/\x<(n:Int):=by
 unfold upto;rw[List.mem_map];constructor
 ·rintro⟨j,hj,rfl⟩;have:=List.mem_range.1 hj;omega
 ·rintro⟨h1,h2⟩;exact⟨x.toNat,List.mem_range.2 (by omega),by omega⟩
theorem LQ{n:Nat}:(upto n).Nodup:=by
 unfold upto
 induction n with
 |zero=>simp
 |succ n ih=>
  rw[List.range_succ,List.map_append,List.nodup_append];refine⟨ih,by simp,fun a ha b hb=> ?_⟩
  rw[List.mem_map]at ha;obtain⟨j,hj,rfl⟩:=ha;have:=List.mem_range.1 hj;simp at hb;omega
theorem sZ{l:List Nd}{x:Int}:x∈dJ l↔∃(i:Nat) (d:Nd),l[i]?=some d/\x∈d.kids:=by
 unfold dJ;rw[List.mem_flatten];constructor
 ·rintro⟨k,hk,hx⟩;obtain⟨d,hd,rfl⟩:=List.mem_map.1 hk;obtain⟨i,hi⟩:=List.mem_iff_getElem?.1 hd;exact⟨i,d,hi,hx⟩
 ·rintro⟨i,d,hi,hx⟩;exact⟨d.kids,List.mem_map.2 ⟨d,List.mem_iff_getElem?.2 ⟨i,hi⟩,rfl⟩,hx⟩
theorem ze{i:Nat}{ks:List Int}(h:∀x∈ks,0<=x/\x<(i:Int))(hn:ks.Nodup):ks.length<=i:=by
 have:=rc (b:=upto i) hn fun x hx=>qR.2 (h x hx)
 rwa [CO]at this
theorem TN{l:List Nd}{i:Nat}(h:∀(j:Nat) (d:Nd),j<i->l[j]?=some d->∀x∈d.kids,0<=x/\x<(j:Int)):∀x∈dJ (l.take i),0<=x/\x<(i:Int):=by
 intro x hx;obtain⟨j,d,hj,hxd⟩:=sZ.1 hx;rw[List.getElem?_take]at hj
 split at hj
 ·have:=h j d ‹_› hj x hxd;omega
 ·cases hj
end
section
theorem Se(l:List Int)(x:Int):(ints (l++[x])).flatten=(ints l).flatten++[.int .i64 x]:=by rw[AP,AP];simp
theorem UL{l:List Nd}{t:Nat}{nl:Bool}{i lo:Nat}{d:Nd}{u:List Int}(hd0:l[i]?=some d)(uW:d.kids.length<=9223372036854775807)(kg:i<100000)(hu0:∀x∈u,0<=x/\x<(i:Int))(hu:u.Nodup){m0:Mem}{fr:Fr}{v:EV}(h0:fr.get 0=row nl t 5 (lC l))(h3:fr.get 3=v)(tH:eI m0 v (ints u).flatten u.length 1 lo)(im:lo<=m0.next)(h4:fr.get 4=.int .i64 (i:Int))(h5:fr.get 5=.int .i64 0)(hd:fr.defers=[]) :
  ∃o,exec U (.loop jh) fr m0=some o/\((((∀x∈d.kids,0<=x/\x<(i:Int))/\(u++d.kids).Nodup)/\∃fr' m' v',o=.exit 2 fr' m'/\fr'.get 0=row nl t 5 (lC l)/\fr'.get 3=v'/\eI m' v' (ints (u++d.kids)).flatten (u++d.kids).length 1 lo/\lo<=m'.next/\fr'.get 4=.int .i64 (i:Int)/\fr'.defers=[])\/
   (¬((∀x∈d.kids,0<=x/\x<(i:Int))/\(u++d.kids).Nodup)/\∃fr' m',o=.ret fr' m'/\fr'.get 2=.bool false/\fr'.defers=[])):=by
 have kh:i<l.length:=(mu.1 hd0).1;refine dr (σ:=Nat) (fun j fr m=>j<=d.kids.length/\fr.get 0=row nl t 5 (lC l)/\(∃v,fr.get 3=v/\eI m v (ints (u++d.kids.take j)).flatten (u++d.kids.take j).length 1 lo)/\lo<=m.next/\(∀x∈d.kids.take j,0<=x/\x<(i:Int))/\(u++d.kids.take j).Nodup/\fr.get 4=.int .i64 (i:Int)/\fr.get 5=.int .i64 (j:Int)/\fr.defers=[]) (fun j=>d.kids.length- j) _ ?_ 0 fr m0
  ⟨nZ _,h0,⟨v,h3,by simpa using tH⟩,im,by simp,by simpa using hu,h4,h5,hd⟩
 rintro j fr m ⟨hj,h0,⟨v,h3,tH⟩,im,hall,hnd,h4,h5,hd⟩;generalize hX:exec U jh fr m=X;by_cases aH:j<d.kids.length
 ·have hc:(j:Int)<(d.kids.length:Int):=by omega
  have hg:d.kids[j]?=some d.kids[j]:=jE aH;have IE:d.kids.take (j+1)=d.kids.take j++[d.kids[j]]:=List.take_succ_eq_append_getElem aH;have zi:=oX aH;have gP:=aZ (i:=j) (by omega);have atT:(u++d.kids.take j).length<600000000:=by
   have:=ze (i:=i) (fun x hx=>(Ag.1 hx).elim (hu0 x) (hall x)) hnd;omega
  obtain⟨nl2,hfz⟩:=tH.nJ (by rw[aF]) (jJ _) (fJ _);generalize hx:d.kids[j]=x at *;have Sn:=fun t2 nl2=>Gl (l:=u++d.kids.take j) (t:=t2) (nl:=nl2) (x:=x) (by omega)
  have hM:(ext m [.cells [EV.int .i64 x] 1 xo false]).get (nb m.next 0)=.cells [EV.int .i64 x] 1 xo false:=by rw[aw rfl (by simp)];rfl
  obtain⟨ha,Wr⟩:=iM (e:=xo) (tH.ext [.cells [EV.int .i64 x] 1 xo false]) (by rw[ak];unfold nb;omega) (lB (cap:=some 1) hM rfl) rfl (by decide) (by unfold room;omega);rw[ak,lV]at ha;generalize hG:grow _ v xo 1 _=M2 at ha Wr;have we:lo<=M2.next:=by rw[<- hG,gq,ak];unfold nb;omega
  simp +contextual -implicitDefEqProofs (maxDischargeDepth:=8) only[jh,h0,h3,h4,h5,hd,hd0,kh,hc,hg,aH,gP,ap,gh,aF,jG,eL,Nd.cells,hfz,Sn,ha,ao,simprocAttr]at hX;subst hX;refine rY (fun hp=>iD (Or.inr ⟨fun q=> ?_,_,_,rfl,by simp[hd,ay]⟩)) (fun hp=>bB (j+1) (by omega) ⟨aH,by simp[h0,ay],⟨_,by simp only[ay,Nat.reduceBEq];rfl,?_⟩,we,?_,?_,by simp[h4,hd,ay]⟩)
  ·have q1:=q.1 x zi;rcases hp with(hp|hp)|hp
   ·omega
   ·omega
   ·have q2:(u++d.kids.take j++[x]).Nodup:=by
     rw[List.append_assoc,<- IE];exact List.Nodup.sublist (List.Sublist.append (List.Sublist.refl u) (List.take_sublist _ _)) q.2
    rw[List.nodup_append]at q2;exact q2.2.2 x hp x (by simp) rfl
  ·rw[IE,<- List.append_assoc,Se];simp only[w6,List.length_cons,List.length_nil,ak,lV,Nat.zero_add,Nat.add_zero]at Wr⊢;exact Wr
  ·intro y hy;rw[IE,Ag]at hy;rcases hy with hy|hy
   ·exact hall y hy
   ·rw[IA.1 hy];omega
  ·rw[IE,<- List.append_assoc,List.nodup_append];refine⟨hnd,by simp,fun a ha2 b hb=> ?_⟩
   rw[IA.1 hb];rintro rfl;exact hp (.inr ha2)
 ·have hc:¬((j:Int)<(d.kids.length:Int)):=by omega
  have IE:d.kids.take j=d.kids:=uP (by omega);rw[IE]at hall hnd tH;simp only[jh,h0,h3,h4,h5,hd,hd0,kh,hc,ap,aF,jG,eL,Nd.cells,ao,simprocAttr]at hX;subst hX;exact bK (Or.inl ⟨⟨hall,hnd⟩,_,_,v,rfl,by simp[h0,ay],by simp[h3,ay],tH,im,by simp[h4,hd,ay]⟩)
def yN(l:List Nd)(i:Nat):Prop:=(∀(j:Nat) (d:Nd),j<i->l[j]?=some d->(∀x∈d.kids,0<=x/\x<(j:Int))/\xK d/\cJ l d)/\(dJ (l.take i)).Nodup
theorem uf{l:List Nd}{i:Nat}{d:Nd}(h:l[i]?=some d):dJ (l.take (i+1))=dJ (l.take i)++d.kids:=by
 obtain⟨h1,h2⟩:=mu.1 h;unfold dJ;rw[List.take_succ_eq_append_getElem h1,h2];simp
theorem wG{l:List Nd}(i:Nat):List.Sublist (dJ (l.take i)) (dJ l):=by
 unfold dJ
 conv=>rhs;rw[<- List.take_append_drop i l,List.map_append,List.flatten_append]
 exact List.sublist_append_left _ _
structure Small(l:List Nd):Prop where
 len:l.length<100000
 kids:∀d∈l,d.kids.length<=9223372036854775807
 s:∀d∈l,d.s.length<1000000
theorem V5{l:List Nd}{d:Nd}(h:d∈l):List.Sublist d.kids (dJ l):=by
 obtain⟨i,hi⟩:=List.mem_iff_getElem?.1 h;have h1:=uf hi;have h2:=wG (l:=l) (i+1);rw[h1]at h2;exact(List.sublist_append_right _ _).trans h2
theorem Hw{l:List Nd}(hk:fW l)(hu:(dJ l).Nodup){d:Nd}(h:d∈l):d.kids.length<=l.length:=by
 obtain⟨i,hi⟩:=List.mem_iff_getElem?.1 h;have h1:=ze (hk i d hi) (hu.sublist (V5 h));have:=(mu.1 hi).1;omega
theorem UK{l:List Nd}{t:Nat}{nl:Bool}(hs:Small l){m0:Mem}{fr:Fr}{v:EV}{lo:Nat}(h0:fr.get 0=row nl t 5 (lC l))(h3:fr.get 3=v)(tH:eI m0 v [] 0 1 lo)(im:lo<=m0.next)(h4:fr.get 4=.int .i64 0)(hd:fr.defers=[]) :
  ∃o,exec U (.loop jg) fr m0=some o/\((yN l l.length/\∃fr' m' v',o=.exit 0 fr' m'/\fr'.get 0=row nl t 5 (lC l)/\fr'.get 3=v'/\eI m' v' (ints (dJ l)).flatten (dJ l).length 1 lo/\fr'.defers=[])\/
   (¬yN l l.length/\∃fr' m',o=.ret fr' m'/\fr'.get 2=.bool false/\fr'.defers=[])):=by
 have hlen:=hs.len;refine dr (σ:=Nat) (fun i fr m=>i<=l.length/\yN l i/\fr.get 0=row nl t 5 (lC l)/\(∃v,fr.get 3=v/\eI m v (ints (dJ (l.take i))).flatten (dJ (l.take i)).length 1 lo)/\lo<=m.next/\fr.get 4=.int .i64 (i:Int)/\fr.defers=[]) (fun i=>l.length- i) _ ?_ 0 fr m0
  ⟨nZ _,⟨fun j d hj=>by omega,by simp[dJ]⟩,h0,⟨v,h3,tH⟩,im,h4,hd⟩
 rintro i fr m ⟨hi,hr,h0,⟨v,h3,tH⟩,im,h4,hd⟩;generalize hX:exec U jg fr m=X;by_cases aH:i<l.length
 ·have hc:(i:Int)<(l.length:Int):=by omega
  have hd0:l[i]?=some l[i]:=jE aH;have zi:=oX aH;have rD:=hs.kids _ zi;have Bx:=hs.s _ zi;have BS:=uf hd0;generalize l[i]=d at *;have gP:=aZ (i:=i) (by omega);generalize hL:exec (UT B K) (ar.loop jh)=L;simp only[jg,h0,h3,h4,hd,hc,eL,ao,simprocAttr]at hX;subst hL;generalize hY:exec _ (.loop jh) _ _=Y at hX;obtain⟨o,rfl,h⟩:=cG hY (UL (l:=l) (t:=t) (nl:=nl) (i:=i) (d:=d) (u:=dJ (l.take i)) hd0 rD (by omega) (TN fun j d hj hd=>(hr.1 j d hj hd).1) hr.2 (by simp[h0,ay]) (by simp[h3,ay]) tH im (by simp[h4,ay]) (by simp[ay]) (by simp[hd,ay]));rcases h with⟨⟨g1,g2⟩,fr',m',v',rfl,h0,h3,tH,im,h4,hd⟩|⟨g,fr',m',rfl,h2,hd⟩
  ·have hv:oZ l d.kids:=fun x hx=>by have:=g1 x hx;omega
   have vo:=ze g1 (List.nodup_append.1 g2).2.1;have ho:bA B K F9 [.agg [.int .i64 d.kind,row d.nl 0 1 (ints d.kids),.int .i64 d.n,.str d.s,.int .i64 d.pos]]=some (bo (xK d)):=ado (d:=d) (by omega);have qC:∀t1 nl1,bA B K Dv [row nl1 t1 5 (lC l),.agg [.int .i64 d.kind,row d.nl 0 1 (ints d.kids),.int .i64 d.n,.str d.s,.int .i64 d.pos]]=some (bo (cJ l d)):=fun t1 nl1=>ZX (l:=l) (d:=d) (t1:=t1) (nl1:=nl1) hv (by omega)
   simp +contextual -implicitDefEqProofs (maxDischargeDepth:=8) only[h0,h3,h4,hd,hd0,aH,gP,ap,jG,eL,Nd.cells,ho,qC,ao,simprocAttr]at hX;subst hX;refine rY (fun hp=>iD (Or.inr ⟨fun q=> ?_,_,_,rfl,by simp[hd,ay]⟩)) (fun hp=>bB (i+1) (by omega) ⟨aH,⟨fun j e hj he=> ?_,by rw[BS];exact g2⟩,by simp[h0,ay],⟨v',by simp[h3,ay],by rw[BS];exact tH⟩,im,by simp[hd,ay]⟩)
   ·obtain⟨_,q1,q2⟩:=q.1 i d aH hd0;exact hp.elim (fun h=>h q1) (fun h=>h q2)
   ·by_cases Gj:j<i
    ·exact hr.1 j e Gj he
    ·obtain rfl:j=i:=by omega
     rw[hd0]at he;cases he;exact⟨g1,vt fun h=>hp (.inl h),vt fun h=>hp (.inr h)⟩
  ·simp only[h2,hd,ao,simprocAttr]at hX;subst hX;refine iD (Or.inr ⟨fun q=>g ⟨(q.1 i d aH hd0).1,?_⟩,_,_,rfl,h2,hd⟩)
   rw[<- BS];exact q.2.sublist (by rw[uP (cR _)];exact wG _)
 ·have hc:¬((i:Int)<(l.length:Int)):=by omega
  obtain rfl:i=l.length:=by omega
  rw[uP (cR _)]at tH;simp only[jg,h0,h3,h4,hd,hc,eL,ao,simprocAttr]at hX;subst hX;exact bK (Or.inl ⟨hr,_,_,v,rfl,by simp[h0,ay],by simp[h3,ay],tH,by simp[hd,ay]⟩)
theorem Bl{l:List Nd}:yN l l.length↔fW l/\(dJ l).Nodup/\∀d∈l,xK d/\cJ l d:=by
 unfold yN;rw[uP (cR _)];constructor
 ·rintro⟨h1,h2⟩;refine⟨fun i d hd=>(h1 i d (mu.1 hd).1 hd).1,h2,fun d hd=> ?_⟩
  obtain⟨i,hi⟩:=List.mem_iff_getElem?.1 hd;exact(h1 i d (mu.1 hi).1 hi).2
 ·rintro⟨h1,h2,h3⟩;exact⟨fun j d _ hd=>⟨h1 j d hd,h3 d (List.mem_iff_getElem?.2 ⟨j,hd⟩)⟩,h2⟩
theorem UM{l:List Nd}{t:Nat}{nl:Bool}(hs:Small l):bA B K JH [row nl t 5 (lC l)]=some (bo (jW l)):=by
 have hlen:=hs.len;rw[dY (by simp[kR])];generalize hL:exec (UT B K) (ar.loop jg)=L;simp only[kR,ao,simprocAttr];subst hL;generalize hX:exec _ (.loop jg) _ _=X;obtain⟨o,rfl,h⟩:=cG hX (UK (l:=l) (t:=t) (nl:=nl) hs (v:=.slice (nb fT.next 0) 0 0 (some 0)) (lo:=fT.next) (by simp[ay]) (by simp[ay]) ⟨.inr ⟨_,_,xo,rfl,cR _,by rw[ak];unfold nb;simp,by rw[aw rfl (by simp)];rfl,.inr rfl⟩,rfl⟩ (by rw[ak];exact aq) (by simp[ay]) (by simp[ay]));rcases h with⟨h,fr',m',v',rfl,h0,h3,tH,hd⟩|⟨h,fr',m',rfl,h2,hd⟩
 ·have hr:=Bl.1 h;by_cases hl0:l.length=0
  ·have:¬jW l:=fun q=>by have:=q.2.1;omega
   rcases tH.len with _
   simp only[h0,h3,hd,hl0,eL,ao,simprocAttr];exact congrArg some (mY this)
  ·have hc:(0:Int)<(l.length:Int):=by omega
   have hw:IntKind.i64.wrap ((l.length:Int)- 1)=((l.length- 1:Nat):Int):=by rw[wrap_i64 (by omega) (by omega)];omega
   have hh:=fun t=>Sp (l:=l) (nl:=nl) hr.1 (by omega) (fun d hd=>by have:=Hw hr.1 hr.2.1 hd;omega) (l.length- 1) (by omega) t
   have vn:∀m,kA v' m=some (.val (.int .i64 ((dJ l).length:Int)) m):=by
    intro m;rcases tH.is with⟨rfl,q,_⟩|⟨b,cap,ty,rfl,_⟩
    ·rw[q];rfl
    ·rfl
   have hq:(((dJ l).length:Int)=((l.length- 1:Nat):Int))=((dJ l).length=l.length- 1):=propext (by omega);have hq2:((eu l (l.length- 1):Int)<=200)=(eu l (l.length- 1)<=200):=propext (by omega);simp +contextual -implicitDefEqProofs (maxDischargeDepth:=8) only[h0,h3,hd,hc,hw,hh,vn,hq,hq2,eL,ao,simprocAttr];refine fZ ?_
   unfold jW;grind
 ·simp only[h2,hd,ao,simprocAttr];exact congrArg some (mY fun q=>h (Bl.2 q.1))
end
section
def dH:List Nat->Nat
 |[]=>0
 |a::l=>a+dH l
theorem qT:∀(a b:List Nat),dH (a++b)=dH a+dH b
 |[],b=>by simp[dH]
 |x::a,b=>by simp only[List.cons_append,dH,qT a b];omega
def ow(d:Nd):Nat:=100+d.s.length
def dM(l:List Nd):Nat->Nat->Nat
 |0,_=>0
 |f+1,i=>match l[i]? with
  |none=>0
  |some d=>ow d+dH (d.kids.map fun x=>dM l f x.toNat)
def GW(l:List Nd)(i:Nat):Nat:=dM l (i+1) i
theorem Qy{l:List Nd}(hk:fW l):∀(i f g:Nat),i<f->i<g->dM l f i=dM l g i:=by
 intro i
 induction i using Nat.strongRecOn with
 |_ i ih=>
  intro f g hf hg;obtain⟨f,rfl⟩:∃f',f=f'+1:=⟨f- 1,by omega⟩
  obtain⟨g,rfl⟩:∃g',g=g'+1:=⟨g- 1,by omega⟩
  simp only[dM];cases hd:l[i]? with
  |none=>rfl
  |some d=>
   simp only
   congr 2
   refine List.map_congr_left fun x hx=> ?_
   have:=hk i d hd x hx;exact ih x.toNat (by omega) f g (by omega) (by omega)
theorem YR{l:List Nd}(hk:fW l){i:Nat}{d:Nd}(hd:l[i]?=some d):GW l i=ow d+dH (d.kids.map fun x=>GW l x.toNat):=by
 unfold GW;rw[dM];simp only[hd]
 congr 2
 refine List.map_congr_left fun x hx=> ?_
 have:=hk i d hd x hx;exact Qy hk _ _ _ (by omega) (by omega)
theorem FE{α:Type}[DecidableEq α]{w:α->Nat}{x:α}:∀{b:List α},x∈b->dH ((b.erase x).map w)+w x=dH (b.map w)
 |y::b,h=>by
  rw[List.erase_cons];by_cases e:y==x
  ·rw[if_pos e];have:=eq_of_beq e;subst this;simp only[List.map_cons,dH];omega
  ·rw[if_neg e];have hx:x∈b:=by
    rcases qn.1 h with rfl|h
    ·simp at e
    ·exact h
   have:=FE (w:=w) hx;simp only[List.map_cons,dH];omega
theorem xE{α:Type}[DecidableEq α]{w:α->Nat}:∀{a b:List α},a.Nodup->(∀x∈a,x∈b)->dH (a.map w)<=dH (b.map w)
 |[],b,_,_=>nZ _
 |x::a,b,h,hs=>by
  rw[List.nodup_cons]at h;have h1:=xE (w:=w) (b:=b.erase x) h.2 fun y hy=>by
   have fR:y≠x:=by rintro rfl;exact h.1 hy
   exact(List.mem_erase_of_ne fR).2 (hs y (by simp[hy]))
  have h2:=FE (w:=w) (hs x (by simp));simp only[List.map_cons,dH];omega
theorem IW{α:Type}{w:α->Nat}(p:α->Bool):∀b:List α,dH ((b.filter p).map w)+dH ((b.filter fun x=> !p x).map w)=dH (b.map w)
 |[]=>rfl
 |x::b=>by
  have:=IW (w:=w) p b;cases h:p x<;>simp[List.filter_cons,h,dH]<;>omega
def roots(l:List Nd)(i:Nat):List Int:=(upto i).filter fun x=> !(dJ (l.take i)).contains x
theorem FQ{l:List Nd}(hk:fW l)(hu:(dJ l).Nodup):∀i,i<=l.length->dH ((roots l i).map fun x=>GW l x.toNat)<=dH ((l.take i).map ow)
 |0,_=>by simp[roots,upto,dH]
 |i+1,hi=>by
  have ih:=FQ hk hu i (by omega);have hd:l[i]?=some l[i]:=jE (by omega);have BS:=uf hd;have IE:l.take (i+1)=l.take i++[l[i]]:=List.take_succ_eq_append_getElem (by omega);have hx:=hk i _ hd;have hnd:(dJ (l.take i)++l[i].kids).Nodup:=by rw[<- BS];exact hu.sublist (wG _)
  generalize l[i]=d at *;have hup:upto (i+1)=upto i++[(i:Int)]:=by unfold upto;rw[List.range_succ,List.map_append];rfl
  have hU:∀x∈dJ (l.take i),x<(i:Int):=by
   intro x hx;obtain⟨j,e,he,Sf⟩:=sZ.1 hx;rw[List.getElem?_take]at he
   split at he
   ·have:=hk j e he x Sf;omega
   ·cases he
  rw[List.nodup_append]at hnd;have e1:roots l (i+1)=(roots l i).filter (fun x=> !d.kids.contains x)++[(i:Int)]:=by
   unfold roots;rw[BS,hup,List.filter_append,List.filter_filter]
   congr 1
   ·refine List.filter_congr fun x hx=> ?_
    rw[List.contains_eq_any_beq,List.contains_eq_any_beq,List.contains_eq_any_beq,List.any_append];cases(dJ (l.take i)).any (x== ·)<;>cases d.kids.any (x== ·)<;>rfl
   ·rw[List.filter_cons,if_pos]
    ·rfl
    ·have:¬((i:Int)∈dJ (l.take i)++d.kids):=by
      rw[Ag];rintro(q|q)
      ·have:=hU _ q;omega
      ·have:=hx _ q;omega
     simpa using this
  have h2:dH (d.kids.map fun x=>GW l x.toNat)<=dH (((roots l i).filter fun x=>d.kids.contains x).map fun x=>GW l x.toNat):=by
   refine xE hnd.2.1 fun x hxk=> ?_
   rw[List.mem_filter];refine⟨?_,by simpa using hxk⟩
   unfold roots;rw[List.mem_filter];refine⟨qR.2 ⟨(hx x hxk).1,(hx x hxk).2⟩,?_⟩
   have:¬x∈dJ (l.take i):=fun q=>hnd.2.2 x q x hxk rfl
   simpa using this
  have h3:=IW (w:=fun x:Int=>GW l x.toNat) (fun x=>d.kids.contains x) (roots l i);have h4:=YR hk hd;rw[e1,IE,List.map_append,List.map_append,qT,qT];simp only[List.map_cons,List.map_nil,dH];rw[show ((i:Int)).toNat=i by omega,h4];omega
theorem acT{l:List Nd}(hk:fW l)(hu:(dJ l).Nodup){c:Nat}(hc:∀d∈l,d.s.length<=c){i:Nat}(hi:i<l.length):GW l i<=l.length*(100+c):=by
 have h:=FQ hk hu (i+1) hi;have hm:(i:Int)∈roots l (i+1):=by
  unfold roots;rw[List.mem_filter];refine⟨qR.2 ⟨by omega,by omega⟩,?_⟩
  have:¬(i:Int)∈dJ (l.take (i+1)):=by
   intro hx;obtain⟨j,e,he,Sf⟩:=sZ.1 hx;rw[List.getElem?_take]at he
   split at he
   ·have:=hk j e he _ Sf;omega
   ·cases he
  simpa using this
 have h1:=xE (w:=fun x:Int=>GW l x.toNat) (a:=[(i:Int)]) (b:=roots l (i+1)) (by simp) fun x hx=>by rw[IA.1 hx];exact hm
 have h2:∀k:List Nd,(∀d∈k,d.s.length<=c)->dH (k.map ow)<=k.length*(100+c):=by
  intro k
  induction k with
  |nil=>intro _;simp[dH]
  |cons d k ih=>
   intro h;have a:=ih fun e he=>h e (by simp[he])
   have b:=h d (by simp);simp only[List.map_cons,dH,List.length_cons,Nat.add_mul,ow]at a⊢;omega
 have h3:=h2 (l.take (i+1)) fun d hd=>hc d (List.mem_of_mem_take hd)
 have h4:(l.take (i+1)).length*(100+c)<=l.length*(100+c):=Nat.mul_le_mul_right _ (by rw[List.length_take];omega);simp only[List.map_cons,List.map_nil,dH]at h1;rw[show ((i:Int)).toNat=i by omega]at h1;omega
end
section
structure bY(n:Nat)(c c':CS):Prop where
 K:c'.K.length=c.K.length
 S:c'.S.length=c.S.length
 C:c'.C.length=c.C.length
 F:c'.F=c.F
 V:c'.V=c.V
 M:c'.M=c.M
 L:c'.L=c.L
 R:c'.R=c.R
 D:c'.X.D=c.X.D
 ok:c.X.Ok->c'.X.Ok
 vk:c.X.V.length<=c.X.K.length->c'.X.V.length<=c'.X.K.length
 kn:c'.X.K.length<=c.X.K.length+n
 k0:c.X.K.length<=c'.X.K.length
theorem bY.refl{c:CS}:bY 0 c c:=⟨rfl,rfl,rfl,rfl,rfl,rfl,rfl,rfl,rfl,id,id,cR _,cR _⟩
theorem bY.trans{n n':Nat}{a b c:CS}(h:bY n a b)(h':bY n' b c):bY (n+n') a c:=
 ⟨h'.K.trans h.K,h'.S.trans h.S,h'.C.trans h.C,h'.F.trans h.F,h'.V.trans h.V,h'.M.trans h.M,h'.L.trans h.L,h'.R.trans h.R,h'.D.trans h.D,fun q=>h'.ok (h.ok q),fun q=>h'.vk (h.vk q),by have:=h.kn;have:=h'.kn;omega,ji h.k0 h'.k0⟩
theorem bY.iY{n n':Nat}{a b:CS}(h:bY n a b)(hn:n<=n'):bY n' a b:=
 ⟨h.K,h.S,h.C,h.F,h.V,h.M,h.L,h.R,h.D,h.ok,h.vk,by have:=h.kn;omega,h.k0⟩
theorem gI.s{a b:CS}(h:gI a b):bY 0 a b:=
 ⟨h.K,h.S,h.C,h.F,h.V,h.M,h.L,h.R,by rw[h.X],fun q=>by rw[h.X];exact q,fun q=>by rw[h.X];exact q,by rw[h.X];exact cR _,by rw[h.X];exact cR _⟩
theorem pk{l:List Nd}{i:Nat}{k:Int}{c:CS}:bY 1 c (eK l i k c):=by
 unfold eK
 split
 ·exact⟨rfl,rfl,rfl,rfl,rfl,rfl,rfl,rfl,rfl,id,id,Nat.le_succ _,cR _⟩
 ·exact⟨rfl,by simp,rfl,rfl,rfl,rfl,rfl,rfl,rfl,fun q=>q.add _ _,fun q=>by simp[Mo.add];omega,by simp[Mo.add],by simp[Mo.add]⟩
theorem pX{l:List Nd}{i:Nat}{c:CS}:bY 1 c (fH l i c):=by
 have r:bY 1 c c:=bY.refl.iY (by omega);have rf:∀e p,bY 1 c (c.fault e p):=fun e p=>⟨rfl,rfl,rfl,rfl,rfl,rfl,rfl,rfl,rfl,id,id,Nat.le_succ _,cR _⟩
 have rs:∀s,bY 1 c {c with S:=c.S.set i s}:=fun s=>⟨rfl,by simp,rfl,rfl,rfl,rfl,rfl,rfl,rfl,id,id,Nat.le_succ _,cR _⟩
 unfold fH CS.ph
 try simp only
 repeat' split
 all_goals first|exact pk|exact rf _ _|exact rs _|exact r
theorem Vg{l:List Nd}{f:Nat}{xs:List Int}{c:CS}:gI c (aO (fun x c=>qi l f x.toNat c) xs c):=
 oh (P:=gI c) .refl fun x _ c' h=>h.trans (PZ f _ _)
theorem yS{g:Int->CS->CS}{w:Int->Nat}(h:∀x c,1<=c.X.D->bY (w x) c (g x c)):∀(xs:List Int) (c:CS),1<=c.X.D->bY (dH (xs.map w)) c (aO g xs c)
 |[],c,_=>bY.refl
 |x::xs,c,hd=>by
  rw[ny,List.map_cons,dH]
  split
  ·have h1:=h x c hd;exact h1.trans (yS h xs _ (by rw[h1.D];exact hd))
  ·exact(bY.refl.trans (yS h xs c hd)).iY (by omega)
theorem vw{l:List Nd}{f i:Nat}{d:Nd}(h:l[i]?=some d):dM l (f+1) i=ow d+dH (d.kids.map fun x=>dM l f x.toNat):=by
 rw[dM];simp only[h]
theorem CX{w:Int->Nat}(xs:List Int)(n:Nat):dH ((xs.drop n).map w)<=dH (xs.map w):=by
 have:=qT ((xs.take n).map w) ((xs.drop n).map w);rw[<- List.map_append,List.take_append_drop]at this;omega
theorem nz{c c':CS}{n:Nat}(h:bY n {c with X:=c.X.open_} c')(hd:1<=c.X.D):bY n c {c' with X:=c'.X.close}:=by
 have e:c'.X.D=c.X.D+1:=h.D;refine⟨h.K,h.S,h.C,h.F,h.V,h.M,h.L,h.R,by simp only[Mo.close];omega,fun q=>(h.ok q.open_).close (by omega),fun q=> ?_,h.kn,h.k0⟩
 have:=h.vk q;show (c'.X.V.filter _).length<=c'.X.K.length;exact ji (List.length_filter_le _ _) this
theorem bY.loop{n:Nat}{c c':CS}(h:bY n {c with L:=c.L+1} c'):bY n c {c' with L:=c'.L- 1}:=
 ⟨h.K,h.S,h.C,h.F,h.V,h.M,by have:c'.L=c.L+1:=h.L;show c'.L- 1=c.L;omega,h.R,h.D,h.ok,h.vk,h.kn,h.k0⟩
theorem O6{l:List Nd}:∀(f i:Nat) (c:CS),1<=c.X.D->bY (dM l f i) c (nv l f i c)
 |0,i,c,h=>.refl
 |f+1,i,c,h=>by
  have ih:=yS (g:=fun x c=>nv l f x.toNat c) (w:=fun x=>dM l f x.toNat) fun x c h=>O6 f x.toNat c h
  cases hd:l[i]? with
  |none=>
   have e:dZ l i=⟨0,[],true,0,[],0⟩:=by unfold dZ;rw[List.getD_eq_getElem?_getD,hd];rfl
   have e2:nv l (f+1) i c=c:=by
    rw[nv];simp only[e,cu,cd,vH,fH];by_cases hf:c.fe=0<;>simp[aO,hf]
   rw[e2];exact bY.refl.iY (nZ _)
  |some d=>
   have e:dZ l i=d:=nc hd;rw[vw hd,nv];simp only[e];have LH:100<=ow d:=by unfold ow;omega
   split
   ·exact(nz (ih d.kids {c with X:=c.X.open_} (by simp only[Mo.open_];omega)) h).iY (by omega)
   ·have h1:gI c (aO (fun x c=>qi l f x.toNat c) (cu d) c):=Vg;generalize aO (fun x c=>qi l f x.toNat c) (cu d) c=c1 at h1;have hb:=CX (w:=fun x=>dM l f x.toNat) d.kids (d.kids.length- vH d);have hb:dH ((cd d).map fun x=>dM l f x.toNat)<=dH (d.kids.map fun x=>dM l f x.toNat):=hb
    split
    ·have h2:bY 1 c1 (fH l i c1):=pX;generalize fH l i c1=c2 at h2;have IH:=h1.s.trans h2;have zt:1<=c2.X.D:=by rw[IH.D];exact h
     split
     ·split
      ·have h3:bY 1 {c2 with X:=c2.X.open_} (eK l i 1 {c2 with X:=c2.X.open_}):=pk;generalize eK l i 1 {c2 with X:=c2.X.open_}=c3 at h3;have hd3:1<=c3.X.D:=by rw[h3.D];simp only[Mo.open_];omega
       have h4:=(ih (cd d) {c3 with L:=c3.L+1} hd3).loop;exact(IH.trans (nz (h3.trans h4) zt)).iY (by omega)
      ·split
       ·exact(IH.trans (ih (cd d) {c2 with L:=c2.L+1} zt).loop).iY (by omega)
       ·exact(IH.trans (ih (cd d) c2 zt)).iY (by omega)
     ·exact IH.iY (by omega)
    ·exact h1.s.iY (by omega)
end
end Go.Proofs.YtfbnghpabppljaaGreatDoor.Ev
