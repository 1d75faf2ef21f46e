/- WNv, WCk1, WCk2, WCk3, WCk4, WCk5, WCk6, WCk7, WCk8, WCk9, WCk10, WDf, WCk11. -/
import Derived.Test.YtfbnghpabppljaaGreatDoorMh
set_option linter.unusedSimpArgs false
set_option linter.unusedVariables false
set_option linter.unusedSectionVars false
set_option linter.defProp false
set_option maxRecDepth 20000
set_option maxHeartbeats 8000000
namespace Go.Proofs.YtfbnghpabppljaaGreatDoor.Ev
open Go
section
structure Nv where
 d:Nd
 kv:EV
def Hk(d:Nd)(kv:EV):List EV:=[.int .i64 d.kind,kv,.int .i64 d.n,.str d.s,.int .i64 d.pos]
def Nv.cells(x:Nv):List EV:=Hk x.d x.kv
def mO(xs:List Nv):List EV:=(xs.map Nv.cells).flatten
theorem ZG{xs ys:List Nv}:mO (xs++ys)=mO xs++mO ys:=by simp[mO]
theorem Cq:∀(xs:List Nv),(mO xs).length=xs.length*5
 |[]=>rfl
 |x::xs=>by
  have:=Cq xs;unfold mO at *;simp only[List.map_cons,List.flatten_cons,w6,this,List.length_cons,Nv.cells,Hk,List.length_nil];omega
structure ajo(m:Mem)(d:Nd)(kv:EV):Prop where
 o:eI m kv (is d.kids) d.kids.length 1 0
 nl:d.nl=d.kids.isEmpty
 z:d.kids=[]->kv=.aa
theorem eI.lo0{m:Mem}{v:EV}{cs:List EV}{n esz lo:Nat}(h:eI m v cs n esz lo):eI m v cs n esz 0:=by
 refine⟨?_,h.len⟩
 rcases h.is with h|⟨b,cap,t,h0,h1,h2,h3,h4⟩
 ·exact .inl h
 ·exact .inr ⟨b,cap,t,h0,nZ _,h2,h3,h4⟩
theorem eI.lT{m:Mem}{v:EV}{cs:List EV}{n esz lo:Nat}(h:eI m v cs n esz lo){c:Nat}(hc:¬iw v c):lo<=c/\c<m.next:=by
 rcases h.is with⟨rfl,_⟩|⟨b,cap,t,rfl,h1,h2,_⟩
 ·exact absurd iw.nil hc
 ·by_cases q:c=b
  ·subst q;exact⟨h1,h2⟩
  ·exact absurd (iw.of q) hc
theorem Bz{F:List EV->Option (List EV)}{m:Mem}:∀{a b a' b':List EV},ki F m a=some a'->ki F m b=some b'->ki F m (a++b)=some (a'++b')
 |[],b,a',b',h,h'=>by simp only[ki,bQ]at h;subst h;exact h'
 |v::a,b,a',b',h,h'=>by
  simp only[ki]at h;cases hv:nJ F m v with
  |none=>simp only[hv]at h;cases h
  |some w=>
   cases ha:ki F m a with
   |none=>simp only[hv,ha]at h;cases h
   |some c=>
    simp only[hv,ha,bQ]at h;subst h;simp only[List.cons_append,ki,hv,Bz ha h']
theorem sf{l:List Int}:is l=(ints l).flatten:=by
 unfold is ints
 induction l with
 |nil=>rfl
 |cons x l ih=>simp only[List.map_cons,List.flatten_cons,List.cons_append,List.nil_append,ih]
theorem adv{xs:List Nv}{j:Nat}{x:Nv}(h:xs[j]?=some x):∃a b,mO xs=a++x.cells++b/\a.length=j*5:=by
 obtain⟨hj,e⟩:=mu.1 h;have e2:xs=xs.take j++x::xs.drop (j+1):=by rw[<- e,List.getElem_cons_drop,List.take_append_drop]
 refine⟨mO (xs.take j),mO (xs.drop (j+1)),?_,?_⟩
 ·conv=>lhs;rw[e2]
  rw[ZG];show mO (xs.take j)++(x.cells++mO (xs.drop (j+1)))=_;rw[List.append_assoc]
 ·rw[Cq,List.length_take];congr 1;omega
theorem tj{xs:List Nv}{j:Nat}{x:Nv}(h:xs[j]?=some x):(mO xs)[j*5]?=some (.int .i64 x.d.kind)/\(mO xs)[j*5+1]?=some x.kv/\(mO xs)[j*5+2]?=some (.int .i64 x.d.n)/\(mO xs)[j*5+3]?=some (.str x.d.s)/\(mO xs)[j*5+4]?=some (.int .i64 x.d.pos)/\partOf (some 5) (mO xs) (j*5)=some (.agg x.cells):=by
 obtain⟨a,b,e,hl⟩:=adv h;rw[e,<- hl];have g:∀k,k<5->(a++x.cells++b)[a.length+k]?=x.cells[k]?:=fun k hk=>by
  rw[List.append_assoc,yy (by omega),rB (by show _<5;omega)]
  congr 1;omega
 refine⟨g 0 (by omega),g 1 (by omega),g 2 (by omega),g 3 (by omega),g 4 (by omega),?_⟩
 simp only[partOf];have hle:a.length+5<=(a++x.cells++b).length:=by
  rw[w6,w6];show _<=_+5+_;omega
 rw[sx hle,cond_true,List.append_assoc,List.drop_left]
 rfl
structure asd(m:Mem)(v:EV)(xs:List Nv)(lo:Nat):Prop where
 o:eI m v (mO xs) xs.length 5 lo
 k:∀x∈xs,ajo m x.d x.kv
 f:∀x∈xs,∀c,¬iw x.kv c->lo<=c/\iw v c
end
section
structure CE where
 cb:Nat
 kb:Nat
 zb:Nat
 ab:Nat
 lb:Nat
 lc:Option Nat
 lt:Nat
 lr:Bool
 xs:List Nv
def CE.l(e:CE):List Nd:=e.xs.map Nv.d
def CE.lv(e:CE):EV:=.slice e.lb 0 e.xs.length e.lc
def CE.row(e:CE)(b:Nat):EV:=.slice b 0 e.xs.length (some e.xs.length)
def CE.W(e:CE)(b:Nat):Prop:=b=e.cb\/b=e.kb\/b=e.zb\/b=e.ab
def j0(e:CE)(fv vv sp:EV)(c:CS):List EV:=[e.lv,e.row e.kb,e.row e.zb,e.row e.ab,fv,vv,.int .i64 c.M,sp,.int .i64 c.L,.int .i64 c.R,.int .i64 c.fe,.int .i64 c.fp]
structure Iv(m:Mem)(d:Nd)(kv:EV):Prop where
 is:(d.kids=[]/\(kv=.aa\/∃t,t≠0/\kv=.fz t 1 []))\/∃b c t ro,kv=.slice b 0 d.kids.length c/\m.get b=.cells (is d.kids) 1 t ro/\b<m.next/\(c=none\/c=some d.kids.length)/\d.kids≠[]
structure uO(e:CE)(o:Nat->Part)(m:Mem):Prop where
 g:m.get e.lb=.cells (mO e.xs) 5 e.lt e.lr
 lt:e.lb<m.next
 w:¬e.W e.lb
 ol:o e.lb=.other
 k:∀x∈e.xs,Iv m x.d x.kv
 kf:∀x∈e.xs,∀b n c,x.kv=.slice b 0 (n+1) c->¬e.W b/\o b=.other
structure Ck(e:CE)(o:Nat->Part)(m:Mem)(fv vv:EV)(sb mb:Nat)(c:CS)(L:List (cH×EV))(P:cH->EV)(ov kv:EV):Prop where
 g:m.get e.cb=.cells (j0 e fv vv (.ptr sb 0) c) 12 aX false
 gk:m.get e.kb=.cells (is c.K) 1 3 false
 gz:m.get e.zb=.cells (is c.S) 1 3 false
 ga:m.get e.ab=.cells (is c.C) 1 3 false
 lt:∀b,e.W b->b<m.next
 ne:e.cb≠e.kb/\e.cb≠e.zb/\e.cb≠e.ab/\e.kb≠e.zb/\e.kb≠e.ab/\e.zb≠e.ab
 ot:∀b,e.W b->o b=.other
 len:c.K.length=e.xs.length/\c.S.length=e.xs.length/\c.C.length=e.xs.length
 sc:Sc o m sb mb c.X L P ov kv
 nd:uO e o m
 fn:eI m fv (is c.F) c.F.length 1 0
 ff:∀b,¬iw fv b->¬e.W b/\o b=.other
structure bO(e:CE)(m m':Mem):Prop where
 n:m.next<=m'.next
 k:∀b,b<m.next->¬e.W b->m'.get b=m.get b
theorem bO.refl{e:CE}{m:Mem}:bO e m m:=⟨cR _,fun _ _ _=>rfl⟩
theorem bO.trans{e:CE}{m m' m'':Mem}(h:bO e m m')(h':bO e m' m''):bO e m m'':=⟨ji h.n h'.n,fun b hb hw=>(h'.k b (cQ hb h.n) hw).trans (h.k b hb hw)⟩
theorem bO.bJ{e:CE}{m m':Mem}(hn:m.next<=m'.next)(hk:∀b,b<m.next->m'.get b=m.get b):bO e m m':=⟨hn,fun b hb _=>hk b hb⟩
theorem wC.acm{o:Nat->Part}{m m':Mem}{sb mb:Nat}{D:Int}{N:List cH}{F:cH->List Pv}{K:List Int}{L:List (cH×EV)}{P:cH->EV}{ov kv:EV}(h:wC o m sb mb D N F K L P ov kv)(hn:m.next<=m'.next)(hk:∀c,c<m.next->o c≠.other->m'.get c=m.get c):wC o m' sb mb D N F K L P ov kv:=by
 have key:∀(p:Part),p≠.other->∀c,c<m.next->o c=p->m'.get c=m.get c:=fun p hp c hc e=>hk c hc (e▸hp)
 exact⟨(key .box (by decide) sb h.sb.1 h.sb.2).trans h.get,(key .map (by decide) mb h.mb.1 h.mb.2).trans h.gm,⟨by have:=h.sb.1;omega,h.sb.2⟩,⟨by have:=h.mb.1;omega,h.mb.2⟩,h.ord.cU hn (key _ (by decide)) fun _ _=>rfl,h.JV.cU hn (key _ (by decide)) fun _ _=>rfl,h.nd,h.ent,fun s hs=>(h.row s hs).cU hn (key _ (by simp)) fun _ _=>rfl,fun c hc=>h.new c (ji hn hc)⟩
section
variable {e:CE} {o o':Nat->Part} {m m':Mem} {fv vv:EV} {sb mb:Nat} {c c':CS} {L:List (cH×EV)} {P:cH->EV} {ov kv:EV}
theorem Iv.cU{d:Nd}{kv:EV}(h:Iv m d kv)(hn:m.next<=m'.next)(hk:∀b n c,b<m.next->kv=.slice b 0 (n+1) c->m'.get b=m.get b):Iv m' d kv:=by
 rcases h.is with h|⟨b,c,t,ro,e,g,l,lc,ne⟩
 ·exact⟨.inl h⟩
 ·cases hl:d.kids with
  |nil=>exact absurd hl ne
  |cons x ks=>
   refine⟨.inr ⟨b,c,t,ro,e,?_,by omega,lc,ne⟩⟩
   rw[hk b ks.length c l (by rw[e,hl];rfl)];exact g
theorem uO.cU(h:uO e o m)(hn:m.next<=m'.next)(hk:∀b,b<m.next->¬e.W b->o b=.other->m'.get b=m.get b)(ho:∀b,b<m.next->o' b=o b):uO e o' m' where
 g:=(hk _ h.lt h.w h.ol).trans h.g
 lt:=cQ h.lt hn
 w:=h.w
 ol:=(ho _ h.lt).trans h.ol
 k:=fun x hx=>(h.k x hx).cU hn fun b n c hb he=>by
  obtain⟨a,b'⟩:=h.kf x hx b n c he;exact hk b hb a b'
 kf:=fun x hx b n c he=>by
  obtain⟨a,b'⟩:=h.kf x hx b n c he;refine⟨a,?_⟩
  have hl:b<m.next:=by
   rcases(h.k x hx).is with⟨q1,q2|⟨b2,o2,q2⟩⟩|⟨b2,c2,t,ro,q,g,l,_⟩
   ·rw[q2]at he;cases he
   ·rw[q2]at he;cases he
   ·rw[q]at he;injection he with h1;subst h1;exact l
  rw[ho b hl];exact b'
theorem Ck.O1(h:Ck e o m fv vv sb mb c L P ov kv)(st:bO e m m')(g:m'.get e.cb=.cells (j0 e fv vv (.ptr sb 0) c') 12 aX false)(gk:m'.get e.kb=.cells (is c'.K) 1 3 false)(gz:m'.get e.zb=.cells (is c'.S) 1 3 false)(ga:m'.get e.ab=.cells (is c'.C) 1 3 false)
  (hl:c'.K.length=e.xs.length/\c'.S.length=e.xs.length/\c'.C.length=e.xs.length) (hX:c'.X=c.X) (hF:c'.F=c.F):Ck e o m' fv vv sb mb c' L P ov kv where
 g:=g
 gk:=gk
 gz:=gz
 ga:=ga
 lt:=fun b hb=>cQ (h.lt b hb) st.n
 ne:=h.ne
 ot:=h.ot
 len:=hl
 sc:=by rw[hX];exact h.sc.acm st.n fun b hb iv=>st.k b hb fun w=>iv (h.ot b w)
 nd:=h.nd.cU st.n (fun b hb hw _=>st.k b hb hw) fun _ _=>rfl
 fn:=by rw[hF];exact h.fn.eB st.n fun b hb _ iv=>st.k b hb (h.ff b iv).1
 ff:=h.ff
theorem Ck.same(h:Ck e o m fv vv sb mb c L P ov kv)(hn:m.next<=m'.next)(hk:∀b,b<m.next->m'.get b=m.get b):Ck e o m' fv vv sb mb c L P ov kv:=
 h.O1 (.bJ hn hk) ((hk _ (h.lt _ (.inl rfl))).trans h.g) ((hk _ (h.lt _ (.inr (.inl rfl)))).trans h.gk) ((hk _ (h.lt _ (.inr (.inr (.inl rfl))))).trans h.gz) ((hk _ (h.lt _ (.inr (.inr (.inr rfl))))).trans h.ga) h.len rfl rfl
theorem Ck.bump(h:Ck e o m fv vv sb mb c L P ov kv)(k:Nat):Ck e o (bump m k) fv vv sb mb c L P ov kv:=h.same aq fun _ _=>rfl
theorem mS(h:Ck e o m fv vv sb mb c L P ov kv):run U pM [.ptr e.cb 0] m=some (.ret (bo (c.fe=0)) (Ev.bump m 0)):=by
 have hg:=h.g;have hb:=h.lt _ (.inl rfl);unfold j0 at hg;rw[nB];obtain⟨X,hE⟩:∃X,pI aY.results (exec B4 aY.body (kF [.ptr e.cb 0] 0 mP) m)=X:=⟨_,rfl⟩
 have hX:=hE;simp only[aY,hg,hb,ao,simprocAttr]at hX;subst hX;exact ux (by simp[aY]) hE rfl rfl jX
end
end
section
section
variable {e:CE} {o o':Nat->Part} {m m':Mem} {fv vv:EV} {sb mb:Nat} {c c':CS} {L:List (cH×EV)} {P:cH->EV} {ov kv:EV}
theorem bO.bump{k:Nat}:bO e m (Ev.bump m k):=.bJ aq fun _ _=>rfl
theorem Ck.rG(h:Ck e o m fv vv sb mb c L P ov kv)(h1:c'.K=c.K)(h2:c'.S=c.S)(h3:c'.C=c.C)(hX:c'.X=c.X)(hF:c'.F=c.F):Ck e o (m.set e.cb (.cells (j0 e fv vv (.ptr sb 0) c') 12 aX false)) fv vv sb mb c' L P ov kv/\bO e m (m.set e.cb (.cells (j0 e fv vv (.ptr sb 0) c') 12 aX false)):=by
 have st:bO e m (m.set e.cb (.cells (j0 e fv vv (.ptr sb 0) c') 12 aX false)):=⟨by rw[aj];exact cR _,fun b _ hw=>af fun q=>hw (.inl q)⟩;obtain⟨n1,n2,n3,n4,n5,n6⟩:=h.ne;exact⟨h.O1 st aN (by rw[af n1.symm,h1];exact h.gk) (by rw[af n2.symm,h2];exact h.gz) (by rw[af n3.symm,h3];exact h.ga) (by rw[h1,h2,h3];exact h.len) hX hF,st⟩
theorem Ck.o7(h:Ck e o m fv vv sb mb c L P ov kv){i:Nat}{x:Int}:Ck e o (m.set e.kb (.cells (is (c.K.set i x)) 1 3 false)) fv vv sb mb {c with K:=c.K.set i x} L P ov kv/\bO e m (m.set e.kb (.cells (is (c.K.set i x)) 1 3 false)):=by
 have st:bO e m (m.set e.kb (.cells (is (c.K.set i x)) 1 3 false)):=⟨by rw[aj];exact cR _,fun b _ hw=>af fun q=>hw (.inr (.inl q))⟩;obtain⟨n1,n2,n3,n4,n5,n6⟩:=h.ne;exact⟨h.O1 st ((af n1).trans h.g) aN ((af n4.symm).trans h.gz) ((af n5.symm).trans h.ga) ⟨by rw[List.length_set];exact h.len.1,h.len.2⟩ rfl rfl,st⟩
theorem Ck.Jc(h:Ck e o m fv vv sb mb c L P ov kv){i:Nat}{x:Int}:Ck e o (m.set e.zb (.cells (is (c.S.set i x)) 1 3 false)) fv vv sb mb {c with S:=c.S.set i x} L P ov kv/\bO e m (m.set e.zb (.cells (is (c.S.set i x)) 1 3 false)):=by
 have st:bO e m (m.set e.zb (.cells (is (c.S.set i x)) 1 3 false)):=⟨by rw[aj];exact cR _,fun b _ hw=>af fun q=>hw (.inr (.inr (.inl q)))⟩;obtain⟨n1,n2,n3,n4,n5,n6⟩:=h.ne;exact⟨h.O1 st ((af n2).trans h.g) ((af n4).trans h.gk) aN ((af n6.symm).trans h.ga) ⟨h.len.1,by rw[List.length_set];exact h.len.2.1,h.len.2.2⟩ rfl rfl,st⟩
theorem Ck.UA(h:Ck e o m fv vv sb mb c L P ov kv){i:Nat}{x:Int}:Ck e o (m.set e.ab (.cells (is (c.C.set i x)) 1 3 false)) fv vv sb mb {c with C:=c.C.set i x} L P ov kv/\bO e m (m.set e.ab (.cells (is (c.C.set i x)) 1 3 false)):=by
 have st:bO e m (m.set e.ab (.cells (is (c.C.set i x)) 1 3 false)):=⟨by rw[aj];exact cR _,fun b _ hw=>af fun q=>hw (.inr (.inr (.inr q)))⟩;obtain⟨n1,n2,n3,n4,n5,n6⟩:=h.ne;exact⟨h.O1 st ((af n3).trans h.g) ((af n5).trans h.gk) ((af n6).trans h.gz) aN ⟨h.len.1,h.len.2.1,by rw[List.length_set];exact h.len.2.2⟩ rfl rfl,st⟩
theorem Ho(h:Ck e o m fv vv sb mb c L P ov kv){er q:Int}{n1 n2 n3 n4:EV}{X:Option Fin}(hX:run U cA [.ptr e.cb 0,.bool true,.int .i64 er,.agg [n1,n2,n3,n4,.int .i64 q]] m=X) :
  ∃m',X=some (.ret (bo (c.fe=0)) m')/\m.next<=m'.next/\(∀b,b<m.next->m'.get b=m.get b):=by
 rw[cf (by simp[aT])]at hX;have hF:=mS (h.same (m':=ext m [.cells [n1,n2,n3,n4,.int .i64 q] 5 eO false]) (by rw[ak];exact aq) fun b hb=>ai hb);simp only[aT,hF,ao,simprocAttr]at hX;exact⟨_,hX.symm,by rw[au,ak];exact ji aq aq,fun b hb=>ai hb⟩
theorem Ns(h:Ck e o m fv vv sb mb c L P ov kv)(hf:c.fe=0){er q:Int}(he:er≠0){n1 n2 n3 n4:EV}{X:Option Fin}(hX:run U cA [.ptr e.cb 0,.bool false,.int .i64 er,.agg [n1,n2,n3,n4,.int .i64 q]] m=X) :
  ∃m',X=some (.ret (.bool false) m')/\Ck e o m' fv vv sb mb (c.fault er q) L P ov kv/\bO e m m':=by
 rw[cf (by simp[aT])]at hX;have h1:=h.same (m':=ext m [.cells [n1,n2,n3,n4,.int .i64 q] 5 eO false]) (by rw[ak];exact aq) fun b hb=>ai hb
 have s1:bO e m (ext m [.cells [n1,n2,n3,n4,.int .i64 q] 5 eO false]):=.bJ (by rw[ak];exact aq) fun b hb=>ai hb
 have hF:=mS h1;rw[hf]at hF;obtain⟨h2,s2⟩:=h1.rG (c':=c.fault er q) rfl rfl rfl rfl rfl;have h3:=h2.bump 0;have jr:=mS h3;have he':((c.fault er q).fe=0)=False:=eq_false he;rw[he']at jr;have hg:=h1.g;have hb:=h1.lt _ (.inl rfl);unfold j0 at hg;unfold j0 at jr;simp only[CS.fault]at jr;simp only[aT,hF,jr,hg,hb,fu,fh,ao,simprocAttr]at hX;exact⟨_,hX.symm,h3.bump 0,s1.trans (s2.trans (.bJ (ji aq aq) fun _ _=>rfl))⟩
theorem Ck.cells(h:Ck e o m fv vv sb mb c L P ov kv){i:Nat}{x:Nv}(hx:e.xs[i]?=some x):m.get e.lb=.cells (mO e.xs) 5 e.lt e.lr/\e.lb<m.next/\idx e.xs.length (.int .i64 (i:Int))=some i/\(mO e.xs)[i*5]?=some (.int .i64 x.d.kind)/\(mO e.xs)[i*5+1]?=some x.kv/\(mO e.xs)[i*5+2]?=some (.int .i64 x.d.n)/\(mO e.xs)[i*5+3]?=some (.str x.d.s)/\partOf (some 5) (mO e.xs) (i*5)=some (.agg [.int .i64 x.d.kind,x.kv,.int .i64 x.d.n,.str x.d.s,.int .i64 x.d.pos]):=by
 obtain⟨a,b,c',d,_,f⟩:=tj hx;exact⟨h.nd.g,h.nd.lt,ap (mu.1 hx).1,a,b,c',d,f⟩
theorem Ck.d(h:Ck e o m fv vv sb mb c L P ov kv){i:Nat}{x:Nv}(hx:e.xs[i]?=some x):dZ e.l i=x.d:=nc (by unfold CE.l;rw[List.getElem?_map,hx];rfl)
theorem Eg(h:Ck e o m fv vv sb mb c L P ov kv)(hf:c.fe=0)(hd:1<=c.X.D){i:Nat}{x:Nv}(hx:e.xs[i]?=some x)(hl:pd x.d.s c.X.V=[]){X:Option Fin}(hX:run U pN [.ptr e.cb 0,.int .i64 (i:Int)] m=X) :
  ∃m' k,X=some (.ret (.int .i64 k) m')/\Ck e o m' fv vv sb mb (c.fault 9 x.d.pos) L P ov kv/\bO e m m':=by
 rw[cf (by simp[cD])]at hX;have hg:=h.g;have hb:=h.lt _ (.inl rfl);obtain⟨gl,ll,eC,q1,q2,q3,q4,q5⟩:=h.cells hx;unfold j0 CE.lv at hg;simp only[cD,hg,hb,gl,ll,eC,q4,ao,simprocAttr]at hX;generalize hC:run U kj _ _=C at hX;obtain⟨k,hk⟩:=aa3 (h.bump _).sc hd hl;obtain rfl:=hC.symm.trans hk;clear hC hk;simp only[hg,hb,gl,ll,eC,q5,ao,simprocAttr]at hX;generalize hC:run U cA _ _=C at hX;obtain⟨m',rfl,h2,s2⟩:=Ns ((h.bump _).bump _) hf (by decide) hC;clear hC;simp only[ao,simprocAttr]at hX;exact⟨m',_,hX.symm,h2,(bO.bump (k:=20)).trans ((bO.bump (k:=k)).trans s2)⟩
theorem A7(h:Ck e o m fv vv sb mb c L P ov kv)(hf:c.fe=0)(hd:1<=c.X.D){i:Nat}{x:Nv}(hx:e.xs[i]?=some x){l:List Pv}{v:Pv}(hl:pd x.d.s c.X.V=l++[v])(zk:l.length<1000000){X:Option Fin}(hX:run U pN [.ptr e.cb 0,.int .i64 (i:Int)] m=X) :
  ∃m',X=some (.ret (.int .i64 v.kind) m')/\Ck e o m' fv vv sb mb {c with S:=c.S.set i v.slot} L P ov kv/\bO e m m':=by
 rw[cf (by simp[cD])]at hX;have hg:=h.g;have hb:=h.lt _ (.inl rfl);obtain⟨gl,ll,eC,q1,q2,q3,q4,q5⟩:=h.cells hx;unfold j0 CE.lv CE.row at hg;simp only[cD,hg,hb,gl,ll,eC,q4,ao,simprocAttr]at hX;generalize hC:run U kj _ _=C at hX;obtain⟨k,hk⟩:=Xn (h.bump _).sc hd hl zk;obtain rfl:=hC.symm.trans hk;clear hC hk;simp only[hg,hb,gl,ll,eC,q5,ao,simprocAttr]at hX;generalize hC:run U cA _ _=C at hX;obtain⟨m',rfl,n2,k2⟩:=Ho ((h.bump _).bump _) hC;clear hC;have s0:bO e m m':=.bJ (ji (ji aq aq) n2) fun b hb=>k2 b (cQ hb (ji aq aq))
 have h2:=h.same s0.n fun b hb=>k2 b (cQ hb (ji aq aq))
 have kI:=h2.g;have mC:=h2.lt _ (.inl rfl);have hz:=h2.gz;have hzl:=h2.lt _ (.inr (.inr (.inl rfl)));have kh:i<c.S.length:=by rw[h2.len.2.1];exact(mu.1 hx).1
 have kg:i+1<=(is c.S).length:=by rw[eM];exact kh
 have fm:=fX (x:=v.slot) kh;obtain⟨h3,s3⟩:=h2.Jc (i:=i) (x:=v.slot);unfold j0 CE.lv CE.row at kI;simp only[hf,fu,kI,mC,hz,hzl,eC,kg,fm,Nat.mul_one,ao,simprocAttr]at hX;exact⟨_,hX.symm,h3,s0.trans s3⟩
end
end
section
theorem Ob{A B':List Int}{t t':Nat}{nl nl':Bool}(hl:A.length<1000000000)(he:B'.length=A.length){m0:Mem}{fr:Fr}(h0:fr.get 0=row nl t 1 (ints A))(h1:fr.get 1=row nl' t' 1 (ints B'))(IH:fr.get 12=.int .i64 (A.length:Int))(h13:fr.get 13=.int .i64 0)(hd:fr.defers=[]) :
  ∃o,exec U (.loop dA) fr m0=some o/\((A=B'/\∃fr' m',o=.exit 0 fr' m'/\fr'.defers=[])\/(A≠B'/\∃fr' m',o=.ret fr' m'/\fr'.get 4=.bool false/\fr'.defers=[])):=by
 refine dr (σ:=Nat) (fun i fr m=>i<=A.length/\A.take i=B'.take i/\fr.get 0=row nl t 1 (ints A)/\fr.get 1=row nl' t' 1 (ints B')/\fr.get 12=.int .i64 (A.length:Int)/\fr.get 13=.int .i64 (i:Int)/\fr.defers=[]) (fun i=>A.length- i) _ ?_ 0 fr m0 ⟨nZ _,rfl,h0,h1,IH,h13,hd⟩
 rintro i fr m ⟨hi,ht,h0,h1,IH,h13,hd⟩;generalize hX:exec U dA fr m=X;by_cases aH:i<A.length
 ·have hc:(i:Int)<(A.length:Int):=by omega
  have zj:i<B'.length:=by omega
  have hg:A[i]?=some A[i]:=jE aH;have uE:B'[i]?=some B'[i]:=jE zj;have gP:=aZ (i:=i) (by omega);have e1:A.take (i+1)=A.take i++[A[i]]:=List.take_succ_eq_append_getElem aH;have e2:B'.take (i+1)=B'.take i++[B'[i]]:=List.take_succ_eq_append_getElem zj;by_cases PN:A[i]=B'[i]
  ·rw[PN]at e1 hg;generalize B'[i]=b at *;simp only[dA,h0,h1,IH,h13,hd,hc,hg,uE,aH,zj,gP,he,ap,gh,aF,ao,simprocAttr]at hX;subst hX;exact bB (i+1) (by omega) ⟨aH,by rw[e1,e2,ht],by simp[h0,h1,IH,hd,ay]⟩
  ·have fR:A≠B':=fun q=>by subst q;exact PN rfl
   generalize A[i]=a at *;generalize B'[i]=b at *;simp only[dA,h0,h1,IH,h13,hd,hc,hg,uE,aH,zj,gP,he,PN,ap,gh,aF,ao,simprocAttr]at hX;subst hX;exact iD (.inr ⟨fR,_,_,rfl,by simp[hd,ay]⟩)
 ·have hc:¬((i:Int)<(A.length:Int)):=by omega
  simp only[dA,h0,h1,IH,h13,hd,hc,aF,ao,simprocAttr]at hX;subst hX;have:A=B':=by rw[uP (by omega),uP (by omega)]at ht;exact ht
  exact bK (.inl ⟨this,_,_,rfl,by simp[hd,ay]⟩)
theorem SP{A B':List Int}{t t':Nat}{nl nl':Bool}(hl:A.length<1000000000)(m:Mem):∃m',run U qY [row nl t 1 (ints A),row nl' t' 1 (ints B')] m=some (.ret (bo (A=B')) m'):=by
 rw[cf (by simp[dV])];generalize hL:exec (UT B K) (ar.loop dA)=L;by_cases he:B'.length=A.length
 ·generalize hY:pI _ _=Y;simp only[dV,aF,he,ao,simprocAttr]at hY;subst hL;generalize hX:exec _ (.loop dA) _ _=X at hY;obtain⟨o,rfl,h⟩:=cG hX (Ob (A:=A) (B':=B') (nl:=nl) (t:=t) (nl':=nl') (t':=t') hl he (by simp[ay]) (by simp[ay]) (by simp[ay]) (by simp[ay]) (by simp[ay]));rcases h with⟨q,fr',m',rfl,hd⟩|⟨q,fr',m',rfl,h4,hd⟩
  ·simp only[hd,ao,simprocAttr]at hY;exact⟨_,by rw[<- hY,gQ q]⟩
  ·simp only[hd,h4,ao,simprocAttr]at hY;exact⟨_,by rw[<- hY,ij q]⟩
 ·have he':¬((A.length:Int)=(B'.length:Int)):=by omega
  have fR:A≠B':=fun q=>he (by rw[q])
  generalize hY:pI _ _=Y;simp only[dV,aF,he',ao,simprocAttr]at hY;exact⟨_,by rw[<- hY,ij fR]⟩
theorem ma{A B':List Int}{t t':Nat}{nl nl':Bool}(hl:A.length<1000000000):bA B K dx [row nl t 1 (ints A),row nl' t' 1 (ints B')]=some (bo (A=B')):=by
 rw[dY (by simp[kT])];generalize hX:YL _=X;simp only[kT,ao,simprocAttr]at hX;generalize hC:run U qY _ _=C at hX;obtain⟨m',hk⟩:=SP (A:=A) (B':=B') (t:=t) (t':=t') (nl:=nl) (nl':=nl') hl _;obtain rfl:=hC.symm.trans hk;simp only[ao,simprocAttr]at hX;exact hX.symm
theorem Ti{op:Int}{a b:Int}{t:Nat}{nl:Bool}(h1:1<=op):bA B K vO [.int .i64 op,row nl t 1 (ints [a,b])]=some (.tuple [.int .i64 (if op<=8 then 2 else 1),bo (yn op a b)]):=by
 rw[dY (by simp[dF])];have e22:bA B K dx [row nl 1 1 (ints [a,b]),.fz 2 1 [[.int .i64 2],[.int .i64 2]]]=some (bo (a=2/\b=2)):=by
  have h:=ma (A:=[a,b]) (B':=[2,2]) (t:=1) (t':=2) (nl:=nl) (nl':=false) (by simp);rw[show ([a,b]=[(2:Int),2])=(a=2/\b=2)by simp]at h;exact h
 have e11:bA B K dx [row nl 1 1 (ints [a,b]),.fz 2 1 [[.int .i64 1],[.int .i64 1]]]=some (bo (a=1/\b=1)):=by
  have h:=ma (A:=[a,b]) (B':=[1,1]) (t:=1) (t':=2) (nl:=nl) (nl':=false) (by simp);rw[show ([a,b]=[(1:Int),1])=(a=1/\b=1)by simp]at h;exact h
 have i0:idx 2 (.int .i64 0)=some 0:=rfl;have i1:idx 2 (.int .i64 1)=some 1:=rfl;have hl:(ints [a,b]).length=2:=rfl;have g0:(ints [a,b])[0]?=some [.int .i64 a]:=rfl;have g1:(ints [a,b])[1]?=some [.int .i64 b]:=rfl;have vZ:eQ (eA 2 [.int .i64 0]) [(0,1,.int .i64 2),(1,1,.int .i64 2)]=some [.int .i64 2,.int .i64 2]:=by kernel_rfl
 have eH:eQ (eA 2 [.int .i64 0]) [(0,1,.int .i64 1),(1,1,.int .i64 1)]=some [.int .i64 1,.int .i64 1]:=by kernel_rfl
 have z2:∀m:Mem,fY (ext m [.cells [.int .i64 2,.int .i64 2] 1 3 false]) (.slice (nb m.next 0) 0 2 (some 2))=some (.fz 0 1 [[.int .i64 2],[.int .i64 2]]):=fun m=>
  fo (els:=ints [2,2]) (e:=1) (cap:=some 2) (ty:=3) (ro:=false) (by rw[aw rfl (by simp)];rfl) (jJ _) (fJ _) rfl
 have z1:∀m:Mem,fY (ext m [.cells [.int .i64 1,.int .i64 1] 1 3 false]) (.slice (nb m.next 0) 0 2 (some 2))=some (.fz 0 1 [[.int .i64 1],[.int .i64 1]]):=fun m=>
  fo (els:=ints [1,1]) (e:=1) (cap:=some 2) (ty:=3) (ro:=false) (by rw[aw rfl (by simp)];rfl) (jJ _) (fJ _) rfl
 unfold yn;by_cases q1:op=1
 ·subst q1;simp only[dF,iE,oO,vZ,Nat.mul_one,z2,e22,ao,simprocAttr]
 ·by_cases q2:op=2
  ·subst q2;simp only[dF,iE,oO,vZ,Nat.mul_one,z2,e22,ao,simprocAttr]
  ·by_cases q3:op=3
   ·subst q3;simp only[dF,i0,i1,hl,g0,g1,ao,simprocAttr]
   ·by_cases q4:op=4
    ·subst q4;simp only[dF,i0,i1,hl,g0,g1,ao,simprocAttr]
    ·by_cases q5:op=5\/op=6\/op=7\/op=8
     ·rcases q5 with rfl|rfl|rfl|rfl
      all_goals
       simp only[dF,iE,oO,eH,Nat.mul_one,z1,e11,ao,simprocAttr]
     ·have p5:¬op=5:=fun q=>q5 (.inl q)
      have p6:¬op=6:=fun q=>q5 (.inr (.inl q))
      have p7:¬op=7:=fun q=>q5 (.inr (.inr (.inl q)))
      have p8:¬op=8:=fun q=>q5 (.inr (.inr (.inr q)))
      rw[if_neg (show ¬op<=8 by omega),if_neg (show ¬op<=2 by omega),if_neg (show ¬op<=4 by omega)];simp only[dF,q1,q2,q3,q4,p5,p6,p7,p8,iE,oO,eH,Nat.mul_one,z1,e11,ao,simprocAttr]
end
section
def uM(e:CE)(m:Mem)(v:EV)(xs:List Int):Prop:=(xs=[]/\(v=.aa\/(∃b o c,v=.slice b o 0 c)\/∃t,v=.fz t 1 []))\/∃b c t ro rest,v=.slice b 0 xs.length c/\m.get b=.cells (is (xs++rest)) 1 t ro/\b<m.next/\¬e.W b
theorem uM.kA{e:CE}{m:Mem}{v:EV}{xs:List Int}(h:uM e m v xs):∀M:Mem,Ev.kA v M=some (.val (.int .i64 (xs.length:Int)) M):=fun M=>by
 rcases h with⟨rfl,rfl|⟨b,o,c,rfl⟩|⟨t,rfl⟩⟩|⟨b,c,t,ro,rest,rfl,_⟩<;>rfl
theorem uM.cU{e:CE}{m m':Mem}{v:EV}{xs:List Int}(h:uM e m v xs)(st:bO e m m'):uM e m' v xs:=by
 rcases h with h|⟨b,c,t,ro,rest,e1,g,l,w⟩
 ·exact .inl h
 ·exact .inr ⟨b,c,t,ro,rest,e1,(st.k b l w).trans g,cQ l st.n,w⟩
theorem take_set{l:List Int}{j:Nat}{k:Int}(h:j<l.length):(l.set j k).take (j+1)=l.take j++[k]:=by
 rw[List.take_succ_eq_append_getElem (by rw[List.length_set];exact h),List.getElem_set_self,List.take_set,List.set_eq_of_length_le (by rw[List.length_take];omega)]
def jz(c d:CS):Prop:=c.fe=d.fe/\c.fp=d.fp/\(c.fe=0->c=d)
theorem jz.refl{c:CS}:jz c c:=⟨rfl,rfl,fun _=>rfl⟩
structure Fit(e:CE)(c:CS):Prop where
 D:1<=c.X.D
 V:c.X.V.length<1000000
 F:∀x∈c.F,x∈(dZ e.l (e.l.length- 1)).kids
 n:c.F.length<1000000
theorem Fit.same{e:CE}{c c':CS}(h:Fit e c)(s:gI c c'):Fit e c':=⟨by rw[s.X];exact h.D,by rw[s.X];exact h.V,by rw[s.F];exact h.F,by rw[s.F];exact h.n⟩
def Yp(e:CE)(f:Nat):Prop:=∀{o:Nat->Part} {m:Mem} {fv vv:EV} {sb mb:Nat} {c:CS} {L:List (cH×EV)} {P:cH->EV} {ov kv:EV} {i:Nat} {X:Option Fin},Ck e o m fv vv sb mb c L P ov kv->c.fe=0->Fit e c->i<e.xs.length->i<f->lu (dZ e.l i).kind->run U pO [.ptr e.cb 0,.int .i64 (i:Int)] m=X->∃m' c' k,X=some (.ret (.int .i64 k) m')/\Ck e o m' fv vv sb mb c' L P ov kv/\bO e m m'/\gI c c'/\jz c' (qi e.l f i c)/\(c'.fe=0->k=c'.K.getD i 0)
section
variable {e:CE} {o o':Nat->Part} {m m' M0:Mem} {fv vv:EV} {sb mb:Nat} {c c' c0:CS} {L:List (cH×EV)} {P:cH->EV} {ov kv:EV}
theorem Ck.high(h0:Ck e o M0 fv vv sb mb c0 L P ov kv)(h:Ck e o m fv vv sb mb c L P ov kv)(hX:c.X=c0.X)(hF:c.F=c0.F)(st:bO e M0 m){rb:Nat}(hr:M0.next<=rb){x:bX}:Ck e o (m.set rb x) fv vv sb mb c L P ov kv/\bO e M0 (m.set rb x):=by
 have hw:∀b,e.W b->b≠rb:=fun b hb=>by have:=h0.lt b hb;omega
 have s2:bO e M0 (m.set rb x):=⟨by rw[aj];exact st.n,fun b hb w=>by rw[af (by omega)];exact st.k b hb w⟩;exact⟨h0.O1 s2 ((af (hw _ (.inl rfl))).trans h.g) ((af (hw _ (.inr (.inl rfl)))).trans h.gk) ((af (hw _ (.inr (.inr (.inl rfl))))).trans h.gz) ((af (hw _ (.inr (.inr (.inr rfl))))).trans h.ga) h.len hX hF,s2⟩
theorem V4{f i n:Nat}(ih:Yp e f)(hk:fW e.l)(hu:(dJ e.l).Nodup){xs:List Int}(sR:xs=(dZ e.l i).kids.take n)(hex:∀x∈xs,lu (ee e.l x).kind)(hi:i<f+1)(tF:e.xs.length<1000000)(hl:xs.length<1000000)(h0:Ck e o M0 fv vv sb mb c0 L P ov kv)(hD:Fit e c0){v:EV}(hv:uM e M0 v xs){rb:Nat}(hrb:M0.next<=rb)
  {m0:Mem} {fr:Fr} (hm:Ck e o m0 fv vv sb mb c0 L P ov kv) (st0:bO e M0 m0) (gr:m0.get rb=.cells (is (List.replicate xs.length 0)) 1 3 false) (lr:rb<m0.next)
  (f0:fr.get 0=.ptr e.cb 0) (f5:fr.get 5=.slice rb 0 xs.length (some xs.length)) (f11:fr.get 11=v) (f12:fr.get 12=.int .i64 (xs.length:Int)) (f13:fr.get 13=.int .i64 0) (fd:fr.defers=[]) :
  ∃ou,exec U (.loop dj) fr m0=some ou/\∃fr' m' c' ks,ou=.exit 0 fr' m'/\Ck e o m' fv vv sb mb c' L P ov kv/\bO e M0 m'/\gI c0 c'/\jz c' (aO (fun x c=>qi e.l f x.toNat c) xs c0)/\m'.get rb=.cells (is ks) 1 3 false/\rb<m'.next/\ks.length=xs.length/\(c'.fe=0->ks=kk c'.K xs)/\fr'.get 5=.slice rb 0 xs.length (some xs.length)/\fr'.defers=[]:=by
 refine dr (σ:=Nat×CS×List Int) (fun s fr m=>s.1<=xs.length/\Ck e o m fv vv sb mb s.2.1 L P ov kv/\bO e M0 m/\gI c0 s.2.1/\jz s.2.1 (aO (fun x c=>qi e.l f x.toNat c) (xs.take s.1) c0)/\m.get rb=.cells (is s.2.2) 1 3 false/\rb<m.next/\s.2.2.length=xs.length/\(s.2.1.fe=0->s.2.2.take s.1=kk s.2.1.K (xs.take s.1))/\fr.get 0=.ptr e.cb 0/\fr.get 5=.slice rb 0 xs.length (some xs.length)/\fr.get 11=v/\fr.get 12=.int .i64 (xs.length:Int)/\fr.get 13=.int .i64 (s.1:Int)/\fr.defers=[]) (fun s=>xs.length- s.1) _ ?_ (0,c0,List.replicate xs.length 0) fr m0 ⟨nZ _,hm,st0,.refl,.refl,gr,lr,by simp,fun _=>rfl,f0,f5,f11,f12,f13,fd⟩
 rintro⟨j,c,ks⟩ fr m ⟨hj,h,st,se,eq,gr,lr,kl,kt,f0,f5,f11,f12,f13,fd⟩;simp only at hj h st se eq gr lr kl kt f0 f5 f11 f12 f13 fd;generalize hX:exec U dj fr m=X;by_cases aH:j<xs.length
 ·have hc:(j:Int)<(xs.length:Int):=by omega
  have gP:=aZ (i:=j) (by omega);have hg:xs[j]?=some xs[j]:=jE aH;have e1:xs.take (j+1)=xs.take j++[xs[j]]:=List.take_succ_eq_append_getElem aH;have nV:xs[j]∈xs:=oX aH;have aht:(dZ e.l i).kids[j]?=some xs[j]:=by
   rw[<- hg,sR,List.getElem?_take,if_pos];have:xs.length<=n:=by rw[sR,List.length_take];exact Nat.min_le_left ..
   omega
  generalize xs[j]=y at *;have qg:y∈(dZ e.l i).kids:=List.mem_of_getElem? aht;obtain⟨y0,yi,il⟩:=wR hk qg;have hyc:((y.toNat:Nat):Int)=y:=Int.toNat_of_nonneg y0;have xg:e.l.length=e.xs.length:=by unfold CE.l;rw[List.length_map]
  rcases hv.cU st with⟨q,_⟩|⟨b,cp,t,ro,rest,rfl,gb,bl,bw⟩
  ·rw[q]at aH;cases aH
  have tM:(is (xs++rest))[j]?=some (.int .i64 y):=by rw[gp,rB aH,hg];rfl
  have hF:=mS h;have eC:=ap (n:=xs.length) (i:=j) (k:=.i64) aH;by_cases hf:c.fe=0
  ·rw[show bo (c.fe=0)=.bool true from gQ hf]at hF;simp only[dj,f0,f5,f11,f12,f13,fd,hc,gb,bl,eC,tM,hF,Nat.mul_one,ao,simprocAttr]at hX;generalize hC:run U pO [.ptr e.cb 0,.int .i64 y] (bump m 0)=C at hX;rw[<- hyc]at hC;obtain⟨m2,c2,k,rfl,h2,s2,se2,BF,Bx⟩:=ih (h.bump 0) hf (hD.same se) (by omega) (by omega) (hex y nV) hC;clear hC;have Un:bO e M0 m2:=(st.trans bO.bump).trans s2;have grb:m2.get rb=.cells (is ks) 1 3 false:=(s2.k rb (by rw[au];unfold nb;omega) fun w=>by have:=h0.lt _ w;omega).trans gr;have lrb:rb<m2.next:=by have:=s2.n;rw[au]at this;unfold nb at this;omega
   have kh:j<ks.length:=by omega
   have kg:j+1<=(is ks).length:=by rw[eM];exact kh
   have fm:=fX (x:=k) kh;simp only[f0,f5,f11,f12,f13,fd,grb,lrb,kg,fm,gP,Nat.mul_one,ao,simprocAttr]at hX;subst hX;obtain⟨h3,Ts⟩:=h0.high h2 ((se2.X).trans se.X) ((se2.F).trans se.F) Un hrb (x:=.cells (is (ks.set j k)) 1 3 false);have uF:c=aO (fun x c=>qi e.l f x.toNat c) (xs.take j) c0:=eq.2.2 hf;have oD:aO (fun x c=>qi e.l f x.toNat c) (xs.take (j+1)) c0=qi e.l f y.toNat c:=by rw[e1,jF,<- uF,if_pos hf]
   refine bB (j+1,c2,ks.set j k) (by simp only;omega) ⟨aH,h3,Ts,se.trans se2,by simp only;rw[oD];exact BF,aN,by rw[aj];exact lrb,by simp only[List.length_set];exact kl,fun q=> ?_,by simp[f0,f5,f11,f12,fd,ay]⟩
   simp only at q⊢;have vo:=BF.2.2 q;have bT:kk (qi e.l f y.toNat c).K (xs.take j)=kk c.K (xs.take j):=by
    have:=ZV (f:=f) (c:=c) hk hu aht;have e3:xs.take j=(dZ e.l i).kids.take j:=by
     rw[sR,List.take_take];have:xs.length<=n:=by rw[sR,List.length_take];exact Nat.min_le_left ..
     rw[Nat.min_eq_left (by omega)]
    rw[e3];exact this
   rw[e1,ZW,vo,bT,<- kt hf,<- vo,<- Bx q];exact take_set kh
  ·rw[show bo (c.fe=0)=.bool false from ij hf]at hF;simp only[dj,f0,f5,f11,f12,f13,fd,hc,gb,bl,eC,tM,hF,gP,Nat.mul_one,ao,simprocAttr]at hX;subst hX;have oD:aO (fun x c=>qi e.l f x.toNat c) (xs.take (j+1)) c0=aO (fun x c=>qi e.l f x.toNat c) (xs.take j) c0:=by rw[e1,jF,if_neg (by rw[<- eq.1];exact hf)]
   exact bB (j+1,c,ks) (by simp only;omega) ⟨aH,h.bump 0,st.trans bO.bump,se,by simp only;rw[oD];exact eq,gr,by rw[au];unfold nb;omega,kl,fun q=>absurd q hf,by simp[f0,f5,f11,f12,fd,ay]⟩
 ·have hc:¬((j:Int)<(xs.length:Int)):=by omega
  simp only[dj,f12,f13,fd,hc,ao,simprocAttr]at hX;subst hX;have ej:xs.take j=xs:=uP (by omega);rw[ej]at eq kt;rw[uP (by omega)]at kt;exact bK ⟨_,_,c,ks,rfl,h,st,se,eq,gr,lr,kl,kt,by simp[f5,fd,ay]⟩
theorem GI(n:Nat):eA n [.int .i64 0]=is (List.replicate n 0):=by
 unfold eA is
 induction n with
 |zero=>rfl
 |succ n ih=>simp only[List.replicate_succ,List.flatten_cons,List.map_cons,ih];rfl
theorem tC{f i n:Nat}(ih:Yp e f)(hk:fW e.l)(hu:(dJ e.l).Nodup){xs:List Int}(sR:xs=(dZ e.l i).kids.take n)(hex:∀x∈xs,lu (ee e.l x).kind)(hi:i<f+1)(tF:e.xs.length<1000000)(hl:xs.length<1000000)(h:Ck e o m fv vv sb mb c L P ov kv)(hD:Fit e c){v:EV}(hv:uM e m v xs){X:Option Fin}(hX:run U u7 [.ptr e.cb 0,v] m=X) :
  ∃m' c' rb ks,X=some (.ret (.slice rb 0 xs.length (some xs.length)) m')/\Ck e o m' fv vv sb mb c' L P ov kv/\bO e m m'/\gI c c'/\jz c' (aO (fun x c=>qi e.l f x.toNat c) xs c)/\m'.get rb=.cells (is ks) 1 3 false/\m.next<=rb/\rb<m'.next/\ks.length=xs.length/\(c'.fe=0->ks=kk c'.K xs):=by
 rw[cf (by simp[dB])]at hX;have Kj:((xs.length:Nat):Int)=Int.ofNat xs.length:=rfl;have k1:xs.length.ble xs.length=true:=sx (cR _);have k2:xs.length.ble room=true:=sx (by unfold room;omega);have hlen:=hv.kA;simp only[dB,hlen,Kj,k1,k2,GI,ao,simprocAttr]at hX;generalize hM:ext m [bX.cells (is (List.replicate xs.length 0)) 1 3 false]=M at hX;have s1:bO e m M:=.bJ (by rw[<- hM,ak];exact aq) fun b hb=>by rw[<- hM];exact ai hb
 have h1:Ck e o M fv vv sb mb c L P ov kv:=h.same s1.n fun b hb=>by rw[<- hM];exact ai hb
 have g1:M.get m.next=.cells (is (List.replicate xs.length 0)) 1 3 false:=by
  have hnn:nb m.next 0=m.next:=rfl;rw[<- hM,<- hnn,aw rfl (by simp)];rfl
 have l1:m.next<M.next:=by rw[<- hM,ak];unfold nb;simp
 generalize hY:exec _ (.loop dj) _ _=Y at hX;obtain⟨ou,rfl,fr',m',c',ks,rfl,h2,s2,se,eq,g2,l2,kl,py,f5,fd⟩:=cG hY (V4 ih hk hu sR hex hi tF hl h hD hv (cR _) h1 s1 g1 l1 (by simp[ay]) (by simp[ay]) (by simp[ay]) (by simp only[Kj,ay,Nat.reduceBEq]) (by simp[ay]) (by simp[ay]));simp only[f5,fd,ao,simprocAttr]at hX;exact⟨_,c',_,ks,hX.symm,h2,s2,se,eq,g2,cR _,l2,kl,py⟩
end
end
section
section
variable {e:CE} {o o':Nat->Part} {m m' M0:Mem} {fv vv:EV} {sb mb:Nat} {c c' c0:CS} {L:List (cH×EV)} {P:cH->EV} {ov kv:EV}
theorem Ck.at(h:Ck e o m fv vv sb mb c L P ov kv){x:Int}(h0:0<=x)(hx:x.toNat<e.xs.length):∃y:Nv,y.d=ee e.l x/\idx e.xs.length (.int .i64 x)=some x.toNat/\(mO e.xs)[x.toNat*5]?=some (.int .i64 y.d.kind)/\(mO e.xs)[x.toNat*5+1]?=some y.kv/\(mO e.xs)[x.toNat*5+2]?=some (.int .i64 y.d.n)/\(mO e.xs)[x.toNat*5+3]?=some (.str y.d.s)/\partOf (some 5) (mO e.xs) (x.toNat*5)=some (.agg [.int .i64 y.d.kind,y.kv,.int .i64 y.d.n,.str y.d.s,.int .i64 y.d.pos])/\y∈e.xs:=by
 have hg:e.xs[x.toNat]?=some e.xs[x.toNat]:=jE hx;obtain⟨a1,a2,a3,a4,a5,a6,a7,a8⟩:=h.cells hg;refine⟨_,(h.d hg).symm,?_,a4,a5,a6,a7,a8,oX hx⟩
 rw[<- a3];congr 2;omega
theorem Ta(h:Ck e o m fv vv sb mb c L P ov kv){pb nb t t':Nat}{n1 n2 n3 n5:EV}{s:cH}(hp:m.get pb=.cells [.ptr e.cb 0] 1 t false)(pl:pb<m.next)(hn:m.get nb=.cells [n1,n2,n3,.str s,n5] 5 t' false)(nl:nb<m.next){x:Int}(h0:0<=x)(hx:x.toNat<e.xs.length):run U iC [.int .i64 x,.ptr pb 0,.ptr nb 0] m=some (.ret (bo ((ee e.l x).s=s)) (bump m 12)):=by
 rw[cf (by simp[dc])];obtain⟨y,hy,a1,a2,a3,a4,a5,a6,a7⟩:=h.at h0 hx;have hg:=h.g;have hb:=h.lt _ (.inl rfl);have gl:=h.nd.g;have ll:=h.nd.lt;unfold j0 CE.lv at hg;rw[<- hy];simp only[dc,hp,pl,hn,nl,hg,hb,gl,ll,a1,a5,ao,simprocAttr]
theorem AZ(h:Ck e o m fv vv sb mb c L P ov kv):uM e m fv c.F:=by
 rcases h.fn.is with⟨e1,e2,_⟩|⟨b,cap,t,rfl,h1,h2,h3,h4⟩
 ·exact .inl ⟨List.eq_nil_of_length_eq_zero e2,.inl e1⟩
 ·refine .inr ⟨b,cap,t,false,[],rfl,by rw[List.append_nil];exact h3,h2,(h.ff b fun q=>q b 0 _ cap rfl rfl).1⟩
theorem PW{F:List Int}{s:cH}{l:List Nd}{i:Nat}{y:Int}(hg:F[i]?=some y)(hs:(ee l y).s=s)(hn:∀j:Nat,j<i->∀x,F[j]?=some x->(ee l x).s≠s):uI l F s=some i:=by
 unfold uI;obtain⟨hi,hy⟩:=mu.1 hg;rw[List.findIdx?_eq_some_iff_getElem];refine⟨hi,by rw[hy];simpa using hs,fun j hj=> ?_⟩
 have:=hn j hj F[j] (jE (by omega));simpa using this
theorem HW{F:List Int}{s:cH}{l:List Nd}(hn:∀x∈F,(ee l x).s≠s):uI l F s=none:=by
 unfold uI;rw[List.findIdx?_eq_none_iff];intro x hx;simpa using hn x hx
theorem aa2(h:Ck e o m fv vv sb mb c L P ov kv)(hF:∀x∈c.F,0<=x/\x.toNat<e.xs.length)(hn:c.F.length<1000000){pb nb t t':Nat}{n1 n2 n3 n5:EV}{s:cH}(hp:m.get pb=.cells [.ptr e.cb 0] 1 t false)(pl:pb<m.next)(Wu:m.get nb=.cells [n1,n2,n3,.str s,n5] 5 t' false)(nl:nb<m.next){fr:Fr}(f0:fr.get 0=fv)(f1:fr.get 1=.func iC [] [.ptr pb 0,.ptr nb 0])(f7:fr.get 7=.int .i64 (c.F.length:Int))(f8:fr.get 8=.int .i64 0)(fd:fr.defers=[]) :
  ∃ou,exec U (.loop dR) fr m=some ou/\∃m',m.next<=m'.next/\(∀b,m'.get b=m.get b)/\((∃i:Nat,uI e.l c.F s=some i/\i<c.F.length/\∃fr',ou=.ret fr' m'/\fr'.get 4=.int .i64 (i:Int)/\fr'.defers=[])\/(uI e.l c.F s=none/\∃fr',ou=.exit 0 fr' m'/\fr'.defers=[])):=by
 refine dr (σ:=Nat) (fun i fr M=>m.next<=M.next/\(∀b,M.get b=m.get b)/\i<=c.F.length/\(∀j:Nat,j<i->∀x,c.F[j]?=some x->(ee e.l x).s≠s)/\fr.get 0=fv/\fr.get 1=.func iC [] [.ptr pb 0,.ptr nb 0]/\fr.get 7=.int .i64 (c.F.length:Int)/\fr.get 8=.int .i64 (i:Int)/\fr.defers=[]) (fun i=>c.F.length- i) _ ?_ 0 fr m ⟨cR _,fun _=>rfl,nZ _,by omega,f0,f1,f7,f8,fd⟩
 rintro i fr M ⟨nx,gk,hi,iv,f0,f1,f7,f8,fd⟩;generalize hX:exec U dR fr M=X;by_cases aH:i<c.F.length
 ·have hc:(i:Int)<(c.F.length:Int):=by omega
  have gP:=aZ (i:=i) (by omega);have hg:c.F[i]?=some c.F[i]:=jE aH;have qg:c.F[i]∈c.F:=oX aH;generalize c.F[i]=y at *;have hM:=h.same nx fun b _=>gk b
  rcases AZ hM with⟨q,_⟩|⟨b,cp,t,ro,rest,rfl,gb,bl,bw⟩
  ·rw[q]at aH;cases aH
  have tM:(is (c.F++rest))[i]?=some (.int .i64 y):=by rw[gp,rB aH,hg];rfl
  have eC:=ap (n:=c.F.length) (i:=i) (k:=.i64) aH;have sJ:=Ta hM ((gk pb).trans hp) (cQ pl nx) ((gk nb).trans Wu) (cQ nl nx) (s:=s) (hF y qg).1 (hF y qg).2;simp only[dR,f0,f1,f7,f8,fd,hc,gb,bl,eC,tM,sJ,gP,Nat.mul_one,ao,simprocAttr]at hX;subst hX;have nx2:m.next<=(Ev.bump M 12).next:=ji nx aq;refine rY (fun he=>iD ⟨_,nx2,gk,.inl ⟨i,PW hg he iv,aH,_,rfl,by simp[fd,ay]⟩⟩) (fun he=>bB (i+1) (by omega) ⟨nx2,gk,aH,fun j hj x hx=> ?_,by simp[f0,f1,f7,fd,ay]⟩)
  by_cases Gj:j<i
  ·exact iv j Gj x hx
  ·obtain rfl:j=i:=by omega
   rw[hg]at hx;cases hx;exact he
 ·have hc:¬((i:Int)<(c.F.length:Int)):=by omega
  obtain rfl:i=c.F.length:=by omega
  simp only[dR,f0,f7,f8,fd,hc,ao,simprocAttr]at hX;subst hX;refine bK ⟨_,nx,gk,.inr ⟨HW fun x hx=> ?_,_,rfl,by simp[fd,ay]⟩⟩
  obtain⟨j,hj⟩:=List.getElem?_of_mem hx;exact iv j (mu.1 hj).1 x hj
theorem aeE(h:Ck e o m fv vv sb mb c L P ov kv)(hF:∀x∈c.F,0<=x/\x.toNat<e.xs.length)(hn:c.F.length<1000000){pb nb t t':Nat}{n1 n2 n3 n5:EV}{s:cH}(hp:m.get pb=.cells [.ptr e.cb 0] 1 t false)(pl:pb<m.next)(Wu:m.get nb=.cells [n1,n2,n3,.str s,n5] 5 t' false)(nl:nb<m.next){X:Option Fin}(hX:run U ur [fv,.func iC [] [.ptr pb 0,.ptr nb 0]] m=X) :
  ∃m',m.next<=m'.next/\(∀b,m'.get b=m.get b)/\((∃i:Nat,uI e.l c.F s=some i/\i<c.F.length/\X=some (.ret (.int .i64 (i:Int)) m'))\/(uI e.l c.F s=none/\X=some (.ret (.int .i64 (-1)) m'))):=by
 rw[cf (by simp[cY])]at hX;have hlen:=(AZ h).kA;simp only[cY,hlen,ao,simprocAttr]at hX;generalize hY:exec _ (.loop dR) _ _=Y at hX;obtain⟨ou,rfl,m',nx,gk,hh⟩:=cG hY (aa2 h hF hn hp pl Wu nl (by simp[ay]) (by simp[ay]) (by simp[ay]) (by simp[ay]) (by simp[ay]));refine⟨m',nx,gk,?_⟩
 rcases hh with⟨i,h1,h2,fr',rfl,f4,fd⟩|⟨h1,fr',rfl,fd⟩
 ·simp only[f4,fd,ao,simprocAttr]at hX;exact .inl ⟨i,h1,h2,hX.symm⟩
 ·simp only[fd,ao,simprocAttr]at hX;exact .inr ⟨h1,hX.symm⟩
end
end
section
section
variable {e:CE} {o o':Nat->Part} {m m' M0:Mem} {fv vv:EV} {sb mb:Nat} {c c' c0:CS} {L:List (cH×EV)} {P:cH->EV} {ov kv:EV}
theorem adI(h:Ck e o m fv vv sb mb c L P ov kv)(hf:c.fe≠0){er q:Int}{b:Bool}{n1 n2 n3 n4:EV}{X:Option Fin}(hX:run U cA [.ptr e.cb 0,.bool b,.int .i64 er,.agg [n1,n2,n3,n4,.int .i64 q]] m=X) :
  ∃m',X=some (.ret (.bool false) m')/\m.next<=m'.next/\(∀b,b<m.next->m'.get b=m.get b):=by
 cases b with
 |true=>
  obtain⟨m',rfl,a,b⟩:=Ho h hX;exact⟨m',by rw[ij hf],a,b⟩
 |false=>
 rw[cf (by simp[aT])]at hX;have hF:=mS (h.same (m':=ext m [.cells [n1,n2,n3,n4,.int .i64 q] 5 eO false]) (by rw[ak];exact aq) fun b hb=>ai hb);have jr:=mS ((h.same (m':=ext m [.cells [n1,n2,n3,n4,.int .i64 q] 5 eO false]) (by rw[ak];exact aq) fun b hb=>ai hb).bump 0);rw[ij hf]at hF jr;simp only[aT,hF,jr,ao,simprocAttr]at hX;exact⟨_,hX.symm,by simp only[au,ak];exact ji (ji aq aq) aq,fun b hb=>ai hb⟩
theorem U4(h:Ck e o m fv vv sb mb c L P ov kv){xs:List Int}(sR:∀x∈xs,0<=x/\x.toNat<e.xs.length)(hl:xs.length<1000000){v62 v2 v10:EV}(hv:uM e m v62 xs){pb t:Nat}(hp:m.get pb=.cells [.ptr e.cb 0] 1 t false)(pl:pb<m.next){fr:Fr}(f2:fr.get 2=v2)(f3:fr.get 3=.ptr pb 0)(f10:fr.get 10=v10)(f11:fr.get 11=.aa)(f62:fr.get 62=v62)(f63:fr.get 63=.int .i64 (xs.length:Int))(f64:fr.get 64=.int .i64 0)(fd:fr.defers=[]) :
  ∃ou,exec U (.loop eD) fr m=some ou/\∃fr' m' v',ou=.exit 0 fr' m'/\fr'.get 2=v2/\fr'.get 10=v10/\fr'.get 11=v'/\eI m' v' (is (xs.map fun x=>(ee e.l x).n)) xs.length 1 m.next/\m.next<=m'.next/\(∀b,b<m.next->m'.get b=m.get b)/\fr'.defers=[]:=by
 refine dr (σ:=Nat) (fun i fr M=>i<=xs.length/\m.next<=M.next/\(∀b,b<m.next->M.get b=m.get b)/\fr.get 2=v2/\fr.get 3=.ptr pb 0/\fr.get 10=v10/\(∃v,fr.get 11=v/\eI M v (is ((xs.take i).map fun x=>(ee e.l x).n)) i 1 m.next)/\fr.get 62=v62/\fr.get 63=.int .i64 (xs.length:Int)/\fr.get 64=.int .i64 (i:Int)/\fr.defers=[]) (fun i=>xs.length- i) _ ?_ 0 fr m ⟨nZ _,cR _,fun _ _=>rfl,f2,f3,f10,⟨_,f11,.inl ⟨rfl,rfl,rfl⟩,rfl⟩,f62,f63,f64,fd⟩
 rintro i fr M ⟨hi,nx,gk,f2,f3,f10,⟨v,f11,own⟩,f62,f63,f64,fd⟩;generalize hX:exec U eD fr M=X;by_cases aH:i<xs.length
 ·have hc:(i:Int)<(xs.length:Int):=by omega
  have gP:=aZ (i:=i) (by omega);have hg:xs[i]?=some xs[i]:=jE aH;have qg:xs[i]∈xs:=oX aH;have e1:xs.take (i+1)=xs.take i++[xs[i]]:=List.take_succ_eq_append_getElem aH;generalize xs[i]=y at *;have hM:=h.same nx gk;have HK:=hM.g;have hb:=hM.lt _ (.inl rfl);have gl:=hM.nd.g;have ll:=hM.nd.lt;unfold j0 CE.lv at HK;obtain⟨z,hz,a1,a2,a3,a4,a5,a6,a7⟩:=hM.at (sR y qg).1 (sR y qg).2;rcases hv with⟨q,_⟩|⟨b,cp,tt,ro,rest,rfl,gb,bl,bw⟩
  ·rw[q]at aH;cases aH
  have DS:=(gk b bl).trans gb;have bl2:=cQ bl nx;have tM:(is (xs++rest))[i]?=some (.int .i64 y):=by rw[gp,rB aH,hg];rfl
  have eC:=ap (n:=xs.length) (i:=i) (k:=.i64) aH;have hp2:=(gk pb pl).trans hp;have pl2:=cQ pl nx;obtain⟨ha,ho⟩:=iM (e:=3) (own.ext [.cells [.int .i64 z.d.n] 1 3 false]) (by rw[ak];unfold nb;omega) (kY rfl) rfl (by decide) (by unfold room;omega);have HJ:M.next<=(grow (ext M [.cells [.int .i64 z.d.n] 1 3 false]) v 3 1 (is ((xs.take i).map fun x=>(ee e.l x).n)++[.int .i64 z.d.n])).next:=by rw[gq,ak];unfold nb;omega
  have Bx:∀b,b<m.next->(grow (ext M [.cells [.int .i64 z.d.n] 1 3 false]) v 3 1 (is ((xs.take i).map fun x=>(ee e.l x).n)++[.int .i64 z.d.n])).get b=m.get b:=fun b hb=>by
   rw[oK (by rw[ak];unfold nb;omega) (own.lt (.inr hb)),ai (by omega)];exact gk b hb
  generalize hG:grow _ v 3 1 _=M2 at ha ho HJ Bx;clear hG;rw[ak,lV]at ha ho;simp only[eD,f2,f3,f10,f11,f62,f63,f64,fd,hc,eC,gP,HK,hb,gl,ll,DS,bl2,tM,hp2,pl2,a1,a4,ha,Nat.mul_one,ao,simprocAttr]at hX;subst hX;refine bB (i+1) (by omega) ⟨by omega,by omega,Bx,by simp[f2,ay],by simp[f3,ay],by simp[f10,ay],⟨_,by simp only[ay,Nat.reduceBEq];rfl,?_⟩,by simp[f62,f63,fd,ay]⟩
  rw[e1,List.map_append,List.map_cons,List.map_nil,sd,<- hz];exact ho
 ·have hc:¬((i:Int)<(xs.length:Int)):=by omega
  obtain rfl:i=xs.length:=by omega
  simp only[eD,f63,f64,fd,hc,ao,simprocAttr]at hX;subst hX;rw[List.take_length]at own;exact bK ⟨_,_,v,rfl,by simp[f2,ay],by simp[f10,ay],by simp[f11,ay],own,nx,gk,by simp[fd,ay]⟩
end
end
section
structure Shape(e:CE):Prop where
 r:jW e.l
 w:(dZ e.l (e.l.length- 1)).kind=26
 n:e.xs.length<1000000
 k:∀x∈e.xs,x.d.kids.length<1000000
 n4:e.xs.length<100000
theorem CE.Fa{e:CE}:e.l.length=e.xs.length:=List.length_map ..
theorem Pn{l:List Nd}{i:Nat}(h:i<l.length):dZ l i∈l:=by
 rw[nc (jE h)];exact oX h
theorem iR{l:List Nd}{x:Int}:kindOf l x=(ee l x).kind:=by
 unfold kindOf ee dZ;rw[List.getD_eq_getElem?_getD];cases l[x.toNat]?<;>rfl
theorem Shape.kids{e:CE}(s:Shape e){i:Nat}(h:i<e.xs.length):cJ e.l (dZ e.l i):=(s.r.1.2.2 _ (Pn (by rw[CE.Fa];exact h))).2
theorem Shape.own{e:CE}(s:Shape e){i:Nat}(h:i<e.xs.length):xK (dZ e.l i):=(s.r.1.2.2 _ (Pn (by rw[CE.Fa];exact h))).1
theorem Shape.sQ{e:CE}(s:Shape e){i:Nat}{x:Int}(h:x∈(dZ e.l i).kids):0<=x/\x.toNat<i/\x.toNat<e.xs.length/\i<e.xs.length:=by
 have:=wR s.r.1.1 h;rw[CE.Fa]at this;omega
theorem Shape.fn{e:CE}(s:Shape e){x:Int}(h:x∈(dZ e.l (e.l.length- 1)).kids):(ee e.l x).kind=25/\1<=(ee e.l x).kids.length/\(∀y∈(ee e.l x).kids.dropLast,(ee e.l y).kind=24)/\(∀y∈(ee e.l x).kids.getLast?,(ee e.l y).kind=23)/\(ee e.l x).kids.length<=9:=by
 obtain⟨a,b,c,d⟩:=s.sQ h;have h1:=s.kids d;unfold cJ at h1;rw[s.w]at h1;simp only[Int.reduceEq,or_self,if_false,if_true]at h1;have hk:=h1.1 x h;rw[iR]at hk;have h2:=s.kids c;unfold cJ at h2;have e:dZ e.l x.toNat=ee e.l x:=rfl;rw[e,hk]at h2;simp only[Int.reduceEq,or_self,if_false,if_true]at h2;obtain⟨⟨q1,q2,q3⟩,q4⟩:=h2;refine⟨hk,q1,fun y hy=> ?_,fun y hy=> ?_,?_⟩
 ·rw[<- iR];exact q2 y (by rw[<- List.dropLast_eq_take];exact hy)
 ·rw[<- iR];exact q4 y hy
 ·rw[List.length_take]at q3;omega
def ve(m:Mem)(N j:Nat)(B:bX):Mem:=⟨nb m.next N,(ext ⟨m.next+j,(bump m N).ja⟩ [B]).ja⟩
theorem jL{m:Mem}{N j:Nat}{B:bX}:(ve m N j B).next=nb m.next N:=rfl
theorem lI{m:Mem}{N j c:Nat}{B:bX}(hc:c<m.next):(ve m N j B).get c=m.get c:=
 ai (m:=⟨m.next+j,(bump m N).ja⟩) (by show c<m.next+j;omega)
theorem lJ{m:Mem}{N j:Nat}{B:bX}:(ve m N j B).get (nb (m.next+j) 0)=B:=
 (aw (m:=⟨m.next+j,(bump m N).ja⟩) (i:=0) rfl (by simp)).trans rfl
theorem aeF{e b n h:Nat}{c:Option Nat}(hc:c=none\/c=some n)(hh:h<=n):cW e b 0 n c none (some (.int .i64 (h:Int))) none=some (.slice b 0 h c):=by
 rcases hc with rfl|rfl
 ·exact abv hh
 ·have h1:aS (some (.int .i64 (h:Int))) n n=some h:=lm hh;unfold cW;simp only[ig,h1,Nat.zero_mul,Nat.add_zero,Nat.sub_zero];cases n.beq 0<;>rfl
theorem ME{b n h:Nat}{c:Option Nat}{m:Mem}{cs:List EV}{t:Nat}{ro:Bool}(hb:m.get b=.cells cs 1 t ro)(hc:c=none\/c=some n)(hh:h<=n):oc 1 (.slice b 0 n c) none (some (.int .i64 (h:Int))) none m=some (.val (.slice b 0 h c) m):=by
 have:=aeF (e:=1) (b:=b) hc hh;rcases hc with rfl|rfl
 ·simp only[oc,hb,Nat.beq_refl,cond_true,this];rfl
 ·simp only[oc,this];rfl
section
variable {e:CE} {o o':Nat->Part} {m m' M0:Mem} {fv vv:EV} {sb mb:Nat} {c c' c0:CS} {L:List (cH×EV)} {P:cH->EV} {ov kv:EV}
theorem X2(s:Shape e)(h:Ck e o m fv vv sb mb c L P ov kv)(hf:c.fe=0)(hF:Fit e c){i:Nat}(hi:i<e.xs.length){rb:Nat}{ks:List Int}(uW:ks.length<1000000)(hrb:m.get rb=.cells (is ks) 1 3 false)(rl:rb<m.next)(rw_:¬e.W rb){X:Option Fin}(hX:run U vN [.ptr e.cb 0,.int .i64 (i:Int),.slice rb 0 ks.length (some ks.length)] m=X) :
  ∃m' c',Ck e o m' fv vv sb mb c' L P ov kv/\bO e m m'/\((uI e.l c.F (dZ e.l i).s=none/\c'=c.fault 9 (dZ e.l i).pos/\X=some (.ret (.tuple [.int .i64 0,.bool false]) m'))\/∃f,uI e.l c.F (dZ e.l i).s=some f/\c'={c with C:=c.C.set i f}/\X=some (.ret (.tuple [.int .i64 (ee e.l (c.F.getD f 0)).n,bo (ks=(ee e.l (c.F.getD f 0)).kids.dropLast.map fun x=>(ee e.l x).n)]) m')):=by
 rw[cf (by simp[dQ])]at hX;have hx:e.xs[i]?=some e.xs[i]:=jE hi;have hd:=h.d hx;generalize e.xs[i]=y at *;obtain⟨gl,ll,eC,q1,q2,q3,q4,q5⟩:=h.cells hx;have hg:=h.g;have hb:=h.lt _ (.inl rfl);unfold j0 CE.lv at hg;rw[hd];simp only[dQ,hg,hb,gl,ll,eC,q5,ao,simprocAttr]at hX;have hM0:(ext m [bX.cells [EV.ptr e.cb 0] 1 60 false,bX.cells [EV.int .i64 y.d.kind,y.kv,EV.int .i64 y.d.n,EV.str y.d.s,EV.int .i64 y.d.pos] 5 59 false]).get (nb m.next 0)=.cells [.ptr e.cb 0] 1 60 false:=by rw[aw rfl (by simp)];rfl
 have qD:(ext m [bX.cells [EV.ptr e.cb 0] 1 60 false,bX.cells [EV.int .i64 y.d.kind,y.kv,EV.int .i64 y.d.n,EV.str y.d.s,EV.int .i64 y.d.pos] 5 59 false]).get (nb m.next 1)=.cells [EV.int .i64 y.d.kind,y.kv,EV.int .i64 y.d.n,EV.str y.d.s,EV.int .i64 y.d.pos] 5 59 false:=by rw[aw rfl (by simp)];rfl
 have we:(ext m [bX.cells [EV.ptr e.cb 0] 1 60 false,bX.cells [EV.int .i64 y.d.kind,y.kv,EV.int .i64 y.d.n,EV.str y.d.s,EV.int .i64 y.d.pos] 5 59 false]).next=m.next+2:=by rw[ak];rfl
 have hMo:∀b,b<m.next->(ext m [bX.cells [EV.ptr e.cb 0] 1 60 false,bX.cells [EV.int .i64 y.d.kind,y.kv,EV.int .i64 y.d.n,EV.str y.d.s,EV.int .i64 y.d.pos] 5 59 false]).get b=m.get b:=fun b hb=>ai hb
 generalize ext m [bX.cells [EV.ptr e.cb 0] 1 60 false,bX.cells [EV.int .i64 y.d.kind,y.kv,EV.int .i64 y.d.n,EV.str y.d.s,EV.int .i64 y.d.pos] 5 59 false]=M at *;have e0:nb m.next 0=m.next:=rfl;have e1:nb m.next 1=m.next+1:=rfl;rw[e0]at hM0 hX;rw[e1]at qD hX;have h1:Ck e o M fv vv sb mb c L P ov kv:=h.same (by omega) hMo;have hFx:∀x∈c.F,0<=x/\x.toNat<e.xs.length:=fun x hx=>by
  obtain⟨a,_,b,_⟩:=s.sQ (hF.F x hx);exact⟨a,b⟩
 generalize hC:run (UT B K) 111 _ _=C at hX;obtain⟨M2,nx2,II,hh⟩:=aeE h1 hFx hF.n hM0 (by omega) qD (by omega) hC;clear hC;have h2:Ck e o M2 fv vv sb mb c L P ov kv:=h1.same nx2 fun b _=>II b
 have p0:M2.get m.next=.cells [.ptr e.cb 0] 1 60 false:=(II _).trans hM0;have p1:=(II _).trans qD;have l0:m.next<M2.next:=by omega
 have l1:m.next+1<M2.next:=by omega
 have so:∀b,b<m.next->M2.get b=m.get b:=fun b hb=>(II b).trans (hMo b hb)
 rcases hh with⟨f,hfn,rE,rfl⟩|⟨hfn,rfl⟩
 ·rw[hfn];have hcf:(0:Int)<=(f:Int):=by omega
  simp only[p0,p1,l0,l1,hcf,ao,simprocAttr]at hX;generalize hC:run (UT B K) 38 _ _=C at hX;obtain⟨M3,rfl,nx3,tO⟩:=Ho h2 hC;clear hC;rw[gQ hf]at hX;have h3:Ck e o M3 fv vv sb mb c L P ov kv:=h2.same nx3 tO;replace p0:=(tO _ l0).trans p0;replace p1:=(tO _ l1).trans p1;replace so:∀b,b<m.next->M3.get b=m.get b:=fun b hb=>(tO b (by omega)).trans (so b hb)
  replace l0:m.next<M3.next:=by omega
  replace l1:m.next+1<M3.next:=by omega
  clear II tO nx2 nx3 h2 h1 we hMo hM0 qD;have WJ:c.F[f]?=some c.F[f]:=jE rE;have oQ:c.F.getD f 0=c.F[f]:=by rw[List.getD_eq_getElem?_getD,WJ];rfl
  have qg:c.F[f]∈c.F:=oX rE;generalize c.F[f]=x at *;obtain⟨z,hz,a1,a2,a3,a4,a5,a6,a7⟩:=h3.at (hFx x qg).1 (hFx x qg).2;obtain⟨hfk,rD,HH,Kb,Z9⟩:=s.fn (hF.F x qg);rw[<- hz]at hfk rD HH Z9;have jV:=h3.g;have pz:=h3.lt _ (.inl rfl);have gl3:=h3.nd.g;have ll3:=h3.nd.lt;have ga3:=h3.ga;have la3:=h3.lt _ (.inr (.inr (.inr rfl)));unfold j0 CE.lv CE.row at jV;rcases AZ h3 with⟨q,_⟩|⟨b,cp,t,ro,rest,rfl,gb,bl,bw⟩
  ·rw[q]at rE;cases rE
  have tM:(is (c.F++rest))[f]?=some (.int .i64 x):=by rw[gp,rB rE,WJ];rfl
  have hfx:=ap (n:=c.F.length) (i:=f) (k:=.i64) rE;have kh:i<c.C.length:=by rw[h.len.2.2];exact hi
  have kg:i+1<=(is c.C).length:=by rw[eM];exact kh
  have fm:=fX (x:=(f:Int)) kh;simp only[p0,p1,l0,l1,jV,pz,gl3,ll3,ga3,la3,gb,bl,tM,hfx,a1,a6,eC,kg,fm,Nat.mul_one,ao,simprocAttr]at hX;obtain⟨D,hD⟩:∃D,ve M3 16 14 (.cells [EV.int .i64 0,EV.aa,EV.int .i64 0,EV.str [],EV.int .i64 0] 5 59 false)=D:=⟨_,rfl⟩
  have dn:D.next=M3.next+16:=by rw[<- hD,jL];rfl
  have fc:∀b,b<M3.next->D.get b=M3.get b:=fun b hb=>by rw[<- hD];exact lI hb
  have mR:D.get (nb (M3.next+14) 0)=.cells [EV.int .i64 0,EV.aa,EV.int .i64 0,EV.str [],EV.int .i64 0] 5 59 false:=by rw[<- hD];exact lJ
  unfold ve at hD;rw[hD]at hX;have e14:nb (M3.next+14) 0=M3.next+14:=rfl;rw[e14]at mR hX;simp only[mR,ao,simprocAttr]at hX;generalize zw:D.set (M3.next+14) _=M4 at hX;have n4:M4.next=M3.next+16:=by rw[<- zw,aj];exact dn
  have o4:∀b,b<M3.next->M4.get b=M3.get b:=fun b hb=>by rw[<- zw,af (by omega)];exact fc b hb
  have g4:M4.get (M3.next+14)=.cells [EV.int .i64 z.d.kind,z.kv,EV.int .i64 z.d.n,EV.str z.d.s,EV.int .i64 z.d.pos] 5 59 false:=by rw[<- zw];exact aN
  clear zw hD dn fc mR e14;have h4:Ck e o M4 (.slice b 0 c.F.length cp) vv sb mb c L P ov kv:=h3.same (by omega) o4;obtain⟨h5,s5⟩:=h4.UA (i:=i) (x:=(f:Int));replace p0:=(o4 _ l0).trans p0;replace l0:m.next<M4.next:=by omega
  have nW:=h4.g;have uZ:=h4.lt _ (.inl rfl);have ga4:=h4.ga;have la4:=h4.lt _ (.inr (.inr (.inr rfl)));unfold j0 CE.lv CE.row at nW;simp only[p0,l0,nW,uZ,ga4,la4,eC,kg,fm,Nat.mul_one,ao,simprocAttr]at hX;generalize Sv:M4.set e.ab (bX.cells (is (c.C.set i ↑f)) 1 3 false)=M5 at hX h5 s5;have n5:M5.next=M4.next:=by rw[<- Sv,aj]
  have g5:M5.get (M3.next+14)=.cells [EV.int .i64 z.d.kind,z.kv,EV.int .i64 z.d.n,EV.str z.d.s,EV.int .i64 z.d.pos] 5 59 false:=by
   rw[<- Sv,af];· exact g4
   ·omega
  replace p0:M5.get m.next=.cells [.ptr e.cb 0] 1 60 false:=by
   rw[<- Sv,af];· exact p0
   ·have:=h.lt _ (.inr (.inr (.inr rfl)));omega
  replace l0:m.next<M5.next:=by omega
  have VZ:M3.next+14<M5.next:=by omega
  have s15:bO e m M5:=.trans (.bJ (by omega) fun b hb=>(o4 b (by omega)).trans (so b hb)) s5;clear Sv g4 o4 h4 nW uZ ga4 la4 s5;have Sl:∃bz cz tz rz,z.kv=.slice bz 0 z.d.kids.length cz/\M5.get bz=.cells (is z.d.kids) 1 tz rz/\bz<M5.next/\(cz=none\/cz=some z.d.kids.length):=by
   rcases(h5.nd.k z a7).is with⟨q,_⟩|q
   ·rw[q]at rD;simp at rD
   ·obtain⟨a,b,c,d,q1,q2,q3,q4,_⟩:=q;exact⟨a,b,c,d,q1,q2,q3,q4⟩
  obtain⟨bz,cz,tz,rz,Gh,gz,lz,hcz⟩:=Sl;obtain⟨bzw,_⟩:=h5.nd.kf z a7 bz (z.d.kids.length- 1) cz (by rw[Gh];congr 1;omega);have tG:IntKind.i64.wrap ((z.d.kids.length:Int)- 1)=((z.d.kids.length- 1:Nat):Int):=by rw[wrap_i64 (by omega) (by omega)];omega
  have anT:=ME (h:=z.d.kids.length- 1) gz hcz (by omega);rw[Gh]at g5;have hdl:z.d.kids.dropLast.length=z.d.kids.length- 1:=List.length_dropLast;have fR:z.d.kids≠[]:=fun q=>by rw[q]at rD;simp at rD
  have lN:uM e M5 (.slice bz 0 (z.d.kids.length- 1) cz) z.d.kids.dropLast:=.inr ⟨bz,cz,tz,rz,[z.d.kids.getLast fR],by rw[hdl],by rw[List.dropLast_concat_getLast];exact gz,lz,bzw⟩;simp only[g5,VZ,tG,anT,Nat.mul_one,ao,simprocAttr]at hX;generalize hY:exec _ (.loop eD) _ _=Y at hX;obtain⟨ou,rfl,fr',M6,v',rfl,f2,f10,f11,own,nx6,gk6,fd⟩:=cG hY (U4 h5 (xs:=z.d.kids.dropLast) (v2:=.slice rb 0 ks.length (some ks.length)) (v10:=.ptr (M3.next+14) 0) (fun w hw=>by
   have hw:=(List.dropLast_sublist _).subset hw;rw[hz]at hw;obtain⟨a,_,b,_⟩:=s.sQ (i:=x.toNat) hw;exact⟨a,b⟩) (by omega) lN p0 l0 (by simp[ay]) (by simp[ay]) (by simp[ay]) (by simp[ay]) (by simp[ay]) (by simp only[hdl,ay,Nat.reduceBEq]) (by simp[ay]) (by simp[ay]))
  clear hY;have h6:=h5.same nx6 gk6;replace g5:=(gk6 _ VZ).trans g5;replace VZ:=cQ VZ nx6;obtain⟨nl,uC⟩:=eI.nJ (m:=Ev.bump M6 7) (els:=ints (z.d.kids.dropLast.map fun x=>(ee e.l x).n)) (by rw[<- sf];exact own.mono aq fun _ _=>rfl) (by unfold ints;simp[hdl]) (jJ _) (fJ _);have grb:M6.get rb=.cells (is ks) 1 3 false:=(gk6 rb (by omega)).trans ((s15.k rb rl rw_).trans hrb);have Wj:fY (Ev.bump M6 7) (.slice rb 0 ks.length (some ks.length))=some (.fz 0 1 (ints ks)):=by
   have:=fo (els:=ints ks) (e:=1) (cap:=some ks.length) (ty:=3) (ro:=false) (m:=Ev.bump M6 7) (b:=rb) (by rw[<- sf];exact grb) (jJ _) (fJ _) (by unfold ints;simp[oW]);rw[aF]at this;exact this
  have oJ:bA B K dx [.fz 1 1 (ints ks),row nl 2 1 (ints (z.d.kids.dropLast.map fun x=>(ee e.l x).n))]=some (bo (ks=z.d.kids.dropLast.map fun x=>(ee e.l x).n)):=ma (nl:=false) (by omega);simp only[f2,f10,f11,fd,g5,VZ,uC,Wj,oJ,Nat.mul_one,ao,simprocAttr]at hX;obtain⟨k,hk⟩:∃k,X=some (.ret (.tuple [.int .i64 z.d.n,bo (ks=z.d.kids.dropLast.map fun x=>(ee e.l x).n)]) (Ev.bump M6 k)):=⟨_,hX.symm⟩
  exact⟨Ev.bump M6 k,{c with C:=c.C.set i f},h6.bump _,s15.trans (.trans (.bJ nx6 gk6) bO.bump),.inr ⟨f,rfl,rfl,by rw[oQ,<- hz];exact hk⟩⟩
 ·rw[hfn];simp only[p0,p1,l0,l1,ao,simprocAttr]at hX;generalize hC:run (UT B K) 38 _ _=C at hX;obtain⟨M3,rfl,h3,s3⟩:=Ns h2 hf (by decide) hC;clear hC;simp only[ao,simprocAttr]at hX;exact⟨_,_,h3,.trans (.bJ (by omega) so) s3,.inl ⟨rfl,rfl,hX.symm⟩⟩
end
end
section
theorem D4{k:Int}(h:lu k):k=1\/k=2\/k=3\/k=4\/k=5\/k=6\/k=7\/k=8\/k=9\/k=10\/k=11:=by unfold lu at h;omega
theorem SF{l:List Nd}{k:List Int}{n:Nat}(h:mQ l k n)(hn:k.length<=n):∀x∈k,lu (ee l x).kind:=fun x hx=>by
 rw[<- iR];exact h.2 x (by rw[uP hn];exact hx)
theorem Cr{l:List Nd}{k:Int}{ks:List Int}(h:ks.length=0)(hk:k≠5):(∀x∈ks,lu (ee l x).kind)/\(k=5->ks.length=2)/\ks.length<=8:=
 ⟨fun x hx=>by rw[List.eq_nil_of_length_eq_zero h]at hx;exact absurd hx (by simp),fun w=>absurd w hk,by omega⟩
theorem uh{l:List Nd}{k:Int}{ks:List Int}{n:Nat}(h:mQ l ks n)(hn:ks.length<=n)(h8:ks.length<=8)(hk:k=5->ks.length=2):(∀x∈ks,lu (ee l x).kind)/\(k=5->ks.length=2)/\ks.length<=8:=
 ⟨SF h hn,hk,h8⟩
theorem P0{l:List Nd}{d:Nd}(h:lu d.kind)(hk:cJ l d):(∀x∈d.kids,lu (ee l x).kind)/\(d.kind=5->d.kids.length=2)/\d.kids.length<=8:=by
 unfold cJ at hk;rcases D4 h with e|e|e|e|e|e|e|e|e|e|e
 all_goals
  rw[e]at hk⊢;simp only[Int.reduceEq,or_self,or_true,true_or,if_false,if_true]at hk
 ·exact Cr hk (by decide)
 ·exact Cr hk (by decide)
 ·exact Cr hk (by decide)
 ·exact Cr hk (by decide)
 ·exact uh hk.2 (by have:=hk.1;omega) (by have:=hk.1;omega) fun _=>hk.1
 ·exact uh hk.2 (by have:=hk.1;omega) (by have:=hk.1;omega) fun w=>absurd w (by decide)
 ·exact uh hk.2 (by have:=hk.1;omega) (by have:=hk.1;omega) fun w=>absurd w (by decide)
 ·exact uh hk.2 (by have:=hk.1;omega) (by have:=hk.1;omega) fun w=>absurd w (by decide)
 ·exact uh hk.2 (by have:=hk.1;omega) (by have:=hk.1;omega) fun w=>absurd w (by decide)
 ·exact uh hk.2 (by have:=hk.1;omega) (by have:=hk.1;omega) fun w=>absurd w (by decide)
 ·exact uh hk.2 (cR _) hk.1 fun w=>absurd w (by decide)
def CS.bD(c:CS)(b:Bool)(e q:Int):CS:=if b=true\/c.fe≠0 then c else c.fault e q
theorem uK{c c1:CS}{l:List Nd}{i:Nat}{k:Int}{b:Bool}(hf:c1.fe=0)(h4:(dZ l i).kind≠4)(h11:(dZ l i).kind≠11)(hb:b=true↔EN (dZ l i) (kk c1.K (dZ l i).kids))(hk:k=EQ (dZ l i))(hc:c=c1.bD b 11 (dZ l i).pos):jz {c with K:=c.K.set i k} (ju l i c1):=by
 unfold ju;simp only[if_neg h4,if_neg h11];by_cases q:b=true
 ·rw[if_pos (hb.1 q)];rw[CS.bD,if_pos (.inl q)]at hc;rw[hc,hk];exact .refl
 ·rw[if_neg (fun w=>q (hb.2 w))];rw[CS.bD,if_neg (by rintro(w|w);exact q w;exact w hf)]at hc;rw[hc];exact⟨rfl,rfl,fun w=>absurd w (by simp[CS.fault])⟩
theorem rj{c:CS}{e q:Int}:gI c (c.fault e q):=⟨rfl,rfl,rfl,rfl,rfl,rfl,rfl,rfl,rfl⟩
theorem P4{c c1 c2:CS}{l:List Nd}{i:Nat}{k:Int}{b:Bool}{e q p:Int}(he:e≠0)(hn:ju l i c1=c1.fault e q)(tL:c2.fe=e/\c2.fp=q)(hc:c=c2.bD b 11 p):jz {c with K:=c.K.set i k} (ju l i c1):=by
 rw[CS.bD,if_pos (.inr (by rw[tL.1];exact he))]at hc;subst hc;rw[hn];exact⟨tL.1,tL.2,fun w=>absurd (tL.1.symm.trans w) he⟩
theorem dU{c:CS}{b:Bool}{e q:Int}:gI c (c.bD b e q):=by
 unfold CS.bD;split
 ·exact .refl
 ·exact⟨rfl,rfl,rfl,rfl,rfl,rfl,rfl,rfl,rfl⟩
theorem fq{c:CS}{i:Nat}{k:Int}:gI c {c with K:=c.K.set i k}:=⟨by simp,rfl,rfl,rfl,rfl,rfl,rfl,rfl,rfl⟩
theorem XC{c c1:CS}{l:List Nd}{i g:Nat}{k:Int}{b:Bool}(hf:c1.fe=0)(h11:(dZ l i).kind=11)(hfn:uI l c1.F (dZ l i).s=some g)(hb:b=true↔kk c1.K (dZ l i).kids=(ee l (c1.F.getD g 0)).kids.dropLast.map fun x=>(ee l x).n)(hk:k=(ee l (c1.F.getD g 0)).n)(hc:c=({c1 with C:=c1.C.set i (g:Int)}:CS).bD b 11 (dZ l i).pos):jz {c with K:=c.K.set i k} (ju l i c1):=by
 unfold ju;simp only[h11,Int.reduceEq,if_false,if_true,hfn];by_cases q:b=true
 ·rw[if_pos (hb.1 q)];rw[CS.bD,if_pos (.inl q)]at hc;rw[hc,hk];exact .refl
 ·rw[if_neg (fun w=>q (hb.2 w))];rw[CS.bD,if_neg (by rintro(w|w);exact q w;exact w hf)]at hc;rw[hc];exact⟨rfl,rfl,fun w=>absurd w (by simp[CS.fault])⟩
theorem wK{c:CS}{i:Nat}{k:Int}:gI c {c with S:=c.S.set i k}:=⟨rfl,by simp,rfl,rfl,rfl,rfl,rfl,rfl,rfl⟩
theorem Rc{c:CS}{i:Nat}{k:Int}:gI c {c with C:=c.C.set i k}:=⟨rfl,rfl,by simp,rfl,rfl,rfl,rfl,rfl,rfl⟩
theorem kC{l:List Int}{i:Nat}{k:Int}(h:i<l.length):k=(l.set i k).getD i 0:=by
 rw[List.getD_eq_getElem?_getD,List.getElem?_set_self h];rfl
theorem qu(p:Prop):∃b:Bool,bo p=.bool b/\(b=true↔p):=by
 by_cases h:p
 ·exact⟨true,gQ h,by simp[h]⟩
 ·exact⟨false,ij h,by simp[h]⟩
section
variable {e:CE} {o o':Nat->Part} {m m' M0:Mem} {fv vv:EV} {sb mb:Nat} {c c' c0:CS} {L:List (cH×EV)} {P:cH->EV} {ov kv:EV}
theorem dq(h:Ck e o m fv vv sb mb c L P ov kv){er q:Int}(he:er≠0){b:Bool}{n1 n2 n3 n4:EV}{X:Option Fin}(hX:run U cA [.ptr e.cb 0,.bool b,.int .i64 er,.agg [n1,n2,n3,n4,.int .i64 q]] m=X) :
  ∃m' r,X=some (.ret (.bool r) m')/\Ck e o m' fv vv sb mb (c.bD b er q) L P ov kv/\bO e m m':=by
 by_cases hb:b=true
 ·subst hb;obtain⟨m',rfl,n,k⟩:=Ho h hX;refine⟨m',_,rfl,?_,.bJ n k⟩
  rw[CS.bD,if_pos (.inl rfl)];exact h.same n k
 ·by_cases hf:c.fe=0
  ·obtain rfl:b=false:=by cases b<;>simp at hb ⊢
   obtain⟨m',rfl,a,st⟩:=Ns h hf he hX;have:c.bD false er q=c.fault er q:=by rw[CS.bD,if_neg (by simp[hf])]
   rw[this];exact⟨m',_,rfl,a,st⟩
  ·obtain⟨m',rfl,n,k⟩:=adI h hf hX;have:c.bD b er q=c:=by rw[CS.bD,if_pos (.inr hf)]
   rw[this];exact⟨m',_,rfl,h.same n k,.bJ n k⟩
theorem Ck.kids(h:Ck e o m fv vv sb mb c L P ov kv){x:Nv}(hx:x∈e.xs):uM e m x.kv x.d.kids:=by
 rcases(h.nd.k x hx).is with⟨q1,q2|⟨b,o,q2⟩⟩|⟨b,c,t,ro,q1,q2,q3,_⟩
 ·exact .inl ⟨q1,.inl q2⟩
 ·exact .inl ⟨q1,.inr (.inr ⟨b,q2⟩)⟩
 ·cases hl:x.d.kids with
  |nil=>exact .inl ⟨rfl,.inr (.inl ⟨b,0,c,by rw[q1,hl];rfl⟩)⟩
  |cons y ys=>
   rw[hl]at q1 q2;exact .inr ⟨b,c,t,ro,[],q1,by rw[List.append_nil];exact q2,q3,(h.nd.kf x hx b ys.length c q1).1⟩
theorem aa8{f:Nat}(s:Shape e)(ih:Yp e f):Yp e (f+1):=by
 intro o m fv vv sb mb c L P ov kv i X h hf hF hi Ty hk hX;rw[cf (by simp[dP])]at hX;have hx:e.xs[i]?=some e.xs[i]:=jE hi;have hd:=h.d hx;have nV:e.xs[i]∈e.xs:=oX hi;generalize e.xs[i]=y at *;obtain⟨gl,ll,eC,q1,q2,q3,q4,q5⟩:=h.cells hx;have hg:=h.g;have hb:=h.lt _ (.inl rfl);unfold j0 CE.lv at hg;simp only[dP,hg,hb,gl,ll,eC,q5,ao,simprocAttr]at hX;have qD:(ext m [bX.cells [EV.int .i64 y.d.kind,y.kv,EV.int .i64 y.d.n,EV.str y.d.s,EV.int .i64 y.d.pos] 5 59 false]).get m.next=.cells [EV.int .i64 y.d.kind,y.kv,EV.int .i64 y.d.n,EV.str y.d.s,EV.int .i64 y.d.pos] 5 59 false:=aw (m:=m) (i:=0) rfl (by simp);have s1:bO e m (ext m [bX.cells [EV.int .i64 y.d.kind,y.kv,EV.int .i64 y.d.n,EV.str y.d.s,EV.int .i64 y.d.pos] 5 59 false]):=.bJ (by rw[ak];exact aq) fun b hb=>ai hb
 have h1:=h.same s1.n fun b hb=>ai (xs:=[bX.cells [EV.int .i64 y.d.kind,y.kv,EV.int .i64 y.d.n,EV.str y.d.s,EV.int .i64 y.d.pos] 5 59 false]) hb
 have we:m.next<(ext m [bX.cells [EV.int .i64 y.d.kind,y.kv,EV.int .i64 y.d.n,EV.str y.d.s,EV.int .i64 y.d.pos] 5 59 false]).next:=by rw[ak];unfold nb;simp
 generalize ext m [bX.cells [EV.int .i64 y.d.kind,y.kv,EV.int .i64 y.d.n,EV.str y.d.s,EV.int .i64 y.d.pos] 5 59 false]=M at *;have e0:nb m.next 0=m.next:=rfl;rw[e0]at hX;obtain⟨ke,k2,k8⟩:=P0 hk (s.kids hi);have qC:EQ (dZ e.l i)=EQ y.d:=by rw[hd]
 generalize hC:run (UT B K) 81 _ _=C at hX;obtain⟨M2,c1,rb,ks,rfl,h2,s2,se,eq,gr,lr,EP,kl,py⟩:=tC ih s.r.1.1 s.r.1.2.1 (xs:=y.d.kids) (i:=i) (n:=y.d.kids.length) (by rw[hd,List.take_length]) (by rw[<- hd];exact ke) Ty s.n (by rw[hd]at k8;omega) h1 hF (h1.kids nV) hC;clear hC;have p5:=(s2.k m.next we fun w=>by have:=h.lt _ w;omega).trans qD;have l5:m.next<M2.next:=cQ we s2.n;have uk:=s1.trans s2;have jr:=mS h2;have oS:qi e.l (f+1) i c=if (aO (fun x c=>qi e.l f x.toNat c) y.d.kids c).fe=0 then ju e.l i (aO (fun x c=>qi e.l f x.toNat c) y.d.kids c)else aO (fun x c=>qi e.l f x.toNat c) y.d.kids c:=by rw[qi,hd]
 by_cases eH:c1.fe=0
 ·have Ai:=eq.2.2 eH;have py:=py eH;rw[<- Ai,if_pos eH]at oS;rw[oS];rw[gQ eH]at jr;have vo:=D4 hk;have hfz:∀M:Mem,M.get rb=.cells (is ks) 1 3 false->fY M (.slice rb 0 y.d.kids.length (some y.d.kids.length))=some (.fz 0 1 (ints ks)):=fun M hM=>by
   have:=fo (els:=ints ks) (e:=1) (cap:=some ks.length) (ty:=3) (ro:=false) (m:=M) (b:=rb) (by rw[<- sf];exact hM) (jJ _) (fJ _) (by unfold ints;simp[oW]);rw[aF,kl]at this;exact this
  have auD:ks.length<=8:=by rw[kl,<- hd];exact k8
  rw[hd]at vo;rcases vo with w|w|w|w|w|w|w|w|w|w|w
  ·simp only[p5,l5,jr,w,ao,simprocAttr]at hX;generalize hC:run (UT B K) 38 _ _=C at hX;obtain⟨M3,r,rfl,h3,s3⟩:=dq (b:=true) (h2.bump 0) (by decide) hC;clear hC;obtain⟨c3,j8⟩:∃c3,c3=(c1).bD true 11 y.d.pos:=⟨_,rfl⟩
   rw[<- j8]at h3;have jV:=h3.g;have pz:=h3.lt _ (.inl rfl);have tO:=h3.gk;have xP:=h3.lt _ (.inr (.inl rfl));have kh:i<c3.K.length:=by rw[h3.len.1];exact hi
   have kg:i+1<=(is c3.K).length:=by rw[eM];exact kh
   have fm:=fX (x:=(1:Int)) kh;obtain⟨h5,s5⟩:=h3.o7 (i:=i) (x:=(1:Int));unfold j0 CE.lv CE.row at jV;simp only[jV,pz,tO,xP,eC,kg,fm,Nat.mul_one,ao,simprocAttr]at hX;exact⟨_,_,_,hX.symm,h5,((uk.trans bO.bump).trans s3).trans s5,((se).trans (j8▸dU)).trans fq,uK (b:=true) (k:=1) eH (by rw[hd,w];decide) (by rw[hd,w];decide) (by rw[hd];unfold EN;simp only[w,Int.reduceEq,if_false,if_true]) (by rw[qC];unfold EQ;simp only[w,Int.reduceEq,if_false,if_true]) (by rw[hd];exact j8),fun _=>kC kh⟩
  ·simp only[p5,l5,jr,w,ao,simprocAttr]at hX;generalize hC:run (UT B K) 38 _ _=C at hX;obtain⟨M3,r,rfl,h3,s3⟩:=dq (b:=true) (h2.bump 0) (by decide) hC;clear hC;obtain⟨c3,j8⟩:∃c3,c3=(c1).bD true 11 y.d.pos:=⟨_,rfl⟩
   rw[<- j8]at h3;have jV:=h3.g;have pz:=h3.lt _ (.inl rfl);have tO:=h3.gk;have xP:=h3.lt _ (.inr (.inl rfl));have kh:i<c3.K.length:=by rw[h3.len.1];exact hi
   have kg:i+1<=(is c3.K).length:=by rw[eM];exact kh
   have fm:=fX (x:=(2:Int)) kh;obtain⟨h5,s5⟩:=h3.o7 (i:=i) (x:=(2:Int));unfold j0 CE.lv CE.row at jV;simp only[jV,pz,tO,xP,eC,kg,fm,Nat.mul_one,ao,simprocAttr]at hX;exact⟨_,_,_,hX.symm,h5,((uk.trans bO.bump).trans s3).trans s5,((se).trans (j8▸dU)).trans fq,uK (b:=true) (k:=2) eH (by rw[hd,w];decide) (by rw[hd,w];decide) (by rw[hd];unfold EN;simp only[w,Int.reduceEq,if_false,if_true]) (by rw[qC];unfold EQ;simp only[w,Int.reduceEq,if_false,if_true]) (by rw[hd];exact j8),fun _=>kC kh⟩
  ·simp only[p5,l5,jr,w,ao,simprocAttr]at hX;generalize hC:run (UT B K) 38 _ _=C at hX;obtain⟨M3,r,rfl,h3,s3⟩:=dq (b:=true) (h2.bump 0) (by decide) hC;clear hC;obtain⟨c3,j8⟩:∃c3,c3=(c1).bD true 11 y.d.pos:=⟨_,rfl⟩
   rw[<- j8]at h3;have jV:=h3.g;have pz:=h3.lt _ (.inl rfl);have tO:=h3.gk;have xP:=h3.lt _ (.inr (.inl rfl));have kh:i<c3.K.length:=by rw[h3.len.1];exact hi
   have kg:i+1<=(is c3.K).length:=by rw[eM];exact kh
   have fm:=fX (x:=(3:Int)) kh;obtain⟨h5,s5⟩:=h3.o7 (i:=i) (x:=(3:Int));unfold j0 CE.lv CE.row at jV;simp only[jV,pz,tO,xP,eC,kg,fm,Nat.mul_one,ao,simprocAttr]at hX;exact⟨_,_,_,hX.symm,h5,((uk.trans bO.bump).trans s3).trans s5,((se).trans (j8▸dU)).trans fq,uK (b:=true) (k:=3) eH (by rw[hd,w];decide) (by rw[hd,w];decide) (by rw[hd];unfold EN;simp only[w,Int.reduceEq,if_false,if_true]) (by rw[qC];unfold EQ;simp only[w,Int.reduceEq,if_false,if_true]) (by rw[hd];exact j8),fun _=>kC kh⟩
  ·simp only[p5,l5,jr,w,ao,simprocAttr]at hX;generalize hC:run (UT B K) 100 _ _=C at hX;have IF:1<=c1.X.D:=by rw[se.X];exact hF.D
   have hv1:c1.X.V.length<1000000:=by rw[se.X];exact hF.V
   have hns:dZ e.l i=y.d:=hd;rcases List.eq_nil_or_concat (pd y.d.s c1.X.V)with hl|⟨l,v,hl⟩
   ·obtain⟨M4,k,rfl,h4,s4⟩:=Eg (h2.bump 0) eH IF hx hl hC;clear hC;simp only[p5,l5,ao,simprocAttr]at hX;have p6:=(s4.k m.next (by rw[au];exact cQ l5 aq) fun w=>by have:=h.lt _ w;omega).trans p5;have l6:m.next<M4.next:=cQ l5 (ji aq s4.n);simp only[p6,l6,ao,simprocAttr]at hX;generalize hC:run (UT B K) 38 _ _=C at hX;obtain⟨M3,r,rfl,h3,s3⟩:=dq (b:=true) h4 (by decide) hC;clear hC;obtain⟨c3,j8⟩:∃c3,c3=(c1.fault 9 y.d.pos).bD true 11 y.d.pos:=⟨_,rfl⟩
    rw[<- j8]at h3;have jV:=h3.g;have pz:=h3.lt _ (.inl rfl);have tO:=h3.gk;have xP:=h3.lt _ (.inr (.inl rfl));have kh:i<c3.K.length:=by rw[h3.len.1];exact hi
    have kg:i+1<=(is c3.K).length:=by rw[eM];exact kh
    have fm:=fX (x:=k) kh;obtain⟨h5,s5⟩:=h3.o7 (i:=i) (x:=k);unfold j0 CE.lv CE.row at jV;simp only[jV,pz,tO,xP,eC,kg,fm,Nat.mul_one,ao,simprocAttr]at hX;exact⟨_,_,_,hX.symm,h5,((uk.trans (bO.bump.trans s4)).trans s3).trans s5,((se.trans rj).trans (j8▸dU)).trans fq,P4 (e:=9) (q:=y.d.pos) (by decide) (by unfold ju pP;simp only[hd,w,if_true,hl,List.getLast?_nil]) ⟨rfl,rfl⟩ j8,fun _=>kC kh⟩
   ·rw[List.concat_eq_append]at hl;obtain⟨M4,rfl,h4,s4⟩:=A7 (h2.bump 0) eH IF hx hl (by have:(pd y.d.s c1.X.V).length<=c1.X.V.length:=List.length_filter_le _ _;rw[hl,w6]at this;simp only[List.length_cons,List.length_nil]at this;omega) hC;clear hC;have p6:=(s4.k m.next (by rw[au];exact cQ l5 aq) fun w=>by have:=h.lt _ w;omega).trans p5;have l6:m.next<M4.next:=cQ l5 (ji aq s4.n);simp only[p6,l6,ao,simprocAttr]at hX;generalize hC:run (UT B K) 38 _ _=C at hX;obtain⟨M3,r,rfl,h3,s3⟩:=dq (b:=true) h4 (by decide) hC;clear hC;obtain⟨c3,j8⟩:∃c3,c3=({c1 with S:=c1.S.set i v.slot}).bD true 11 y.d.pos:=⟨_,rfl⟩
    rw[<- j8]at h3;have jV:=h3.g;have pz:=h3.lt _ (.inl rfl);have tO:=h3.gk;have xP:=h3.lt _ (.inr (.inl rfl));have kh:i<c3.K.length:=by rw[h3.len.1];exact hi
    have kg:i+1<=(is c3.K).length:=by rw[eM];exact kh
    have fm:=fX (x:=v.kind) kh;obtain⟨h5,s5⟩:=h3.o7 (i:=i) (x:=v.kind);unfold j0 CE.lv CE.row at jV;simp only[jV,pz,tO,xP,eC,kg,fm,Nat.mul_one,ao,simprocAttr]at hX;exact⟨_,_,_,hX.symm,h5,((uk.trans (bO.bump.trans s4)).trans s3).trans s5,((se.trans wK).trans (j8▸dU)).trans fq,(by rw[CS.bD,if_pos (.inl rfl)]at j8;rw[j8];unfold ju pP;simp only[hd,w,if_true,hl,List.getLast?_concat];exact .refl),fun _=>kC kh⟩
  ·have k2':y.d.kids.length=2:=by rw[hd]at k2;exact k2 w
   obtain⟨a,b,PN⟩:∃a b,ks=[a,b]:=by
    match ks,kl.trans k2' with
    |[a,b],_=>exact⟨a,b,rfl⟩
   have oF:1<=y.d.n:=by
    have:=s.own hi;unfold xK at this;rw[hd,w]at this;simp only[Int.reduceEq,if_false,if_true]at this;exact this.2.2.1
   obtain⟨bb,sj,oG⟩:=qu (yn y.d.n a b);have anX:bA B K vO [.int .i64 y.d.n,.fz 2 1 (ints ks)]=some (.tuple [.int .i64 (if y.d.n<=8 then 2 else 1),.bool bb]):=by
    rw[PN,<- sj];exact Ti (nl:=false) oF
   have hz:=hfz (Ev.bump M2 0) gr;simp only[p5,l5,jr,w,hz,anX,ao,simprocAttr]at hX;generalize hC:run (UT B K) 38 _ _=C at hX;obtain⟨M3,r,rfl,h3,s3⟩:=dq (b:=bb) (h2.bump 0) (by decide) hC;clear hC;obtain⟨c3,j8⟩:∃c3,c3=(c1).bD bb 11 y.d.pos:=⟨_,rfl⟩
   rw[<- j8]at h3;have jV:=h3.g;have pz:=h3.lt _ (.inl rfl);have tO:=h3.gk;have xP:=h3.lt _ (.inr (.inl rfl));have kh:i<c3.K.length:=by rw[h3.len.1];exact hi
   have kg:i+1<=(is c3.K).length:=by rw[eM];exact kh
   have fm:=fX (x:=(if y.d.n<=8 then 2 else 1:Int)) kh;obtain⟨h5,s5⟩:=h3.o7 (i:=i) (x:=(if y.d.n<=8 then 2 else 1:Int));unfold j0 CE.lv CE.row at jV;simp only[jV,pz,tO,xP,eC,kg,fm,Nat.mul_one,ao,simprocAttr]at hX;exact⟨_,_,_,hX.symm,h5,((uk.trans bO.bump).trans s3).trans s5,((se).trans (j8▸dU)).trans fq,uK (b:=bb) (k:=(if y.d.n<=8 then 2 else 1:Int)) eH (by rw[hd,w];decide) (by rw[hd,w];decide) (by rw[hd,<- py,PN];unfold EN;simp only[w,Int.reduceEq,if_false,if_true];exact oG) (by rw[qC];unfold EQ;simp only[w,Int.reduceEq,if_false,if_true]) (by rw[hd];exact j8),fun _=>kC kh⟩
  ·obtain⟨bb,sj,oG⟩:=qu (ks=[1]);have oJ:bA B K dx [.fz 1 1 (ints ks),.fz 2 1 [[.int .i64 1]]]=some (.bool bb):=by
    rw[<- sj];exact ma (nl:=false) (nl':=false) (B':=[1]) (by omega)
   have hz:=hfz (ext (Ev.bump M2 0) [.cells [.int .i64 1] 1 3 false]) ((ai (by rw[au];exact cQ EP aq)).trans gr);have uC:fY (ext (Ev.bump M2 0) [.cells [.int .i64 1] 1 3 false]) (.slice (nb M2.next 0) 0 1 (some 1))=some (.fz 0 1 [[.int .i64 1]]):=
    fo (els:=ints [1]) (e:=1) (cap:=some 1) (ty:=3) (ro:=false) (by rw[show nb M2.next 0=nb (Ev.bump M2 0).next 0 from rfl,aw rfl (by simp)];rfl) (jJ _) (fJ _) rfl
   simp only[p5,l5,jr,w,hz,uC,oJ,Nat.mul_one,ao,simprocAttr]at hX;have h9:Ck e o (ext (Ev.bump M2 0) [.cells [.int .i64 1] 1 3 false]) fv vv sb mb c1 L P ov kv:=(h2.bump 0).same (by rw[ak];exact aq) fun b hb=>ai hb
   have s9:bO e (Ev.bump M2 0) (ext (Ev.bump M2 0) [.cells [.int .i64 1] 1 3 false]):=.bJ (by rw[ak];exact aq) fun b hb=>ai hb
   have l9:=cQ l5 (ji (aq (i:=0)) s9.n);have p9:=(s9.k m.next (by rw[au];exact cQ l5 aq) fun w=>by have:=h.lt _ w;omega).trans p5;generalize hC:run (UT B K) 38 _ _=C at hX;obtain⟨M3,r,rfl,h3,s3⟩:=dq (b:=bb) h9 (by decide) hC;clear hC;obtain⟨c3,j8⟩:∃c3,c3=(c1).bD bb 11 y.d.pos:=⟨_,rfl⟩
   rw[<- j8]at h3;have jV:=h3.g;have pz:=h3.lt _ (.inl rfl);have tO:=h3.gk;have xP:=h3.lt _ (.inr (.inl rfl));have kh:i<c3.K.length:=by rw[h3.len.1];exact hi
   have kg:i+1<=(is c3.K).length:=by rw[eM];exact kh
   have fm:=fX (x:=(1:Int)) kh;obtain⟨h5,s5⟩:=h3.o7 (i:=i) (x:=(1:Int));unfold j0 CE.lv CE.row at jV;simp only[jV,pz,tO,xP,eC,kg,fm,Nat.mul_one,ao,simprocAttr]at hX;exact⟨_,_,_,hX.symm,h5,((uk.trans (bO.bump.trans s9)).trans s3).trans s5,((se).trans (j8▸dU)).trans fq,uK (b:=bb) (k:=(1:Int)) eH (by rw[hd,w];decide) (by rw[hd,w];decide) (by rw[hd,<- py];unfold EN;simp only[w,Int.reduceEq,if_false,if_true];exact oG) (by rw[qC];unfold EQ;simp only[w,Int.reduceEq,if_false,if_true]) (by rw[hd];exact j8),fun _=>kC kh⟩
  ·obtain⟨bb,sj,oG⟩:=qu (ks=[2]);have oJ:bA B K dx [.fz 1 1 (ints ks),.fz 2 1 [[.int .i64 2]]]=some (.bool bb):=by
    rw[<- sj];exact ma (nl:=false) (nl':=false) (B':=[2]) (by omega)
   have hz:=hfz (ext (Ev.bump M2 0) [.cells [.int .i64 2] 1 3 false]) ((ai (by rw[au];exact cQ EP aq)).trans gr);have uC:fY (ext (Ev.bump M2 0) [.cells [.int .i64 2] 1 3 false]) (.slice (nb M2.next 0) 0 1 (some 1))=some (.fz 0 1 [[.int .i64 2]]):=
    fo (els:=ints [2]) (e:=1) (cap:=some 1) (ty:=3) (ro:=false) (by rw[show nb M2.next 0=nb (Ev.bump M2 0).next 0 from rfl,aw rfl (by simp)];rfl) (jJ _) (fJ _) rfl
   simp only[p5,l5,jr,w,hz,uC,oJ,Nat.mul_one,ao,simprocAttr]at hX;have h9:Ck e o (ext (Ev.bump M2 0) [.cells [.int .i64 2] 1 3 false]) fv vv sb mb c1 L P ov kv:=(h2.bump 0).same (by rw[ak];exact aq) fun b hb=>ai hb
   have s9:bO e (Ev.bump M2 0) (ext (Ev.bump M2 0) [.cells [.int .i64 2] 1 3 false]):=.bJ (by rw[ak];exact aq) fun b hb=>ai hb
   have l9:=cQ l5 (ji (aq (i:=0)) s9.n);have p9:=(s9.k m.next (by rw[au];exact cQ l5 aq) fun w=>by have:=h.lt _ w;omega).trans p5;generalize hC:run (UT B K) 38 _ _=C at hX;obtain⟨M3,r,rfl,h3,s3⟩:=dq (b:=bb) h9 (by decide) hC;clear hC;obtain⟨c3,j8⟩:∃c3,c3=(c1).bD bb 11 y.d.pos:=⟨_,rfl⟩
   rw[<- j8]at h3;have jV:=h3.g;have pz:=h3.lt _ (.inl rfl);have tO:=h3.gk;have xP:=h3.lt _ (.inr (.inl rfl));have kh:i<c3.K.length:=by rw[h3.len.1];exact hi
   have kg:i+1<=(is c3.K).length:=by rw[eM];exact kh
   have fm:=fX (x:=(2:Int)) kh;obtain⟨h5,s5⟩:=h3.o7 (i:=i) (x:=(2:Int));unfold j0 CE.lv CE.row at jV;simp only[jV,pz,tO,xP,eC,kg,fm,Nat.mul_one,ao,simprocAttr]at hX;exact⟨_,_,_,hX.symm,h5,((uk.trans (bO.bump.trans s9)).trans s3).trans s5,((se).trans (j8▸dU)).trans fq,uK (b:=bb) (k:=(2:Int)) eH (by rw[hd,w];decide) (by rw[hd,w];decide) (by rw[hd,<- py];unfold EN;simp only[w,Int.reduceEq,if_false,if_true];exact oG) (by rw[qC];unfold EQ;simp only[w,Int.reduceEq,if_false,if_true]) (by rw[hd];exact j8),fun _=>kC kh⟩
  ·obtain⟨bb,sj,oG⟩:=qu (ks=[3,1]);have oJ:bA B K dx [.fz 1 1 (ints ks),.fz 2 1 [[.int .i64 3],[.int .i64 1]]]=some (.bool bb):=by
    rw[<- sj];exact ma (nl:=false) (nl':=false) (B':=[3,1]) (by omega)
   have hz:=hfz (ext (Ev.bump M2 0) [.cells [.int .i64 3,.int .i64 1] 1 3 false]) ((ai (by rw[au];exact cQ EP aq)).trans gr);have uC:fY (ext (Ev.bump M2 0) [.cells [.int .i64 3,.int .i64 1] 1 3 false]) (.slice (nb M2.next 0) 0 2 (some 2))=some (.fz 0 1 [[.int .i64 3],[.int .i64 1]]):=
    fo (els:=ints [3,1]) (e:=1) (cap:=some 2) (ty:=3) (ro:=false) (by rw[show nb M2.next 0=nb (Ev.bump M2 0).next 0 from rfl,aw rfl (by simp)];rfl) (jJ _) (fJ _) rfl
   have vZ:eQ (eA 2 [.int .i64 0]) [(0,1,.int .i64 3),(1,1,.int .i64 1)]=some [.int .i64 3,.int .i64 1]:=by kernel_rfl
   simp only[p5,l5,jr,w,hz,uC,oJ,iE,oO,vZ,Nat.mul_one,ao,simprocAttr]at hX;have h9:Ck e o (ext (Ev.bump M2 0) [.cells [.int .i64 3,.int .i64 1] 1 3 false]) fv vv sb mb c1 L P ov kv:=(h2.bump 0).same (by rw[ak];exact aq) fun b hb=>ai hb
   have s9:bO e (Ev.bump M2 0) (ext (Ev.bump M2 0) [.cells [.int .i64 3,.int .i64 1] 1 3 false]):=.bJ (by rw[ak];exact aq) fun b hb=>ai hb
   have l9:=cQ l5 (ji (aq (i:=0)) s9.n);have p9:=(s9.k m.next (by rw[au];exact cQ l5 aq) fun w=>by have:=h.lt _ w;omega).trans p5;generalize hC:run (UT B K) 38 _ _=C at hX;obtain⟨M3,r,rfl,h3,s3⟩:=dq (b:=bb) h9 (by decide) hC;clear hC;obtain⟨c3,j8⟩:∃c3,c3=(c1).bD bb 11 y.d.pos:=⟨_,rfl⟩
   rw[<- j8]at h3;have jV:=h3.g;have pz:=h3.lt _ (.inl rfl);have tO:=h3.gk;have xP:=h3.lt _ (.inr (.inl rfl));have kh:i<c3.K.length:=by rw[h3.len.1];exact hi
   have kg:i+1<=(is c3.K).length:=by rw[eM];exact kh
   have fm:=fX (x:=(1:Int)) kh;obtain⟨h5,s5⟩:=h3.o7 (i:=i) (x:=(1:Int));unfold j0 CE.lv CE.row at jV;simp only[jV,pz,tO,xP,eC,kg,fm,Nat.mul_one,ao,simprocAttr]at hX;exact⟨_,_,_,hX.symm,h5,((uk.trans (bO.bump.trans s9)).trans s3).trans s5,((se).trans (j8▸dU)).trans fq,uK (b:=bb) (k:=(1:Int)) eH (by rw[hd,w];decide) (by rw[hd,w];decide) (by rw[hd,<- py];unfold EN;simp only[w,Int.reduceEq,if_false,if_true];exact oG) (by rw[qC];unfold EQ;simp only[w,Int.reduceEq,if_false,if_true]) (by rw[hd];exact j8),fun _=>kC kh⟩
  ·obtain⟨bb,sj,oG⟩:=qu (ks=[3]);have oJ:bA B K dx [.fz 1 1 (ints ks),.fz 2 1 [[.int .i64 3]]]=some (.bool bb):=by
    rw[<- sj];exact ma (nl:=false) (nl':=false) (B':=[3]) (by omega)
   have hz:=hfz (ext (Ev.bump M2 0) [.cells [.int .i64 3] 1 3 false]) ((ai (by rw[au];exact cQ EP aq)).trans gr);have uC:fY (ext (Ev.bump M2 0) [.cells [.int .i64 3] 1 3 false]) (.slice (nb M2.next 0) 0 1 (some 1))=some (.fz 0 1 [[.int .i64 3]]):=
    fo (els:=ints [3]) (e:=1) (cap:=some 1) (ty:=3) (ro:=false) (by rw[show nb M2.next 0=nb (Ev.bump M2 0).next 0 from rfl,aw rfl (by simp)];rfl) (jJ _) (fJ _) rfl
   simp only[p5,l5,jr,w,hz,uC,oJ,Nat.mul_one,ao,simprocAttr]at hX;have h9:Ck e o (ext (Ev.bump M2 0) [.cells [.int .i64 3] 1 3 false]) fv vv sb mb c1 L P ov kv:=(h2.bump 0).same (by rw[ak];exact aq) fun b hb=>ai hb
   have s9:bO e (Ev.bump M2 0) (ext (Ev.bump M2 0) [.cells [.int .i64 3] 1 3 false]):=.bJ (by rw[ak];exact aq) fun b hb=>ai hb
   have l9:=cQ l5 (ji (aq (i:=0)) s9.n);have p9:=(s9.k m.next (by rw[au];exact cQ l5 aq) fun w=>by have:=h.lt _ w;omega).trans p5;generalize hC:run (UT B K) 38 _ _=C at hX;obtain⟨M3,r,rfl,h3,s3⟩:=dq (b:=bb) h9 (by decide) hC;clear hC;obtain⟨c3,j8⟩:∃c3,c3=(c1).bD bb 11 y.d.pos:=⟨_,rfl⟩
   rw[<- j8]at h3;have jV:=h3.g;have pz:=h3.lt _ (.inl rfl);have tO:=h3.gk;have xP:=h3.lt _ (.inr (.inl rfl));have kh:i<c3.K.length:=by rw[h3.len.1];exact hi
   have kg:i+1<=(is c3.K).length:=by rw[eM];exact kh
   have fm:=fX (x:=(1:Int)) kh;obtain⟨h5,s5⟩:=h3.o7 (i:=i) (x:=(1:Int));unfold j0 CE.lv CE.row at jV;simp only[jV,pz,tO,xP,eC,kg,fm,Nat.mul_one,ao,simprocAttr]at hX;exact⟨_,_,_,hX.symm,h5,((uk.trans (bO.bump.trans s9)).trans s3).trans s5,((se).trans (j8▸dU)).trans fq,uK (b:=bb) (k:=(1:Int)) eH (by rw[hd,w];decide) (by rw[hd,w];decide) (by rw[hd,<- py];unfold EN;simp only[w,Int.reduceEq,if_false,if_true];exact oG) (by rw[qC];unfold EQ;simp only[w,Int.reduceEq,if_false,if_true]) (by rw[hd];exact j8),fun _=>kC kh⟩
  ·obtain⟨bb,sj,oG⟩:=qu (ks=[1]);have oJ:bA B K dx [.fz 1 1 (ints ks),.fz 2 1 [[.int .i64 1]]]=some (.bool bb):=by
    rw[<- sj];exact ma (nl:=false) (nl':=false) (B':=[1]) (by omega)
   have hz:=hfz (ext (Ev.bump M2 0) [.cells [.int .i64 1] 1 3 false]) ((ai (by rw[au];exact cQ EP aq)).trans gr);have uC:fY (ext (Ev.bump M2 0) [.cells [.int .i64 1] 1 3 false]) (.slice (nb M2.next 0) 0 1 (some 1))=some (.fz 0 1 [[.int .i64 1]]):=
    fo (els:=ints [1]) (e:=1) (cap:=some 1) (ty:=3) (ro:=false) (by rw[show nb M2.next 0=nb (Ev.bump M2 0).next 0 from rfl,aw rfl (by simp)];rfl) (jJ _) (fJ _) rfl
   simp only[p5,l5,jr,w,hz,uC,oJ,Nat.mul_one,ao,simprocAttr]at hX;have h9:Ck e o (ext (Ev.bump M2 0) [.cells [.int .i64 1] 1 3 false]) fv vv sb mb c1 L P ov kv:=(h2.bump 0).same (by rw[ak];exact aq) fun b hb=>ai hb
   have s9:bO e (Ev.bump M2 0) (ext (Ev.bump M2 0) [.cells [.int .i64 1] 1 3 false]):=.bJ (by rw[ak];exact aq) fun b hb=>ai hb
   have l9:=cQ l5 (ji (aq (i:=0)) s9.n);have p9:=(s9.k m.next (by rw[au];exact cQ l5 aq) fun w=>by have:=h.lt _ w;omega).trans p5;generalize hC:run (UT B K) 38 _ _=C at hX;obtain⟨M3,r,rfl,h3,s3⟩:=dq (b:=bb) h9 (by decide) hC;clear hC;obtain⟨c3,j8⟩:∃c3,c3=(c1).bD bb 11 y.d.pos:=⟨_,rfl⟩
   rw[<- j8]at h3;have jV:=h3.g;have pz:=h3.lt _ (.inl rfl);have tO:=h3.gk;have xP:=h3.lt _ (.inr (.inl rfl));have kh:i<c3.K.length:=by rw[h3.len.1];exact hi
   have kg:i+1<=(is c3.K).length:=by rw[eM];exact kh
   have fm:=fX (x:=(3:Int)) kh;obtain⟨h5,s5⟩:=h3.o7 (i:=i) (x:=(3:Int));unfold j0 CE.lv CE.row at jV;simp only[jV,pz,tO,xP,eC,kg,fm,Nat.mul_one,ao,simprocAttr]at hX;exact⟨_,_,_,hX.symm,h5,((uk.trans (bO.bump.trans s9)).trans s3).trans s5,((se).trans (j8▸dU)).trans fq,uK (b:=bb) (k:=(3:Int)) eH (by rw[hd,w];decide) (by rw[hd,w];decide) (by rw[hd,<- py];unfold EN;simp only[w,Int.reduceEq,if_false,if_true];exact oG) (by rw[qC];unfold EQ;simp only[w,Int.reduceEq,if_false,if_true]) (by rw[hd];exact j8),fun _=>kC kh⟩
  ·simp only[p5,l5,jr,w,ao,simprocAttr]at hX;generalize hC:run (UT B K) 106 _ _=C at hX;have sJ:=X2 s (h2.bump 0) eH (hF.same se) hi (rb:=rb) (ks:=ks) (by omega) gr (by rw[au];exact cQ EP aq) (fun w=>by have:=h.lt _ w;have:=s1.n;omega) (X:=C) (by rw[kl];exact hC);clear hC;rw[hd]at sJ;rcases sJ with⟨M4,c2,h4,s4,⟨hfn,rfl,rfl⟩|⟨g,hfn,rfl,rfl⟩⟩
   ·have p6:=(s4.k m.next (by rw[au];exact cQ l5 aq) fun w=>by have:=h.lt _ w;omega).trans p5;have l6:m.next<M4.next:=cQ l5 (ji aq s4.n);simp only[p6,l6,ao,simprocAttr]at hX;generalize hC:run (UT B K) 38 _ _=C at hX;obtain⟨M3,r,rfl,h3,s3⟩:=dq (b:=false) h4 (by decide) hC;clear hC;obtain⟨c3,j8⟩:∃c3,c3=(c1.fault 9 y.d.pos).bD false 11 y.d.pos:=⟨_,rfl⟩
    rw[<- j8]at h3;have jV:=h3.g;have pz:=h3.lt _ (.inl rfl);have tO:=h3.gk;have xP:=h3.lt _ (.inr (.inl rfl));have kh:i<c3.K.length:=by rw[h3.len.1];exact hi
    have kg:i+1<=(is c3.K).length:=by rw[eM];exact kh
    have fm:=fX (x:=(0:Int)) kh;obtain⟨h5,s5⟩:=h3.o7 (i:=i) (x:=(0:Int));unfold j0 CE.lv CE.row at jV;simp only[jV,pz,tO,xP,eC,kg,fm,Nat.mul_one,ao,simprocAttr]at hX;exact⟨_,_,_,hX.symm,h5,((uk.trans (bO.bump.trans s4)).trans s3).trans s5,((se.trans rj).trans (j8▸dU)).trans fq,P4 (e:=9) (q:=y.d.pos) (by decide) (by unfold ju;simp only[hd,w,if_true,hfn,Int.reduceEq,if_false]) ⟨rfl,rfl⟩ j8,fun _=>kC kh⟩
   ·have p6:=(s4.k m.next (by rw[au];exact cQ l5 aq) fun w=>by have:=h.lt _ w;omega).trans p5;have l6:m.next<M4.next:=cQ l5 (ji aq s4.n);generalize hG:ee e.l (c1.F.getD g 0)=G at *;obtain⟨bb,sj,oG⟩:=qu (ks=G.kids.dropLast.map fun x=>(ee e.l x).n);rw[sj]at hX;simp only[p6,l6,ao,simprocAttr]at hX;generalize hC:run (UT B K) 38 _ _=C at hX;obtain⟨M3,r,rfl,h3,s3⟩:=dq (b:=bb) h4 (by decide) hC;clear hC;obtain⟨c3,j8⟩:∃c3,c3=({c1 with C:=c1.C.set i (g:Int)}).bD bb 11 y.d.pos:=⟨_,rfl⟩
    rw[<- j8]at h3;have jV:=h3.g;have pz:=h3.lt _ (.inl rfl);have tO:=h3.gk;have xP:=h3.lt _ (.inr (.inl rfl));have kh:i<c3.K.length:=by rw[h3.len.1];exact hi
    have kg:i+1<=(is c3.K).length:=by rw[eM];exact kh
    have fm:=fX (x:=G.n) kh;obtain⟨h5,s5⟩:=h3.o7 (i:=i) (x:=G.n);unfold j0 CE.lv CE.row at jV;simp only[jV,pz,tO,xP,eC,kg,fm,Nat.mul_one,ao,simprocAttr]at hX;exact⟨_,_,_,hX.symm,h5,((uk.trans (bO.bump.trans s4)).trans s3).trans s5,((se.trans Rc).trans (j8▸dU)).trans fq,(XC eH (by rw[hd];exact w) (by rw[hd];exact hfn) (by rw[hG,hd,<- py];exact oG) (by rw[hG]) (by rw[hd];exact j8)),fun _=>kC kh⟩
 ·rw[if_neg (by rw[<- eq.1];exact eH)]at oS;rw[oS];rw[ij eH]at jr;simp only[p5,l5,jr,ao,simprocAttr]at hX;exact⟨_,c1,_,hX.symm,h2.bump 0,uk.trans bO.bump,se,eq,fun q=>absurd q eH⟩
end
end
section
theorem KF{e:CE}(s:Shape e):∀f,Yp e f
 |0=>by intro h hf hF hi h0;exact absurd h0 (Nat.not_lt_zero _)
 |f+1=>aa8 s (KF s f)
structure EW(e:CE)(o:Nat->Part)(m:Mem)(o':Nat->Part)(m':Mem):Prop where
 n:m.next<=m'.next
 ow:∀b,b<m.next->o' b=o b
 k:∀b,b<m.next->¬e.W b->o b=.other->m'.get b=m.get b
theorem EW.refl{e:CE}{o:Nat->Part}{m:Mem}:EW e o m o m:=⟨cR _,fun _ _=>rfl,fun _ _ _ _=>rfl⟩
theorem EW.trans{e:CE}{o o' o'':Nat->Part}{m m' m'':Mem}(h:EW e o m o' m')(h':EW e o' m' o'' m''):EW e o m o'' m'':=
 ⟨ji h.n h'.n,fun b hb=>(h'.ow b (cQ hb h.n)).trans (h.ow b hb),fun b hb hw hp=>(h'.k b (cQ hb h.n) hw ((h.ow b hb).trans hp)).trans (h.k b hb hw hp)⟩
theorem bO.s{e:CE}{o:Nat->Part}{m m':Mem}(h:bO e m m'):EW e o m o m':=⟨h.n,fun _ _=>rfl,fun b hb hw _=>h.k b hb hw⟩
theorem Bb.s{e:CE}{o o':Nat->Part}{m m':Mem}(h:Bb o m o' m'):EW e o m o' m':=⟨h.n,h.ow,fun b hb _ hp=>h.k b hb hp⟩
section
variable {e:CE} {o o':Nat->Part} {m m' M0:Mem} {fv vv:EV} {sb mb:Nat} {c c' c0:CS} {L L':List (cH×EV)} {P P':cH->EV} {ov kv AA AL:EV}
theorem Ck.scp{x:Mo}(h:Ck e o m fv vv sb mb c L P ov kv)(sc:Sc o' m' sb mb x L' P' AA AL)(p:Bb o m o' m'):Ck e o' m' fv vv sb mb {c with X:=x} L' P' AA AL where
 g:=(p.k _ (h.lt _ (.inl rfl)) (h.ot _ (.inl rfl))).trans h.g
 gk:=(p.k _ (h.lt _ (.inr (.inl rfl))) (h.ot _ (.inr (.inl rfl)))).trans h.gk
 gz:=(p.k _ (h.lt _ (.inr (.inr (.inl rfl)))) (h.ot _ (.inr (.inr (.inl rfl))))).trans h.gz
 ga:=(p.k _ (h.lt _ (.inr (.inr (.inr rfl)))) (h.ot _ (.inr (.inr (.inr rfl))))).trans h.ga
 lt:=fun b hb=>cQ (h.lt b hb) p.n
 ne:=h.ne
 ot:=fun b hb=>(p.ow b (h.lt b hb)).trans (h.ot b hb)
 len:=h.len
 sc:=sc
 nd:=h.nd.cU p.n (fun b hb hw ho=>p.k b hb ho) p.ow
 fn:=h.fn.eB p.n fun b hb _ iv=>p.k b hb (h.ff b iv).2
 ff:=fun b hb=>⟨(h.ff b hb).1,(p.ow b (h.fn.lT hb).2).trans (h.ff b hb).2⟩
theorem Qm{x:Mo}{s:cH}{k:Int}{l:List Nd}{i:Nat}(hs:(dZ l i).s=s)(hx:c.X=x):(x.bad s k->eK l i k c=c.fault 10 (dZ l i).pos)/\(¬x.bad s k->eK l i k c={c with S:=c.S.set i c.X.K.length,X:=c.X.add (dZ l i).s k}):=by
 subst hx;subst hs;unfold eK;exact⟨fun h=>if_pos h,fun h=>if_neg h⟩
theorem Ed(h:Ck e o m fv vv sb mb c L P ov kv)(hf:c.fe=0)(hD:1<=c.X.D)(hV:c.X.V.length<1000000)(hK:c.X.K.length<1000000){i:Nat}(hi:i<e.xs.length){k:Int}{X:Option Fin}(hX:run U nA [.ptr e.cb 0,.int .i64 (i:Int),.int .i64 k] m=X) :
  ∃m' o' c' L' P' AA AL,X=some (.ret (.tuple []) m')/\Ck e o' m' fv vv sb mb c' L' P' AA AL/\EW e o m o' m'/\jz c' (eK e.l i k c)/\bY 1 c c':=by
 rw[cf (by simp[bL])]at hX;have hx:e.xs[i]?=some e.xs[i]:=jE hi;have hd:=h.d hx;generalize e.xs[i]=y at *;obtain⟨gl,ll,eC,q1,q2,q3,q4,q5⟩:=h.cells hx;have hg:=h.g;have hb:=h.lt _ (.inl rfl);have NS:=mS h;rw[gQ hf]at NS;unfold j0 CE.lv at hg;simp only[bL,NS,hg,hb,gl,ll,eC,q4,ao,simprocAttr]at hX;generalize hC:run (UT B Ev.K) 60 _ _=C at hX;by_cases sM:c.X.bad y.d.s k
 ·obtain⟨M2,hk,sc,st⟩:=On ((h.bump 0).bump 19).sc hD hV sM;obtain rfl:=hC.symm.trans hk;clear hC hk;have h4:Ck e o M2 fv vv sb mb c L P ov kv:=((h.bump 0).bump 19).scp sc st;have nW:=h4.g;have uZ:=h4.lt _ (.inl rfl);have PP:=h4.nd.g;have Tt:=h4.nd.lt;unfold j0 CE.lv at nW;simp only[nW,uZ,PP,Tt,eC,q5,ao,simprocAttr]at hX;generalize hC:run (UT B Ev.K) 38 _ _=C at hX;obtain⟨M3,r,rfl,h3,s3⟩:=dq (b:=false) h4 (by decide) hC;clear hC;obtain⟨c3,j8⟩:∃c3,c3=(c).bD false 10 y.d.pos:=⟨_,rfl⟩
  rw[<- j8]at h3;have jV:=h3.g;have pz:=h3.lt _ (.inl rfl);have tO:=h3.gz;have xP:=h3.lt _ (.inr (.inr (.inl rfl)));have kh:i<c3.S.length:=by rw[h3.len.2.1];exact hi
  have kg:i+1<=(is c3.S).length:=by rw[eM];exact kh
  have fm:=fX (x:=(0:Int)) kh;obtain⟨h5,s5⟩:=h3.Jc (i:=i) (x:=(0:Int));unfold j0 CE.lv CE.row at jV;simp only[jV,pz,tO,xP,eC,kg,fm,Nat.mul_one,ao,simprocAttr]at hX;have hc4:c3=c.fault 10 y.d.pos:=by rw[j8,CS.bD,if_neg (by simp[hf])]
  refine⟨_,o,_,L,P,ov,kv,hX.symm,h5,(((bO.bump.trans bO.bump).s.trans st.s).trans s3.s).trans s5.s,?_,?_⟩
  ·rw[(Qm (l:=e.l) (i:=i) (by rw[hd]) rfl).1 sM,hc4,hd];exact⟨rfl,rfl,fun w=>absurd w (by simp[CS.fault])⟩
  ·rw[hc4];exact⟨rfl,by simp[CS.fault],rfl,rfl,rfl,rfl,rfl,rfl,rfl,id,id,Nat.le_succ _,cR _⟩
 ·obtain⟨M2,o',L',P',AA,AL,hk,sc,st⟩:=K3 ((h.bump 0).bump 19).sc hD hV hK sM;obtain rfl:=hC.symm.trans hk;clear hC hk;have h4:Ck e o' M2 fv vv sb mb {c with X:=c.X.add y.d.s k} L' P' AA AL:=((h.bump 0).bump 19).scp sc st;have nW:=h4.g;have uZ:=h4.lt _ (.inl rfl);have PP:=h4.nd.g;have Tt:=h4.nd.lt;unfold j0 CE.lv at nW;simp only[nW,uZ,PP,Tt,eC,q5,ao,simprocAttr]at hX;generalize hC:run (UT B Ev.K) 38 _ _=C at hX;obtain⟨M3,r,rfl,h3,s3⟩:=dq (b:=true) h4 (by decide) hC;clear hC;obtain⟨c3,j8⟩:∃c3,c3=({c with X:=c.X.add y.d.s k}:CS).bD true 10 y.d.pos:=⟨_,rfl⟩
  rw[<- j8]at h3;have jV:=h3.g;have pz:=h3.lt _ (.inl rfl);have tO:=h3.gz;have xP:=h3.lt _ (.inr (.inr (.inl rfl)));have kh:i<c3.S.length:=by rw[h3.len.2.1];exact hi
  have kg:i+1<=(is c3.S).length:=by rw[eM];exact kh
  have fm:=fX (x:=(c.X.K.length:Int)) kh;obtain⟨h5,s5⟩:=h3.Jc (i:=i) (x:=(c.X.K.length:Int));unfold j0 CE.lv CE.row at jV;simp only[jV,pz,tO,xP,eC,kg,fm,Nat.mul_one,ao,simprocAttr]at hX;have hc4:c3={c with X:=c.X.add y.d.s k}:=by rw[j8,CS.bD,if_pos (.inl rfl)]
  have hdc:=(Qm (c:=c) (l:=e.l) (i:=i) (k:=k) (s:=y.d.s) (by rw[hd]) rfl).2 sM;have he:({c3 with S:=c3.S.set i (c.X.K.length:Int)}:CS)=eK e.l i k c:=by rw[hdc,hc4,hd]
  refine⟨_,o',_,L',P',AA,AL,hX.symm,h5,(((bO.bump.trans bO.bump).s.trans st.s).trans s3.s).trans s5.s,?_,?_⟩
  ·rw[he];exact .refl
  ·rw[he];exact pk
end
end
section
theorem uv{c:CS}{bb:Bool}{p:Prop}[Decidable p]{e q:Int}(h:bb=true↔p)(hf:c.fe=0):c.bD bb e q=c.ph p e q:=by
 unfold CS.bD CS.ph;by_cases w:p
 ·rw[if_pos w,if_pos (.inl (h.2 w))]
 ·rw[if_neg w,if_neg];rintro(q|q)
  ·exact w (h.1 q)
  ·exact q hf
theorem Cs{m:Mem}{d:Nd}{kv:EV}(h:Iv m d kv){k n p:Int}{s:cH}:Ar (some (.agg [.int .i64 k,kv,.int .i64 n,.str s,.int .i64 p])) (.agg [.int .i64 k,kv,.int .i64 n,.str s,.int .i64 p])=true:=by
 refine rO ?_
 rcases h.is with⟨_,rfl|⟨t,ht,rfl⟩⟩|⟨b,c,t,ro,rfl,_⟩
 ·rfl
 ·cases t with
  |zero=>exact absurd rfl ht
  |succ t=>rfl
 ·rfl
theorem H7{c1 c2 d:CS}{b:Bool}{e q p:Int}(he:e≠0)(hn:d=c1.fault e q)(tL:c2.fe=e/\c2.fp=q):jz (c2.bD b 11 p) d:=by
 rw[CS.bD,if_pos (.inr (by rw[tL.1];exact he)),hn];exact⟨tL.1,tL.2,fun w=>absurd (tL.1.symm.trans w) he⟩
theorem H6{c c2 d:CS}{b:Bool}{p:Prop}[Decidable p]{q:Int}(hf:c.fe=0)(hb:b=true↔p)(hd:d=if p then c2 else c.fault 11 q)(h2:c2.fe=c.fe:=by rfl):jz (c2.bD b 11 q) d:=by
 unfold CS.bD;by_cases w:p
 ·rw[if_pos (.inl (hb.2 w)),hd,if_pos w];exact .refl
 ·rw[if_neg,hd,if_neg w]
  ·exact⟨rfl,rfl,fun w=>absurd w (by simp[CS.fault])⟩
  ·rintro(x|x)
   ·exact w (hb.1 x)
   ·exact x (h2.trans hf)
section
variable {e:CE} {o o':Nat->Part} {m m' M0:Mem} {fv vv:EV} {sb mb:Nat} {c c' c0:CS} {L L':List (cH×EV)} {P P':cH->EV} {ov kv AA AL:EV}
theorem jl{M:Mem}{b n:Nat}{ks:List Int}(h:M.get b=.cells (is ks) 1 3 false)(hn:ks.length=n):fY M (.slice b 0 n (some n))=some (.fz 0 1 (ints ks)):=by
 have:=fo (els:=ints ks) (e:=1) (cap:=some ks.length) (ty:=3) (ro:=false) (m:=M) (b:=b) (by rw[<- sf];exact h) (jJ _) (fJ _) (by unfold ints;simp[oW]);rw[aF,hn]at this;exact this
theorem CG(s:Shape e)(h:Ck e o m fv vv sb mb c L P ov kv)(hf:c.fe=0)(hD:1<=c.X.D)(hV:c.X.V.length<1000000)(hK:c.X.K.length<1000000){i:Nat}{y:Nv}(hx:e.xs[i]?=some y){rb:Nat}{ks:List Int}(py:ks=kk c.K (cu y.d))(gr:m.get rb=.cells (is ks) 1 3 false)(lr:rb<m.next)(wr:¬e.W rb)(IH:y.d.kind=12->1<=ks.length)(hk8:ks.length<=8){X:Option Fin}(hX:run U u9 [.ptr e.cb 0,.int .i64 (i:Int),.agg [.int .i64 y.d.kind,y.kv,.int .i64 y.d.n,.str y.d.s,.int .i64 y.d.pos],.slice rb 0 ks.length (some ks.length)] m=X) :
  ∃m' o' c' L' P' AA AL,X=some (.ret (.tuple []) m')/\Ck e o' m' fv vv sb mb c' L' P' AA AL/\EW e o m o' m'/\jz c' (fH e.l i c)/\bY 1 c c':=by
 rw[cf (by simp[aQ])]at hX;have hd:=h.d hx;have hi:i<e.xs.length:=(mu.1 hx).1;obtain⟨kd,qC⟩:∃kd,y.d.kind=kd:=⟨_,rfl⟩
 rw[qC]at hX;have e0:nb m.next 0=m.next:=rfl;have s1:bO e m (ext m [.cells [.int .i64 kd,y.kv,.int .i64 y.d.n,.str y.d.s,.int .i64 y.d.pos] 5 59 false]):=.bJ (by rw[ak];exact aq) fun b hb=>ai hb
 have h1:=h.same s1.n fun b hb=>ai (xs:=[bX.cells [.int .i64 kd,y.kv,.int .i64 y.d.n,.str y.d.s,.int .i64 y.d.pos] 5 59 false]) hb
 have p1:(ext m [.cells [.int .i64 kd,y.kv,.int .i64 y.d.n,.str y.d.s,.int .i64 y.d.pos] 5 59 false]).get m.next=.cells [.int .i64 kd,y.kv,.int .i64 y.d.n,.str y.d.s,.int .i64 y.d.pos] 5 59 false:=aw (m:=m) (i:=0) rfl (by simp);have l1:m.next<(ext m [.cells [.int .i64 kd,y.kv,.int .i64 y.d.n,.str y.d.s,.int .i64 y.d.pos] 5 59 false]).next:=by rw[ak];unfold nb;simp
 have Kd:(ext m [.cells [.int .i64 kd,y.kv,.int .i64 y.d.n,.str y.d.s,.int .i64 y.d.pos] 5 59 false]).get rb=.cells (is ks) 1 3 false:=(ai lr).trans gr;have Fb:rb<(ext m [.cells [.int .i64 kd,y.kv,.int .i64 y.d.n,.str y.d.s,.int .i64 y.d.pos] 5 59 false]).next:=cQ lr s1.n;obtain⟨M,hM⟩:∃M,ext m [.cells [.int .i64 kd,y.kv,.int .i64 y.d.n,.str y.d.s,.int .i64 y.d.pos] 5 59 false]=M:=⟨_,rfl⟩
 rw[hM]at s1 h1 p1 l1 Kd Fb;have we:M.next=nb m.next 1:=by rw[<- hM,ak];rfl
 have bT:=fun k n p (s:cH)=>Cs (h.nd.k y (List.mem_of_getElem? hx)) (k:=k) (n:=n) (p:=p) (s:=s)
 have hg:=h1.g;have hb:=h1.lt _ (.inl rfl);unfold j0 CE.lv at hg;by_cases w15:kd=15
 ·subst w15;simp only[aQ,Nat.mul_one,ao,simprocAttr]at hX;rw[hM,show ({next:=nb m.next 7,ja:=(ext {next:=nb m.next 1+2,ja:=(bump M 6).ja} [bX.cells [.int .i64 2] 1 3 false]).ja}:Mem)=ve M 6 2 (.cells [.int .i64 2] 1 3 false)by unfold ve;rw[we,lV]]at hX;obtain⟨D,hD⟩:∃D,ve M 6 2 (.cells [.int .i64 2] 1 3 false)=D:=⟨_,rfl⟩
  have fc:∀b,b<M.next->D.get b=M.get b:=fun b hb=>by rw[<- hD];exact lI hb
  have mR:D.get (nb m.next 1+2)=.cells [.int .i64 2] 1 3 false:=by rw[<- hD,<- we];exact lJ
  have dn:M.next<=D.next:=by rw[<- hD,jL];exact aq
  rw[hD]at hX;have hz:=jl ((fc rb Fb).trans Kd) rfl;have uC:fY D (.slice (nb m.next 1+2) 0 1 (some 1))=some (.fz 0 1 [[.int .i64 2]]):=jl (ks:=[2]) mR rfl;obtain⟨bb,sj,oG⟩:=qu (ks=[2]);have oJ:bA B K dx [.fz 1 1 (ints ks),.fz 2 1 [[.int .i64 2]]]=some (.bool bb):=by
   rw[<- sj];exact ma (nl:=false) (nl':=false) (B':=[2]) (by omega)
  have pD:=(fc _ l1).trans p1;have lD:=cQ l1 dn;have Ff:Ck e o D fv vv sb mb c L P ov kv:=h1.same dn fc;simp only[hz,uC,oJ,pD,lD,e0,bT,show nb (nb m.next 1+2) 0=nb m.next 1+2 from rfl,ao,simprocAttr]at hX;generalize hC:run (UT B Ev.K) 38 _ _=C at hX;obtain⟨M3,r,rfl,h3,s3⟩:=dq (b:=bb) Ff (by decide) hC;clear hC;simp only[bT,ao,simprocAttr]at hX;have oS:c.bD bb 11 y.d.pos=fH e.l i c:=by
   unfold fH;simp only[hd,qC,Int.reduceEq,or_self,or_true,true_or,if_false,if_true,<- py];exact uv oG hf
  rw[oS]at h3;exact⟨_,o,_,L,P,ov,kv,hX.symm,h3,((s1.trans (.bJ dn fc)).trans s3).s,.refl,pX⟩
 by_cases w16:kd=16
 ·subst w16;simp only[aQ,Nat.mul_one,ao,simprocAttr]at hX;rw[hM,show ({next:=nb m.next 7,ja:=(ext {next:=nb m.next 1+2,ja:=(bump M 6).ja} [bX.cells [.int .i64 2] 1 3 false]).ja}:Mem)=ve M 6 2 (.cells [.int .i64 2] 1 3 false)by unfold ve;rw[we,lV]]at hX;obtain⟨D,hD⟩:∃D,ve M 6 2 (.cells [.int .i64 2] 1 3 false)=D:=⟨_,rfl⟩
  have fc:∀b,b<M.next->D.get b=M.get b:=fun b hb=>by rw[<- hD];exact lI hb
  have mR:D.get (nb m.next 1+2)=.cells [.int .i64 2] 1 3 false:=by rw[<- hD,<- we];exact lJ
  have dn:M.next<=D.next:=by rw[<- hD,jL];exact aq
  rw[hD]at hX;have hz:=jl ((fc rb Fb).trans Kd) rfl;have uC:fY D (.slice (nb m.next 1+2) 0 1 (some 1))=some (.fz 0 1 [[.int .i64 2]]):=jl (ks:=[2]) mR rfl;obtain⟨bb,sj,oG⟩:=qu (ks=[2]);have oJ:bA B K dx [.fz 1 1 (ints ks),.fz 2 1 [[.int .i64 2]]]=some (.bool bb):=by
   rw[<- sj];exact ma (nl:=false) (nl':=false) (B':=[2]) (by omega)
  have pD:=(fc _ l1).trans p1;have lD:=cQ l1 dn;have Ff:Ck e o D fv vv sb mb c L P ov kv:=h1.same dn fc;simp only[hz,uC,oJ,pD,lD,e0,bT,show nb (nb m.next 1+2) 0=nb m.next 1+2 from rfl,ao,simprocAttr]at hX;generalize hC:run (UT B Ev.K) 38 _ _=C at hX;obtain⟨M3,r,rfl,h3,s3⟩:=dq (b:=bb) Ff (by decide) hC;clear hC;simp only[bT,ao,simprocAttr]at hX;have oS:c.bD bb 11 y.d.pos=fH e.l i c:=by
   unfold fH;simp only[hd,qC,Int.reduceEq,or_self,or_true,true_or,if_false,if_true,<- py];exact uv oG hf
  rw[oS]at h3;exact⟨_,o,_,L,P,ov,kv,hX.symm,h3,((s1.trans (.bJ dn fc)).trans s3).s,.refl,pX⟩
 by_cases w17:kd=17
 ·subst w17;have vZ:eQ (eA 2 [.int .i64 0]) [(0,1,.int .i64 1),(1,1,.int .i64 1)]=some [.int .i64 1,.int .i64 1]:=by kernel_rfl
  simp only[aQ,iE,oO,vZ,Nat.mul_one,ao,simprocAttr]at hX;rw[hM,show ({next:=nb m.next 7,ja:=(ext {next:=nb m.next 1+2,ja:=(bump M 6).ja} [bX.cells [.int .i64 1,.int .i64 1] 1 3 false]).ja}:Mem)=ve M 6 2 (.cells [.int .i64 1,.int .i64 1] 1 3 false)by unfold ve;rw[we,lV]]at hX;obtain⟨D,hD⟩:∃D,ve M 6 2 (.cells [.int .i64 1,.int .i64 1] 1 3 false)=D:=⟨_,rfl⟩
  have fc:∀b,b<M.next->D.get b=M.get b:=fun b hb=>by rw[<- hD];exact lI hb
  have mR:D.get (nb m.next 1+2)=.cells [.int .i64 1,.int .i64 1] 1 3 false:=by rw[<- hD,<- we];exact lJ
  have dn:M.next<=D.next:=by rw[<- hD,jL];exact aq
  rw[hD]at hX;have hz:=jl ((fc rb Fb).trans Kd) rfl;have uC:fY D (.slice (nb m.next 1+2) 0 2 (some 2))=some (.fz 0 1 [[.int .i64 1],[.int .i64 1]]):=jl (ks:=[1,1]) mR rfl;obtain⟨bb,sj,oG⟩:=qu (ks=[1,1]);have oJ:bA B K dx [.fz 1 1 (ints ks),.fz 2 1 [[.int .i64 1],[.int .i64 1]]]=some (.bool bb):=by
   rw[<- sj];exact ma (nl:=false) (nl':=false) (B':=[1,1]) (by omega)
  have pD:=(fc _ l1).trans p1;have lD:=cQ l1 dn;have Ff:Ck e o D fv vv sb mb c L P ov kv:=h1.same dn fc;simp only[hz,uC,oJ,pD,lD,e0,bT,show nb (nb m.next 1+2) 0=nb m.next 1+2 from rfl,ao,simprocAttr]at hX;generalize hC:run (UT B Ev.K) 38 _ _=C at hX;obtain⟨M3,r,rfl,h3,s3⟩:=dq (b:=bb) Ff (by decide) hC;clear hC;simp only[bT,ao,simprocAttr]at hX;have oS:c.bD bb 11 y.d.pos=fH e.l i c:=by
   unfold fH;simp only[hd,qC,Int.reduceEq,or_self,or_true,true_or,if_false,if_true,<- py];exact uv oG hf
  rw[oS]at h3;exact⟨_,o,_,L,P,ov,kv,hX.symm,h3,((s1.trans (.bJ dn fc)).trans s3).s,.refl,pX⟩
 by_cases w21:kd=21
 ·subst w21;simp only[aQ,Nat.mul_one,ao,simprocAttr]at hX;rw[hM,show ({next:=nb m.next 7,ja:=(ext {next:=nb m.next 1+2,ja:=(bump M 6).ja} [bX.cells [.int .i64 1] 1 3 false]).ja}:Mem)=ve M 6 2 (.cells [.int .i64 1] 1 3 false)by unfold ve;rw[we,lV]]at hX;obtain⟨D,hD⟩:∃D,ve M 6 2 (.cells [.int .i64 1] 1 3 false)=D:=⟨_,rfl⟩
  have fc:∀b,b<M.next->D.get b=M.get b:=fun b hb=>by rw[<- hD];exact lI hb
  have mR:D.get (nb m.next 1+2)=.cells [.int .i64 1] 1 3 false:=by rw[<- hD,<- we];exact lJ
  have dn:M.next<=D.next:=by rw[<- hD,jL];exact aq
  rw[hD]at hX;have hz:=jl ((fc rb Fb).trans Kd) rfl;have uC:fY D (.slice (nb m.next 1+2) 0 1 (some 1))=some (.fz 0 1 [[.int .i64 1]]):=jl (ks:=[1]) mR rfl;obtain⟨bb,sj,oG⟩:=qu (ks=[1]);have oJ:bA B K dx [.fz 1 1 (ints ks),.fz 2 1 [[.int .i64 1]]]=some (.bool bb):=by
   rw[<- sj];exact ma (nl:=false) (nl':=false) (B':=[1]) (by omega)
  have pD:=(fc _ l1).trans p1;have lD:=cQ l1 dn;have Ff:Ck e o D fv vv sb mb c L P ov kv:=h1.same dn fc;simp only[hz,uC,oJ,pD,lD,e0,bT,show nb (nb m.next 1+2) 0=nb m.next 1+2 from rfl,ao,simprocAttr]at hX;generalize hC:run (UT B Ev.K) 38 _ _=C at hX;obtain⟨M3,r,rfl,h3,s3⟩:=dq (b:=bb) Ff (by decide) hC;clear hC;simp only[bT,ao,simprocAttr]at hX;have oS:c.bD bb 11 y.d.pos=fH e.l i c:=by
   unfold fH;simp only[hd,qC,Int.reduceEq,or_self,or_true,true_or,if_false,if_true,<- py];exact uv oG hf
  rw[oS]at h3;exact⟨_,o,_,L,P,ov,kv,hX.symm,h3,((s1.trans (.bJ dn fc)).trans s3).s,.refl,pX⟩
 by_cases w20:kd=20
 ·subst w20;simp only[aQ,hg,hb,hM,p1,l1,e0,Nat.mul_one,ao,simprocAttr]at hX;rw[show ({next:=nb M.next 10,ja:=(ext {next:=M.next+6,ja:=(bump M 10).ja} [bX.cells [.int .i64 c.R] 1 3 false]).ja}:Mem)=ve M 10 6 (.cells [.int .i64 c.R] 1 3 false)from rfl]at hX;rw[we]at hX
  -- rw[hM,show ({next:=nb m.next 11,ja:=(ext {next:=nb m.next 1+6,ja:=(bump M 10).ja} [bX.cells [.int .i64 c.R] 1 3 false]).ja}:Mem)=ve M 10 6 (.cells [.int .i64 c.R] 1 3 false)by unfold ve;rw[we,lV]]at hX
  obtain⟨D,hD⟩:∃D,ve M 10 6 (.cells [.int .i64 c.R] 1 3 false)=D:=⟨_,rfl⟩
  have fc:∀b,b<M.next->D.get b=M.get b:=fun b hb=>by rw[<- hD];exact lI hb
  have mR:D.get (nb m.next 1+6)=.cells [.int .i64 c.R] 1 3 false:=by rw[<- hD,<- we];exact lJ
  have dn:M.next<=D.next:=by rw[<- hD,jL];exact aq
  rw[hD]at hX;have hz:=jl ((fc rb Fb).trans Kd) rfl;have uC:fY D (.slice (nb m.next 1+6) 0 1 (some 1))=some (.fz 0 1 [[.int .i64 c.R]]):=jl (ks:=[c.R]) mR rfl;obtain⟨bb,sj,oG⟩:=qu (ks=[c.R]);have oJ:bA B K dx [.fz 1 1 (ints ks),.fz 2 1 [[.int .i64 c.R]]]=some (.bool bb):=by
   rw[<- sj];exact ma (nl:=false) (nl':=false) (B':=[c.R]) (by omega)
  have pD:=(fc _ l1).trans p1;have lD:=cQ l1 dn;have Ff:Ck e o D fv vv sb mb c L P ov kv:=h1.same dn fc;simp only[hz,uC,oJ,pD,lD,e0,bT,show nb (nb m.next 1+6) 0=nb m.next 1+6 from rfl,ao,simprocAttr]at hX;generalize hC:run (UT B Ev.K) 38 _ _=C at hX;obtain⟨M3,r,rfl,h3,s3⟩:=dq (b:=bb) Ff (by decide) hC;clear hC;simp only[bT,ao,simprocAttr]at hX;have oS:c.bD bb 11 y.d.pos=fH e.l i c:=by
   unfold fH;simp only[hd,qC,Int.reduceEq,or_self,or_true,true_or,if_false,if_true,<- py];exact uv oG hf
  rw[oS]at h3;exact⟨_,o,_,L,P,ov,kv,hX.symm,h3,((s1.trans (.bJ dn fc)).trans s3).s,.refl,pX⟩
 by_cases w18:kd=18\/kd=19
 ·have oS:c.ph (0<c.L) 12 y.d.pos=fH e.l i c:=by
   unfold fH;rcases w18 with rfl|rfl<;>simp only[hd,qC,Int.reduceEq,or_self,or_true,true_or,if_false,if_true]
  by_cases hL:0<c.L
  ·have BU:c.bD true 12 y.d.pos=fH e.l i c:=(uv (by simp[hL]) hf).trans oS;rcases w18 with rfl|rfl
   all_goals
    simp only[aQ,hg,hb,hM,p1,l1,e0,hL,bT,Nat.mul_one,ao,simprocAttr]at hX;generalize hC:run (UT B Ev.K) 38 _ _=C at hX;obtain⟨M3,r,rfl,h3,s3⟩:=dq (b:=true) (h1.bump 8) (by decide) hC;clear hC;simp only[bT,ao,simprocAttr]at hX;rw[BU]at h3;exact⟨_,o,_,L,P,ov,kv,hX.symm,h3,((s1.trans bO.bump).trans s3).s,.refl,pX⟩
  ·have BU:c.bD false 12 y.d.pos=fH e.l i c:=(uv (by simp[hL]) hf).trans oS;rcases w18 with rfl|rfl
   all_goals
    simp only[aQ,hg,hb,hM,p1,l1,e0,hL,bT,Nat.mul_one,ao,simprocAttr]at hX;generalize hC:run (UT B Ev.K) 38 _ _=C at hX;obtain⟨M3,r,rfl,h3,s3⟩:=dq (b:=false) (h1.bump 8) (by decide) hC;clear hC;simp only[bT,ao,simprocAttr]at hX;rw[BU]at h3;exact⟨_,o,_,L,P,ov,kv,hX.symm,h3,((s1.trans bO.bump).trans s3).s,.refl,pX⟩
 by_cases w12:kd=12
 ·subst w12;obtain⟨k0,kr,LK⟩:∃k0 kr,ks=k0::kr:=by
   cases ks with
   |nil=>have:=IH qC;simp at this
   |cons a b=>exact⟨a,b,rfl⟩
  have ahx:=ap (n:=ks.length) (i:=0) (k:=.i64) (by rw[LK];simp);have hg0:(is ks)[0]?=some (.int .i64 k0):=by rw[LK];rfl
  simp only[aQ,hM,p1,l1,e0,Kd,Fb,ahx,show idx ks.length (.int .i64 0)=some 0 from ahx,hg0,Nat.mul_one,ao,simprocAttr]at hX;generalize hC:run (UT B Ev.K) 40 _ _=C at hX;obtain⟨M3,o',c3,L',P',AA,AL,rfl,h3,s3,BZ,My⟩:=Ed h1 hf hD hV hK hi hC;clear hC;simp only[ao,simprocAttr]at hX;have oS:eK e.l i k0 c=fH e.l i c:=by
   unfold fH;simp only[hd,qC,Int.reduceEq,or_self,or_true,true_or,if_false,if_true,<- py];rw[LK];rfl
  rw[oS]at BZ;exact⟨_,o',_,L',P',AA,AL,hX.symm,h3,s1.s.trans s3,BZ,My⟩
 by_cases w13:kd=13
 ·subst w13;simp only[aQ,hM,p1,l1,e0,Kd,Fb,Nat.mul_one,ao,simprocAttr]at hX;generalize hC:run (UT B Ev.K) 100 _ _=C at hX;rcases List.eq_nil_or_concat (pd y.d.s c.X.V)with hl|⟨l,v,hl⟩
  ·obtain⟨M2,k,rfl,h2,s2⟩:=Eg h1 hf hD hx hl hC;clear hC;have p2:=(s2.k m.next l1 fun w=>by have:=h.lt _ w;omega).trans p1;have l2:m.next<M2.next:=cQ l1 s2.n;have gr2:=(s2.k rb Fb wr).trans Kd;have EP:=cQ Fb s2.n;simp only[p2,l2,Nat.mul_one,ao,simprocAttr]at hX;rw[show ({next:=nb M2.next 7,ja:=(ext {next:=M2.next+3,ja:=(bump M2 7).ja} [bX.cells [.int .i64 k] 1 3 false]).ja}:Mem)=ve M2 7 3 (.cells [.int .i64 k] 1 3 false)from rfl]at hX;obtain⟨D,HR⟩:∃D,ve M2 7 3 (.cells [.int .i64 k] 1 3 false)=D:=⟨_,rfl⟩
   have fc:∀b,b<M2.next->D.get b=M2.get b:=fun b hb=>by rw[<- HR];exact lI hb
   have mR:D.get (M2.next+3)=.cells [.int .i64 k] 1 3 false:=by rw[<- HR];exact lJ
   have dn:M2.next<=D.next:=by rw[<- HR,jL];exact aq
   rw[HR]at hX;have hz:=jl ((fc rb EP).trans gr2) rfl;have uC:fY D (.slice (M2.next+3) 0 1 (some 1))=some (.fz 0 1 [[.int .i64 k]]):=jl (ks:=[k]) mR rfl;obtain⟨bb,sj,oG⟩:=qu (ks=[k]);have oJ:bA B K dx [.fz 1 1 (ints ks),.fz 2 1 [[.int .i64 k]]]=some (.bool bb):=by
    rw[<- sj];exact ma (nl:=false) (nl':=false) (B':=[k]) (by omega)
   have pD:=(fc _ l2).trans p2;have lD:=cQ l2 dn;have Ff:Ck e o D fv vv sb mb (c.fault 9 y.d.pos) L P ov kv:=h2.same dn fc;simp only[hz,uC,oJ,pD,lD,e0,bT,show nb (M2.next+3) 0=M2.next+3 from rfl,ao,simprocAttr]at hX;generalize hC:run (UT B Ev.K) 38 _ _=C at hX;obtain⟨M3,r,rfl,h3,s3⟩:=dq (b:=bb) Ff (by decide) hC;clear hC;simp only[bT,ao,simprocAttr]at hX;exact⟨_,o,_,L,P,ov,kv,hX.symm,h3,(((s1.trans s2).trans (.bJ dn fc)).trans s3).s,(H7 (c1:=c) (e:=9) (q:=y.d.pos) (by decide) (by unfold fH pP;simp only[hd,qC,if_true,if_false,Int.reduceEq,hl,List.getLast?_nil]) ⟨rfl,rfl⟩),(rj.trans dU).s.iY (nZ _)⟩
  ·rw[List.concat_eq_append]at hl;obtain⟨M2,rfl,h2,s2⟩:=A7 h1 hf hD hx hl (by have:(pd y.d.s c.X.V).length<=c.X.V.length:=List.length_filter_le _ _;rw[hl,w6]at this;simp only[List.length_cons,List.length_nil]at this;omega) hC;clear hC;have p2:=(s2.k m.next l1 fun w=>by have:=h.lt _ w;omega).trans p1;have l2:m.next<M2.next:=cQ l1 s2.n;have gr2:=(s2.k rb Fb wr).trans Kd;have EP:=cQ Fb s2.n;simp only[p2,l2,Nat.mul_one,ao,simprocAttr]at hX;rw[show ({next:=nb M2.next 7,ja:=(ext {next:=M2.next+3,ja:=(bump M2 7).ja} [bX.cells [.int .i64 v.kind] 1 3 false]).ja}:Mem)=ve M2 7 3 (.cells [.int .i64 v.kind] 1 3 false)from rfl]at hX;obtain⟨D,HR⟩:∃D,ve M2 7 3 (.cells [.int .i64 v.kind] 1 3 false)=D:=⟨_,rfl⟩
   have fc:∀b,b<M2.next->D.get b=M2.get b:=fun b hb=>by rw[<- HR];exact lI hb
   have mR:D.get (M2.next+3)=.cells [.int .i64 v.kind] 1 3 false:=by rw[<- HR];exact lJ
   have dn:M2.next<=D.next:=by rw[<- HR,jL];exact aq
   rw[HR]at hX;have hz:=jl ((fc rb EP).trans gr2) rfl;have uC:fY D (.slice (M2.next+3) 0 1 (some 1))=some (.fz 0 1 [[.int .i64 v.kind]]):=jl (ks:=[v.kind]) mR rfl;obtain⟨bb,sj,oG⟩:=qu (ks=[v.kind]);have oJ:bA B K dx [.fz 1 1 (ints ks),.fz 2 1 [[.int .i64 v.kind]]]=some (.bool bb):=by
    rw[<- sj];exact ma (nl:=false) (nl':=false) (B':=[v.kind]) (by omega)
   have pD:=(fc _ l2).trans p2;have lD:=cQ l2 dn;have Ff:Ck e o D fv vv sb mb ({c with S:=c.S.set i v.slot}:CS) L P ov kv:=h2.same dn fc;simp only[hz,uC,oJ,pD,lD,e0,bT,show nb (M2.next+3) 0=M2.next+3 from rfl,ao,simprocAttr]at hX;generalize hC:run (UT B Ev.K) 38 _ _=C at hX;obtain⟨M3,r,rfl,h3,s3⟩:=dq (b:=bb) Ff (by decide) hC;clear hC;simp only[bT,ao,simprocAttr]at hX;exact⟨_,o,_,L,P,ov,kv,hX.symm,h3,(((s1.trans s2).trans (.bJ dn fc)).trans s3).s,(H6 (p:=ks=[v.kind]) hf oG (by unfold fH pP;simp only[hd,qC,if_true,if_false,Int.reduceEq,hl,List.getLast?_concat,<- py])),(wK.trans dU).s.iY (nZ _)⟩
 by_cases w14:kd=14
 ·subst w14;simp only[aQ,hM,p1,l1,e0,Kd,Fb,Nat.mul_one,ao,simprocAttr]at hX;generalize hC:run (UT B Ev.K) 100 _ _=C at hX;rcases List.eq_nil_or_concat (pd y.d.s c.X.V)with hl|⟨l,v,hl⟩
  ·obtain⟨M2,k,rfl,h2,s2⟩:=Eg h1 hf hD hx hl hC;clear hC;by_cases sU:k=3
   ·subst sU;have p2:=(s2.k m.next l1 fun w=>by have:=h.lt _ w;omega).trans p1;have l2:m.next<M2.next:=cQ l1 s2.n;have gr2:=(s2.k rb Fb wr).trans Kd;have EP:=cQ Fb s2.n;have vZ:eQ (eA 2 [.int .i64 0]) [(0,1,.int .i64 1),(1,1,.int .i64 1)]=some [.int .i64 1,.int .i64 1]:=by kernel_rfl
    simp only[iE,oO,vZ,p2,l2,Nat.mul_one,ao,simprocAttr]at hX;rw[show ({next:=nb M2.next 10,ja:=(ext {next:=M2.next+5,ja:=(bump M2 10).ja} [bX.cells [.int .i64 1,.int .i64 1] 1 3 false]).ja}:Mem)=ve M2 10 5 (.cells [.int .i64 1,.int .i64 1] 1 3 false)from rfl]at hX;obtain⟨D,HR⟩:∃D,ve M2 10 5 (.cells [.int .i64 1,.int .i64 1] 1 3 false)=D:=⟨_,rfl⟩
    have fc:∀b,b<M2.next->D.get b=M2.get b:=fun b hb=>by rw[<- HR];exact lI hb
    have mR:D.get (M2.next+5)=.cells [.int .i64 1,.int .i64 1] 1 3 false:=by rw[<- HR];exact lJ
    have dn:M2.next<=D.next:=by rw[<- HR,jL];exact aq
    rw[HR]at hX;have hz:=jl ((fc rb EP).trans gr2) rfl;have uC:fY D (.slice (M2.next+5) 0 2 (some 2))=some (.fz 0 1 [[.int .i64 1],[.int .i64 1]]):=jl (ks:=[1,1]) mR rfl;obtain⟨bb,sj,oG⟩:=qu (ks=[1,1]);have oJ:bA B K dx [.fz 1 1 (ints ks),.fz 2 1 [[.int .i64 1],[.int .i64 1]]]=some (.bool bb):=by
     rw[<- sj];exact ma (nl:=false) (nl':=false) (B':=[1,1]) (by omega)
    have pD:=(fc _ l2).trans p2;have lD:=cQ l2 dn;have Ff:Ck e o D fv vv sb mb (c.fault 9 y.d.pos) L P ov kv:=h2.same dn fc;simp only[hz,uC,oJ,pD,lD,e0,bT,show nb (M2.next+5) 0=M2.next+5 from rfl,ao,simprocAttr]at hX;generalize hC:run (UT B Ev.K) 38 _ _=C at hX;obtain⟨M3,r,rfl,h3,s3⟩:=dq (b:=bb) Ff (by decide) hC;clear hC;simp only[bT,ao,simprocAttr]at hX;exact⟨_,o,_,L,P,ov,kv,hX.symm,h3,(((s1.trans s2).trans (.bJ dn fc)).trans s3).s,(H7 (c1:=c) (e:=9) (q:=y.d.pos) (by decide) (by unfold fH pP;simp only[hd,qC,if_true,if_false,Int.reduceEq,hl,List.getLast?_nil]) ⟨rfl,rfl⟩),(rj.trans dU).s.iY (nZ _)⟩
   ·have p2:=(s2.k m.next l1 fun w=>by have:=h.lt _ w;omega).trans p1;have l2:m.next<M2.next:=cQ l1 s2.n;simp only[p2,l2,bT,e0,sU,Nat.mul_one,ao,simprocAttr]at hX;generalize hC:run (UT B Ev.K) 38 _ _=C at hX;obtain⟨M3,r,rfl,h3,s3⟩:=dq (b:=false) (h2.bump 10) (by decide) hC;clear hC;simp only[bT,ao,simprocAttr]at hX;exact⟨_,o,_,L,P,ov,kv,hX.symm,h3,(((s1.trans s2).trans bO.bump).trans s3).s,(H7 (c1:=c) (e:=9) (q:=y.d.pos) (by decide) (by unfold fH pP;simp only[hd,qC,if_true,if_false,Int.reduceEq,hl,List.getLast?_nil]) ⟨rfl,rfl⟩),(rj.trans dU).s.iY (nZ _)⟩
  ·rw[List.concat_eq_append]at hl;obtain⟨M2,rfl,h2,s2⟩:=A7 h1 hf hD hx hl (by have:(pd y.d.s c.X.V).length<=c.X.V.length:=List.length_filter_le _ _;rw[hl,w6]at this;simp only[List.length_cons,List.length_nil]at this;omega) hC;clear hC;by_cases sU:v.kind=3
   ·have p2:=(s2.k m.next l1 fun w=>by have:=h.lt _ w;omega).trans p1;have l2:m.next<M2.next:=cQ l1 s2.n;have gr2:=(s2.k rb Fb wr).trans Kd;have EP:=cQ Fb s2.n;have vZ:eQ (eA 2 [.int .i64 0]) [(0,1,.int .i64 1),(1,1,.int .i64 1)]=some [.int .i64 1,.int .i64 1]:=by kernel_rfl
    simp only[iE,oO,vZ,p2,l2,sU,Nat.mul_one,ao,simprocAttr]at hX;rw[show ({next:=nb M2.next 10,ja:=(ext {next:=M2.next+5,ja:=(bump M2 10).ja} [bX.cells [.int .i64 1,.int .i64 1] 1 3 false]).ja}:Mem)=ve M2 10 5 (.cells [.int .i64 1,.int .i64 1] 1 3 false)from rfl]at hX;obtain⟨D,HR⟩:∃D,ve M2 10 5 (.cells [.int .i64 1,.int .i64 1] 1 3 false)=D:=⟨_,rfl⟩
    have fc:∀b,b<M2.next->D.get b=M2.get b:=fun b hb=>by rw[<- HR];exact lI hb
    have mR:D.get (M2.next+5)=.cells [.int .i64 1,.int .i64 1] 1 3 false:=by rw[<- HR];exact lJ
    have dn:M2.next<=D.next:=by rw[<- HR,jL];exact aq
    rw[HR]at hX;have hz:=jl ((fc rb EP).trans gr2) rfl;have uC:fY D (.slice (M2.next+5) 0 2 (some 2))=some (.fz 0 1 [[.int .i64 1],[.int .i64 1]]):=jl (ks:=[1,1]) mR rfl;obtain⟨bb,sj,oG⟩:=qu (ks=[1,1]);have oJ:bA B K dx [.fz 1 1 (ints ks),.fz 2 1 [[.int .i64 1],[.int .i64 1]]]=some (.bool bb):=by
     rw[<- sj];exact ma (nl:=false) (nl':=false) (B':=[1,1]) (by omega)
    have pD:=(fc _ l2).trans p2;have lD:=cQ l2 dn;have Ff:Ck e o D fv vv sb mb ({c with S:=c.S.set i v.slot}:CS) L P ov kv:=h2.same dn fc;simp only[hz,uC,oJ,pD,lD,e0,bT,show nb (M2.next+5) 0=M2.next+5 from rfl,ao,simprocAttr]at hX;generalize hC:run (UT B Ev.K) 38 _ _=C at hX;obtain⟨M3,r,rfl,h3,s3⟩:=dq (b:=bb) Ff (by decide) hC;clear hC;simp only[bT,ao,simprocAttr]at hX;exact⟨_,o,_,L,P,ov,kv,hX.symm,h3,(((s1.trans s2).trans (.bJ dn fc)).trans s3).s,(H6 (p:=v.kind=3/\ks=[1,1]) hf (by rw[oG];simp[sU]) (by unfold fH pP;simp only[hd,qC,if_true,if_false,Int.reduceEq,hl,List.getLast?_concat,<- py])),(wK.trans dU).s.iY (nZ _)⟩
   ·have p2:=(s2.k m.next l1 fun w=>by have:=h.lt _ w;omega).trans p1;have l2:m.next<M2.next:=cQ l1 s2.n;simp only[p2,l2,bT,e0,sU,Nat.mul_one,ao,simprocAttr]at hX;generalize hC:run (UT B Ev.K) 38 _ _=C at hX;obtain⟨M3,r,rfl,h3,s3⟩:=dq (b:=false) (h2.bump 10) (by decide) hC;clear hC;simp only[bT,ao,simprocAttr]at hX;exact⟨_,o,_,L,P,ov,kv,hX.symm,h3,(((s1.trans s2).trans bO.bump).trans s3).s,(H6 (p:=v.kind=3/\ks=[1,1]) hf (by simp[sU]) (by unfold fH pP;simp only[hd,qC,if_true,if_false,Int.reduceEq,hl,List.getLast?_concat,<- py])),(wK.trans dU).s.iY (nZ _)⟩
 have n18:¬kd=18:=fun q=>w18 (.inl q)
 have n19:¬kd=19:=fun q=>w18 (.inr q)
 simp only[aQ,hM,p1,l1,e0,w12,w13,w14,w15,w16,w17,n18,n19,w20,w21,ao,simprocAttr]at hX;have oS:fH e.l i c=c:=by
  unfold fH;simp only[hd,qC,w12,w13,w14,w15,w16,w17,n18,n19,w20,w21,or_self,if_false]
 rw[oS];exact⟨_,o,_,L,P,ov,kv,hX.symm,h1,s1.s,.refl,bY.refl.iY (nZ _)⟩
end
end
section
def Fr.GD(fr:Fr)(x:Nat×List EV):Fr:=⟨fr.tmps,x::fr.defers⟩
theorem su{fr:Fr}{x:Nat×List EV}{k:Nat}:(fr.GD x).get k=fr.get k:=rfl
theorem sr{fr:Fr}{x:Nat×List EV}{k:Nat}{v:EV}:(fr.GD x).set k v=(fr.set k v).GD x:=rfl
theorem yd{fr:Fr}{x:Nat×List EV}:(fr.GD x).defers=x::fr.defers:=rfl
theorem Vj{T:Nat->Option jm}{g:Nat}{args:List bm}{l:List bd}{fr:Fr}{m:Mem}:pK T (⟨none,.defer (.const (.func g [] [])) args,none⟩::l) fr m=pK T l (fr.GD (g,args.map fr.eval)) m:=by
 refine dT fun r=> ?_
 rw[gO];simp only[jx,bt];have:(fr.eval (.const (.func g [] [])))=.func g [] []:=rfl;simp only[this,List.nil_append,List.append_nil];exact gO.symm
theorem wO{T:Nat->Option jm}{rs:List ns}{D:List (Nat×Option Nat×aC)}{fr:Fr}{m:Mem}:UW T rs D (some (.norm fr m))=nn T rs D fr fr.defers none m:=rfl
theorem yO{T:Nat->Option jm}{rs:List ns}{D:List (Nat×Option Nat×aC)}{fr:Fr}{m:Mem}:UW T rs D (some (.ret fr m))=nn T rs D fr fr.defers none m:=rfl
theorem NA{k:Option EV->Mem->Option Fin}{v:EV}{m:Mem}{u:Option EV}:NB u k (some (.ret v m))=k u m:=rfl
theorem X6{f:Nat}{F:aC}[h:bR K f][hF:bV B f F]{args:List EV}(hn:args.length<=F.ntmps){m:Mem}:Er U F args m=run U f args m:=by
 rw[Lk hn];exact(MJ (by show UT B K f=_;unfold UT PT;rw[h.s];exact hF.has) hn).symm
theorem ac1:U cj=some (.GC aR [(63,none,aV)]):=rfl
theorem ac0{args:List EV}(hn:args.length<=aR.ntmps){m:Mem}:run U cj args m=UW U aR.results [(63,none,aV)] (exec (UT B K) aR.body (kF args 0 mP) m):=by
 rw[O8 ac1 hn];unfold mP;rw[tW]
end
section
def Lz(e:CE)(m:Mem)(fv vv:EV)(sb mb:Nat)(o:Nat->Part)(c:CS):Prop:=∃L P ov kv,Ck e o m fv vv sb mb c L P ov kv
structure qa(e:CE)(c:CS)(w q:Nat):Prop where
 D:1<=c.X.D
 d:c.X.D+c.L+(q:Int)<1000000
 ok:c.X.Ok
 vk:c.X.V.length<=c.X.K.length
 kn:c.X.K.length+w<1000000
 F:∀x∈c.F,x∈(dZ e.l (e.l.length- 1)).kids
 n:c.F.length<1000000
 l:0<=c.L
theorem qa.fit{e:CE}{c:CS}{w q:Nat}(h:qa e c w q):Fit e c:=⟨h.D,by have:=h.vk;have:=h.kn;omega,h.F,h.n⟩
theorem qa.step{e:CE}{c c':CS}{n w w' q q':Nat}(h:qa e c w q)(s:bY n c c')(hw:n+w'<=w)(hq:q'<=q):qa e c' w' q':=
 ⟨by rw[s.D];exact h.D,by rw[s.D,s.L];have:=h.d;omega,s.ok h.ok,s.vk h.vk,by have:=s.kn;have:=h.kn;omega,by rw[s.F];exact h.F,by rw[s.F];exact h.n,by rw[s.L];exact h.l⟩
def vi(e:CE)(nf:Nat)(p:Int->Prop)(g:Nat->CS->CS)(w:Nat->Nat)(f q:Nat):Prop:=∀{o:Nat->Part} {m:Mem} {fv vv:EV} {sb mb:Nat} {c:CS} {i:Nat} {X:Option Fin},Lz e m fv vv sb mb o c->c.fe=0->qa e c (w i) q->i<e.xs.length->i<f->p (dZ e.l i).kind->run U nf [.ptr e.cb 0,.int .i64 (i:Int)] m=X->∃m' o' c',X=some (.ret (.tuple []) m')/\Lz e m' fv vv sb mb o' c'/\EW e o m o' m'/\jz c' (g i c)/\bY (w i) c c'
def Ft(e:CE)(o:Nat->Part)(m:Mem)(v:EV)(xs:List Int):Prop:=(xs=[]/\(v=.aa\/(∃b o c,v=.slice b o 0 c)\/∃t,v=.fz t 1 []))\/∃b c t ro rest,v=.slice b 0 xs.length c/\m.get b=.cells (is (xs++rest)) 1 t ro/\b<m.next/\¬e.W b/\o b=.other
theorem Ft.kA{e:CE}{o:Nat->Part}{m:Mem}{v:EV}{xs:List Int}(h:Ft e o m v xs):∀M:Mem,Ev.kA v M=some (.val (.int .i64 (xs.length:Int)) M):=fun M=>by
 rcases h with⟨rfl,rfl|⟨b,o,c,rfl⟩|⟨t,rfl⟩⟩|⟨b,c,t,ro,rest,rfl,_⟩<;>rfl
theorem Ft.cU{e:CE}{o o':Nat->Part}{m m':Mem}{v:EV}{xs:List Int}(h:Ft e o m v xs)(st:EW e o m o' m'):Ft e o' m' v xs:=by
 rcases h with h|⟨b,c,t,ro,rest,e1,g,l,w,p⟩
 ·exact .inl h
 ·exact .inr ⟨b,c,t,ro,rest,e1,(st.k b l w p).trans g,cQ l st.n,w,(st.ow b l).trans p⟩
theorem yG{w:Int->Nat}{xs:List Int}{j:Nat}{y:Int}(h:xs[j]?=some y):dH ((xs.take j).map w)+w y<=dH (xs.map w):=by
 have e:xs=xs.take j++xs.drop j:=(List.take_append_drop j xs).symm;have e2:xs.drop j=y::xs.drop (j+1):=by
  obtain⟨hj,hy⟩:=mu.1 h;rw[List.drop_eq_getElem_cons hj,hy]
 have:dH (xs.map w)=dH ((xs.take j).map w)+dH ((xs.drop j).map w):=by rw[<- qT,<- List.map_append,<- e]
 rw[this,e2,List.map_cons,dH];omega
theorem tc{w:Int->Nat}{xs:List Int}{y:Int}:dH ((xs++[y]).map w)=dH (xs.map w)+w y:=by
 rw[List.map_append,qT];simp[dH]
section
variable {e:CE} {o o' o0:Nat->Part} {m m' M0:Mem} {fv vv:EV} {sb mb:Nat} {c c' c0:CS} {L L':List (cH×EV)} {P P':cH->EV} {ov kv AA AL:EV}
theorem Ck.V6(h:Ck e o m fv vv sb mb c L P ov kv){x:Nv}(hx:x∈e.xs):Ft e o m x.kv x.d.kids:=by
 rcases(h.nd.k x hx).is with⟨q1,q2|⟨b,o,q2⟩⟩|⟨b,c,t,ro,q1,q2,q3,_⟩
 ·exact .inl ⟨q1,.inl q2⟩
 ·exact .inl ⟨q1,.inr (.inr ⟨b,q2⟩)⟩
 ·cases hl:x.d.kids with
  |nil=>exact .inl ⟨rfl,.inr (.inl ⟨b,0,c,by rw[q1,hl];rfl⟩)⟩
  |cons y ys=>
   rw[hl]at q1 q2;have:=h.nd.kf x hx b ys.length c q1;exact .inr ⟨b,c,t,ro,[],q1,by rw[List.append_nil];exact q2,q3,this.1,this.2⟩
theorem Lz.same(h:Lz e m fv vv sb mb o c)(hn:m.next<=m'.next)(hk:∀b,b<m.next->m'.get b=m.get b):Lz e m' fv vv sb mb o c:=by
 obtain⟨L,P,ov,kv,h⟩:=h;exact⟨L,P,ov,kv,h.same hn hk⟩
theorem Lz.bump(h:Lz e m fv vv sb mb o c)(k:Nat):Lz e (Ev.bump m k) fv vv sb mb o c:=h.same aq fun _ _=>rfl
theorem X7{p:Int->Prop}{g:Nat->CS->CS}{w:Nat->Nat}{f q:Nat}(go:vi e cj p g w f q){xs:List Int}(sR:∀x∈xs,0<=x/\x.toNat<e.xs.length/\x.toNat<f/\p (ee e.l x).kind)(hl:xs.length<1000000)(hF:qa e c0 (dH (xs.map fun x=>w x.toNat)) q){v:EV}(hv:Ft e o0 M0 v xs)(h0:Lz e M0 fv vv sb mb o0 c0){fr:Fr}
  (f0:fr.get 0=.ptr e.cb 0) (f18:fr.get 18=v) (f19:fr.get 19=.int .i64 (xs.length:Int)) (f20:fr.get 20=.int .i64 0) (fd:fr.defers=[]) :
  ∃ou,exec U (.loop dl) fr M0=some ou/\∃fr' m' o' c',ou=.exit 0 fr' m'/\Lz e m' fv vv sb mb o' c'/\EW e o0 M0 o' m'/\jz c' (aO (fun x c=>g x.toNat c) xs c0)/\bY (dH (xs.map fun x=>w x.toNat)) c0 c'/\fr'.get 0=.ptr e.cb 0/\fr'.defers=[]:=by
 refine dr (σ:=Nat) (fun j fr m=>j<=xs.length/\∃o c,Lz e m fv vv sb mb o c/\EW e o0 M0 o m/\jz c (aO (fun x c=>g x.toNat c) (xs.take j) c0)/\bY (dH ((xs.take j).map fun x=>w x.toNat)) c0 c/\fr.get 0=.ptr e.cb 0/\fr.get 18=v/\fr.get 19=.int .i64 (xs.length:Int)/\fr.get 20=.int .i64 (j:Int)/\fr.defers=[]) (fun j=>xs.length- j) _ ?_ 0 fr M0 ⟨nZ _,o0,c0,h0,.refl,.refl,.refl,f0,f18,f19,f20,fd⟩
 rintro j fr m ⟨hj,o,c,h,st,eq,sm,f0,f18,f19,f20,fd⟩;generalize hX:exec U dl fr m=X;by_cases aH:j<xs.length
 ·have hc:(j:Int)<(xs.length:Int):=by omega
  have gP:=aZ (i:=j) (by omega);have hg:xs[j]?=some xs[j]:=jE aH;have e1:xs.take (j+1)=xs.take j++[xs[j]]:=List.take_succ_eq_append_getElem aH;have nV:xs[j]∈xs:=oX aH;generalize xs[j]=y at *;obtain⟨y0,yl,yf,yp⟩:=sR y nV;have hyc:((y.toNat:Nat):Int)=y:=Int.toNat_of_nonneg y0;have NG:=yG (w:=fun x=>w x.toNat) hg;rcases hv.cU st with⟨q,_⟩|⟨b,cp,t,ro,rest,rfl,gb,bl,bw,bo_⟩
  ·rw[q]at aH;cases aH
  have tM:(is (xs++rest))[j]?=some (.int .i64 y):=by rw[gp,rB aH,hg];rfl
  have eC:=ap (n:=xs.length) (i:=j) (k:=.i64) aH;obtain⟨L,P,ov,kv,TB⟩:=id h;have HQ:=mS TB;by_cases hf:c.fe=0
  ·rw[gQ hf]at HQ;simp only[dl,f0,f18,f19,f20,fd,hc,gb,bl,eC,tM,HQ,Nat.mul_one,ao,simprocAttr]at hX;generalize hC:run (UT B Ev.K) 62 _ _=C at hX;rw[<- hyc]at hC;obtain⟨m2,o2,c2,rfl,h2,Un,BF,Cl⟩:=go (h.bump 0) hf (hF.step sm NG (cR _)) yl yf yp hC;clear hC;simp only[f0,f18,f19,f20,fd,gP,ao,simprocAttr]at hX;subst hX;have uF:c=aO (fun x c=>g x.toNat c) (xs.take j) c0:=eq.2.2 hf;have oD:aO (fun x c=>g x.toNat c) (xs.take (j+1)) c0=g y.toNat c:=by rw[e1,jF,<- uF,if_pos hf]
   refine bB (j+1) (by omega) ⟨aH,o2,c2,h2,(st.trans (bO.bump).s).trans Un,by rw[oD];exact BF,by rw[e1,tc];exact sm.trans Cl,by simp[f0,f18,f19,fd,ay]⟩
  ·rw[ij hf]at HQ;simp only[dl,f0,f18,f19,f20,fd,hc,gb,bl,eC,tM,HQ,gP,Nat.mul_one,ao,simprocAttr]at hX;subst hX;have oD:aO (fun x c=>g x.toNat c) (xs.take (j+1)) c0=aO (fun x c=>g x.toNat c) (xs.take j) c0:=by rw[e1,jF,if_neg (by rw[<- eq.1];exact hf)]
   exact bB (j+1) (by omega) ⟨aH,o,c,h.bump 0,st.trans bO.bump.s,by rw[oD];exact eq,by rw[e1,tc];exact sm.iY (by omega),by simp[f0,f18,f19,fd,ay]⟩
 ·have hc:¬((j:Int)<(xs.length:Int)):=by omega
  simp only[dl,f19,f20,fd,hc,ao,simprocAttr]at hX;subst hX;have ej:xs.take j=xs:=uP (by omega);rw[ej]at eq sm;exact bK ⟨_,_,o,c,rfl,h,st,eq,sm,by simp[f0,fd,ay]⟩
end
end
end Go.Proofs.YtfbnghpabppljaaGreatDoor.Ev
